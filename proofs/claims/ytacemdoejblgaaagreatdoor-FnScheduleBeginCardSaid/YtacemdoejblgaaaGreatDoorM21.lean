/- Part M21. Conditions: each statement's. -/
import Derived.Test.YtacemdoejblgaaaGreatDoorM20
namespace Go.Proofs.YtacemdoejblgaaaGreatDoor
open List Tryz World Value
set_option maxRecDepth 100000
set_option maxHeartbeats 6400000
section
open Go.RowKit
theorem vv.lay{w1:World}{base:Nat}{d k o r:Value}{D Rw:List (List Int)}{N:List Int}{xs ys:List Value}(h1:LQ w1 base d D xs)(h3:qg w1 base o N)(h4:LX w1 base r Rw ys)(h5:Apart (o::(xs++ys)))(h6:∀g,d.ownBlock=some g->r.ownBlock≠some g) :
   vv (w1.alloc (.cells #[d,k,o,r] 29)) base w1.heap.size d k o r D N Rw xs ys:=
 have hg:=grownBy_alloc w1 (.cells #[d,k,o,r] 29) none
 ⟨Blk.new _ _ _,h1.new hg,h3.new hg,h4.new hg,h5,h6⟩
def q4y(w:World)(r:Option qj)(e:Ending)(w':World):Prop:=match r with
 |some c=>∃v,e=.returned (.tuple #[v,.nilIface])/\jw w' w.heap.size v c/\w.grownBy w' none
 |none=>∃s:ByteArray,e=.returned (.tuple #[.agg #[.slice none 0 0,.slice none 0 0,.slice none 0 0,.slice none 0 0],.iface 171 (.agg #[.string s])])/\w.grownBy w' none
theorem qjm{w wx:World}(s:ByteArray)(hg:w.grownBy wx none):q4y w none (.returned (.tuple #[.agg #[.slice none 0 0,.slice none 0 0,.slice none 0 0,.slice none 0 0],.iface 171 (.agg #[.string s])])) ((((wx.setCell ⟨w.heap.size+1,0,none⟩ (.slice none 0 0)).setCell ⟨w.heap.size+1,1,none⟩ (.slice none 0 0)).setCell ⟨w.heap.size+1,2,none⟩ (.slice none 0 0)).setCell ⟨w.heap.size+1,3,none⟩ (.slice none 0 0)):=
 ⟨_,rfl,qbd hg (qeg wx (w.heap.size+1) (.slice none 0 0) (.slice none 0 0) (.slice none 0 0) (.slice none 0 0)) (λg e=>by cases e;exact .inl (Nat.le_succ _))⟩
theorem q8o{w wx:World}{c:qj}{d k o r:Value}(hg:w.grownBy wx none)(hR:Blk wx (w.heap.size+1) 29 #[.slice none 0 0,.slice none 0 0,.slice none 0 0,.slice none 0 0])(hc:jw wx w.heap.size (.agg #[d,k,o,r]) c):q4y w (some c) (.returned (.tuple #[.agg #[d,k,o,r],.nilIface])) ((((wx.setCell ⟨w.heap.size+1,0,none⟩ d).setCell ⟨w.heap.size+1,1,none⟩ k).setCell ⟨w.heap.size+1,2,none⟩ o).setCell ⟨w.heap.size+1,3,none⟩ r):=
 have hst:=qeg wx (w.heap.size+1) d k o r
 ⟨_,rfl,hc.grown hst (qh.blk hR (by decide)) (qh.blk hR (by decide)),qbd hg hst (λg e=>by cases e;exact .inl (Nat.le_succ _))⟩
def qmc(w:World)(r:Option qj)(e:Ending)(w':World):Prop:=∃v,e=.returned (.tuple #[v,.bool r.isSome])/\jw w' w.heap.size v (r.getD qdk)/\w.grownBy w' none
theorem jw.zero(w:World)(base:Nat):jw w base (.agg #[.slice none 0 0,.slice none 0 0,.slice none 0 0,.slice none 0 0]) qdk:=
 ⟨_,_,_,_,[],[],rfl,(LX.nil w base).lq,qg.nil w base,qg.nil w base,LX.nil w base,Apart.qdE 2,λg hg=>by cases hg⟩
theorem qh2{w wx:World}{r:Option qj}{d k o q:Value}{b:Bool}(hg:w.grownBy wx none)(hR:Blk wx (w.heap.size+1) 29 #[.slice none 0 0,.slice none 0 0,.slice none 0 0,.slice none 0 0])(hb:b=r.isSome)(hc:jw wx w.heap.size (.agg #[d,k,o,q]) (r.getD qdk)):qmc w r (.returned (.tuple #[.agg #[d,k,o,q],.bool b])) ((((wx.setCell ⟨w.heap.size+1,0,none⟩ d).setCell ⟨w.heap.size+1,1,none⟩ k).setCell ⟨w.heap.size+1,2,none⟩ o).setCell ⟨w.heap.size+1,3,none⟩ q):=
 have hst:=qeg wx (w.heap.size+1) d k o q
 ⟨_,by rw[hb],hc.grown hst (qh.blk hR (by decide)) (qh.blk hR (by decide)),qbd hg hst (λg e=>by cases e;exact .inl (Nat.le_succ _))⟩
theorem jw.form{w:World}{base:Nat}{v:Value}{c:qj}(h:jw w base v c):∃A1 n1 c1 A2 n2 c2 A3 n3 c3 A4 n4 c4,v=.agg #[.slice A1 n1 c1,.slice A2 n2 c2,.slice A3 n3 c3,.slice A4 n4 c4]:=by
 obtain⟨A1,n1,c1,A2,n2,c2,A3,n3,c3,A4,n4,c4,e,-⟩:=h.cv.form;exact⟨_,_,_,_,_,_,_,_,_,_,_,_,e⟩
theorem quy(pv v:Value)(qa:List Node)(c:qj)(wk:Int)(w:World)(hp:RN w pv qa)(h:CV w v c)(hfit:∀d∈c.qb,d.length<=1048576) :
   Calls prog 89 #[pv,v,.int .i64 wk] w (q4y w (qc5 qa c wk)):=by
 obtain⟨A,n,cp,rfl,-,hn,-⟩:=hp.form';obtain⟨A1,n1,c1,A2,n2,c2,A3,n3,c3,A4,n4,c4,rfl,h1,-,-,-⟩:=h.form;have B0:=zP.start h;have hn1:=h1.len;have Hn1:=Lib.hid hn1;have qW:=Lib.hid hfit;clear hn hn1 h1 h hfit;by_cases hv:qa3 qa c=true
 . have Hv:=Lib.hid hv;by_cases hin:qbs c wk=true
   . have Hin:=Lib.hid hin;have xL:=qb1.1 hin;obtain⟨k,rfl⟩:=Int.eq_ofNat_of_zero_le xL.1;have hk:k<n1:=by have:=Hn1.out;omega
     clear hv hin xL;go_enter func89,ntmps89;go_upto_region 1 with fail;generalize ((w.alloc (.cells #[.slice A1 n1 c1,.slice A2 n2 c2,.slice A3 n3 c3,.slice A4 n4 c4] 29)).alloc (.cells #[.slice none 0 0,.slice none 0 0,.slice none 0 0,.slice none 0 0] 29))=W at B0 |-;have d0:=B0.b.d0;have d1:=B0.b.d1;have d2:=B0.b.d2;have d3:=B0.b.d3;go_wp2_with fail;refine(qbi _ _ qa c W (hp.new B0.g) B0.b.cv qW.out Hv.out).mono ?_;rintro e w1 ⟨rfl,hg1⟩;have B1:=B0.new hg1;clear B0 hg1 d0 d1 d2 d3;have d0:=B1.b.d0;have d1:=B1.b.d1;have d2:=B1.b.d2;have d3:=B1.b.d3;go_wp2_with fail;refine(qcu _ c _ w1 B1.b.cv Hin.out).mono ?_;rintro e w1' ⟨rfl,qcP⟩;have B1':=B1.new qcP;clear B1 qcP d0 d1 d2 d3;have d0:=B1'.b.d0;have d1:=B1'.b.d1;have d2:=B1'.b.d2;have d3:=B1'.b.d3;have hkD:k<c.qb.length:=by rw[<-Hn1.out];exact hk
     obtain⟨g,o,d,Bd,md,ed,rfl,hd,q0,hrd,-,-,-⟩:=B1'.b.dq.at_ hk;have hki:(k:Int)<(n1:Int):=by omega
     have Heq:=Lib.hid (qx1 Hv.out hkD hd);have Hd:=Lib.hid hd;clear hd;go_wp2_with fail;refine(qs3 _ d w1' hrd).mono ?_;cases vq:qdq d with
     |none=>
      rintro e w2 ⟨rfl,hg2⟩;have B2:=B1'.new hg2;have Hr:Hid (qc5 qa c (k:Int)=none):=by show _=_;rw[Heq.out,vq];rfl
      have y0:=B2.res.cell 0;have y1:=B2.res.cell 1;have y2:=B2.res.cell 2;have y3:=B2.res.cell 3;have f0:=B2.res.frozen 0;have f1:=B2.res.frozen 1;have f2:=B2.res.frozen 2;have f3:=B2.res.frozen 3;have hfin:=Lib.hid (λs=>qjm s B2.g);clear vq B1' B2 d0 d1 d2 d3 hg2 q0 hrd;go_wp2_with fail;refine bodyPost_ret (by simp[results,results89,go_sem,y0,y1,y2,y3];rfl) rfl ?_;rw[Hr.out];exact hfin.out _
     |some lx=>
      obtain⟨l,x⟩:=lx;rintro e w2 ⟨u,rfl,hu,hg2⟩;have H:=qbp.1 Hv.out;obtain⟨hxd,hll⟩:=q9j vq;have zY:l.length<=10:=Nat.le_trans hll (qes H d (mem_of_getElem? Hd.out));obtain⟨m,nd,rfl,hnd,yt,hmp⟩:=qmg H Hd.out hxd;have HH:=Lib.hid H;have qfX:=Lib.hid yt;have Hr:Hid (qc5 qa c (k:Int)=some (qg4 qa {c with qb:=c.qb.set k l} k (m:Int))):=by show _=_;rw[Heq.out,vq];rfl
      have hdl:Hid (∀y∈c.qb.set k l,y.length<=10):=by
       show ∀y∈_,_;intro y hy;rcases mem_or_eq_of_mem_set hy with hy|rfl
       . exact qes H y hy
       . exact zY
      have qaC:=hg2.size;have Hub:Hid (∀g,u.ownBlock=some g->w1'.heap.size<=g/\g<w2.heap.size):=hu.lt;have B2:=B1'.new hg2;obtain⟨Au,nu,cu,rfl⟩:=hu.ri.val;clear vq H hxd hll zY hnd yt hmp d0 d1 d2 d3 q0 hrd;have d0:=B2.b.d0;have d1:=B2.b.d1;have d2:=B2.b.d2;have d3:=B2.b.d3;go_wp2_with fail;refine(qj7 _ c w2 B2.b.cv ⟨by have:=HH.out.d4;omega,λl hl=>by have:=qes HH.out l hl;omega⟩ ⟨by have:=HH.out.rl;have:=qap HH.out.pv;omega,λl hl=>by have:=qvw HH.out l hl;omega⟩ (by have:=HH.out.counts;rw[this,qgo];have:=qap HH.out.pv;omega) (by have:=qfz HH.out;have:=qap HH.out.pv;omega)).mono ?_;rintro e w3 ⟨v3,rfl,⟨dv,kv,ov,rv,xs,ys,rfl,q1,q2,q3,q4,q5,q6⟩,hg3⟩;have g3:=qad hg2 hg3;have hu3:=hu.new hg3
      have hap:∀u'∈ov::(xs++ys),∀g,u'.ownBlock=some g->(slice Au nu cu).ownBlock≠some g:=λu' hu' g e e'=>by
       have h1:=Hub.out g e';rcases mem_cons.1 hu' with rfl|hu'
       . have:=q3.lt g e;omega
       . rcases mem_append.1 hu' with hu'|hu'
         . have:=q1.lts u' hu' g e;omega
         . have:=q4.lts u' hu' g e;omega
      obtain⟨gd,zN,rfl,hcd,hbd⟩:=q1.form Hn1.out.symm (by omega);obtain⟨Ar,nr,cr,rfl⟩:=q4.rl.val;obtain⟨Ak,nk,ck,rfl⟩:=q2.val;obtain⟨Ao,no,co,rfl⟩:=q3.ri.val;clear d0 d1 d2 d3 B2 hu hg3 hg2;go_upto_region 9 with fail;have hO:=vv.lay (k:=.slice Ak nk ck) (q1.lq.low qaC) (q3.lower qaC) (q4.low qaC) q5 q6;have hgX:=grownBy_alloc w3 (.cells #[.slice (some ⟨gd,0,none⟩) n1 zN,.slice Ak nk ck,.slice Ao no co,.slice Ar nr cr] 29) none;have q2':=q2.new hgX;have hu4:=hu3.new hgX;have g4:=qad g3 hgX;generalize w3.alloc (.cells #[.slice (some ⟨gd,0,none⟩) n1 zN,.slice Ak nk ck,.slice Ao no co,.slice Ar nr cr] 29)=w4 at hO hgX q2' hu4 g4 |-;generalize w3.heap.size=X at hO |-;obtain⟨⟨u0,cR,fR⟩,zK,kU,hE5,hI5,O5⟩:=hO.kY hkD hu4 hap;have x0:=hO.x.cell 0;have k5:RI _ _ _:=q2'.grown zK hI5;have g5:w1'.grownBy _ none:=qbd g4 zK (λg e=>by cases e;exact .inl kU);clear q1 q2 q3 q4 q5 q6 hgX hu3 hap;go_upto_region 10 with fail;clear cR fR x0 zK hE5 hI5 q2' hu4 g4 hO;generalize w4.setCell ⟨gd,k,none⟩ (.slice Au nu cu)=w5 at O5 k5 g5 |-;have x0:=O5.x.cell 0;have x1:=O5.x.cell 1;have x2:=O5.x.cell 2;have x3:=O5.x.cell 3;go_wp2_with fail;refine(qnf _ _ _ _ _ qa c (c.qb.set k l) k m _ _ w1'.heap.size w1' w5 (hp.new (qad B1'.g g5)) O5.dq k5 O5.dn O5.ro O5.al O5.dr g5 (Nat.le_refl _) g5.size HH.out (by rw[length_set]) (by rw[length_set];exact hkD) qfX.out hdl.out).mono ?_;rintro e w6 ⟨v6,rfl,hF6,hg6⟩;have B6:=B1'.new hg6;have qaD:=hF6.low B1'.g.size;obtain⟨B1,m1,e1,B2,m2,e2,B3,m3,e3,B4,m4,e4,rfl⟩:=qaD.form;have hfin:=Lib.hid (q8o B6.g B6.res qaD);have y0:=B6.res.cell 0;have y1:=B6.res.cell 1;have y2:=B6.res.cell 2;have y3:=B6.res.cell 3;have f0:=B6.res.frozen 0;have f1:=B6.res.frozen 1;have f2:=B6.res.frozen 2;have f3:=B6.res.frozen 3;clear x0 x1 x2 x3 O5 k5 g5 hF6 qaD hg6 B6 B1';go_wp2_with fail;refine bodyPost_ret (v:=.tuple #[.agg #[.slice B1 m1 e1,.slice B2 m2 e2,.slice B3 m3 e3,.slice B4 m4 e4],.nilIface]) (by simp[results,results89,go_sem,y0,y1,y2,y3]) rfl ?_;rw[Hr.out];exact hfin.out
   . have vA:qbs c wk=false:=by simpa using hin
     have Hin:=Lib.hid vA;have Hr:Hid (qc5 qa c wk=none):=qvy vA;clear hv hin vA;go_enter func89,ntmps89;go_upto_region 1 with fail;generalize ((w.alloc (.cells #[.slice A1 n1 c1,.slice A2 n2 c2,.slice A3 n3 c3,.slice A4 n4 c4] 29)).alloc (.cells #[.slice none 0 0,.slice none 0 0,.slice none 0 0,.slice none 0 0] 29))=W at B0 |-;have d0:=B0.b.d0;have d1:=B0.b.d1;have d2:=B0.b.d2;have d3:=B0.b.d3;go_wp2_with fail;refine(qbi _ _ qa c W (hp.new B0.g) B0.b.cv qW.out Hv.out).mono ?_;rintro e w1 ⟨rfl,hg1⟩;have B1:=B0.new hg1;clear B0 hg1 d0 d1 d2 d3;have d0:=B1.b.d0;have d1:=B1.b.d1;have d2:=B1.b.d2;have d3:=B1.b.d3;go_wp2_with fail;refine(qcu _ c _ w1 B1.b.cv Hin.out).mono ?_;rintro e w1' ⟨rfl,qcP⟩;have B2:=B1.new qcP;clear B1 qcP d0 d1 d2 d3;have y0:=B2.res.cell 0;have y1:=B2.res.cell 1;have y2:=B2.res.cell 2;have y3:=B2.res.cell 3;have f0:=B2.res.frozen 0;have f1:=B2.res.frozen 1;have f2:=B2.res.frozen 2;have f3:=B2.res.frozen 3;have hfin:=Lib.hid (λs=>qjm s B2.g);clear B2;go_wp2_with fail;refine bodyPost_ret (by simp[results,results89,go_sem,y0,y1,y2,y3];rfl) rfl ?_;rw[Hr.out];exact hfin.out _
 . have hv':qa3 qa c=false:=by simpa using hv
   have Hv:=Lib.hid hv';have Hr:Hid (qc5 qa c wk=none):=qvx hv';clear hv hv';go_enter func89,ntmps89;go_upto_region 1 with fail;generalize ((w.alloc (.cells #[.slice A1 n1 c1,.slice A2 n2 c2,.slice A3 n3 c3,.slice A4 n4 c4] 29)).alloc (.cells #[.slice none 0 0,.slice none 0 0,.slice none 0 0,.slice none 0 0] 29))=W at B0 |-;have d0:=B0.b.d0;have d1:=B0.b.d1;have d2:=B0.b.d2;have d3:=B0.b.d3;go_wp2_with fail;refine(qbi _ _ qa c W (hp.new B0.g) B0.b.cv qW.out Hv.out).mono ?_;rintro e w1 ⟨rfl,hg1⟩;have B2:=B0.new hg1;clear B0 hg1 d0 d1 d2 d3;have y0:=B2.res.cell 0;have y1:=B2.res.cell 1;have y2:=B2.res.cell 2;have y3:=B2.res.cell 3;have f0:=B2.res.frozen 0;have f1:=B2.res.frozen 1;have f2:=B2.res.frozen 2;have f3:=B2.res.frozen 3;have hfin:=Lib.hid (λs=>qjm s B2.g);clear B2;go_wp2_with fail;refine bodyPost_ret (by simp[results,results89,go_sem,y0,y1,y2,y3];rfl) rfl ?_;rw[Hr.out];exact hfin.out _
theorem quz(pv v:Value)(qa:List Node)(c:qj)(wk:Int)(a:Addr)(w:World)(hE:qm w a)(hp:RN w pv qa)(h:CV w v c)(hfit:∀d∈c.qb,d.length<=1048576) :
   Calls prog 52 #[pv,v,.int .i64 wk] w (qmc w (qc5 qa c wk)):=by
 obtain⟨A,n,cp,rfl,-,hn,-⟩:=hp.form';obtain⟨A1,n1,c1,A2,n2,c2,A3,n3,c3,A4,n4,c4,rfl,h1,-,-,-⟩:=h.form;have B0:=zP.start h;have qW:=Lib.hid hfit;obtain⟨R,hR⟩:∃R,R=qc5 qa c wk:=⟨_,rfl⟩;rw[<-hR];have HR:=Lib.hid hR;clear hn h1 h hfit hR;go_enter func52,ntmps52;go_upto_region 1 with fail;generalize ((w.alloc (.cells #[.slice A1 n1 c1,.slice A2 n2 c2,.slice A3 n3 c3,.slice A4 n4 c4] 29)).alloc (.cells #[.slice none 0 0,.slice none 0 0,.slice none 0 0,.slice none 0 0] 29))=W at B0 |-;have d0:=B0.b.d0;have d1:=B0.b.d1;have d2:=B0.b.d2;have d3:=B0.b.d3;go_wp2_with fail;refine(quy _ _ qa c wk W (hp.new B0.g) B0.b.cv qW.out).mono ?_;rw[<-HR.out];clear HR;cases R with
 |none=>
  rintro e w1 ⟨s,rfl,hg1⟩;have hgX:=grownBy_alloc w1 (.cells #[.slice none 0 0,.slice none 0 0,.slice none 0 0,.slice none 0 0] 29) none;have B2:=(B0.new hg1).new hgX;clear B0 hg1 hgX d0 d1 d2 d3;go_upto_region 2 with fail;generalize w1.alloc (.cells #[.slice none 0 0,.slice none 0 0,.slice none 0 0,.slice none 0 0] 29)=w2 at B2 |-;have hE2:=hE.new B2.g;have e0:w2.cell? ⟨0,0,none⟩=some (.iface 244 (.pointer (some a))):=hE2;go_wp2_with fail;refine(q0q s a w2 hE2).mono ?_;rintro e w3 ⟨rfl,hg3⟩;have B3:=B2.new hg3;have y0:=B3.res.cell 0;have y1:=B3.res.cell 1;have y2:=B3.res.cell 2;have y3:=B3.res.cell 3;have f0:=B3.res.frozen 0;have f1:=B3.res.frozen 1;have f2:=B3.res.frozen 2;have f3:=B3.res.frozen 3;have hfin:=Lib.hid (qh2 (r:=none) B3.g B3.res rfl (jw.zero w3 w.heap.size));clear B2 B3 hE2 e0 hg3;go_wp2_with fail;refine bodyPost_ret (v:=.tuple #[.agg #[.slice none 0 0,.slice none 0 0,.slice none 0 0,.slice none 0 0],.bool false]) (by simp[results,results52,go_sem,y0,y1,y2,y3]) rfl ?_;exact hfin.out
 |some c'=>
  rintro e w1 ⟨v1,rfl,hF1,hg1⟩;obtain⟨C1,m1,e1,C2,m2,e2,C3,m3,e3,C4,m4,e4,rfl⟩:=hF1.form;have hgX:=grownBy_alloc w1 (.cells #[.slice C1 m1 e1,.slice C2 m2 e2,.slice C3 m3 e3,.slice C4 m4 e4] 29) none;have hX:=Blk.new w1 29 #[.slice C1 m1 e1,.slice C2 m2 e2,.slice C3 m3 e3,.slice C4 m4 e4];have B2:=(B0.new hg1).new hgX;have hF2:=(hF1.new hgX).low B0.g.size;clear B0 hg1 hgX hF1 d0 d1 d2 d3;go_upto_region 2 with fail;generalize w1.alloc (.cells #[.slice C1 m1 e1,.slice C2 m2 e2,.slice C3 m3 e3,.slice C4 m4 e4] 29)=w2 at B2 hF2 hX |-;generalize w1.heap.size=X at hX |-;have e0:w2.cell? ⟨0,0,none⟩=some (.iface 244 (.pointer (some a))):=hE.new B2.g;go_wp2_with fail;refine(q0p a w2).mono ?_;rintro e w3 ⟨rfl,rfl⟩;have x0:=hX.cell 0;have x1:=hX.cell 1;have x2:=hX.cell 2;have x3:=hX.cell 3;have y0:=B2.res.cell 0;have y1:=B2.res.cell 1;have y2:=B2.res.cell 2;have y3:=B2.res.cell 3;have f0:=B2.res.frozen 0;have f1:=B2.res.frozen 1;have f2:=B2.res.frozen 2;have f3:=B2.res.frozen 3;have hfin:=Lib.hid (qh2 (r:=some c') B2.g B2.res rfl hF2);clear B2 e0 hF2 hX;go_wp2_with fail;refine bodyPost_ret (v:=.tuple #[.agg #[.slice C1 m1 e1,.slice C2 m2 e2,.slice C3 m3 e3,.slice C4 m4 e4],.bool true]) (by simp[results,results52,go_sem,y0,y1,y2,y3]) rfl ?_;exact hfin.out
theorem qrh(pv v:Value)(qa:List Node)(c:qj)(wk fz:Int)(w:World)(hp:RN w pv qa)(h:CV w v c)(hfit:∀d∈c.qb,d.length<=1048576) :
   Calls prog 91 #[pv,v,.int .i64 wk,.int .i64 fz] w (q4y w (qba qa c wk fz)):=by
 obtain⟨A,n,cp,rfl,-,hn,-⟩:=hp.form';obtain⟨A1,n1,c1,A2,n2,c2,A3,n3,c3,A4,n4,c4,rfl,h1,-,-,-⟩:=h.form;have B0:=zP.start h;have hn1:=h1.len;have Hn1:=Lib.hid hn1;have qW:=Lib.hid hfit;clear hn hn1 h1 h hfit;by_cases hv:qa3 qa c=true
 . have Hv:=Lib.hid hv;by_cases hin:qbs c wk=true
   . have Hin:=Lib.hid hin;by_cases xL:qbs c fz=true
     . have qaT:=Lib.hid xL;have qiP:=qb1.1 hin;replace xL:=qb1.1 xL;obtain⟨k,rfl⟩:=Int.eq_ofNat_of_zero_le qiP.1;obtain⟨fk,rfl⟩:=Int.eq_ofNat_of_zero_le xL.1;have hk:k<n1:=by have:=Hn1.out;omega
       have hf:fk<n1:=by have:=Hn1.out;omega
       clear hv hin qiP xL;by_cases hkf:k=fk
       . subst hkf;have Hr:Hid (qba qa c (k:Int) (k:Int)=none):=qnq;go_enter func91,ntmps91;go_upto_region 1 with fail;generalize ((w.alloc (.cells #[.slice A1 n1 c1,.slice A2 n2 c2,.slice A3 n3 c3,.slice A4 n4 c4] 29)).alloc (.cells #[.slice none 0 0,.slice none 0 0,.slice none 0 0,.slice none 0 0] 29))=W at B0 |-;have d0:=B0.b.d0;have d1:=B0.b.d1;have d2:=B0.b.d2;have d3:=B0.b.d3;go_wp2_with fail;refine(qbi _ _ qa c W (hp.new B0.g) B0.b.cv qW.out Hv.out).mono ?_;rintro e w1 ⟨rfl,hg1⟩;have B1:=B0.new hg1;clear B0 hg1 d0 d1 d2 d3;have d0:=B1.b.d0;have d1:=B1.b.d1;have d2:=B1.b.d2;have d3:=B1.b.d3;go_wp2_with fail;refine(qcu _ c _ w1 B1.b.cv Hin.out).mono ?_;rintro e w2 ⟨rfl,hg2⟩;have B2:=B1.new hg2;clear B1 hg2 d0 d1 d2 d3;have d0:=B2.b.d0;have d1:=B2.b.d1;have d2:=B2.b.d2;have d3:=B2.b.d3;go_wp2_with fail;refine(qcu _ c _ w2 B2.b.cv qaT.out).mono ?_;rintro e w3 ⟨rfl,hg3⟩;have B3:=B2.new hg3;clear B2 hg3 d0 d1 d2 d3;have y0:=B3.res.cell 0;have y1:=B3.res.cell 1;have y2:=B3.res.cell 2;have y3:=B3.res.cell 3;have f0:=B3.res.frozen 0;have f1:=B3.res.frozen 1;have f2:=B3.res.frozen 2;have f3:=B3.res.frozen 3;have hfin:=Lib.hid (λs=>qjm s B3.g);clear B3;go_wp2_with fail;refine bodyPost_ret (by simp[results,results91,go_sem,y0,y1,y2,y3];rfl) rfl ?_;rw[Hr.out];exact hfin.out _
       . have qtY:¬((k:Int)=(fk:Int)):=by omega
         have hkD:k<c.qb.length:=by rw[<-Hn1.out];exact hk
         have hfD:fk<c.qb.length:=by rw[<-Hn1.out];exact hf
         have hki:(k:Int)<(n1:Int):=by omega
         have hfi:(fk:Int)<(n1:Int):=by omega
         go_enter func91,ntmps91;go_upto_region 1 with fail;generalize ((w.alloc (.cells #[.slice A1 n1 c1,.slice A2 n2 c2,.slice A3 n3 c3,.slice A4 n4 c4] 29)).alloc (.cells #[.slice none 0 0,.slice none 0 0,.slice none 0 0,.slice none 0 0] 29))=W at B0 |-;have d0:=B0.b.d0;have d1:=B0.b.d1;have d2:=B0.b.d2;have d3:=B0.b.d3;go_wp2_with fail;refine(qbi _ _ qa c W (hp.new B0.g) B0.b.cv qW.out Hv.out).mono ?_;rintro e w1 ⟨rfl,hg1⟩;have B1:=B0.new hg1;clear B0 hg1 d0 d1 d2 d3;have d0:=B1.b.d0;have d1:=B1.b.d1;have d2:=B1.b.d2;have d3:=B1.b.d3;go_wp2_with fail;refine(qcu _ c _ w1 B1.b.cv Hin.out).mono ?_;rintro e w2 ⟨rfl,hg2⟩;have B2:=B1.new hg2;clear B1 hg2 d0 d1 d2 d3;have d0:=B2.b.d0;have d1:=B2.b.d1;have d2:=B2.b.d2;have d3:=B2.b.d3;go_wp2_with fail;refine(qcu _ c _ w2 B2.b.cv qaT.out).mono ?_;rintro e w3 ⟨rfl,hg3⟩;have B3:=B2.new hg3;clear B2 hg3 d0 d1 d2 d3;have d0:=B3.b.d0;have d1:=B3.b.d1;have d2:=B3.b.d2;have d3:=B3.b.d3;obtain⟨g,o,dk,Bk,mk,ek,rfl,hdk,q0,hrk,hmk,-,-⟩:=B3.b.dq.at_ hk;obtain⟨g',o',d,Bd,md,ed,eA,hd,p0,hrd,-,-,-⟩:=B3.b.dq.at_ hf;injection eA with eA;injection eA with eg eo;subst eg eo;by_cases hm0:mk=0
         . have qpL:dk=[]:=eq_nil_of_length_eq_zero (by omega);subst hm0 qpL;have Heq:=Lib.hid (qsr Hv.out hkD hfD hkf hdk hd);have Hd:=Lib.hid hd;clear hd hdk hrk hmk;go_wp2_with fail;refine(qo9 _ d w3 hrd).mono ?_;cases vq:qb3 d with
           |none=>
            rintro e w2 ⟨rfl,hg2⟩;have B2:=B3.new hg2;have Hr:Hid (qba qa c (k:Int) (fk:Int)=none):=by show _=_;rw[Heq.out,vq];rfl
            have y0:=B2.res.cell 0;have y1:=B2.res.cell 1;have y2:=B2.res.cell 2;have y3:=B2.res.cell 3;have f0:=B2.res.frozen 0;have f1:=B2.res.frozen 1;have f2:=B2.res.frozen 2;have f3:=B2.res.frozen 3;have hfin:=Lib.hid (λs=>qjm s B2.g);clear vq B3 B2 d0 d1 d2 d3 hg2 q0 hrd;go_wp2_with fail;refine bodyPost_ret (by simp[results,results91,go_sem,y0,y1,y2,y3];rfl) rfl ?_;rw[Hr.out];exact hfin.out _
           |some lx=>
            obtain⟨l,x⟩:=lx;rintro e w2 ⟨u,rfl,hu,hg2⟩;have H:=qbp.1 Hv.out;obtain⟨hxd,hll⟩:=q1p vq;have zY:l.length<=10:=Nat.le_trans hll (qes H d (mem_of_getElem? Hd.out));obtain⟨m,nd,rfl,hnd,yt,hmp⟩:=qmg H Hd.out hxd;have HH:=Lib.hid H;have qfX:=Lib.hid yt;have Hr:Hid (qba qa c (k:Int) (fk:Int)=some (qg4 qa {c with qb:=c.qb.set fk l} k (m:Int))):=by show _=_;rw[Heq.out,vq];rfl
            have hdl:Hid (∀y∈c.qb.set fk l,y.length<=10):=by
             show ∀y∈_,_;intro y hy;rcases mem_or_eq_of_mem_set hy with hy|rfl
             . exact qes H y hy
             . exact zY
            have qaC:=hg2.size;have Hub:Hid (∀g,u.ownBlock=some g->w3.heap.size<=g/\g<w2.heap.size):=hu.lt;have B2:=B3.new hg2;obtain⟨Au,nu,cu,rfl⟩:=hu.ri.val;clear vq H hxd hll zY hnd yt hmp d0 d1 d2 d3 q0 hrd;have d0:=B2.b.d0;have d1:=B2.b.d1;have d2:=B2.b.d2;have d3:=B2.b.d3;go_wp2_with fail;refine(qj7 _ c w2 B2.b.cv ⟨by have:=HH.out.d4;omega,λl hl=>by have:=qes HH.out l hl;omega⟩ ⟨by have:=HH.out.rl;have:=qap HH.out.pv;omega,λl hl=>by have:=qvw HH.out l hl;omega⟩ (by have:=HH.out.counts;rw[this,qgo];have:=qap HH.out.pv;omega) (by have:=qfz HH.out;have:=qap HH.out.pv;omega)).mono ?_;rintro e v3w ⟨v3,rfl,⟨dv,kv,ov,rv,xs,ys,rfl,q1,q2,q3,q4,q5,q6⟩,hg3⟩;have g3:=qad hg2 hg3;have hu3:=hu.new hg3
            have hap:∀u'∈ov::(xs++ys),∀g,u'.ownBlock=some g->(slice Au nu cu).ownBlock≠some g:=λu' hu' g e e'=>by
             have h1:=Hub.out g e';rcases mem_cons.1 hu' with rfl|hu'
             . have:=q3.lt g e;omega
             . rcases mem_append.1 hu' with hu'|hu'
               . have:=q1.lts u' hu' g e;omega
               . have:=q4.lts u' hu' g e;omega
            obtain⟨gd,zN,rfl,hcd,hbd⟩:=q1.form Hn1.out.symm (by omega);obtain⟨Ar,nr,cr,rfl⟩:=q4.rl.val;obtain⟨Ak,nk,ck,rfl⟩:=q2.val;obtain⟨Ao,no,co,rfl⟩:=q3.ri.val;clear d0 d1 d2 d3 B2 hu hg3 hg2;go_upto_region 13 with fail;have hO:=vv.lay (k:=.slice Ak nk ck) (q1.lq.low qaC) (q3.lower qaC) (q4.low qaC) q5 q6;have hgX:=grownBy_alloc v3w (.cells #[.slice (some ⟨gd,0,none⟩) n1 zN,.slice Ak nk ck,.slice Ao no co,.slice Ar nr cr] 29) none;have q2':=q2.new hgX;have hu4:=hu3.new hgX;have g4:=qad g3 hgX;generalize v3w.alloc (.cells #[.slice (some ⟨gd,0,none⟩) n1 zN,.slice Ak nk ck,.slice Ao no co,.slice Ar nr cr] 29)=w4 at hO hgX q2' hu4 g4 |-;generalize v3w.heap.size=X at hO |-;obtain⟨⟨u0,cR,fR⟩,zK,kU,hE5,hI5,O5⟩:=hO.kY hfD hu4 hap;have x0:=hO.x.cell 0;have k5:RI _ _ _:=q2'.grown zK hI5;have g5:w3.grownBy _ none:=qbd g4 zK (λg e=>by cases e;exact .inl kU);clear q1 q2 q3 q4 q5 q6 hgX hu3 hap;go_upto_region 14 with fail;clear cR fR x0 zK hE5 hI5 q2' hu4 g4 hO;generalize w4.setCell ⟨gd,fk,none⟩ (.slice Au nu cu)=w5 at O5 k5 g5 |-;have x0:=O5.x.cell 0;have x1:=O5.x.cell 1;have x2:=O5.x.cell 2;have x3:=O5.x.cell 3;go_wp2_with fail;refine(qnf _ _ _ _ _ qa c (c.qb.set fk l) k m _ _ w3.heap.size w3 w5 (hp.new (qad B3.g g5)) O5.dq k5 O5.dn O5.ro O5.al O5.dr g5 (Nat.le_refl _) g5.size HH.out (by rw[length_set]) (by rw[length_set];exact hkD) qfX.out hdl.out).mono ?_;rintro e w6 ⟨v6,rfl,hF6,hg6⟩;have B6:=B3.new hg6;have qaD:=hF6.low B3.g.size;obtain⟨C1,m1,e1,C2,m2,e2,C3,m3,e3,C4,m4,e4,rfl⟩:=qaD.form;have hfin:=Lib.hid (q8o B6.g B6.res qaD);have y0:=B6.res.cell 0;have y1:=B6.res.cell 1;have y2:=B6.res.cell 2;have y3:=B6.res.cell 3;have f0:=B6.res.frozen 0;have f1:=B6.res.frozen 1;have f2:=B6.res.frozen 2;have f3:=B6.res.frozen 3;clear x0 x1 x2 x3 O5 k5 g5 hF6 qaD hg6 B6 B3;go_wp2_with fail;refine bodyPost_ret (v:=.tuple #[.agg #[.slice C1 m1 e1,.slice C2 m2 e2,.slice C3 m3 e3,.slice C4 m4 e4],.nilIface]) (by simp[results,results91,go_sem,y0,y1,y2,y3]) rfl ?_;rw[Hr.out];exact hfin.out
         . have Hr:Hid (qba qa c (k:Int) (fk:Int)=none):=qnr hdk (by intro e;rw[e]at hmk;exact hm0 hmk);have qtZ:¬((mk:Int)=0):=by omega
           clear hd hdk hrk hrd hmk p0;have y0:=B3.res.cell 0;have y1:=B3.res.cell 1;have y2:=B3.res.cell 2;have y3:=B3.res.cell 3;have f0:=B3.res.frozen 0;have f1:=B3.res.frozen 1;have f2:=B3.res.frozen 2;have f3:=B3.res.frozen 3;have hfin:=Lib.hid (λs=>qjm s B3.g);clear B3;go_wp2_with fail;refine bodyPost_ret (by simp[results,results91,go_sem,y0,y1,y2,y3];rfl) rfl ?_;rw[Hr.out];exact hfin.out _
     . have qaE:qbs c fz=false:=by simpa using xL
       have qaT:=Lib.hid qaE;have Hr:Hid (qba qa c wk fz=none):=qnp qaE;clear hv hin xL qaE;go_enter func91,ntmps91;go_upto_region 1 with fail;generalize ((w.alloc (.cells #[.slice A1 n1 c1,.slice A2 n2 c2,.slice A3 n3 c3,.slice A4 n4 c4] 29)).alloc (.cells #[.slice none 0 0,.slice none 0 0,.slice none 0 0,.slice none 0 0] 29))=W at B0 |-;have d0:=B0.b.d0;have d1:=B0.b.d1;have d2:=B0.b.d2;have d3:=B0.b.d3;go_wp2_with fail;refine(qbi _ _ qa c W (hp.new B0.g) B0.b.cv qW.out Hv.out).mono ?_;rintro e w1 ⟨rfl,hg1⟩;have B1:=B0.new hg1;clear B0 hg1 d0 d1 d2 d3;have d0:=B1.b.d0;have d1:=B1.b.d1;have d2:=B1.b.d2;have d3:=B1.b.d3;go_wp2_with fail;refine(qcu _ c _ w1 B1.b.cv Hin.out).mono ?_;rintro e w2 ⟨rfl,hg2⟩;have B2:=B1.new hg2;clear B1 hg2 d0 d1 d2 d3;have d0:=B2.b.d0;have d1:=B2.b.d1;have d2:=B2.b.d2;have d3:=B2.b.d3;go_wp2_with fail;refine(qcu _ c _ w2 B2.b.cv qaT.out).mono ?_;rintro e w3 ⟨rfl,hg3⟩;have B3:=B2.new hg3;clear B2 hg3 d0 d1 d2 d3;have y0:=B3.res.cell 0;have y1:=B3.res.cell 1;have y2:=B3.res.cell 2;have y3:=B3.res.cell 3;have f0:=B3.res.frozen 0;have f1:=B3.res.frozen 1;have f2:=B3.res.frozen 2;have f3:=B3.res.frozen 3;have hfin:=Lib.hid (λs=>qjm s B3.g);clear B3;go_wp2_with fail;refine bodyPost_ret (by simp[results,results91,go_sem,y0,y1,y2,y3];rfl) rfl ?_;rw[Hr.out];exact hfin.out _
   . have vA:qbs c wk=false:=by simpa using hin
     have Hin:=Lib.hid vA;have Hr:Hid (qba qa c wk fz=none):=qqj vA;clear hv hin vA;go_enter func91,ntmps91;go_upto_region 1 with fail;generalize ((w.alloc (.cells #[.slice A1 n1 c1,.slice A2 n2 c2,.slice A3 n3 c3,.slice A4 n4 c4] 29)).alloc (.cells #[.slice none 0 0,.slice none 0 0,.slice none 0 0,.slice none 0 0] 29))=W at B0 |-;have d0:=B0.b.d0;have d1:=B0.b.d1;have d2:=B0.b.d2;have d3:=B0.b.d3;go_wp2_with fail;refine(qbi _ _ qa c W (hp.new B0.g) B0.b.cv qW.out Hv.out).mono ?_;rintro e w1 ⟨rfl,hg1⟩;have B1:=B0.new hg1;clear B0 hg1 d0 d1 d2 d3;have d0:=B1.b.d0;have d1:=B1.b.d1;have d2:=B1.b.d2;have d3:=B1.b.d3;go_wp2_with fail;refine(qcu _ c _ w1 B1.b.cv Hin.out).mono ?_;rintro e w2 ⟨rfl,hg2⟩;have B2:=B1.new hg2;clear B1 hg2 d0 d1 d2 d3;have y0:=B2.res.cell 0;have y1:=B2.res.cell 1;have y2:=B2.res.cell 2;have y3:=B2.res.cell 3;have f0:=B2.res.frozen 0;have f1:=B2.res.frozen 1;have f2:=B2.res.frozen 2;have f3:=B2.res.frozen 3;have hfin:=Lib.hid (λs=>qjm s B2.g);clear B2;go_wp2_with fail;refine bodyPost_ret (by simp[results,results91,go_sem,y0,y1,y2,y3];rfl) rfl ?_;rw[Hr.out];exact hfin.out _
 . have hv':qa3 qa c=false:=by simpa using hv
   have Hv:=Lib.hid hv';have Hr:Hid (qba qa c wk fz=none):=qqi hv';clear hv hv';go_enter func91,ntmps91;go_upto_region 1 with fail;generalize ((w.alloc (.cells #[.slice A1 n1 c1,.slice A2 n2 c2,.slice A3 n3 c3,.slice A4 n4 c4] 29)).alloc (.cells #[.slice none 0 0,.slice none 0 0,.slice none 0 0,.slice none 0 0] 29))=W at B0 |-;have d0:=B0.b.d0;have d1:=B0.b.d1;have d2:=B0.b.d2;have d3:=B0.b.d3;go_wp2_with fail;refine(qbi _ _ qa c W (hp.new B0.g) B0.b.cv qW.out Hv.out).mono ?_;rintro e w1 ⟨rfl,hg1⟩;have B1:=B0.new hg1;clear B0 hg1 d0 d1 d2 d3;have y0:=B1.res.cell 0;have y1:=B1.res.cell 1;have y2:=B1.res.cell 2;have y3:=B1.res.cell 3;have f0:=B1.res.frozen 0;have f1:=B1.res.frozen 1;have f2:=B1.res.frozen 2;have f3:=B1.res.frozen 3;have hfin:=Lib.hid (λs=>qjm s B1.g);clear B1;go_wp2_with fail;refine bodyPost_ret (by simp[results,results91,go_sem,y0,y1,y2,y3];rfl) rfl ?_;rw[Hr.out];exact hfin.out _
theorem qri(pv v:Value)(qa:List Node)(c:qj)(wk fz:Int)(a:Addr)(w:World)(hE:qm w a)(hp:RN w pv qa)(h:CV w v c)(hfit:∀d∈c.qb,d.length<=1048576) :
   Calls prog 53 #[pv,v,.int .i64 wk,.int .i64 fz] w (qmc w (qba qa c wk fz)):=by
 obtain⟨A,n,cp,rfl,-,hn,-⟩:=hp.form';obtain⟨A1,n1,c1,A2,n2,c2,A3,n3,c3,A4,n4,c4,rfl,h1,-,-,-⟩:=h.form;have B0:=zP.start h;have qW:=Lib.hid hfit;obtain⟨R,hR⟩:∃R,R=qba qa c wk fz:=⟨_,rfl⟩;rw[<-hR];have HR:=Lib.hid hR;clear hn h1 h hfit hR;go_enter func53,ntmps53;go_upto_region 1 with fail;generalize ((w.alloc (.cells #[.slice A1 n1 c1,.slice A2 n2 c2,.slice A3 n3 c3,.slice A4 n4 c4] 29)).alloc (.cells #[.slice none 0 0,.slice none 0 0,.slice none 0 0,.slice none 0 0] 29))=W at B0 |-;have d0:=B0.b.d0;have d1:=B0.b.d1;have d2:=B0.b.d2;have d3:=B0.b.d3;go_wp2_with fail;refine(qrh _ _ qa c wk fz W (hp.new B0.g) B0.b.cv qW.out).mono ?_;rw[<-HR.out];clear HR;cases R with
 |none=>
  rintro e w1 ⟨s,rfl,hg1⟩;have hgX:=grownBy_alloc w1 (.cells #[.slice none 0 0,.slice none 0 0,.slice none 0 0,.slice none 0 0] 29) none;have B2:=(B0.new hg1).new hgX;clear B0 hg1 hgX d0 d1 d2 d3;go_upto_region 2 with fail;generalize w1.alloc (.cells #[.slice none 0 0,.slice none 0 0,.slice none 0 0,.slice none 0 0] 29)=w2 at B2 |-;have hE2:=hE.new B2.g;have e0:w2.cell? ⟨0,0,none⟩=some (.iface 244 (.pointer (some a))):=hE2;go_wp2_with fail;refine(q0q s a w2 hE2).mono ?_;rintro e w3 ⟨rfl,hg3⟩;have B3:=B2.new hg3;have y0:=B3.res.cell 0;have y1:=B3.res.cell 1;have y2:=B3.res.cell 2;have y3:=B3.res.cell 3;have f0:=B3.res.frozen 0;have f1:=B3.res.frozen 1;have f2:=B3.res.frozen 2;have f3:=B3.res.frozen 3;have hfin:=Lib.hid (qh2 (r:=none) B3.g B3.res rfl (jw.zero w3 w.heap.size));clear B2 B3 hE2 e0 hg3;go_wp2_with fail;refine bodyPost_ret (v:=.tuple #[.agg #[.slice none 0 0,.slice none 0 0,.slice none 0 0,.slice none 0 0],.bool false]) (by simp[results,results53,go_sem,y0,y1,y2,y3]) rfl ?_;exact hfin.out
 |some c'=>
  rintro e w1 ⟨v1,rfl,hF1,hg1⟩;obtain⟨C1,m1,e1,C2,m2,e2,C3,m3,e3,C4,m4,e4,rfl⟩:=hF1.form;have hgX:=grownBy_alloc w1 (.cells #[.slice C1 m1 e1,.slice C2 m2 e2,.slice C3 m3 e3,.slice C4 m4 e4] 29) none;have hX:=Blk.new w1 29 #[.slice C1 m1 e1,.slice C2 m2 e2,.slice C3 m3 e3,.slice C4 m4 e4];have B2:=(B0.new hg1).new hgX;have hF2:=(hF1.new hgX).low B0.g.size;clear B0 hg1 hgX hF1 d0 d1 d2 d3;go_upto_region 2 with fail;generalize w1.alloc (.cells #[.slice C1 m1 e1,.slice C2 m2 e2,.slice C3 m3 e3,.slice C4 m4 e4] 29)=w2 at B2 hF2 hX |-;generalize w1.heap.size=X at hX |-;have e0:w2.cell? ⟨0,0,none⟩=some (.iface 244 (.pointer (some a))):=hE.new B2.g;go_wp2_with fail;refine(q0p a w2).mono ?_;rintro e w3 ⟨rfl,rfl⟩;have x0:=hX.cell 0;have x1:=hX.cell 1;have x2:=hX.cell 2;have x3:=hX.cell 3;have y0:=B2.res.cell 0;have y1:=B2.res.cell 1;have y2:=B2.res.cell 2;have y3:=B2.res.cell 3;have f0:=B2.res.frozen 0;have f1:=B2.res.frozen 1;have f2:=B2.res.frozen 2;have f3:=B2.res.frozen 3;have hfin:=Lib.hid (qh2 (r:=some c') B2.g B2.res rfl hF2);clear B2 e0 hF2 hX;go_wp2_with fail;refine bodyPost_ret (v:=.tuple #[.agg #[.slice C1 m1 e1,.slice C2 m2 e2,.slice C3 m3 e3,.slice C4 m4 e4],.bool true]) (by simp[results,results53,go_sem,y0,y1,y2,y3]) rfl ?_;exact hfin.out
theorem qs4(pv v:Value)(qa:List Node)(c:qj)(wk:Int)(w:World)(hp:RN w pv qa)(h:CV w v c)(hfit:∀d∈c.qb,d.length<=1048576) :
   Calls prog 51 #[pv,v,.int .i64 wk] w λe w'=>e=.returned (.int .i64 (qcg qa c wk))/\w.grownBy w' none:=by
 obtain⟨A,n,cp,rfl,-,hn,-⟩:=hp.form';obtain⟨A1,n1,c1,A2,n2,c2,A3,n3,c3,A4,n4,c4,rfl,h1,-,-,-⟩:=h.form;have hX:=h.box;have hgW:=grownBy_alloc w (.cells #[.slice A1 n1 c1,.slice A2 n2 c2,.slice A3 n3 c3,.slice A4 n4 c4] 29) none;have hn1:=h1.len;have Hn1:=Lib.hid hn1;have qW:=Lib.hid hfit;have hpW:=hp.new hgW;clear hn hn1 h1 h hfit;by_cases hv:qa3 qa c=true
 . have Hv:=Lib.hid hv;have hn4:n1<=4:=by have:=(qbp.1 hv).d4;have:=Hn1.out;omega
   by_cases hin:qbs c wk=true
   . have Hin:=Lib.hid hin;have xL:=qb1.1 hin;obtain⟨k,rfl⟩:=Int.eq_ofNat_of_zero_le xL.1;have hk:k<n1:=by have:=Hn1.out;omega
     clear hv hin xL;go_enter func51,ntmps51;go_upto_region 1 with fail;generalize w.alloc (.cells #[.slice A1 n1 c1,.slice A2 n2 c2,.slice A3 n3 c3,.slice A4 n4 c4] 29)=W at hX hgW hpW |-;have d0:=hX.d0;have d1:=hX.d1;have d2:=hX.d2;have d3:=hX.d3;go_wp2_with fail;refine(qbi _ _ qa c _ hpW hX.cv qW.out Hv.out).mono ?_;rintro e w1 ⟨rfl,hg1⟩;have hX1:=hX.new hg1;have g1:=qad hgW hg1;clear hX hgW hpW hg1 d0 d1 d2 d3;have d0:=hX1.d0;have d1:=hX1.d1;have d2:=hX1.d2;have d3:=hX1.d3;go_wp2_with fail;refine(qcu _ c _ w1 hX1.cv Hin.out).mono ?_;rintro e w2 ⟨rfl,hg2⟩;have hX2:=hX1.new hg2;have g2:=qad g1 hg2;clear hX1 g1 hg2 d0 d1 d2 d3;have d0:=hX2.d0;go_wp2_with fail
     go_loopg [22] (n1+1) (λmm i wr=>∃q:Nat,q<=n1/\mm=n1+1-q/\i=.int .i64 q/\Hid (qx2 c k q)/\wr=w2)
     case atStart=>exact⟨0,Nat.zero_le _,rfl,rfl,λs hs=>absurd hs (Nat.not_lt_zero _),rfl⟩
     case round=>
      obtain⟨q,hq,rfl,rfl,Hq,rfl⟩:=hrel;by_cases hlt:q<n1
      . obtain⟨t,ht⟩:∃t,t=(k+q)%n1:=⟨_,rfl⟩;have htn:t<n1:=by rw[ht];exact Nat.mod_lt _ (by omega)
        have hmod:((k:Int)+(q:Int)).tmod (n1:Int)=(t:Int):=by rw[ht];rfl
        have hn0:¬((n1:Int)=0):=by omega
        obtain⟨g,o,d,B,m,e,rfl,hd,q0,hrd,hm,-,-⟩:=hX2.dq.at_ htn;have hti:(t:Int)<(n1:Int):=by omega
        have hget:c.qb.getD ((k+q)%c.qb.length) []=d:=by
         rw[<-Hn1.out,<-ht,getD_eq_getElem?_getD,hd];rfl
        by_cases hm0:m=0
        . have hd0:d=[]:=eq_nil_of_length_eq_zero (by omega);have Hs:Hid (qx2 c k (q+1)):=qv0 Hq.out (hget.trans hd0);subst hm0;clear hd hget hd0 hm ht;go_wp2;go_roundg (n1+1-(q+1))
          case measure=>omega
          case rel=>exact⟨q+1,by omega,rfl,by go_num,Hs,rfl⟩
        . have Hr:Hid (qcg qa c (k:Int)=(t:Int)):=by
           show _=_;rw[qns Hv.out (by rw[<-Hn1.out];exact hk) (by rw[<-Hn1.out];exact hlt) Hq.out (by rw[hget];intro e;rw[e]at hm;exact hm0 hm),ht,<-Hn1.out]
          have hgt:¬((m:Int)=0):=by omega
          clear hd hget hm ht;go_wp2;go_ret;exact⟨by rw[Hr.out];rfl,g2⟩
      . obtain rfl:n1=q:=by omega
        have Hr:Hid (qcg qa c (k:Int)=-1):=qqk (by have:=Hq.out;rw[Hn1.out]at this;exact this);go_wp2;go_ret;exact⟨by rw[Hr.out];rfl,g2⟩
   . have vA:qbs c wk=false:=by simpa using hin
     have Hin:=Lib.hid vA;have Hr:Hid (qcg qa c wk=-1):=qst vA;clear hv hin vA;go_enter func51,ntmps51;go_upto_region 1 with fail;generalize w.alloc (.cells #[.slice A1 n1 c1,.slice A2 n2 c2,.slice A3 n3 c3,.slice A4 n4 c4] 29)=W at hX hgW hpW |-;have d0:=hX.d0;have d1:=hX.d1;have d2:=hX.d2;have d3:=hX.d3;go_wp2_with fail;refine(qbi _ _ qa c _ hpW hX.cv qW.out Hv.out).mono ?_;rintro e w1 ⟨rfl,hg1⟩;have hX1:=hX.new hg1;have g1:=qad hgW hg1;clear hX hgW hpW hg1 d0 d1 d2 d3;have d0:=hX1.d0;have d1:=hX1.d1;have d2:=hX1.d2;have d3:=hX1.d3;go_wp2_with fail;refine(qcu _ c _ w1 hX1.cv Hin.out).mono ?_;rintro e w2 ⟨rfl,hg2⟩;go_wp2;go_ret;exact⟨by rw[Hr.out];rfl,qad g1 hg2⟩
 . have hv':qa3 qa c=false:=by simpa using hv
   have Hv:=Lib.hid hv';have Hr:Hid (qcg qa c wk=-1):=qss hv';clear hv hv';go_enter func51,ntmps51;go_upto_region 1 with fail;generalize w.alloc (.cells #[.slice A1 n1 c1,.slice A2 n2 c2,.slice A3 n3 c3,.slice A4 n4 c4] 29)=W at hX hgW hpW |-;have d0:=hX.d0;have d1:=hX.d1;have d2:=hX.d2;have d3:=hX.d3;go_wp2_with fail;refine(qbi _ _ qa c _ hpW hX.cv qW.out Hv.out).mono ?_;rintro e w1 ⟨rfl,hg1⟩;go_wp2;go_ret;exact⟨by rw[Hr.out];rfl,qad hgW hg1⟩
theorem qgz(pv v:Value)(qa:List Node)(c:qj)(wk:Int)(a:Addr)(w:World)(hE:qm w a)(hp:RN w pv qa)(h:CV w v c)(hfit:∀d∈c.qb,d.length<=1048576) :
   Calls prog 17 #[pv,v,.int .i64 wk] w (qmc w (qa0 qa c wk)):=by
 obtain⟨A,n,cp,rfl,-,hn,-⟩:=hp.form';obtain⟨A1,n1,c1,A2,n2,c2,A3,n3,c3,A4,n4,c4,rfl,-,-,-,-⟩:=h.form;have B0:=zP.start h;have qW:=Lib.hid hfit;clear hn h hfit;go_enter func17,ntmps17;go_upto_region 1 with fail;generalize ((w.alloc (.cells #[.slice A1 n1 c1,.slice A2 n2 c2,.slice A3 n3 c3,.slice A4 n4 c4] 29)).alloc (.cells #[.slice none 0 0,.slice none 0 0,.slice none 0 0,.slice none 0 0] 29))=W at B0 |-;have d0:=B0.b.d0;have d1:=B0.b.d1;have d2:=B0.b.d2;have d3:=B0.b.d3;go_wp2_with fail;refine(qs4 _ _ qa c wk W (hp.new B0.g) B0.b.cv qW.out).mono ?_;rintro e w1 ⟨rfl,hg1⟩;have B1:=B0.new hg1;clear B0 hg1 d0 d1 d2 d3;obtain⟨f,hf⟩:∃f,f=qcg qa c wk:=⟨_,rfl⟩;rw[<-hf];have Hf:=Lib.hid hf;clear hf;by_cases h1:f=-1
 . have Hr:Hid (qa0 qa c wk=none):=by show _=_;unfold qa0;rw[<-Hf.out,if_pos h1]
   have hb:(f == -1)=true:=by simpa using h1
   have y0:=B1.res.cell 0;have y1:=B1.res.cell 1;have y2:=B1.res.cell 2;have y3:=B1.res.cell 3;have f0:=B1.res.frozen 0;have f1:=B1.res.frozen 1;have f2:=B1.res.frozen 2;have f3:=B1.res.frozen 3;have hfin:=Lib.hid (qh2 (r:=none) B1.g B1.res rfl (jw.zero w1 w.heap.size));clear B1 h1;go_wp2_with fail;refine bodyPost_ret (v:=.tuple #[.agg #[.slice none 0 0,.slice none 0 0,.slice none 0 0,.slice none 0 0],.bool false]) (by simp[results,results17,go_sem,y0,y1,y2,y3]) rfl ?_;rw[Hr.out];exact hfin.out
 . have hb1:(f == -1)=false:=by simpa using h1
   have d0:=B1.b.d0;have d1:=B1.b.d1;have d2:=B1.b.d2;have d3:=B1.b.d3;by_cases h2:f=wk
   . have hb:(f==wk)=true:=by simpa using h2
     have Hr:Hid (qa0 qa c wk=qc5 qa c wk):=by show _=_;unfold qa0;rw[<-Hf.out,if_neg h1,if_pos h2]
     clear h1 h2;go_wp2_with fail;refine(quz _ _ qa c wk a w1 (hE.new B1.g) (hp.new B1.g) B1.b.cv qW.out).mono ?_;rintro e w2 ⟨v2,rfl,xm,hg2⟩;have B2:=B1.new hg2;obtain⟨B1',m1',e1',B2',m2',e2',B3',m3',e3',B4',m4',e4',rfl⟩:=xm.form;generalize hb2:(qc5 qa c wk).isSome=b2;have hfin:=Lib.hid (qh2 B2.g B2.res hb2.symm (xm.low B1.g.size));have y0:=B2.res.cell 0;have y1:=B2.res.cell 1;have y2:=B2.res.cell 2;have y3:=B2.res.cell 3;have f0:=B2.res.frozen 0;have f1:=B2.res.frozen 1;have f2:=B2.res.frozen 2;have f3:=B2.res.frozen 3;clear d0 d1 d2 d3 B1 B2 hg2 xm hb2;go_wp2_with fail;refine bodyPost_ret (v:=.tuple #[.agg #[.slice B1' m1' e1',.slice B2' m2' e2',.slice B3' m3' e3',.slice B4' m4' e4'],.bool b2]) (by simp[results,results17,go_sem,y0,y1,y2,y3]) rfl ?_;rw[Hr.out];exact hfin.out
   . have hb:(f==wk)=false:=by simpa using h2
     have Hr:Hid (qa0 qa c wk=qba qa c wk f):=by show _=_;unfold qa0;rw[<-Hf.out,if_neg h1,if_neg h2]
     clear h1 h2;go_wp2_with fail;refine(qri _ _ qa c wk f a w1 (hE.new B1.g) (hp.new B1.g) B1.b.cv qW.out).mono ?_;rintro e w2 ⟨v2,rfl,xm,hg2⟩;have B2:=B1.new hg2;obtain⟨B1',m1',e1',B2',m2',e2',B3',m3',e3',B4',m4',e4',rfl⟩:=xm.form;generalize hb2:(qba qa c wk f).isSome=b2;have hfin:=Lib.hid (qh2 B2.g B2.res hb2.symm (xm.low B1.g.size));have y0:=B2.res.cell 0;have y1:=B2.res.cell 1;have y2:=B2.res.cell 2;have y3:=B2.res.cell 3;have f0:=B2.res.frozen 0;have f1:=B2.res.frozen 1;have f2:=B2.res.frozen 2;have f3:=B2.res.frozen 3;clear d0 d1 d2 d3 B1 B2 hg2 xm hb2;go_wp2_with fail;refine bodyPost_ret (v:=.tuple #[.agg #[.slice B1' m1' e1',.slice B2' m2' e2',.slice B3' m3' e3',.slice B4' m4' e4'],.bool b2]) (by simp[results,results17,go_sem,y0,y1,y2,y3]) rfl ?_;rw[Hr.out];exact hfin.out
def qbt(l:List Int):Bool:=decide (l.length<=20)&&l.all (λx=>decide (0<=x))
theorem qng{l:List Int}(h:20<l.length):qbt l=false:=by
 unfold qbt;rw[decide_eq_false (by omega)];rfl
theorem qpb{l:List Int}{k:Nat}{x:Int}(hx:l[k]?=some x)(h:x<0):qbt l=false:=by
 unfold qbt;rw[Bool.and_eq_false_iff];right;rw[List.all_eq_false];exact⟨x,mem_of_getElem? hx,by simpa using h⟩
theorem qpc{l:List Int}(h:l.length<=20)(k:(l.take l.length).all (λx=>decide (0<=x))=true):qbt l=true:=by
 unfold qbt;rw[take_length]at k;rw[decide_eq_true h,k];rfl
theorem qpd{l:List Int}{k:Nat}{x:Int}(hx:l[k]?=some x)(h:¬x<0)(ha:(l.take k).all (λx=>decide (0<=x))=true):(l.take (k+1)).all (λx=>decide (0<=x))=true:=by
 obtain⟨hk,rfl⟩:=List.getElem?_eq_some_iff.1 hx;rw[take_succ_eq_append_getElem hk,all_append,ha];simpa using h
theorem qwz(v:Value)(l:List Int)(w:World)(h:RI w v l):Calls prog 42 #[v] w λe w'=>e=.returned (.bool (qbt l))/\w'=w:=by
 obtain⟨A,n,c,rfl,-,hn⟩:=h.form';have Hn:=Lib.hid hn;by_cases hl:20<n
 . have Hc:=Lib.hid (qng (l:=l) (by omega));clear hn;go_enter func42,ntmps42;go_wp2;go_ret;exact⟨by rw[Hc.out];rfl,rfl⟩
 . have Hl:=Lib.hid (show l.length<=20 by omega);clear hn;go_enter func42,ntmps42;go_wp2_with fail;have Hw:=Lib.hid (show w=w from rfl)
   go_loopg [10] (n+1) (λmm i wr=>∃k:Nat,k<=n/\mm=n+1-k/\i=.int .i64 k/\wr=w/\Hid ((l.take k).all (λx=>decide (0<=x))=true))
   case atStart=>exact⟨0,Nat.zero_le _,rfl,rfl,rfl,Lib.hid (by simp)⟩
   case round=>
    obtain⟨k,hk,rfl,rfl,rfl,Ha⟩:=hrel;by_cases hlt:k<n
    . obtain⟨g,o,x,rfl,hx,x0⟩:=h.at_ hlt;have Hx:=Lib.hid hx;clear hx;by_cases hneg:x<0
      . have Hc:=Lib.hid (qpb Hx.out hneg);go_wp2;go_ret;exact⟨by rw[Hc.out];rfl,rfl⟩
      . have Ha2:=Lib.hid (qpd Hx.out hneg Ha.out);go_wp2;go_roundg (n+1-(k+1))
        case measure=>omega
        case rel=>exact⟨k+1,by omega,rfl,by go_num,rfl,Ha2⟩
    . obtain rfl:n=k:=by omega
      have Hc:=Lib.hid (qpc Hl.out (by rw[<-Hn.out];exact Ha.out));go_wp2;go_ret;exact⟨by rw[Hc.out];rfl,rfl⟩
theorem qn0(v:Value)(cs:List Int)(w:World)(h:RI w v cs)(hl:cs.length<=1000000):Calls prog 66 #[v] w (qfw w (zZ cs)):=by
 obtain⟨A,n,c,rfl,hnc,hn⟩:=h.form';rw[<-hn]at hl;have Hn:=Lib.hid hn;have h0:qg w w.heap.size (.slice none 0 0) []:=qg.nil w _;clear hn;go_enter func66,ntmps66;go_wp2_with fail
 go_loopg [3,8] (n+1) (λmm out i wr=>∃k:Nat,k<=n/\mm=n+1-k/\i=.int .i64 k/\qg wr w.heap.size out (qql cs k)/\w.grownBy wr none)
 case atStart=>exact⟨0,Nat.zero_le _,rfl,rfl,h0,qah w none⟩
 case round=>
  clear h0;obtain⟨k,hk,rfl,rfl,hown,hg⟩:=hrel;have hzl:=qx3 cs k;by_cases hlt:k<n
  . obtain⟨g,o,x,rfl,hx,c0⟩:=(h.new hg).at_ hlt;have hs:=qoc hx;have hsz:=hg.size;obtain⟨A1,n1,c1,rfl⟩:=hown.ri.val;clear hx;by_cases h0:x=0
    . have hq:(x==0)=true:=by simpa using h0
      rw[if_pos h0]at hs;have Hs:=Lib.hid hs;clear hs h0;go_wp2_with (at_builtin;go_must (refine qek _ _ rfl rfl hown (by omega) hsz rfl rfl rfl ?_));intro v2 w2 zM hg2;rw[<-Hs.out]at zM;have hg3:=hown.gb hg hg2 (Nat.le_refl _);obtain⟨A2,n2,c2,rfl⟩:=zM.ri.val;go_wp2;go_roundg (n+1-(k+1))
      case measure=>omega
      case rel=>exact⟨k+1,by omega,rfl,by go_num,zM,hg3⟩
    . have hq:(x==0)=false:=by simpa using h0
      rw[if_neg h0,append_nil]at hs;rw[<-hs]at hown;clear hs h0;go_wp2;go_roundg (n+1-(k+1))
      case measure=>omega
      case rel=>exact⟨k+1,by omega,rfl,by go_num,hown,hg⟩
  . obtain rfl:n=k:=by omega
    obtain⟨A2,n2,c2,rfl⟩:=hown.ri.val;have ho2:qg wr w.heap.size (.slice A2 n2 c2) (zZ cs):=by unfold zZ;rw[<-Hn.out];exact hown
    go_wp2;go_ret;exact⟨_,rfl,ho2,hg⟩
theorem qpM(gd j base:Nat)(x:Int)(u:Value)(l:List Int)(cs:Array Value)(w:World)(hB:Blk w gd 96 cs)(hu:cs[j]?=some u)(ho:qg w base u l)(hl:l.length<=1000000)(hbw:base<=w.heap.size) :
   Calls prog 67 #[.pointer (some ⟨gd,j,none⟩),.int .i64 x] w λe w'=>e=.returned (.tuple #[])/\∃u' wm,qg wm base u' (l++[x])/\w.grownBy wm u.ownBlock /\
    (u'.ownBlock=u.ownBlock∨∃b,u'.ownBlock=some b/\w.heap.size<=b)/\w'=wm.setCell ⟨gd,j,none⟩ u':=by
 obtain⟨A,n,c,rfl⟩:=ho.ri.val;have d0:w.cell? ⟨gd,j,none⟩=some (.slice A n c):=(hB.cell j).trans hu;have f0:=hB.frozen j;clear hu;go_enter func67,ntmps67;go_wp2_with (at_builtin;go_must (refine qjv (.tmp 8) (.tmp 10) rfl rfl ho (by omega) hbw rfl rfl rfl ?_));intro v2 w2 ho2 hg2 hb2;have B2:Blk w2 gd 96 cs:=hB.past hg2 (ho.jL (by decide));obtain⟨A2,n2,c2,rfl⟩:=ho2.ri.val
 have e0:w2.cell? ⟨gd,j,none⟩=some (.slice A n c):=by
  rw[cell?_of_block (B2.trans hB.symm)];exact d0
 have e1:=B2.frozen j;have hfin:=Lib.hid (show ∃u' wm,qg wm base u' (l++[x])/\w.grownBy wm (slice A n c).ownBlock/\(u'.ownBlock=(slice A n c).ownBlock∨∃b,u'.ownBlock=some b/\w.heap.size<=b)/\w2.setCell ⟨gd,j,none⟩ (.slice A2 n2 c2)=wm.setCell ⟨gd,j,none⟩ u' from⟨_,w2,ho2,hg2,hb2,rfl⟩);clear hB ho hg2 B2 ho2 hb2 d0 f0;go_wp2_with fail
 first|exact vr (results_none rfl _ _ _) rfl ⟨rfl,hfin.out⟩|exact bodyPost_end (results_none rfl _ _ _) rfl ⟨rfl,hfin.out⟩|(go_ret;exact⟨rfl,hfin.out⟩)
theorem qpN:(Tryz.prog.info? 96).map (λi=>(i.zero,i.size,i.bytes))=some (some (.agg #[.slice none 0 0]),1,24):=by kernel_rfl
def DX(w:World)(o0 b1 gd n:Nat)(D:List (List Int))(xs:List Value):Prop:=
 w.ownsRow o0 96 1 (.slice (some ⟨gd,0,none⟩) n n) n xs/\D.length=n/\(∀(i:Nat) (l:List Int),D[i]?=some l->∃u,xs[i]?=some u/\qg w b1 u l)/\Apart xs
theorem q0r(n:Nat):(madeCells #[.slice none 0 0] n).toList=replicate n (.slice none 0 0):=by
 apply ext_getElem?;intro i;rw[getElem?_replicate];by_cases hi:i<n
 . simp[madeCells,hi,Nat.mod_one]
 . simp[madeCells,hi]
section
variable {w w':World}{o0 b1 gd n:Nat}{D:List (List Int)}{xs:List Value}
theorem DX.len(h:DX w o0 b1 gd n D xs):xs.length=n:=by have:=h.1.1;omega
theorem DX.made(h:w.ownsRow o0 96 1 (.slice (some ⟨gd,0,none⟩) n n) n (madeCells #[.slice none 0 0] n).toList):DX w o0 b1 gd n (replicate n []) (replicate n (.slice none 0 0)):=by
 rw[q0r]at h;refine⟨h,by simp,λi l hi=>?_,Apart.qdE n⟩
 obtain⟨hin,rfl⟩:i<n/\l=[]:=by
  rw[getElem?_replicate]at hi;split at hi
  . exact⟨by assumption,by injection hi with e;exact e.symm⟩
  . cases hi
 exact⟨.slice none 0 0,by simp[hin],qg.nil _ _⟩
theorem LX.qfY{v:Value}(h:w.ownsRow o0 24 1 v n (madeCells #[.slice none 0 0] n).toList):LX w o0 v (replicate n []) (replicate n (.slice none 0 0)):=by
 rw[q0r]at h;refine⟨by rw[length_replicate];exact h,λi l hi=>?_⟩
 obtain⟨hin,rfl⟩:i<n/\l=[]:=by
  rw[getElem?_replicate]at hi;split at hi
  . exact⟨by assumption,by injection hi with e;exact e.symm⟩
  . cases hi
 exact⟨.slice none 0 0,by simp[hin],qg.nil _ _⟩
theorem DX.grown{row:Option Nat}(h:DX w o0 b1 gd n D xs)(hg:w.grownBy w' row)(hr:qh w 3 row)(hr':qh w 96 row):DX w' o0 b1 gd n D xs:=
 ⟨qc4 h.1 hg hr',h.2.1,λi l hi=>let ⟨u,k1,k2⟩:=h.2.2.1 i l hi;⟨u,k1,k2.grown hg hr⟩,h.2.2.2⟩
theorem DX.new(h:DX w o0 b1 gd n D xs)(hg:w.grownBy w' none):DX w' o0 b1 gd n D xs:=h.grown hg (qh.none _ _) (qh.none _ _)
theorem DX.blk(h:DX w o0 b1 gd n D xs):∃cur,Blk w gd 96 cur/\∀i:Nat,cur[i]?=xs[i]?:=by
 rcases h.1.2 with ⟨e,_⟩|⟨g,cap,cur,e,hb,hh,hn,hm,hcs,ht⟩
 . cases e
 . injection e with e1 e2 e3;injection e1 with e1;injection e1 with e1;subst e1 e3;refine⟨cur,hh,λi=>?_⟩;have hl:cur.toList.length=n:=by rw[Array.length_toList,hcs];omega
   rw[Nat.mul_one,take_of_length_le (by omega)]at ht;rw[<-ht,Array.getElem?_toList]
theorem DX.push{wm:World}{j:Nat}{u u':Value}{l l':List Int}(h:DX w o0 b1 gd n D xs)(hl:D[j]?=some l)(hu:xs[j]?=some u)(hg:w.grownBy wm u.ownBlock)(ho:qg wm b1 u' l')(hb:u'.ownBlock=u.ownBlock∨∃b,u'.ownBlock=some b/\w.heap.size<=b) :
   DX (wm.setCell ⟨gd,j,none⟩ u') o0 b1 gd n (D.set j l') (xs.set j u'):=by
 obtain⟨h1,h2,h3,hap⟩:=h;have hk:j<D.length:=(List.getElem?_eq_some_iff.1 hl).1;have hkx:j<xs.length:=(List.getElem?_eq_some_iff.1 hu).1;have hxl:xs.length=n:=by have:=h1.1;omega
 have hI:qg w b1 u l:=by
  obtain⟨y,k1,k2⟩:=h3 j l hl;rw[hu]at k1;injection k1 with k1;subst k1;exact k2
 have qfN:∀y∈xs,∀g,y.ownBlock=some g->g<w.heap.size:=by
  intro y hy g hg;obtain⟨i,hi,rfl⟩:=getElem_of_mem hy;obtain⟨y',k1,k2⟩:=h3 i _ (getElem?_eq_getElem (by omega));rw[getElem?_eq_getElem hi]at k1;injection k1 with k1;subst k1;exact(k2.lt g hg).2
 have hNu:qh w 96 u.ownBlock:=hI.jL (by decide);have hcs:=qc4 h1 hg hNu;have hst:wm.grownBy (wm.setCell ⟨gd,j,none⟩ u') (some gd):=qbf (p:=⟨gd,j,none⟩) (qah wm (some gd)) (.inr rfl) _;have s1:=ownsRow.stored hcs j u';have hne:qh wm 3 (some gd):=qh.own (v:=.slice (some ⟨gd,0,none⟩) n n) hcs (by decide);refine⟨s1.1,by rw[length_set];exact h2,λi x hi=>?_,?_⟩
 . by_cases hik:i=j
   . subst hik;rw[getElem?_set_self hk]at hi;obtain rfl:l'=x:=by simpa using hi
     exact⟨u',by rw[getElem?_set_self hkx],ho.grown hst hne⟩
   . rw[getElem?_set_ne (λe=>hik e.symm)]at hi;obtain⟨y,k1,k2⟩:=h3 i x hi;refine⟨y,by rw[getElem?_set_ne (λe=>hik e.symm)];exact k1,?_⟩
     have hyu:y.ownBlock=none∨y.ownBlock≠u.ownBlock:=by
      cases hy:y.ownBlock with
      |none=>exact .inl rfl
      |some b=>
       right;intro e;rw[Apart.iff]at hap;rcases Nat.lt_or_gt_of_ne hik with hlt|hlt
       . exact hap i j y u b hlt k1 hu hy e.symm
       . exact hap j i u y b hlt hu k1 e.symm hy
     exact(k2.jN hg hyu).grown hst hne
 . rw[Apart.iff]at hap |-;intro i i2 a b gg hij ha hb' hga hgb
   have other:∀(i:Nat) (a:Value),i≠j->xs[i]?=some a->a.ownBlock=some gg->u'.ownBlock≠some gg:=by
    intro i a hik ha hga e;rcases hb with e2|⟨b2,e2,hge⟩
    . rw[e2]at e;rcases Nat.lt_or_gt_of_ne hik with hlt|hlt
      . exact hap i j a u gg hlt ha hu hga e
      . exact hap j i u a gg hlt hu ha e hga
    . rw[e2]at e;injection e with e;have:=qfN a (mem_of_getElem? ha) gg hga;omega
   by_cases hik:i=j
   . subst hik;rw[getElem?_set_self hkx]at ha;injection ha with ha;subst ha;rw[getElem?_set_ne (by omega)]at hb';exact other i2 b (by omega) hb' hgb hga
   . rw[getElem?_set_ne (λe=>hik e.symm)]at ha;by_cases hjk:i2=j
     . subst hjk;rw[getElem?_set_self hkx]at hb';injection hb' with hb';subst hb';exact other i a hik ha hga hgb
     . rw[getElem?_set_ne (λe=>hjk e.symm)]at hb';exact hap i i2 a b gg hij ha hb' hga hgb
end
theorem q6e{ops:Array Oper}{rest:List Oper}{o:Oper}{a:Act}{Q:Exit->Act->World->Prop}{w:World}{u:Value}
   (s x:Operand) (hgd:o.guard=none) (ho:o.op=.call {callee:=.builtin .append,args:=#[s,x],argTypes:=#[27,27]})
   {base n:Nat} {v:Value} {xs:List Value} (hown:w.ownsRow base 24 1 v n xs) (h1:u.oneCell'=true) (hn:n<=1000000000) (hbase:base<=w.heap.size)
   (hs:a.eval s=v) {N:Nat} (hx:a.eval x=.slice (some ⟨N,0,none⟩) 1 1) (hN:N=w.heap.size)
   (h:∀v' w',w'.ownsRow base 24 1 v' (n+1) (xs++[u])->w.grownBy w' v.ownBlock->wpList prog ops Q rest (a.put o.dst v') w') :
   wpList prog ops Q (o::rest) a (w.alloc (.cells #[u] 24)):=by
 subst hN
 exact qg8 s x 27 (.slice none 0 0) 1 24 underlying27 qox rfl (by decide) (by decide) hgd ho hown hn hbase rfl (λy hy=>by
  have:y=u:=by simpa using hy
  subst this;exact h1) hs hx λv' w' k1 k2 _=>h v' w' (by simpa using k1) k2
theorem qse{w:World}{base n:Nat}{E:TypeId}{v:Value}{xs:List Value}(h:w.ownsRow base E 1 v n xs):∃A c,v=.slice A n c:=by
 rcases h.2 with ⟨rfl,h0⟩|⟨g,cap,cur,rfl,_⟩
 . obtain rfl:n=0:=by omega
   exact⟨none,0,rfl⟩
 . exact⟨_,_,rfl⟩
theorem qu0{w wx:World}{r:Option qj}{d k o q:Value}{b:Bool}(hg:w.grownBy wx none)(hR:Blk wx w.heap.size 29 #[.slice none 0 0,.slice none 0 0,.slice none 0 0,.slice none 0 0])(hb:b=r.isSome)(hc:jw wx w.heap.size (.agg #[d,k,o,q]) (r.getD qdk)) :
   qmc w r (.returned (.tuple #[.agg #[d,k,o,q],.bool b])) ((((wx.setCell ⟨w.heap.size,0,none⟩ d).setCell ⟨w.heap.size,1,none⟩ k).setCell ⟨w.heap.size,2,none⟩ o).setCell ⟨w.heap.size,3,none⟩ q):=
 have hst:=qeg wx w.heap.size d k o q
 ⟨_,by rw[hb],hc.grown hst (qh.blk hR (by decide)) (qh.blk hR (by decide)),qbd hg hst (λg e=>by cases e;exact .inl (Nat.le_refl _))⟩
theorem qu1(pv:Value)(qa:List Node)(n:Int)(w:World)(hp:RN w pv qa):Calls prog 41 #[pv,.int .i64 n] w (qmc w (qbv qa n)):=by
 obtain⟨A,np,cp,rfl,-,hnp,-⟩:=hp.form';have Hnp:=Lib.hid hnp;have hR0:=Blk.new w 29 #[.slice none 0 0,.slice none 0 0,.slice none 0 0,.slice none 0 0];have hgR:=grownBy_alloc w (.cells #[.slice none 0 0,.slice none 0 0,.slice none 0 0,.slice none 0 0] 29) none;clear hnp;by_cases hv:qaf qa=true
 . have Hv:=Lib.hid hv;have qfO:np<=10:=by have:=qap hv;have:=Hnp.out;omega
   by_cases hin:1<=n/\n<=4
   . have Hin:Hid ((decide (1<=n)&&decide (n<=4))=true):=by show _=_;simp[hin.1,hin.2]
     obtain⟨n,rfl⟩:=Int.eq_ofNat_of_zero_le (show (0:Int)<=n by omega);have h1n:1<=n:=by omega
     have hn4:n<=4:=by omega
     have Hr:Hid (qbv qa (n:Int)=some {qb:=dealt qa n (qat qa []).length,counts:=qbm qa,done:=[],rows:=replicate qa.length []}):=qx5 hv h1n hn4;obtain⟨i0,hif,hz0,hz1,hz2⟩:=info_parts qpN;obtain⟨i1,qpO,hy0,hy1,hy2⟩:=info_parts qox;clear hv hin;go_enter func41,ntmps41;go_upto_region 1 with fail;generalize w.alloc (.cells #[.slice none 0 0,.slice none 0 0,.slice none 0 0,.slice none 0 0] 29)=W at hR0 hgR |-;go_wp2_with fail;refine(qb8 _ qa W (hp.new hgR) Hv.out).mono ?_;rintro e w1 ⟨rfl,hg1⟩;have g1:=qad hgR hg1;have hR1:=hR0.grown hg1 (by simp);clear hgR hR0 hg1;go_wp2_with fail;refine(qgu _ _ Hin.out).mono ?_;rintro e w1b ⟨rfl,rfl⟩;go_upto_region 4 with (at_make;go_must (refine wpList_make_full _ rfl _ _ 93 rfl w1.heap.size 96 i0 _ 1 underlying93 hif hz0 hz1 _ _ _ _ n rfl rfl rfl rfl (by rw[hz2];omega) (by unfold maxLen;omega) (Nat.le_refl _) ?_));intro w2 hown hg2;have D0:Hid (∀b1,DX w2 w1.heap.size b1 w1.heap.size n (replicate n []) (replicate n (.slice none 0 0))):=λb1=>DX.made hown;have g2:=qad g1 hg2;have hR2:=hR1.grown hg2 (by simp);have hs1:=g1.size;clear hown g1 hR1;generalize w1.heap.size=gd at D0 hs1 |-;go_wp2_with fail;refine(qj9 _ qa w2 (hp.new g2) Hv.out).mono ?_;rintro e w3 ⟨kv,rfl,hkv,hg3⟩;obtain⟨Ak,nk,ck,rfl⟩:=hkv.ri.val;have hcl:(qbm qa).length<=1000000:=by unfold qbm;rw[length_map,length_range];have:=Hnp.out;omega
     go_wp2_with fail;refine(qn0 _ (qbm qa) w3 hkv.ri hcl).mono ?_;rintro e w4 ⟨rv,rfl,hrv,hg4⟩;rw[qsu Hv.out]at hrv;have g24:=qad hg3 hg4;have g4:=qad g2 g24;have hR4:=hR2.grown g24 (by simp);have hk4:=(hkv.new hg4).low g2.size;have hkb:Hid (∀g,(slice Ak nk ck).ownBlock=some g->g<w4.heap.size):=λg hg=>(hk4.lt g hg).2;have hp4:=hp.new g4;have hr4:=hrv.ri;obtain⟨Av,nv,cv,rfl⟩:=hr4.val;have hnv:=hr4.len;have Hnv:=Lib.hid hnv;have qfP:nv<=10:=by rw[hnv];have:=qht qa [];have:=Hnp.out;omega
     have D4:DX w4 gd w4.heap.size gd n (dealt qa n 0) (replicate n (.slice none 0 0)):=by
      have e:dealt qa n 0=replicate n []:=by unfold dealt;simp
      rw[e];exact(D0.out _).new g24
     obtain⟨quA,hB4,-⟩:=D4.blk;have quB:=hB4.lt;have hint:qh w4 3 (some gd):=qh.blk hB4 (by decide);clear hp D0 hkv hg3 hrv hg4 g24 g2 hR2 hnv hg2;have hn0:¬((n:Int)=0):=by omega
     have qoI:¬(n=0):=by omega
     go_wp2_with fail
     go_loopg [29] (nv+1) (λmm i wr=>∃(k:Nat) (xs:List Value),k<=nv/\mm=nv+1-k/\i=.int .i64 k/\DX wr gd w4.heap.size gd n (dealt qa n k) xs/\w4.grownBy wr (some gd))
     case atStart=>exact⟨0,_,Nat.zero_le _,rfl,rfl,D4,qah _ _⟩
     case round=>
      clear D4;obtain⟨k,xs,hk,rfl,rfl,M,hg⟩:=hrel;by_cases hlt:k<nv
      . obtain⟨g,o,x,rfl,hx,c0⟩:=(hr4.grown hg hint).at_ hlt;obtain⟨j,hj⟩:∃j,j=k%n:=⟨_,rfl⟩;have hjn:j<n:=by rw[hj];exact Nat.mod_lt _ (by omega)
        have hmod:(k:Int).tmod (n:Int)=(j:Int):=by rw[hj];rfl
        have hkr:k<=(qat qa []).length:=by rw[<-Hnv.out];exact hk
        have hdl:=q1q (qa:=qa) (n:=n) (k:=k) (by omega) hkr;have hjD:j<(dealt qa n k).length:=by rw[hdl];exact hjn
        have hl0:=getElem?_eq_getElem hjD;generalize (dealt qa n k)[j]=l0 at hl0;obtain⟨u,hu,hou⟩:=M.2.2.1 j l0 hl0;have zY:l0.length<=10:=q1r (by omega) hkr (by omega) l0 (mem_of_getElem? hl0)
        have Hs:Hid (dealt qa n (k+1)=(dealt qa n k).set j (l0++[x])):=by
         show _=_;rw[qx4 hx,<-hj,getD_eq_getElem?_getD,hl0];rfl
        obtain⟨cur,hB,qcQ⟩:=M.blk;have Hcu:=Lib.hid ((qcQ j).trans hu);have hji:(j:Int)<(n:Int):=by omega
        have hki:(k:Int)<(nv:Int):=by omega
        have Hu:=Lib.hid hu;have Hl0:=Lib.hid hl0;clear hx hj hdl qcQ hu hl0;go_wp2_with fail;refine(qpM gd j w4.heap.size x u l0 cur wr hB Hcu.out hou (by omega) hg.size).mono ?_;rintro e w5 ⟨rfl,u',wm,ho5,hgm,hb5,rfl⟩;have M5:=M.push Hl0.out Hu.out hgm ho5 hb5;rw[<-Hs.out]at M5;have hg5:w4.grownBy (wm.setCell ⟨gd,j,none⟩ u') (some gd):=qbf (qbd hg hgm (λb e=>.inl (hou.lt b e).1)) (.inr rfl) _;clear M hgm ho5 hb5 hou hg hB c0;go_wp2;go_roundg (nv+1-(k+1))
        case measure=>omega
        case rel=>exact⟨k+1,_,by omega,rfl,by go_num,M5,hg5⟩
      . obtain rfl:nv=k:=by omega
        rw[Hnv.out]at M;have qpP:w.heap.size<=gd:=hs1;have qcR:qh w4 29 (some gd):=qh.blk hB4 (by decide);have g5:w.grownBy wr none:=qbd g4 hg (λb e=>by cases e;exact .inl qpP);have hR5:=hR4.grown hg (λe=>by injection e with e;exact hB4.ne_ hR4 (by decide) e.symm);have hk5:=hk4.grown hg hint;have hsw:w4.heap.size<=wr.heap.size:=hg.size;have Hkb:Hid (∀g,(slice Ak nk ck).ownBlock=some g->g<w4.heap.size):=hkb;clear hg g4 hR4 hk4 hint hB4 hr4 hp4 hkb qcR;go_upto_region 11 with (at_make;go_must (refine wpList_make_full _ rfl _ _ 27 rfl wr.heap.size 24 i1 _ 1 underlying27 qpO hy0 hy1 _ _ _ _ np rfl rfl rfl rfl (by rw[hy2];omega) (by unfold maxLen;omega) (Nat.le_refl _) ?_));intro w6 qaF hg6;have hRw:=LX.qfY qaF;have hX:=Blk.new w6 29 #[.slice none 0 0,.slice Ak nk ck,.slice none 0 0,.slice (some ⟨wr.heap.size,0,none⟩) np np];have hgX:=grownBy_alloc w6 (.cells #[.slice none 0 0,.slice Ak nk ck,.slice none 0 0,.slice (some ⟨wr.heap.size,0,none⟩) np np] 29) none;have g67:=qad hg6 hgX;have M7:=M.new g67;have qdO:=hRw.new hgX;have hR7:=hR5.grown g67 (by simp);have hk7:=hk5.new g67;have g7:=qad g5 g67;have qiQ:wr.heap.size<w6.heap.size:=(qaF.lt wr.heap.size rfl).2;clear qaF hRw M hR5 hk5 g5 hg6 hgX g67;go_upto_region 11 with fail;generalize w6.alloc (.cells #[.slice none 0 0,.slice Ak nk ck,.slice none 0 0,.slice (some ⟨wr.heap.size,0,none⟩) np np] 29)=w7 at hX M7 qdO hR7 hk7 g7 |-;have qaV:=hX.lt;generalize wr.heap.size=gr at hX qdO qiQ hsw |-;generalize w6.heap.size=X at hX qaV qiQ |-;have hXi:qh w7 3 (some X):=qh.blk hX (by decide);have hXd:qh w7 96 (some X):=qh.blk hX (by decide);have hXl:qh w7 24 (some X):=qh.blk hX (by decide);have HD:=Lib.hid M7.2.1;go_wp2_with fail
        go_loopg [49] (n+1) (λmm i wz=>∃(k:Nat) (d:Value),k<=n/\mm=n+1-k/\i=.int .i64 k/\Blk wz X 29 #[d,.slice Ak nk ck,.slice none 0 0,.slice (some ⟨gr,0,none⟩) np np]/\wz.ownsRow w7.heap.size 24 1 d k (xs.take k)/\w7.grownBy wz (some X))
        case atStart=>exact⟨0,_,Nat.zero_le _,rfl,rfl,hX,by simpa using ownsRow_nil _ _ _ _,qah _ _⟩
        case round=>
         obtain⟨k,d,hk,rfl,rfl,hXz,hd,hg⟩:=hrel;clear hX;obtain⟨Ad,cd,rfl⟩:=qse hd;by_cases hlt:k<n
         . have hkD:k<(dealt qa n (qat qa []).length).length:=by rw[HD.out];exact hlt
           obtain⟨u,hu,hou⟩:=(M7.grown hg hXi hXd).2.2.1 k _ (getElem?_eq_getElem hkD);obtain⟨cur,hB,qcQ⟩:=(M7.grown hg hXi hXd).blk;obtain⟨Au,nu,cu,rfl⟩:=hou.ri.val;have c1:wr.cell? ⟨gd,k,none⟩=some (.slice Au nu cu):=(hB.cell k).trans ((qcQ k).trans hu);have x0:=hXz.cell 0;have hXw:X<wr.heap.size:=hXz.lt;have hki:(k:Int)<(n:Int):=by omega
           have Ht:Hid (xs.take (k+1)=xs.take k++[.slice Au nu cu]):=by
            show _=_;obtain⟨h1,h2⟩:=List.getElem?_eq_some_iff.1 hu;rw[take_succ_eq_append_getElem h1,h2]
           have gA:=grownBy_alloc wr (.cells #[.slice Au nu cu] 96) none;have hdA:=qc4 hd gA (qh.none _ _);have hXA:=hXz.grown gA (by simp);have hbA:w7.heap.size<=(wr.alloc (.cells #[.slice Au nu cu] 96)).heap.size:=Nat.le_trans hg.size gA.size;have hgA:=qqy hg gA;clear hu qcQ hB hou hXz hg gA;go_wp2_with (at_builtin;go_must (refine q6e (.tmp 54) (.tmp 57) rfl rfl hdA rfl (by omega) hbA rfl rfl (by simp) ?_));intro v5 w5 hd5 hg5;have hX5:=hXA.past hg5 (qh.own hdA (by decide));obtain⟨A5,c5,rfl⟩:=qse hd5;have y0:=hX5.cell 0;have f0:=hX5.frozen 0;have hst:w5.grownBy (w5.setCell ⟨X,0,none⟩ (.slice A5 (k+1) c5)) (some X):=qbf (qah w5 (some X)) (.inr rfl) _;have hX6:=hX5.jr 0 (.slice A5 (k+1) c5);have hd6:=qc4 hd5 hst (qh.blk hX5 (by decide));rw[<-Ht.out]at hd6;have g6:w7.grownBy (w5.setCell ⟨X,0,none⟩ (.slice A5 (k+1) c5)) (some X):=qad (qbd hgA hg5 (λb e=>.inl (ownsRow.lt hd b e).1)) hst;clear hd hdA hXA hgA hbA hd5 hg5 hX5 hst c1 x0;go_wp2;go_roundg (n+1-(k+1))
           case measure=>omega
           case rel=>exact⟨k+1,_,by omega,rfl,by go_num,hX6,hd6,g6⟩
         . obtain rfl:n=k:=by omega
           have hxn:xs.take n=xs:=take_of_length_le (by rw[M7.len];exact Nat.le_refl _);rw[hxn]at hd;have MZ:=M7.grown hg hXi hXd;have hkZ:=hk7.grown hg hXi;have hrZ:=qdO.grown hg hXi hXl;have hRZ:=hR7.grown hg (λe=>by injection e with e;omega);have gZ:w.grownBy wr none:=qbd g7 hg (λb e=>by cases e;exact .inl (by omega))
           have hF:jw wr w.heap.size (.agg #[.slice Ad n cd,.slice Ak nk ck,.slice none 0 0,.slice (some ⟨gr,0,none⟩) np np]) ((some {qb:=dealt qa n (qat qa []).length,counts:=qbm qa,done:=[],rows:=replicate qa.length []}:Option qj).getD qdk):=by
            refine⟨_,_,_,_,xs,replicate np (.slice none 0 0),rfl,?_,hkZ,qg.nil _ _,?_,?_,?_⟩
            . refine LX.lq (LX.low (a:=w4.heap.size) ⟨?_,MZ.2.2.1⟩ (by omega));show wr.ownsRow w4.heap.size 24 1 _ (dealt qa n (qat qa []).length).length xs;rw[HD.out];refine⟨hd.1,?_⟩;rcases hd.2 with h0|⟨g,cap,cur,h1,h2,h3⟩
              . exact .inl h0
              . exact .inr ⟨g,cap,cur,h1,by omega,h3⟩
            . have e:np=qa.length:=Hnp.out;rw[<-e];exact hrZ.low (by omega)
            . have hnil:∀y∈replicate np (slice none 0 0),y.ownBlock=none:=λy hy=>by rw[eq_of_mem_replicate hy];rfl
              have qpQ:∀y∈xs,∀g,y.ownBlock=some g->w4.heap.size<=g:=by
               intro y hy g hg;obtain⟨i,hi,rfl⟩:=getElem_of_mem hy;obtain⟨y',k1,k2⟩:=MZ.2.2.1 i _ (getElem?_eq_getElem (by have:=MZ.len;rw[HD.out];omega));rw[getElem?_eq_getElem hi]at k1;injection k1 with k1;subst k1;exact(k2.lt g hg).1
              refine pairwise_cons.2 ⟨λy hy g hg hg'=>?_,pairwise_cons.2 ⟨λy hy g hg=>(by cases hg),pairwise_append.2 ⟨MZ.2.2.2,Apart.qdE np,λy hy z hz g hg hg'=>?_⟩⟩⟩
              . have h1:=Hkb.out g hg;rcases mem_cons.1 hy with rfl|hy
                . cases hg'
                . rcases mem_append.1 hy with hy|hy
                  . have:=qpQ y hy g hg';omega
                  . rw[hnil y hy]at hg';cases hg'
              . rw[hnil z hz]at hg';cases hg'
            . intro g hg hg';have e:gr=g:=Option.some.inj hg';have:=(ownsRow.lt hd g hg).1;omega
           have x0:=hXz.cell 0;have x1:=hXz.cell 1;have x2:=hXz.cell 2;have x3:=hXz.cell 3;have y0:=hRZ.cell 0;have y1:=hRZ.cell 1;have y2:=hRZ.cell 2;have y3:=hRZ.cell 3;have f0:=hRZ.frozen 0;have f1:=hRZ.frozen 1;have f2:=hRZ.frozen 2;have f3:=hRZ.frozen 3;have hfin:=Lib.hid (qu0 gZ hRZ rfl hF);clear hd hXz hg MZ hkZ hrZ hRZ gZ hF hxn M7 qdO hR7 hk7 g7 hXi hXd hXl;go_wp2_with fail;refine bodyPost_ret (v:=.tuple #[.agg #[.slice Ad n cd,.slice Ak nk ck,.slice none 0 0,.slice (some ⟨gr,0,none⟩) np np],.bool true]) (by simp[results,results41,go_sem,y0,y1,y2,y3]) rfl ?_;rw[Hr.out];exact hfin.out
   . have Hin:Hid ((decide (1<=n) && decide (n<=4))=false):=by
      show _=_;rw[Bool.and_eq_false_iff,decide_eq_false_iff_not,decide_eq_false_iff_not];omega
     have Hr:Hid (qbv qa n=none):=qv4 hin;clear hv hin;go_enter func41,ntmps41;go_upto_region 1 with fail;generalize w.alloc (.cells #[.slice none 0 0,.slice none 0 0,.slice none 0 0,.slice none 0 0] 29)=W at hR0 hgR |-;go_wp2_with fail;refine(qb8 _ qa W (hp.new hgR) Hv.out).mono ?_;rintro e w1 ⟨rfl,hg1⟩;have g1:=qad hgR hg1;have hR1:=hR0.grown hg1 (by simp);have y0:=hR1.cell 0;have y1:=hR1.cell 1;have y2:=hR1.cell 2;have y3:=hR1.cell 3;have f0:=hR1.frozen 0;have f1:=hR1.frozen 1;have f2:=hR1.frozen 2;have f3:=hR1.frozen 3;have hfin:=Lib.hid (qu0 (r:=none) g1 hR1 rfl (jw.zero w1 w.heap.size));clear hgR hR0 hg1 hR1 g1;go_wp2_with fail;refine(qgu _ _ Hin.out).mono ?_;rintro e w2 ⟨rfl,rfl⟩;go_wp2_with fail;refine bodyPost_ret (v:=.tuple #[.agg #[.slice none 0 0,.slice none 0 0,.slice none 0 0,.slice none 0 0],.bool false]) (by simp[results,results41,go_sem,y0,y1,y2,y3]) rfl ?_;rw[Hr.out];exact hfin.out
 . have hv':qaf qa=false:=by simpa using hv
   have Hv:=Lib.hid hv';have Hr:Hid (qbv qa n=none):=qv3 hv';clear hv hv';go_enter func41,ntmps41;go_upto_region 1 with fail;generalize w.alloc (.cells #[.slice none 0 0,.slice none 0 0,.slice none 0 0,.slice none 0 0] 29)=W at hR0 hgR |-;go_wp2_with fail;refine(qb8 _ qa W (hp.new hgR) Hv.out).mono ?_;rintro e w1 ⟨rfl,hg1⟩;have g1:=qad hgR hg1;have hR1:=hR0.grown hg1 (by simp);have y0:=hR1.cell 0;have y1:=hR1.cell 1;have y2:=hR1.cell 2;have y3:=hR1.cell 3;have f0:=hR1.frozen 0;have f1:=hR1.frozen 1;have f2:=hR1.frozen 2;have f3:=hR1.frozen 3;have hfin:=Lib.hid (qu0 (r:=none) g1 hR1 rfl (jw.zero w1 w.heap.size));clear hgR hR0 hg1 hR1 g1;go_wp2_with fail;refine bodyPost_ret (v:=.tuple #[.agg #[.slice none 0 0,.slice none 0 0,.slice none 0 0,.slice none 0 0],.bool false]) (by simp[results,results41,go_sem,y0,y1,y2,y3]) rfl ?_;rw[Hr.out];exact hfin.out
end
end Go.Proofs.YtacemdoejblgaaaGreatDoor
