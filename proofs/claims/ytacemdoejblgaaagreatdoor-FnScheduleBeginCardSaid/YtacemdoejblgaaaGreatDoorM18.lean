/- Part M18. Conditions: each statement's. -/
import Derived.Test.YtacemdoejblgaaaGreatDoorM17
namespace Go.Proofs.YtacemdoejblgaaaGreatDoor
open List Tryz World Value
set_option maxRecDepth 100000
set_option maxHeartbeats 6400000
section
open Go.RowKit
theorem qvw{qa:List Node}{c:qj}(h:qp qa c):∀l∈c.rows,l.length<=1000:=by
 intro l hl;obtain⟨i,hi,rfl⟩:=getElem_of_mem hl;have hp:i<qa.length:=by rw[<-h.rl];exact hi
 have:=h.rows i hp;rw[getElem?_eq_getElem hi]at this;injection this with this;rw[this];unfold qfi;split
 . have:=qch (q2k h.pv hp).1;omega
 . simp
theorem qes{qa:List Node}{c:qj}(h:qp qa c):∀l∈c.qb,l.length<=10:=by
 intro l hl;obtain⟨i,hi,rfl⟩:=getElem_of_mem hl;exact(qcm.1 (h.kE (getElem?_eq_getElem hi))).1
theorem q47{qa:List Node}{c:qj}(h:qp qa c){k m j:Nat}{r:List Int}(hk:k<c.qb.length)(hm:m<qa.length)(hr:r.length<=10):yJ qa {c with qb:=c.qb.set j r} k m:=by
 have hp:=qap h.pv;refine⟨h.pv,by show k<(c.qb.set j r).length;rw[length_set];exact hk,hm,by show c.counts.length=_;rw[h.counts,qgo],?_,h.rl,by show (c.qb.set j r).length<=4;rw[length_set];exact h.d4,?_,(show ∀l∈c.rows,l.length<=1000 from qvw h),?_⟩
 . show ∀y∈c.counts,_;rw[h.counts];exact q5c h.pv _
 . show ∀l∈c.qb.set j r,_;intro l hl;rcases mem_or_eq_of_mem_set hl with hl|rfl
   . have:=qes h l hl;omega
   . omega
 . have:=qfz h;show c.done.length<=1000;omega
theorem q1o{qa:List Node}{c:qj}(h:qp qa c){L:List (List Int)}{k m:Nat}{nd:Node}(hx:qa[m]?=some nd)(hr:(m:Int)∈qat qa c.done):qwf qa {c with qb:=L} k m nd=qg4 qa {c with qb:=L} k (m:Int):=by
 unfold qwf qg4;rw[show ({c with qb:=L}:qj).rows=c.rows from rfl,q5r h hx hr];rfl
theorem vu.ku{w:World}{base X gd n cap k:Nat}{kv o r f:Value}{D Rw:List (List Int)}{N C l:List Int}{xs ys:List Value}(h:vu w base X (.slice (some ⟨gd,0,none⟩) n cap) kv o r D N Rw xs ys)(hk:k<D.length)(hf:qg w base f l)(hC:RI w kv C) :
   (∃u,w.cell? ⟨gd,k,none⟩=some u/\w.frozen? ⟨gd,k,none⟩=false)/\w.grownBy (w.setCell ⟨gd,k,none⟩ f) (some gd)/\qh w 29 (some gd)/\base<=gd /\
   Blk (w.setCell ⟨gd,k,none⟩ f) X 29 #[.slice (some ⟨gd,0,none⟩) n cap,kv,o,r]/\CV (w.setCell ⟨gd,k,none⟩ f) (.agg #[.slice (some ⟨gd,0,none⟩) n cap,kv,o,r]) ⟨D.set k l,C,N,Rw⟩:=by
 have hst:w.grownBy (w.setCell ⟨gd,k,none⟩ f) (some gd):=qbf (p:=⟨gd,k,none⟩) (qah w (some gd)) (.inr rfl) _;have hI:qh w 3 (some gd):=h.dq.jL (by decide);have hE:qh w 29 (some gd):=h.dq.jL (by decide);exact⟨h.dq.cell hk,hst,hE,(h.dq.lt gd rfl).1,h.x.past hst hE,_,_,_,_,rfl,(h.dq.jr hk hf).rl,hC.grown hst hI,(h.dn.grown hst hI).ri,(h.ro.far hst hI (h.dr gd rfl)).rl⟩
theorem q9j{d l:List Int}{x:Int}(h:qdq d=some (l,x)):x∈d/\l.length<=d.length:=by
 unfold qdq at h;split at h
 . cases hg:d.getLast? with
   |none=>rw[hg]at h;cases h
   |some y=>
    rw[hg]at h;simp only[Option.map_some,Option.some.injEq,Prod.mk.injEq]at h;obtain⟨rfl,rfl⟩:=h;exact⟨mem_of_getLast? hg,by simp⟩
 . cases h
theorem q1p{d l:List Int}{x:Int}(h:qb3 d=some (l,x)):x∈d/\l.length<=d.length:=by
 unfold qb3 at h;split at h
 . cases d with
   |nil=>simp at h
   |cons y r=>
    simp only[head?_cons,Option.map_some,drop_succ_cons,drop_zero,Option.some.injEq,Prod.mk.injEq]at h;obtain⟨rfl,rfl⟩:=h;exact⟨by simp,by simp⟩
 . cases h
theorem qmg{qa:List Node}{c:qj}(H:qp qa c){k:Nat}{d:List Int}{x:Int}(hd:c.qb[k]?=some d)(hx:x∈d):∃(m:Nat) (nd:Node),x=m/\qa[m]?=some nd/\(m:Int)∈qat qa c.done/\m<qa.length:=by
 have hxr:x∈qat qa c.done:=(H.dq.mem_iff).1 (mem_flatten.2 ⟨d,mem_of_getElem? hd,hx⟩);obtain⟨m,hm,rfl,_⟩:=(qdw H.pv).1 hxr;exact⟨m,qa[m],rfl,getElem?_eq_getElem hm,hxr,hm⟩
def jR(w:World)(r:Option qj)(e:Ending)(w':World):Prop:=match r with
 |some c=>∃v,e=.returned (.tuple #[v,.bool true])/\CV w' v c/\w.grownBy w' none
 |none=>∃v,e=.returned (.tuple #[v,.bool false])/\CV w' v qdk/\w.grownBy w' none
theorem qgm{w wx:World}(hg:w.grownBy wx none):jR w none (.returned (.tuple #[.agg #[.slice none 0 0,.slice none 0 0,.slice none 0 0,.slice none 0 0],.bool false])) ((((wx.setCell ⟨w.heap.size+1,0,none⟩ (.slice none 0 0)).setCell ⟨w.heap.size+1,1,none⟩ (.slice none 0 0)).setCell ⟨w.heap.size+1,2,none⟩ (.slice none 0 0)).setCell ⟨w.heap.size+1,3,none⟩ (.slice none 0 0)):=
 ⟨_,rfl,CV.zero _,qbd hg (qeg wx (w.heap.size+1) (.slice none 0 0) (.slice none 0 0) (.slice none 0 0) (.slice none 0 0)) (λg e=>by cases e;exact .inl (Nat.le_succ _))⟩
theorem q48{w wx:World}{c:qj}{d k o r:Value}(hg:w.grownBy wx none)(hR:Blk wx (w.heap.size+1) 29 #[.slice none 0 0,.slice none 0 0,.slice none 0 0,.slice none 0 0])(hc:CV wx (.agg #[d,k,o,r]) c):jR w (some c) (.returned (.tuple #[.agg #[d,k,o,r],.bool true])) ((((wx.setCell ⟨w.heap.size+1,0,none⟩ d).setCell ⟨w.heap.size+1,1,none⟩ k).setCell ⟨w.heap.size+1,2,none⟩ o).setCell ⟨w.heap.size+1,3,none⟩ r):=
 have hst:=qeg wx (w.heap.size+1) d k o r
 ⟨_,rfl,hc.grown hst (qh.blk hR (by decide)) (qh.blk hR (by decide)),qbd hg hst (λg e=>by cases e;exact .inl (Nat.le_succ _))⟩
structure zP(w W:World)(d k o r:Value)(c:qj):Prop where
 b:jU W w.heap.size d k o r c
 res:Blk W (w.heap.size+1) 29 #[.slice none 0 0,.slice none 0 0,.slice none 0 0,.slice none 0 0]
 g:w.grownBy W none
theorem zP.start{w:World}{d k o r:Value}{c:qj}(h:CV w (.agg #[d,k,o,r]) c):zP w ((w.alloc (.cells #[d,k,o,r] 29)).alloc (.cells #[.slice none 0 0,.slice none 0 0,.slice none 0 0,.slice none 0 0] 29)) d k o r c:=by
 have hR0:=Blk.new (w.alloc (.cells #[d,k,o,r] 29)) 29 #[.slice none 0 0,.slice none 0 0,.slice none 0 0,.slice none 0 0];rw[size_alloc]at hR0;exact⟨h.box.new (grownBy_alloc _ _ none),hR0,qar (qar (qah w none) _) _⟩
theorem zP.new{w W W':World}{d k o r:Value}{c:qj}(B:zP w W d k o r c)(hg:W.grownBy W' none):zP w W' d k o r c:=⟨B.b.new hg,B.res.grown hg (by simp),qad B.g hg⟩
theorem qvx{qa:List Node}{c:qj}{w:Int}(h:qa3 qa c=false):qc5 qa c w=none:=by unfold qc5;rw[h];rfl
theorem qvy{qa:List Node}{c:qj}{w:Int}(h:qbs c w=false):qc5 qa c w=none:=by unfold qc5;rw[h,Bool.and_false];rfl
theorem qx1{qa:List Node}{c:qj}{k:Nat}(hv:qa3 qa c=true)(hk:k<c.qb.length){d:List Int}(hd:c.qb[k]?=some d):qc5 qa c (k:Int)=(qdq d).map λx=>qg4 qa {c with qb:=c.qb.set k x.1} k x.2:=by
 have H:=qbp.1 hv;have hw:qbs c (k:Int)=true:=qb1.2 ⟨Int.natCast_nonneg k,by omega⟩;unfold qc5 qdq;rw[hv,hw,H.kE hd,Bool.and_true,if_pos rfl,if_pos rfl,Int.toNat_natCast,getD_eq_getElem?_getD,hd];simp only[Option.getD_some];cases d.getLast?<;>rfl
theorem qvz(pv v:Value)(qa:List Node)(c:qj)(wk:Int)(w:World)(hp:RN w pv qa)(h:CV w v c)(hpl:qa.length<=1000000000)(hfit:c.qb.length<=1048576/\∀d∈c.qb,d.length<=1048576) :
   Calls prog 78 #[pv,v,.int .i64 wk] w (jR w (qc5 qa c wk)):=by
 obtain⟨A,n,cp,rfl,-,hn,-⟩:=hp.form';obtain⟨A1,n1,c1,A2,n2,c2,A3,n3,c3,A4,n4,c4,rfl,h1,-,-,-⟩:=h.form;have B0:=zP.start h;have hn1:=h1.len;have qiG:n1<=1048576:=by omega
 have Hn1:=Lib.hid hn1;have qW:=Lib.hid hfit.2;clear hn hn1 h1 h hfit;by_cases hv:qa3 qa c=true
 . have Hv:=Lib.hid hv;by_cases hin:0<=wk/\wk<=(n1:Int)-1
   . have Hin:Hid ((decide (0<=wk)&&decide (wk<=(n1:Int)-1))=true):=by show _=_;simp[hin.1,hin.2]
     obtain⟨k,rfl⟩:=Int.eq_ofNat_of_zero_le hin.1;have hk:k<n1:=by omega
     clear hv hin;go_enter func78,ntmps78;go_upto_region 1 with fail;generalize ((w.alloc (.cells #[.slice A1 n1 c1,.slice A2 n2 c2,.slice A3 n3 c3,.slice A4 n4 c4] 29)).alloc (.cells #[.slice none 0 0,.slice none 0 0,.slice none 0 0,.slice none 0 0] 29))=W at B0 |-;have d0:=B0.b.d0;have d1:=B0.b.d1;have d2:=B0.b.d2;have d3:=B0.b.d3;go_wp2_with fail;refine(qck _ _ qa c W (hp.new B0.g) B0.b.cv hpl qW.out Hv.out).mono ?_;rintro e w1 ⟨rfl,hg1⟩;have B1:=B0.new hg1;clear B0 hg1 d0 d1 d2 d3;have d0:=B1.b.d0;have d1:=B1.b.d1;have d2:=B1.b.d2;have d3:=B1.b.d3;have hkD:k<c.qb.length:=by rw[<-Hn1.out];exact hk
     obtain⟨g,o,d,Bd,md,ed,rfl,hd,q0,hrd,-,-,-⟩:=B1.b.dq.at_ hk;have hki:(k:Int)<(n1:Int):=by omega
     have Heq:=Lib.hid (qx1 Hv.out hkD hd);have Hd:=Lib.hid hd;clear hd;go_wp2_with fail;refine(qed _ _ _ _ Hin.out).mono ?_;rintro e w2 ⟨rfl,rfl⟩;go_wp2_with fail;refine(qtu _ d w1 hrd).mono ?_;cases vq:qdq d with
     |none=>
      rintro e w2 ⟨u,y,rfl,hu,hg2⟩;have B2:=B1.new hg2;have Hr:Hid (qc5 qa c (k:Int)=none):=by show _=_;rw[Heq.out,vq];rfl
      have y0:=B2.res.cell 0;have y1:=B2.res.cell 1;have y2:=B2.res.cell 2;have y3:=B2.res.cell 3;have f0:=B2.res.frozen 0;have f1:=B2.res.frozen 1;have f2:=B2.res.frozen 2;have f3:=B2.res.frozen 3;have hfin:=Lib.hid (qgm B2.g);clear vq B1 B2 d0 d1 d2 d3 hg2 q0 hrd;obtain⟨Au,nu,cu,rfl⟩:=hu.val;go_wp2_with fail;refine bodyPost_ret (v:=.tuple #[.agg #[.slice none 0 0,.slice none 0 0,.slice none 0 0,.slice none 0 0],.bool false]) (by simp[results,results78,go_sem,y0,y1,y2,y3]) rfl ?_;rw[Hr.out];exact hfin.out
     |some lx=>
      obtain⟨l,x⟩:=lx;rintro e w2 ⟨u,rfl,hu,hg2⟩;have H:=qbp.1 Hv.out;obtain⟨hxd,hll⟩:=q9j vq;have zY:l.length<=10:=Nat.le_trans hll (qes H d (mem_of_getElem? Hd.out));obtain⟨m,nd,rfl,hnd,yt,hmp⟩:=qmg H Hd.out hxd;have HH:=Lib.hid H;have Hr:Hid (qc5 qa c (k:Int)=some (qwf qa {c with qb:=c.qb.set k l} k m nd)):=by show _=_;rw[Heq.out,vq,q1o H hnd yt];rfl
      have Hnd:=Lib.hid hnd;have hDo:Hid (yJ qa {c with qb:=c.qb.set k l} k m):=q47 H hkD hmp zY;have B2:=B1.new hg2;have hs1:w.heap.size<=w1.heap.size:=B1.g.size;have hu':=hu.lower hs1;obtain⟨Au,nu,cu,rfl⟩:=hu.ri.val;clear vq H hxd hll zY hnd yt hmp hu B1 hg2 d0 d1 d2 d3 q0 hrd;have d0:=B2.b.d0;have d1:=B2.b.d1;have d2:=B2.b.d2;have d3:=B2.b.d3;go_wp2_with fail;refine(qof _ c w2 B2.b.cv (by have:=HH.out.d4;omega) (λl hl=>by have:=qes HH.out l hl;omega) (by have:=HH.out.rl;have:=qap HH.out.pv;omega) (λl hl=>by have:=qvw HH.out l hl;omega) (by have:=HH.out.counts;rw[this,qgo];have:=qap HH.out.pv;omega) (by have:=qfz HH.out;have:=qap HH.out.pv;omega)).mono ?_;rintro e w3 ⟨v3,rfl,⟨dv,kv,ov,rv,xs,ys,rfl,q1,q2,q3,q4,q5,q6⟩,hg3⟩;have B3:=B2.new hg3;have hu3:=hu'.new hg3;have hs2:w.heap.size<=w2.heap.size:=B2.g.size;obtain⟨gd,zN,rfl,hcd,hbd⟩:=q1.form Hn1.out.symm (by omega);obtain⟨Ar,nr,cr,rfl⟩:=q4.rl.val;obtain⟨Ak,nk,ck,rfl⟩:=q2.val;obtain⟨Ao,no,co,rfl⟩:=q3.ri.val;clear d0 d1 d2 d3 B2 hu' hg3;go_upto_region 7 with fail;have hO:=vu.lay (k:=.slice Ak nk ck) (q1.low hs2) (q3.lower hs2) (q4.low hs2) q5 q6;have hgX:=grownBy_alloc w3 (.cells #[.slice (some ⟨gd,0,none⟩) n1 zN,.slice Ak nk ck,.slice Ao no co,.slice Ar nr cr] 29) none;have q2':=q2.new hgX;have hu4:=hu3.new hgX;have B4:=B3.new hgX;have hRX:w.heap.size+1<w3.heap.size:=B3.res.lt;generalize w3.alloc (.cells #[.slice (some ⟨gd,0,none⟩) n1 zN,.slice Ak nk ck,.slice Ao no co,.slice Ar nr cr] 29)=w4 at hO hgX q2' hu4 B4 |-;generalize w3.heap.size=X at hO hRX |-;obtain⟨⟨u0,cR,fR⟩,zK,hE5,kU,hx5,zQ⟩:=hO.ku hkD hu4 q2';have x0:=hO.x.cell 0;have kV:=B4.res.past zK hE5;have g5:=qbd B4.g zK (λg e=>by cases e;exact .inl kU);clear q1 q2 q3 q4 q5 q6 hgX B3 hu3;go_upto_region 8 with fail;clear cR fR x0 zK hE5 q2' hu4 B4 hO;generalize w4.setCell ⟨gd,k,none⟩ (.slice Au nu cu)=w5 at hx5 zQ kV g5 |-;have x0:=hx5.cell 0;have x1:=hx5.cell 1;have x2:=hx5.cell 2;have x3:=hx5.cell 3;go_wp2_with fail;refine(q11 _ _ qa {c with qb:=c.qb.set k l} k m nd w5 (hp.new g5) zQ hDo.out Hnd.out).mono ?_;rintro e w6 ⟨v6,rfl,kW,hg6⟩;have vC:=kV.grown hg6 (by simp);have g6:=qad g5 hg6;obtain⟨B1',m1',e1',B2',m2',e2',B3',m3',e3',B4',m4',e4',rfl,-,-,-,-⟩:=kW.form;have hfin:=Lib.hid (q48 g6 vC kW);have y0:=vC.cell 0;have y1:=vC.cell 1;have y2:=vC.cell 2;have y3:=vC.cell 3;have f0:=vC.frozen 0;have f1:=vC.frozen 1;have f2:=vC.frozen 2;have f3:=vC.frozen 3;clear x0 x1 x2 x3 hx5 zQ kV g5 hg6 kW vC g6;go_wp2_with fail;refine bodyPost_ret (v:=.tuple #[.agg #[.slice B1' m1' e1',.slice B2' m2' e2',.slice B3' m3' e3',.slice B4' m4' e4'],.bool true]) (by simp[results,results78,go_sem,y0,y1,y2,y3]) rfl ?_;rw[Hr.out];exact hfin.out
   . have Hin:Hid ((decide (0<=wk) && decide (wk<=(n1:Int) - 1))=false):=by
      show _=_;rw[Bool.and_eq_false_iff,decide_eq_false_iff_not,decide_eq_false_iff_not];omega
     have Hr:Hid (qc5 qa c wk=none):=by
      show _=_;refine qvy ?_;unfold qbs;rw[<-Hn1.out,Bool.and_eq_false_iff,decide_eq_false_iff_not,decide_eq_false_iff_not];omega
     clear hv hin;go_enter func78,ntmps78;go_upto_region 1 with fail;generalize ((w.alloc (.cells #[.slice A1 n1 c1,.slice A2 n2 c2,.slice A3 n3 c3,.slice A4 n4 c4] 29)).alloc (.cells #[.slice none 0 0,.slice none 0 0,.slice none 0 0,.slice none 0 0] 29))=W at B0 |-;have d0:=B0.b.d0;have d1:=B0.b.d1;have d2:=B0.b.d2;have d3:=B0.b.d3;go_wp2_with fail;refine(qck _ _ qa c W (hp.new B0.g) B0.b.cv hpl qW.out Hv.out).mono ?_;rintro e w1 ⟨rfl,hg1⟩;have B1:=B0.new hg1;clear B0 hg1 d0 d1 d2 d3;have d0:=B1.b.d0;have y0:=B1.res.cell 0;have y1:=B1.res.cell 1;have y2:=B1.res.cell 2;have y3:=B1.res.cell 3;have f0:=B1.res.frozen 0;have f1:=B1.res.frozen 1;have f2:=B1.res.frozen 2;have f3:=B1.res.frozen 3;have hfin:=Lib.hid (qgm B1.g);clear B1;go_wp2_with fail;refine(qed _ _ _ _ Hin.out).mono ?_;rintro e w2 ⟨rfl,rfl⟩;go_wp2_with fail;refine bodyPost_ret (v:=.tuple #[.agg #[.slice none 0 0,.slice none 0 0,.slice none 0 0,.slice none 0 0],.bool false]) (by simp[results,results78,go_sem,y0,y1,y2,y3]) rfl ?_;rw[Hr.out];exact hfin.out
 . have hv':qa3 qa c=false:=by simpa using hv
   have Hv:=Lib.hid hv';have Hr:Hid (qc5 qa c wk=none):=qvx hv';clear hv hv';go_enter func78,ntmps78;go_upto_region 1 with fail;generalize ((w.alloc (.cells #[.slice A1 n1 c1,.slice A2 n2 c2,.slice A3 n3 c3,.slice A4 n4 c4] 29)).alloc (.cells #[.slice none 0 0,.slice none 0 0,.slice none 0 0,.slice none 0 0] 29))=W at B0 |-;have d0:=B0.b.d0;have d1:=B0.b.d1;have d2:=B0.b.d2;have d3:=B0.b.d3;go_wp2_with fail;refine(qck _ _ qa c W (hp.new B0.g) B0.b.cv hpl qW.out Hv.out).mono ?_;rintro e w1 ⟨rfl,hg1⟩;have B1:=B0.new hg1;clear B0 hg1 d0 d1 d2 d3;have y0:=B1.res.cell 0;have y1:=B1.res.cell 1;have y2:=B1.res.cell 2;have y3:=B1.res.cell 3;have f0:=B1.res.frozen 0;have f1:=B1.res.frozen 1;have f2:=B1.res.frozen 2;have f3:=B1.res.frozen 3;have hfin:=Lib.hid (qgm B1.g);clear B1;go_wp2_with fail;refine bodyPost_ret (v:=.tuple #[.agg #[.slice none 0 0,.slice none 0 0,.slice none 0 0,.slice none 0 0],.bool false]) (by simp[results,results78,go_sem,y0,y1,y2,y3]) rfl ?_;rw[Hr.out];exact hfin.out
theorem qqi{qa:List Node}{c:qj}{w f:Int}(h:qa3 qa c=false):qba qa c w f=none:=by unfold qba;rw[h];rfl
theorem qqj{qa:List Node}{c:qj}{w f:Int}(h:qbs c w=false):qba qa c w f=none:=by unfold qba;rw[h,Bool.and_false];rfl
theorem qnp{qa:List Node}{c:qj}{w f:Int}(h:qbs c f=false):qba qa c w f=none:=by unfold qba;rw[h,Bool.and_false];rfl
theorem qnq{qa:List Node}{c:qj}{w:Int}:qba qa c w w=none:=by unfold qba;simp
theorem qnr{qa:List Node}{c:qj}{k:Nat}{f:Int}{d:List Int}(hd:c.qb[k]?=some d)(h:d≠[]):qba qa c (k:Int) f=none:=by
 unfold qba;rw[Int.toNat_natCast,getD_eq_getElem?_getD,hd];simp[h]
theorem qsr{qa:List Node}{c:qj}{k f:Nat}(hv:qa3 qa c=true)(hk:k<c.qb.length)(hf:f<c.qb.length)(hne:k≠f)(he:c.qb[k]?=some []){d:List Int}(hd:c.qb[f]?=some d):qba qa c (k:Int) (f:Int)=(qb3 d).map λx=>qg4 qa {c with qb:=c.qb.set f x.1} k x.2:=by
 have H:=qbp.1 hv;have hw:qbs c (k:Int)=true:=qb1.2 ⟨Int.natCast_nonneg k,by omega⟩;have hw2:qbs c (f:Int)=true:=qb1.2 ⟨Int.natCast_nonneg f,by omega⟩;have hne':¬(k:Int)=(f:Int):=by omega
 unfold qba qb3;rw[hv,hw,hw2,H.kE hd,Int.toNat_natCast,Int.toNat_natCast,getD_eq_getElem?_getD,he,getD_eq_getElem?_getD,hd,decide_eq_false hne'];simp only[Option.getD_some,decide_true,Bool.not_false,Bool.and_self,if_true];cases d<;>rfl
theorem qrt(pv v:Value)(qa:List Node)(c:qj)(wk fk:Int)(w:World)(hp:RN w pv qa)(h:CV w v c)(hpl:qa.length<=1000000000)(hfit:c.qb.length<=1048576/\∀d∈c.qb,d.length<=1048576) :
   Calls prog 79 #[pv,v,.int .i64 wk,.int .i64 fk] w (jR w (qba qa c wk fk)):=by
 obtain⟨A,n,cp,rfl,-,hn,-⟩:=hp.form';obtain⟨A1,n1,c1,A2,n2,c2,A3,n3,c3,A4,n4,c4,rfl,h1,-,-,-⟩:=h.form;have B0:=zP.start h;have hn1:=h1.len;have qiG:n1<=1048576:=by omega
 have Hn1:=Lib.hid hn1;have qW:=Lib.hid hfit.2;clear hn hn1 h1 h hfit;by_cases hv:qa3 qa c=true
 . have Hv:=Lib.hid hv;by_cases hin:0<=wk/\wk<=(n1:Int)-1
   . have Hin:Hid ((decide (0<=wk)&&decide (wk<=(n1:Int)-1))=true):=by show _=_;simp[hin.1,hin.2]
     by_cases hif:0<=fk/\fk<=(n1:Int)-1
     . have Hif:Hid ((decide (0<=fk)&&decide (fk<=(n1:Int)-1))=true):=by show _=_;simp[hif.1,hif.2]
       by_cases hsame:wk=fk
       . have hb:(wk==fk)=true:=by simpa using hsame
         have Hr:Hid (qba qa c wk fk=none):=by show _=_;rw[hsame];exact qnq
         clear hv hin hif hsame;go_enter func79,ntmps79;go_upto_region 1 with fail;generalize ((w.alloc (.cells #[.slice A1 n1 c1,.slice A2 n2 c2,.slice A3 n3 c3,.slice A4 n4 c4] 29)).alloc (.cells #[.slice none 0 0,.slice none 0 0,.slice none 0 0,.slice none 0 0] 29))=W at B0 |-;have d0:=B0.b.d0;have d1:=B0.b.d1;have d2:=B0.b.d2;have d3:=B0.b.d3;go_wp2_with fail;refine(qck _ _ qa c W (hp.new B0.g) B0.b.cv hpl qW.out Hv.out).mono ?_;rintro e w1 ⟨rfl,hg1⟩;have B1:=B0.new hg1;clear B0 hg1 d0 d1 d2 d3;have d0:=B1.b.d0;have y0:=B1.res.cell 0;have y1:=B1.res.cell 1;have y2:=B1.res.cell 2;have y3:=B1.res.cell 3;have f0:=B1.res.frozen 0;have f1:=B1.res.frozen 1;have f2:=B1.res.frozen 2;have f3:=B1.res.frozen 3;have hfin:=Lib.hid (qgm B1.g);clear B1;go_wp2_with fail;refine(qed _ _ _ _ Hin.out).mono ?_;rintro e w2 ⟨rfl,rfl⟩;go_wp2_with fail;refine(qed _ _ _ _ Hif.out).mono ?_;rintro e w2 ⟨rfl,rfl⟩;go_wp2_with fail;refine bodyPost_ret (v:=.tuple #[.agg #[.slice none 0 0,.slice none 0 0,.slice none 0 0,.slice none 0 0],.bool false]) (by simp[results,results79,go_sem,y0,y1,y2,y3]) rfl ?_;rw[Hr.out];exact hfin.out
       . have hb:(wk==fk)=false:=by simpa using hsame
         obtain⟨k,rfl⟩:=Int.eq_ofNat_of_zero_le hin.1;obtain⟨f,rfl⟩:=Int.eq_ofNat_of_zero_le hif.1;have hk:k<n1:=by omega
         have hf:f<n1:=by omega
         have hkf:k≠f:=λe=>hsame (by rw[e]);clear hv hin hif hsame;go_enter func79,ntmps79;go_upto_region 1 with fail;generalize ((w.alloc (.cells #[.slice A1 n1 c1,.slice A2 n2 c2,.slice A3 n3 c3,.slice A4 n4 c4] 29)).alloc (.cells #[.slice none 0 0,.slice none 0 0,.slice none 0 0,.slice none 0 0] 29))=W at B0 |-;have d0:=B0.b.d0;have d1:=B0.b.d1;have d2:=B0.b.d2;have d3:=B0.b.d3;go_wp2_with fail;refine(qck _ _ qa c W (hp.new B0.g) B0.b.cv hpl qW.out Hv.out).mono ?_;rintro e w1 ⟨rfl,hg1⟩;have B1:=B0.new hg1;clear B0 hg1 d0 d1 d2 d3;have d0:=B1.b.d0;have d1:=B1.b.d1;have d2:=B1.b.d2;have d3:=B1.b.d3;have hkD:k<c.qb.length:=by rw[<-Hn1.out];exact hk
         have hfD:f<c.qb.length:=by rw[<-Hn1.out];exact hf
         obtain⟨g,o,dw,Bw,mw,ew,rfl,hdw,qw,hrw,hmw,-,-⟩:=B1.b.dq.at_ hk;obtain⟨g2,o2,d,Bd,md,ed,e2,hd,q0,hrd,-,-,-⟩:=B1.b.dq.at_ hf;injection e2 with e2;injection e2 with e2 e3;subst e2 e3;have hki:(k:Int)<(n1:Int):=by omega
         have hfi:(f:Int)<(n1:Int):=by omega
         by_cases hm0:mw=0
         . have hgt:¬((0:Int)<(mw:Int)):=by omega
           have qoG:dw=[]:=eq_nil_of_length_eq_zero (by omega);subst qoG;have Heq:=Lib.hid (qsr Hv.out hkD hfD hkf hdw hd);have Hd:=Lib.hid hd;clear hd hdw hmw hm0;go_wp2_with fail;refine(qed _ _ _ _ Hin.out).mono ?_;rintro e w2 ⟨rfl,rfl⟩;go_wp2_with fail;refine(qed _ _ _ _ Hif.out).mono ?_;rintro e w2 ⟨rfl,rfl⟩;go_wp2_with fail;refine(qqo _ d w1 hrd).mono ?_;cases vq:qb3 d with
           |none=>
            rintro e w2 ⟨u,y,rfl,hu,hg2⟩;have B2:=B1.new hg2;have Hr:Hid (qba qa c (k:Int) (f:Int)=none):=by show _=_;rw[Heq.out,vq];rfl
            have y0:=B2.res.cell 0;have y1:=B2.res.cell 1;have y2:=B2.res.cell 2;have y3:=B2.res.cell 3;have f0:=B2.res.frozen 0;have f1:=B2.res.frozen 1;have f2:=B2.res.frozen 2;have f3:=B2.res.frozen 3;have hfin:=Lib.hid (qgm B2.g);clear vq B1 B2 d0 d1 d2 d3 hg2 q0 hrd qw hrw;obtain⟨Au,nu,cu,rfl⟩:=hu.val;go_wp2_with fail;refine bodyPost_ret (v:=.tuple #[.agg #[.slice none 0 0,.slice none 0 0,.slice none 0 0,.slice none 0 0],.bool false]) (by simp[results,results79,go_sem,y0,y1,y2,y3]) rfl ?_;rw[Hr.out];exact hfin.out
           |some lx=>
            obtain⟨l,x⟩:=lx;rintro e w2 ⟨u,rfl,hu,hg2⟩;have H:=qbp.1 Hv.out;obtain⟨hxd,hll⟩:=q1p vq;have zY:l.length<=10:=Nat.le_trans hll (qes H d (mem_of_getElem? Hd.out));obtain⟨m,nd,rfl,hnd,yt,hmp⟩:=qmg H Hd.out hxd;have HH:=Lib.hid H;have Hr:Hid (qba qa c (k:Int) (f:Int)=some (qwf qa {c with qb:=c.qb.set f l} k m nd)):=by show _=_;rw[Heq.out,vq,q1o H hnd yt];rfl
            have Hnd:=Lib.hid hnd;have hDo:Hid (yJ qa {c with qb:=c.qb.set f l} k m):=q47 H hkD hmp zY;have B2:=B1.new hg2;have hs1:w.heap.size<=w1.heap.size:=B1.g.size;have hu':=hu.lower hs1;obtain⟨Au,nu,cu,rfl⟩:=hu.ri.val;clear vq H hxd hll zY hnd yt hmp hu B1 hg2 d0 d1 d2 d3 q0 hrd qw hrw;have d0:=B2.b.d0;have d1:=B2.b.d1;have d2:=B2.b.d2;have d3:=B2.b.d3;go_wp2_with fail;refine(qof _ c w2 B2.b.cv (by have:=HH.out.d4;omega) (λl hl=>by have:=qes HH.out l hl;omega) (by have:=HH.out.rl;have:=qap HH.out.pv;omega) (λl hl=>by have:=qvw HH.out l hl;omega) (by have:=HH.out.counts;rw[this,qgo];have:=qap HH.out.pv;omega) (by have:=qfz HH.out;have:=qap HH.out.pv;omega)).mono ?_;rintro e w3 ⟨v3,rfl,⟨dv,kv,ov,rv,xs,ys,rfl,q1,q2,q3,q4,q5,q6⟩,hg3⟩;have B3:=B2.new hg3;have hu3:=hu'.new hg3;have hs2:w.heap.size<=w2.heap.size:=B2.g.size;obtain⟨gd,zN,rfl,hcd,hbd⟩:=q1.form Hn1.out.symm (by omega);obtain⟨Ar,nr,cr,rfl⟩:=q4.rl.val;obtain⟨Ak,nk,ck,rfl⟩:=q2.val;obtain⟨Ao,no,co,rfl⟩:=q3.ri.val;clear d0 d1 d2 d3 B2 hu' hg3;go_upto_region 7 with fail;have hO:=vu.lay (k:=.slice Ak nk ck) (q1.low hs2) (q3.lower hs2) (q4.low hs2) q5 q6;have hgX:=grownBy_alloc w3 (.cells #[.slice (some ⟨gd,0,none⟩) n1 zN,.slice Ak nk ck,.slice Ao no co,.slice Ar nr cr] 29) none;have q2':=q2.new hgX;have hu4:=hu3.new hgX;have B4:=B3.new hgX;have hRX:w.heap.size+1<w3.heap.size:=B3.res.lt;generalize w3.alloc (.cells #[.slice (some ⟨gd,0,none⟩) n1 zN,.slice Ak nk ck,.slice Ao no co,.slice Ar nr cr] 29)=w4 at hO hgX q2' hu4 B4 |-;generalize w3.heap.size=X at hO hRX |-;obtain⟨⟨u0,cR,fR⟩,zK,hE5,kU,hx5,zQ⟩:=hO.ku hfD hu4 q2';have x0:=hO.x.cell 0;have kV:=B4.res.past zK hE5;have g5:=qbd B4.g zK (λg e=>by cases e;exact .inl kU);clear q1 q2 q3 q4 q5 q6 hgX B3 hu3;go_upto_region 8 with fail;clear cR fR x0 zK hE5 q2' hu4 B4 hO;generalize w4.setCell ⟨gd,f,none⟩ (.slice Au nu cu)=w5 at hx5 zQ kV g5 |-;have x0:=hx5.cell 0;have x1:=hx5.cell 1;have x2:=hx5.cell 2;have x3:=hx5.cell 3;go_wp2_with fail;refine(q11 _ _ qa {c with qb:=c.qb.set f l} k m nd w5 (hp.new g5) zQ hDo.out Hnd.out).mono ?_;rintro e w6 ⟨v6,rfl,kW,hg6⟩;have vC:=kV.grown hg6 (by simp);have g6:=qad g5 hg6;obtain⟨B1',m1',e1',B2',m2',e2',B3',m3',e3',B4',m4',e4',rfl,-,-,-,-⟩:=kW.form;have hfin:=Lib.hid (q48 g6 vC kW);have y0:=vC.cell 0;have y1:=vC.cell 1;have y2:=vC.cell 2;have y3:=vC.cell 3;have f0:=vC.frozen 0;have f1:=vC.frozen 1;have f2:=vC.frozen 2;have f3:=vC.frozen 3;clear x0 x1 x2 x3 hx5 zQ kV g5 hg6 kW vC g6;go_wp2_with fail;refine bodyPost_ret (v:=.tuple #[.agg #[.slice B1' m1' e1',.slice B2' m2' e2',.slice B3' m3' e3',.slice B4' m4' e4'],.bool true]) (by simp[results,results79,go_sem,y0,y1,y2,y3]) rfl ?_;rw[Hr.out];exact hfin.out
         . have hgt:(0:Int)<(mw:Int):=by omega
           have Hr:Hid (qba qa c (k:Int) (f:Int)=none):=qnr hdw (λe=>hm0 (by rw[hmw,e];rfl));have y0:=B1.res.cell 0;have y1:=B1.res.cell 1;have y2:=B1.res.cell 2;have y3:=B1.res.cell 3;have f0:=B1.res.frozen 0;have f1:=B1.res.frozen 1;have f2:=B1.res.frozen 2;have f3:=B1.res.frozen 3;have hfin:=Lib.hid (qgm B1.g);clear B1 hd hdw hmw hm0 hrw hrd q0;go_wp2_with fail;refine(qed _ _ _ _ Hin.out).mono ?_;rintro e w2 ⟨rfl,rfl⟩;go_wp2_with fail;refine(qed _ _ _ _ Hif.out).mono ?_;rintro e w2 ⟨rfl,rfl⟩;go_wp2_with fail;refine bodyPost_ret (v:=.tuple #[.agg #[.slice none 0 0,.slice none 0 0,.slice none 0 0,.slice none 0 0],.bool false]) (by simp[results,results79,go_sem,y0,y1,y2,y3]) rfl ?_;rw[Hr.out];exact hfin.out
     . have Hif:Hid ((decide (0<=fk) && decide (fk<=(n1:Int) - 1))=false):=by
        show _=_;rw[Bool.and_eq_false_iff,decide_eq_false_iff_not,decide_eq_false_iff_not];omega
       have Hr:Hid (qba qa c wk fk=none):=by
        show _=_;refine qnp ?_;unfold qbs;rw[<-Hn1.out,Bool.and_eq_false_iff,decide_eq_false_iff_not,decide_eq_false_iff_not];omega
       clear hv hin hif;go_enter func79,ntmps79;go_upto_region 1 with fail;generalize ((w.alloc (.cells #[.slice A1 n1 c1,.slice A2 n2 c2,.slice A3 n3 c3,.slice A4 n4 c4] 29)).alloc (.cells #[.slice none 0 0,.slice none 0 0,.slice none 0 0,.slice none 0 0] 29))=W at B0 |-;have d0:=B0.b.d0;have d1:=B0.b.d1;have d2:=B0.b.d2;have d3:=B0.b.d3;go_wp2_with fail;refine(qck _ _ qa c W (hp.new B0.g) B0.b.cv hpl qW.out Hv.out).mono ?_;rintro e w1 ⟨rfl,hg1⟩;have B1:=B0.new hg1;clear B0 hg1 d0 d1 d2 d3;have d0:=B1.b.d0;have y0:=B1.res.cell 0;have y1:=B1.res.cell 1;have y2:=B1.res.cell 2;have y3:=B1.res.cell 3;have f0:=B1.res.frozen 0;have f1:=B1.res.frozen 1;have f2:=B1.res.frozen 2;have f3:=B1.res.frozen 3;have hfin:=Lib.hid (qgm B1.g);clear B1;go_wp2_with fail;refine(qed _ _ _ _ Hin.out).mono ?_;rintro e w2 ⟨rfl,rfl⟩;go_wp2_with fail;refine(qed _ _ _ _ Hif.out).mono ?_;rintro e w2 ⟨rfl,rfl⟩;go_wp2_with fail;refine bodyPost_ret (v:=.tuple #[.agg #[.slice none 0 0,.slice none 0 0,.slice none 0 0,.slice none 0 0],.bool false]) (by simp[results,results79,go_sem,y0,y1,y2,y3]) rfl ?_;rw[Hr.out];exact hfin.out
   . have Hin:Hid ((decide (0<=wk) && decide (wk<=(n1:Int) - 1))=false):=by
      show _=_;rw[Bool.and_eq_false_iff,decide_eq_false_iff_not,decide_eq_false_iff_not];omega
     have Hr:Hid (qba qa c wk fk=none):=by
      show _=_;refine qqj ?_;unfold qbs;rw[<-Hn1.out,Bool.and_eq_false_iff,decide_eq_false_iff_not,decide_eq_false_iff_not];omega
     clear hv hin;go_enter func79,ntmps79;go_upto_region 1 with fail;generalize ((w.alloc (.cells #[.slice A1 n1 c1,.slice A2 n2 c2,.slice A3 n3 c3,.slice A4 n4 c4] 29)).alloc (.cells #[.slice none 0 0,.slice none 0 0,.slice none 0 0,.slice none 0 0] 29))=W at B0 |-;have d0:=B0.b.d0;have d1:=B0.b.d1;have d2:=B0.b.d2;have d3:=B0.b.d3;go_wp2_with fail;refine(qck _ _ qa c W (hp.new B0.g) B0.b.cv hpl qW.out Hv.out).mono ?_;rintro e w1 ⟨rfl,hg1⟩;have B1:=B0.new hg1;clear B0 hg1 d0 d1 d2 d3;have d0:=B1.b.d0;have y0:=B1.res.cell 0;have y1:=B1.res.cell 1;have y2:=B1.res.cell 2;have y3:=B1.res.cell 3;have f0:=B1.res.frozen 0;have f1:=B1.res.frozen 1;have f2:=B1.res.frozen 2;have f3:=B1.res.frozen 3;have hfin:=Lib.hid (qgm B1.g);clear B1;go_wp2_with fail;refine(qed _ _ _ _ Hin.out).mono ?_;rintro e w2 ⟨rfl,rfl⟩;go_wp2_with fail;refine bodyPost_ret (v:=.tuple #[.agg #[.slice none 0 0,.slice none 0 0,.slice none 0 0,.slice none 0 0],.bool false]) (by simp[results,results79,go_sem,y0,y1,y2,y3]) rfl ?_;rw[Hr.out];exact hfin.out
 . have hv':qa3 qa c=false:=by simpa using hv
   have Hv:=Lib.hid hv';have Hr:Hid (qba qa c wk fk=none):=qqi hv';clear hv hv';go_enter func79,ntmps79;go_upto_region 1 with fail;generalize ((w.alloc (.cells #[.slice A1 n1 c1,.slice A2 n2 c2,.slice A3 n3 c3,.slice A4 n4 c4] 29)).alloc (.cells #[.slice none 0 0,.slice none 0 0,.slice none 0 0,.slice none 0 0] 29))=W at B0 |-;have d0:=B0.b.d0;have d1:=B0.b.d1;have d2:=B0.b.d2;have d3:=B0.b.d3;go_wp2_with fail;refine(qck _ _ qa c W (hp.new B0.g) B0.b.cv hpl qW.out Hv.out).mono ?_;rintro e w1 ⟨rfl,hg1⟩;have B1:=B0.new hg1;clear B0 hg1 d0 d1 d2 d3;have y0:=B1.res.cell 0;have y1:=B1.res.cell 1;have y2:=B1.res.cell 2;have y3:=B1.res.cell 3;have f0:=B1.res.frozen 0;have f1:=B1.res.frozen 1;have f2:=B1.res.frozen 2;have f3:=B1.res.frozen 3;have hfin:=Lib.hid (qgm B1.g);clear B1;go_wp2_with fail;refine bodyPost_ret (v:=.tuple #[.agg #[.slice none 0 0,.slice none 0 0,.slice none 0 0,.slice none 0 0],.bool false]) (by simp[results,results79,go_sem,y0,y1,y2,y3]) rfl ?_;rw[Hr.out];exact hfin.out
theorem qss{qa:List Node}{c:qj}{w:Int}(h:qa3 qa c=false):qcg qa c w=-1:=by unfold qcg;rw[h];rfl
theorem qst{qa:List Node}{c:qj}{w:Int}(h:qbs c w=false):qcg qa c w=-1:=by unfold qcg;rw[h,Bool.and_false];rfl
theorem qqk{qa:List Node}{c:qj}{k:Nat}(h:∀s,s<c.qb.length->c.qb.getD ((k+s)%c.qb.length) []=[]):qcg qa c (k:Int)=-1:=by
 unfold qcg;split
 . rw[Int.toNat_natCast,find?_map]
   have:(range c.qb.length).find? ((λi=>!decide (c.qb.getD i []=[]))∘λs=>(k+s)%c.qb.length)=none:=by
    rw[find?_eq_none];intro s hs;have e:=h s (mem_range.1 hs);rw[getD_eq_getElem?_getD]at e;simp[e]
   rw[this];rfl
 . rfl
theorem qns{qa:List Node}{c:qj}{k i:Nat}(hv:qa3 qa c=true)(hk:k<c.qb.length)(hi:i<c.qb.length)(h:∀s,s<i->c.qb.getD ((k+s)%c.qb.length) []=[])(hne:c.qb.getD ((k+i)%c.qb.length) []≠[]) :
   qcg qa c (k:Int)=(((k+i)%c.qb.length:Nat):Int):=by
 have hw:qbs c (k:Int)=true:=qb1.2 ⟨Int.natCast_nonneg k,by omega⟩;unfold qcg;rw[hv,hw,Bool.and_true,if_pos rfl,Int.toNat_natCast,find?_map]
 have:(range c.qb.length).find? ((λi=>!decide (c.qb.getD i []=[]))∘λs=>(k+s)%c.qb.length)=some i:=by
  rw[find?_range_eq_some];refine⟨by simpa using hne,mem_range.2 hi,λs hs=>?_⟩;have e:=h s hs;rw[getD_eq_getElem?_getD]at e;simp[e]
 rw[this];rfl
theorem q3y{qa:List Node}{c:qj}{w:Int}:-1<=qcg qa c w:=by
 unfold qcg;split
 . split<;>omega
 . omega
def qx2(c:qj)(k i:Nat):Prop:=∀s,s<i->c.qb.getD ((k+s)%c.qb.length) []=[]
theorem qv0{c:qj}{k i:Nat}(h:qx2 c k i)(he:c.qb.getD ((k+i)%c.qb.length) []=[]):qx2 c k (i+1):=by
 intro s hs;by_cases e:s=i
 . subst e;exact he
 . exact h s (by omega)
theorem qtr(pv v:Value)(qa:List Node)(c:qj)(wk:Int)(w:World)(hp:RN w pv qa)(h:CV w v c)(hpl:qa.length<=1000000000)(hfit:c.qb.length<=1048576/\∀d∈c.qb,d.length<=1048576) :
   Calls prog 77 #[pv,v,.int .i64 wk] w λe w'=>e=.returned (.int .i64 (qcg qa c wk))/\w.grownBy w' none:=by
 obtain⟨A,n,cp,rfl,-,hn,-⟩:=hp.form';obtain⟨A1,n1,c1,A2,n2,c2,A3,n3,c3,A4,n4,c4,rfl,h1,-,-,-⟩:=h.form;have hX:=h.box;have hgW:=grownBy_alloc w (.cells #[.slice A1 n1 c1,.slice A2 n2 c2,.slice A3 n3 c3,.slice A4 n4 c4] 29) none;have hn1:=h1.len;have qiG:n1<=1048576:=by omega
 have Hn1:=Lib.hid hn1;have qW:=Lib.hid hfit.2;have d0:=hX.d0;have d1:=hX.d1;have d2:=hX.d2;have d3:=hX.d3;have hpW:=hp.new hgW;clear hn hn1 h1 h hfit;by_cases hv:qa3 qa c=true
 . have Hv:=Lib.hid hv;by_cases hin:0<=wk/\wk<=(n1:Int)-1
   . have Hin:Hid ((decide (0<=wk)&&decide (wk<=(n1:Int)-1))=true):=by show _=_;simp[hin.1,hin.2]
     obtain⟨k,rfl⟩:=Int.eq_ofNat_of_zero_le hin.1;have hk:k<n1:=by omega
     clear hv hin;go_enter func77,ntmps77;go_wp2_with fail;refine(qck _ _ qa c _ hpW hX.cv hpl qW.out Hv.out).mono ?_;rintro e w1 ⟨rfl,hg1⟩;have hX1:=hX.new hg1;have g1:=qad hgW hg1;clear hX hgW hpW hg1 d0 d1 d2 d3;have d0:=hX1.d0;go_wp2_with fail;refine(qed _ _ _ _ Hin.out).mono ?_;rintro e w2 ⟨rfl,rfl⟩;go_wp2_with fail
     go_loopg [7] (n1+1) (λmm i wr=>∃q:Nat,q<=n1/\mm=n1+1-q/\i=.int .i64 q/\Hid (qx2 c k q)/\wr=w1)
     case atStart=>exact⟨0,Nat.zero_le _,rfl,rfl,λs hs=>absurd hs (Nat.not_lt_zero _),rfl⟩
     case round=>
      obtain⟨q,hq,rfl,rfl,Hq,rfl⟩:=hrel;by_cases hlt:q<n1
      . obtain⟨t,ht⟩:∃t,t=(k+q)%n1:=⟨_,rfl⟩;have htn:t<n1:=by rw[ht];exact Nat.mod_lt _ (by omega)
        have hmod:((k:Int)+(q:Int)).tmod (n1:Int)=(t:Int):=by rw[ht];rfl
        have hn0:¬((n1:Int)=0):=by omega
        obtain⟨g,o,d,B,m,e,rfl,hd,q0,hrd,hm,-,-⟩:=hX1.dq.at_ htn;have hti:(t:Int)<(n1:Int):=by omega
        have hget:c.qb.getD ((k+q)%c.qb.length) []=d:=by
         rw[<-Hn1.out,<-ht,getD_eq_getElem?_getD,hd];rfl
        by_cases hm0:m=0
        . have hd0:d=[]:=eq_nil_of_length_eq_zero (by omega);have Hs:Hid (qx2 c k (q+1)):=qv0 Hq.out (hget.trans hd0);have hgt:¬((0:Int)<(m:Int)):=by omega
          clear hd hget hd0 hm0 hm ht;go_wp2;go_roundg (n1+1-(q+1))
          case measure=>omega
          case rel=>exact⟨q+1,by omega,rfl,by go_num,Hs,rfl⟩
        . have Hr:Hid (qcg qa c (k:Int)=(t:Int)):=by
           show _=_;rw[qns Hv.out (by rw[<-Hn1.out];exact hk) (by rw[<-Hn1.out];exact hlt) Hq.out (by rw[hget];intro e;rw[e]at hm;exact hm0 hm),ht,<-Hn1.out]
          have hgt:(0:Int)<(m:Int):=by omega
          clear hd hget hm0 hm ht;go_wp2;go_ret;exact⟨by rw[Hr.out];rfl,g1⟩
      . obtain rfl:n1=q:=by omega
        have Hr:Hid (qcg qa c (k:Int)=-1):=qqk (by have:=Hq.out;rw[Hn1.out]at this;exact this);go_wp2;go_ret;exact⟨by rw[Hr.out];rfl,g1⟩
   . have Hin:Hid ((decide (0<=wk) && decide (wk<=(n1:Int) - 1))=false):=by
      show _=_;rw[Bool.and_eq_false_iff,decide_eq_false_iff_not,decide_eq_false_iff_not];omega
     have Hr:Hid (qcg qa c wk=-1):=by
      show _=_;refine qst ?_;unfold qbs;rw[<-Hn1.out,Bool.and_eq_false_iff,decide_eq_false_iff_not,decide_eq_false_iff_not];omega
     clear hv hin;go_enter func77,ntmps77;go_wp2_with fail;refine(qck _ _ qa c _ hpW hX.cv hpl qW.out Hv.out).mono ?_;rintro e w1 ⟨rfl,hg1⟩;have hX1:=hX.new hg1;have g1:=qad hgW hg1;clear hX hgW hpW hg1 d0 d1 d2 d3;have d0:=hX1.d0;go_wp2_with fail;refine(qed _ _ _ _ Hin.out).mono ?_;rintro e w2 ⟨rfl,rfl⟩;go_wp2;go_ret;exact⟨by rw[Hr.out];rfl,g1⟩
 . have hv':qa3 qa c=false:=by simpa using hv
   have Hv:=Lib.hid hv';have Hr:Hid (qcg qa c wk=-1):=qss hv';clear hv hv';go_enter func77,ntmps77;go_wp2_with fail;refine(qck _ _ qa c _ hpW hX.cv hpl qW.out Hv.out).mono ?_;rintro e w1 ⟨rfl,hg1⟩;go_wp2;go_ret;exact⟨by rw[Hr.out];rfl,qad hgW hg1⟩
theorem qv1{w wx:World}{c:Option qj}{d k o r:Value}{b:Bool}(hg:w.grownBy wx none)(hR:Blk wx (w.heap.size+1) 29 #[.slice none 0 0,.slice none 0 0,.slice none 0 0,.slice none 0 0])(hb:b=c.isSome)(hc:CV wx (.agg #[d,k,o,r]) (c.getD qdk)):jR w c (.returned (.tuple #[.agg #[d,k,o,r],.bool b])) ((((wx.setCell ⟨w.heap.size+1,0,none⟩ d).setCell ⟨w.heap.size+1,1,none⟩ k).setCell ⟨w.heap.size+1,2,none⟩ o).setCell ⟨w.heap.size+1,3,none⟩ r):=by
 have hst:=qeg wx (w.heap.size+1) d k o r;have h2:=hc.grown hst (qh.blk hR (by decide)) (qh.blk hR (by decide));have h3:w.grownBy _ none:=qbd hg hst (λg e=>by cases e;exact .inl (Nat.le_succ _));subst hb;cases c with
 |none=>exact⟨_,rfl,h2,h3⟩
 |some c=>exact⟨_,rfl,h2,h3⟩
theorem jR.open_{w w':World}{c:Option qj}{e:Ending}(h:jR w c e w'):∃v,e=.returned (.tuple #[v,.bool c.isSome])/\CV w' v (c.getD qdk)/\w.grownBy w' none:=by
 cases c with
 |none=>exact h
 |some c=>exact h
theorem qkd(pv v:Value)(qa:List Node)(c:qj)(wk:Int)(w:World)(hp:RN w pv qa)(h:CV w v c)(hpl:qa.length<=1000000000)(hfit:c.qb.length<=1048576/\∀d∈c.qb,d.length<=1048576) :
   Calls prog 45 #[pv,v,.int .i64 wk] w (jR w (qa0 qa c wk)):=by
 obtain⟨A,n,cp,rfl,-,hn,-⟩:=hp.form';obtain⟨A1,n1,c1,A2,n2,c2,A3,n3,c3,A4,n4,c4,rfl,-,-,-,-⟩:=h.form;have B0:=zP.start h;have qW:=Lib.hid hfit;clear hn h hfit;go_enter func45,ntmps45;go_upto_region 1 with fail;generalize ((w.alloc (.cells #[.slice A1 n1 c1,.slice A2 n2 c2,.slice A3 n3 c3,.slice A4 n4 c4] 29)).alloc (.cells #[.slice none 0 0,.slice none 0 0,.slice none 0 0,.slice none 0 0] 29))=W at B0 |-;have d0:=B0.b.d0;have d1:=B0.b.d1;have d2:=B0.b.d2;have d3:=B0.b.d3;go_wp2_with fail;refine(qtr _ _ qa c wk W (hp.new B0.g) B0.b.cv hpl qW.out).mono ?_;rintro e w1 ⟨rfl,hg1⟩;have B1:=B0.new hg1;clear B0 hg1 d0 d1 d2 d3;have hge:=q3y (qa:=qa) (c:=c) (w:=wk);obtain⟨f,hf⟩:∃f,f=qcg qa c wk:=⟨_,rfl⟩;rw[<-hf]at hge |-;have Hf:=Lib.hid hf;clear hf;by_cases h1:f=-1
 . have Hr:Hid (qa0 qa c wk=none):=by show _=_;unfold qa0;rw[<-Hf.out,if_pos h1]
   have hlt:f<0:=by omega
   have y0:=B1.res.cell 0;have y1:=B1.res.cell 1;have y2:=B1.res.cell 2;have y3:=B1.res.cell 3;have f0:=B1.res.frozen 0;have f1:=B1.res.frozen 1;have f2:=B1.res.frozen 2;have f3:=B1.res.frozen 3;have hfin:=Lib.hid (qgm B1.g);clear B1 h1 hge;go_wp2_with fail;refine bodyPost_ret (v:=.tuple #[.agg #[.slice none 0 0,.slice none 0 0,.slice none 0 0,.slice none 0 0],.bool false]) (by simp[results,results45,go_sem,y0,y1,y2,y3]) rfl ?_;rw[Hr.out];exact hfin.out
 . have hlt:¬f<0:=by omega
   have d0:=B1.b.d0;have d1:=B1.b.d1;have d2:=B1.b.d2;have d3:=B1.b.d3;by_cases h2:f=wk
   . have hb:(f==wk)=true:=by simpa using h2
     have Hr:Hid (qa0 qa c wk=qc5 qa c wk):=by show _=_;unfold qa0;rw[<-Hf.out,if_neg h1,if_pos h2]
     clear h1 h2 hge;go_wp2_with fail;refine(qvz _ _ qa c wk w1 (hp.new B1.g) B1.b.cv hpl qW.out).mono ?_;rintro e w2 hout;obtain⟨v2,rfl,xm,hg2⟩:=hout.open_;have B2:=B1.new hg2;obtain⟨B1',m1',e1',B2',m2',e2',B3',m3',e3',B4',m4',e4',rfl,-,-,-,-⟩:=xm.form;generalize hb2:(qc5 qa c wk).isSome=b2;have hfin:=Lib.hid (qv1 B2.g B2.res hb2.symm xm);have y0:=B2.res.cell 0;have y1:=B2.res.cell 1;have y2:=B2.res.cell 2;have y3:=B2.res.cell 3;have f0:=B2.res.frozen 0;have f1:=B2.res.frozen 1;have f2:=B2.res.frozen 2;have f3:=B2.res.frozen 3;clear d0 d1 d2 d3 B1 B2 hg2 xm hout hb2;go_wp2_with fail;refine bodyPost_ret (v:=.tuple #[.agg #[.slice B1' m1' e1',.slice B2' m2' e2',.slice B3' m3' e3',.slice B4' m4' e4'],.bool b2]) (by simp[results,results45,go_sem,y0,y1,y2,y3]) rfl ?_;rw[Hr.out];exact hfin.out
   . have hb:(f==wk)=false:=by simpa using h2
     have Hr:Hid (qa0 qa c wk=qba qa c wk f):=by show _=_;unfold qa0;rw[<-Hf.out,if_neg h1,if_neg h2]
     clear h1 h2 hge;go_wp2_with fail;refine(qrt _ _ qa c wk f w1 (hp.new B1.g) B1.b.cv hpl qW.out).mono ?_;rintro e w2 hout;obtain⟨v2,rfl,xm,hg2⟩:=hout.open_;have B2:=B1.new hg2;obtain⟨B1',m1',e1',B2',m2',e2',B3',m3',e3',B4',m4',e4',rfl,-,-,-,-⟩:=xm.form;generalize hb2:(qba qa c wk f).isSome=b2;have hfin:=Lib.hid (qv1 B2.g B2.res hb2.symm xm);have y0:=B2.res.cell 0;have y1:=B2.res.cell 1;have y2:=B2.res.cell 2;have y3:=B2.res.cell 3;have f0:=B2.res.frozen 0;have f1:=B2.res.frozen 1;have f2:=B2.res.frozen 2;have f3:=B2.res.frozen 3;clear d0 d1 d2 d3 B1 B2 hg2 xm hout hb2;go_wp2_with fail;refine bodyPost_ret (v:=.tuple #[.agg #[.slice B1' m1' e1',.slice B2' m2' e2',.slice B3' m3' e3',.slice B4' m4' e4'],.bool b2]) (by simp[results,results45,go_sem,y0,y1,y2,y3]) rfl ?_;rw[Hr.out];exact hfin.out
def qql(cs:List Int)(k:Nat):List Int:=((range k).filter λi=>decide (cs.getD i 0=0)).map λi:Nat=>(i:Int)
def zZ(cs:List Int):List Int:=qql cs cs.length
theorem qoc{cs:List Int}{k:Nat}{x:Int}(h:cs[k]?=some x):qql cs (k+1)=qql cs k++if x=0 then [(k:Int)]else []:=by
 unfold qql;rw[range_succ,filter_append,map_append];have e:cs.getD k 0=x:=by rw[getD_eq_getElem?_getD,h];rfl
 by_cases hx:x=0
 . simp only[filter_cons,filter_nil,e,hx,decide_true,if_true,map_cons,map_nil]
 . simp only[filter_cons,filter_nil,e,hx,decide_false,Bool.false_eq_true,if_false,map_nil]
theorem qx3(cs:List Int)(k:Nat):(qql cs k).length<=k:=by
 unfold qql;rw[length_map];have:=length_filter_le (λi=>decide (cs.getD i 0=0)) (range k)
 rwa [length_range]at this
theorem qsu{qa:List Node}(hv:qaf qa=true):zZ (qbm qa)=qat qa []:=by
 have key:∀k,k<=qa.length->qql (qbm qa) k=qc0 qa [] k:=by
  intro k
  induction k with
  |zero=>intro _;rfl
  |succ k ih=>
   intro hk;have hx:qa[k]?=some qa[k]:=getElem?_eq_getElem (by omega)
   have hc:(qbm qa)[k]?=some ((qcp qa k).length:Int):=by
    unfold qbm;rw[getElem?_map,getElem?_range (by omega)];rfl
   rw[qoc hc,qfx [] hx,ih (by omega)]
   have hz:(((qcp qa k).length:Int)=0)↔qeb [] (qa[k],k)=true:=by
    unfold qeb;rw[qhr,qec hx];simp only[not_mem_nil,decide_false,Bool.not_false,Bool.true_and];constructor
    . intro h;have h0:dedup qa[k].frm=[]:=eq_nil_of_length_eq_zero (by omega);rw[List.all_eq_true];intro f hf;exfalso;have:=(qoy (i:=f.toNat)).2 ⟨f,hf,rfl⟩;rw[h0]at this;cases this
    . intro h
      have h0:qa[k].frm=[]:=by
       cases hfr:qa[k].frm with
       |nil=>rfl
       |cons a r=>rw[hfr]at h;simp at h
      rw[h0];rfl
   by_cases h0:((qcp qa k).length:Int)=0
   . rw[if_pos h0,if_pos (hz.1 h0)]
   . rw[if_neg h0,if_neg (λe=>h0 (hz.2 e)),append_nil]
 unfold zZ qat;rw[if_pos hv];have:(qbm qa).length=qa.length:=by unfold qbm;rw[length_map,length_range]
 rw[this];exact key _ (Nat.le_refl _)
theorem qod(v:Value)(cs:List Int)(w:World)(h:RI w v cs)(hl:cs.length<=1000000):Calls prog 76 #[v] w (qfw w (zZ cs)):=by
 obtain⟨A,n,c,rfl,hnc,hn⟩:=h.form';rw[<-hn]at hl;have Hn:=Lib.hid hn;have h0:qg (w.alloc (.cells #[] 3)) w.heap.size (.slice (some ⟨w.heap.size,0,none⟩) 0 0) []:=qg.empty w (Nat.le_refl _);clear hn;go_enter func76,ntmps76;go_wp2_with fail
 go_loopg [3,4] (n+1) (λmm out i wr=>∃k:Nat,k<=n/\mm=n+1-k/\i=.int .i64 k/\qg wr w.heap.size out (qql cs k)/\w.grownBy wr none)
 case atStart=>exact⟨0,Nat.zero_le _,rfl,rfl,h0,qar (qah w none) _⟩
 case round=>
  clear h0;obtain⟨k,hk,rfl,rfl,hown,hg⟩:=hrel;have hzl:=qx3 cs k;by_cases hlt:k<n
  . obtain⟨g,o,x,rfl,hx,c0⟩:=(h.new hg).at_ hlt;have hs:=qoc hx;have hsz:=hg.size;clear hx;by_cases h0:x=0
    . have hq:(x==0)=true:=by simpa using h0
      rw[if_pos h0]at hs;have Hs:=Lib.hid hs;clear hs h0;go_wp2_with (at_builtin;go_must (refine qc3 _ _ rfl rfl hown (by omega) hsz rfl rfl ?_));intro v2 w2 zM hg2;rw[<-Hs.out]at zM;have hg3:=hown.gb hg hg2 (Nat.le_refl _);obtain⟨A2,n2,c2,rfl⟩:=zM.ri.val;go_wp2;go_roundg (n+1-(k+1))
      case measure=>omega
      case rel=>exact⟨k+1,by omega,rfl,by go_num,zM,hg3⟩
    . have hq:(x==0)=false:=by simpa using h0
      rw[if_neg h0,append_nil]at hs;rw[<-hs]at hown;obtain⟨A2,n2,c2,rfl⟩:=hown.ri.val;clear hs h0;go_wp2;go_roundg (n+1-(k+1))
      case measure=>omega
      case rel=>exact⟨k+1,by omega,rfl,by go_num,hown,hg⟩
  . obtain rfl:n=k:=by omega
    obtain⟨A2,n2,c2,rfl⟩:=hown.ri.val;have ho2:qg wr w.heap.size (.slice A2 n2 c2) (zZ cs):=by unfold zZ;rw[<-Hn.out];exact hown
    go_wp2;go_ret;exact⟨_,rfl,ho2,hg⟩
theorem q66{ops:Array Oper}{rest:List Oper}{o:Oper}{a:Act}{Q:Exit->Act->World->Prop}{w:World}{l:List Int}{f:Value}
   (s x:Operand) (hgd:o.guard=none) (ho:o.op=.call {callee:=.builtin .append,args:=#[s,x],argTypes:=#[27,27]})
   {base:Nat} {v:Value} {ll:List (List Int)} {xs:List Value} (hown:LX w base v ll xs) (hf:qg w base f l) (hn:ll.length<=1000000000) (hbase:base<=w.heap.size)
   (hs:a.eval s=v) {N:Nat} (hx:a.eval x=.slice (some ⟨N,0,none⟩) 1 1) (hN:N=w.heap.size)
   (h:∀v' w',LX w' base v' (ll++[l]) (xs++[f])->w.grownBy w' v.ownBlock->wpList prog ops Q rest (a.put o.dst v') w') :
   wpList prog ops Q (o::rest) a (w.alloc (.cells #[f] 24)):=by
 subst hN;refine wpList_plain hgd λK hK=>?_;have:=qld (ops:=ops) (E:=False) (Q:=Q) (K:=K) s x hgd ho hown hf hn hbase hs hx (λv' w' h1 h2=>hK _ _ (h v' w' h1 h2))
 rwa [if_pos (by simp[Region.wanted,hgd])]at this
theorem qxb{ops:Array Oper}{rest:List Oper}{o:Oper}{a:Act}{Q:Exit->Act->World->Prop}{w:World}{l:List Int}{f:Value}
   (s x:Operand) (hgd:o.guard=none) (ho:o.op=.call {callee:=.builtin .append,args:=#[s,x],argTypes:=#[27,27]})
   {base:Nat} {v:Value} {ll:List (List Int)} (hown:j9 w base v ll) (hf:RI w f l) (hn:ll.length<=1000000000) (hbase:base<=w.heap.size)
   (hs:a.eval s=v) {N:Nat} (hx:a.eval x=.slice (some ⟨N,0,none⟩) 1 1) (hN:N=w.heap.size)
   (h:∀v' w',j9 w' base v' (ll++[l])->w.grownBy w' v.ownBlock->wpList prog ops Q rest (a.put o.dst v') w') :
   wpList prog ops Q (o::rest) a (w.alloc (.cells #[f] 24)):=by
 subst hN;exact qk8 s x hgd ho hown hf hn hbase hs hx h
theorem j9.empties{w w':World}{base m:Nat}{v:Value}{row:Option Nat}(h:j9 w base v (replicate m []))(hg:w.grownBy w' row)(hr:qh w 24 row):j9 w' base v (replicate m []):=by
 obtain⟨xs,h1,h2⟩:=h;refine⟨xs,qc4 h1 hg hr,λi l hi=>?_⟩;obtain⟨u,k1,k2⟩:=h2 i l hi
 obtain rfl:l=[]:=by
  rw[getElem?_replicate]at hi;split at hi
  . injection hi with hi;exact hi.symm
  . cases hi
 exact⟨u,k1,k2.empty w'⟩
theorem LX.qfM{w w':World}{base g n cap k:Nat}{ll:List (List Int)}{xs:List Value}{u u':Value}{l0 l':List Int}(h:LX w base (.slice (some ⟨g,0,none⟩) n cap) ll xs)(hk:k<ll.length)(hu:xs[k]?=some u)(hg:w.grownBy w' u.ownBlock)(hap:Apart xs)(ho:qg w' base u' l')(hI:qg w base u l0)(hb:u'.ownBlock=u.ownBlock∨∃b,u'.ownBlock=some b/\w.heap.size<=b) :
   LX (w'.setCell ⟨g,k,none⟩ u') base (.slice (some ⟨g,0,none⟩) n cap) (ll.set k l') (xs.set k u')/\Apart (xs.set k u'):=by
 have hNu:qh w 24 u.ownBlock:=hI.jL (by decide);have hcs:=qc4 h.1 hg hNu
 have hn:n=ll.length:=by
  rcases h.1.2 with ⟨e,_⟩|⟨_,_,_,e,_⟩
  . cases e
  . injection e
 subst hn;have hst:w'.grownBy (w'.setCell ⟨g,k,none⟩ u') (some g):=qbf (p:=⟨g,k,none⟩) (qah w' (some g)) (.inr rfl) _;have s1:=ownsRow.stored hcs k u';have hne:qh w' 3 (some g):=qh.own (v:=.slice (some ⟨g,0,none⟩) ll.length cap) hcs (by decide);have hxl:=h.len;have hkx:k<xs.length:=by omega
 refine⟨⟨by rw[length_set];exact s1.1,λi x hi=>?_⟩,?_⟩
 . by_cases hik:i=k
   . subst hik;rw[getElem?_set_self hk]at hi;obtain rfl:l'=x:=by simpa using hi
     exact⟨u',by rw[getElem?_set_self hkx],ho.grown hst hne⟩
   . rw[getElem?_set_ne (λe=>hik e.symm)]at hi;obtain⟨y,k1,k2⟩:=h.2 i x hi;refine⟨y,by rw[getElem?_set_ne (λe=>hik e.symm)];exact k1,?_⟩
     have hyu:y.ownBlock=none∨y.ownBlock≠u.ownBlock:=by
      cases hy:y.ownBlock with
      |none=>exact .inl rfl
      |some b=>
       right;intro e;rw[Apart.iff]at hap;rcases Nat.lt_or_gt_of_ne hik with hlt|hlt
       . exact hap i k y u b hlt k1 hu hy e.symm
       . exact hap k i u y b hlt hu k1 e.symm hy
     exact(k2.jN hg hyu).grown hst hne
 . rw[Apart.iff]at hap |-;have qfN:=h.lts;intro i j a b gg hij ha hb' hga hgb
   have other:∀(i:Nat) (a:Value),i≠k->xs[i]?=some a->a.ownBlock=some gg->u'.ownBlock≠some gg:=by
    intro i a hik ha hga e;rcases hb with e2|⟨b2,e2,hge⟩
    . rw[e2]at e;rcases Nat.lt_or_gt_of_ne hik with hlt|hlt
      . exact hap i k a u gg hlt ha hu hga e
      . exact hap k i u a gg hlt hu ha e hga
    . rw[e2]at e;injection e with e;have:=(qfN a (mem_of_getElem? ha) gg hga).2;omega
   by_cases hik:i=k
   . subst hik;rw[getElem?_set_self hkx]at ha;injection ha with ha;subst ha;rw[getElem?_set_ne (by omega)]at hb';exact other j b (by omega) hb' hgb hga
   . rw[getElem?_set_ne (λe=>hik e.symm)]at ha;by_cases hjk:j=k
     . subst hjk;rw[getElem?_set_self hkx]at hb';injection hb' with hb';subst hb';exact other i a hik ha hga hgb
     . rw[getElem?_set_ne (λe=>hjk e.symm)]at hb';exact hap i j a b gg hij ha hb' hga hgb
structure jO(w wx:World)(X s0 b2:Nat)(d k o r:Value)(cs:List Int)(D:List (List Int))(m:Nat)(xs:List Value):Prop where
 x:Blk wx X 29 #[d,k,o,r]
 dq:LX wx s0 d D xs
 ap:Apart xs
 kt:qg wx w.heap.size k cs
 kl:∀g,k.ownBlock=some g->g<s0
 od:∀w',RI w' o []
 ro:j9 wx b2 r (replicate m [])
 dr:r=.slice none 0 0∨∀g,d.ownBlock=some g->g<b2
 hb:s0<=b2/\w.heap.size<=s0
 hbx:b2<=wx.heap.size
 res:Blk wx w.heap.size 29 #[.slice none 0 0,.slice none 0 0,.slice none 0 0,.slice none 0 0]
 hX:w.heap.size<X
 g:w.grownBy wx none
section
variable {w wx wy:World}{X s0 b2 m:Nat}{d k o r:Value}{cs:List Int}{D:List (List Int)}{xs:List Value}
theorem jO.new(M:jO w wx X s0 b2 d k o r cs D m xs)(hg:wx.grownBy wy none):jO w wy X s0 b2 d k o r cs D m xs:=
 ⟨M.x.grown hg (by simp),M.dq.new hg,M.ap,M.kt.new hg,M.kl,M.od,M.ro.new hg,M.dr,M.hb,Nat.le_trans M.hbx hg.size,M.res.grown hg (by simp),M.hX,qad M.g hg⟩
theorem jO.kR(M:jO w wx X s0 b2 d k o (.slice none 0 0) cs D 0 xs)(hg:wx.grownBy wy d.ownBlock){v' f:Value}(ho:LX wy s0 v' (D++[[]]) (xs++[f]))(hf:∀g,f.ownBlock=some g->∀u∈xs,∀g',u.ownBlock=some g'->g'<g) :
   wy.cell? ⟨X,0,none⟩=some d/\wy.frozen? ⟨X,0,none⟩=false/\jO w (wy.setCell ⟨X,0,none⟩ v') X s0 b2 v' k o (.slice none 0 0) cs (D++[[]]) 0 (xs++[f]):=by
 have hE:qh wx 29 d.ownBlock:=M.dq.jL (by decide);have hI:qh wx 3 d.ownBlock:=M.dq.jL (by decide);have hx:=M.x.past hg hE;have hst:wy.grownBy (wy.setCell ⟨X,0,none⟩ v') (some X):=qbf (p:=⟨X,0,none⟩) (qah wy (some X)) (.inr rfl) _;have hn2:qh wy 3 (some X):=qh.blk hx (by decide);have hn3:qh wy 24 (some X):=qh.blk hx (by decide);have hg2:w.grownBy wy none:=M.dq.gb M.g hg M.hb.2;refine⟨hx.cell 0,hx.frozen 0,hx.jr 0 _,ho.grown hst hn2 hn3,?_,(M.kt.grown hg hI).grown hst hn2,M.kl,M.od,j9.nil _ _,.inl rfl,M.hb,Nat.le_trans M.hbx (Nat.le_trans hg.size hst.size),(M.res.past hg hE).grown hst (by simp;have:=M.hX;omega),M.hX,qbd hg2 hst (λg e=>by cases e;exact .inl (Nat.le_of_lt M.hX))⟩;unfold Apart;rw[pairwise_append];refine⟨M.ap,pairwise_singleton _ _,λa ha b hb g hga hgb=>?_⟩;obtain rfl:b=f:=by simpa using hb
 have:=hf g hgb a ha g hga;omega
theorem jO.kS(M:jO w wx X s0 b2 d k o r cs D m xs)(hlt:∀g,d.ownBlock=some g->g<b2)(hg:wx.grownBy wy r.ownBlock){v':Value}(ho:j9 wy b2 v' (replicate m []++[[]])) :
   wy.cell? ⟨X,3,none⟩=some r/\wy.frozen? ⟨X,3,none⟩=false/\jO w (wy.setCell ⟨X,3,none⟩ v') X s0 b2 d k o v' cs D (m+1) xs:=by
 have hE:qh wx 29 r.ownBlock:=M.ro.jL (by decide);have hI:qh wx 3 r.ownBlock:=M.ro.jL (by decide);have hx:=M.x.past hg hE;have hst:wy.grownBy (wy.setCell ⟨X,3,none⟩ v') (some X):=qbf (p:=⟨X,3,none⟩) (qah wy (some X)) (.inr rfl) _;have hn2:qh wy 3 (some X):=qh.blk hx (by decide);have hn3:qh wy 24 (some X):=qh.blk hx (by decide);have hg2:w.grownBy wy none:=M.ro.gb M.g hg (Nat.le_trans M.hb.2 M.hb.1)
 have hdq:LX wy s0 d D xs:=by
  cases hr:r.ownBlock with
  |none=>rw[hr]at hg;exact M.dq.new hg
  |some b=>
   rw[hr]at hg;refine M.dq.far hg (hr▸hI) (λe=>?_);have:=hlt b e;have:=(M.ro.lt b hr).1;omega
 have er:replicate m ([]:List Int)++[[]]=replicate (m+1) []:=by rw[replicate_succ']
 rw[er]at ho;exact⟨hx.cell 3,hx.frozen 3,hx.jr 3 _,hdq.grown hst hn2 hn3,M.ap,(M.kt.grown hg hI).grown hst hn2,M.kl,M.od,ho.grown hst hn2 hn3,.inr hlt,M.hb,Nat.le_trans M.hbx (Nat.le_trans hg.size hst.size),(M.res.past hg hE).grown hst (by simp;have:=M.hX;omega),M.hX,qbd hg2 hst (λg e=>by cases e;exact .inl (Nat.le_of_lt M.hX))⟩
theorem jO.qoH{gd n cap j:Nat}{u u':Value}{l0 l':List Int}(M:jO w wx X s0 b2 (.slice (some ⟨gd,0,none⟩) n cap) k o r cs D m xs)(hj:j<D.length)(hu:xs[j]?=some u)(hI:qg wx s0 u l0)(hg:wx.grownBy wy u.ownBlock)(ho:qg wy s0 u' l')(hb:u'.ownBlock=u.ownBlock∨∃b,u'.ownBlock=some b/\wx.heap.size<=b) :
   (∃u0,wy.cell? ⟨gd,j,none⟩=some u0/\wy.frozen? ⟨gd,j,none⟩=false)/\jO w (wy.setCell ⟨gd,j,none⟩ u') X s0 b2 (.slice (some ⟨gd,0,none⟩) n cap) k o r cs (D.set j l') m (xs.set j u'):=by
 obtain⟨hcell,-,hst,hA⟩:=M.dq.turn hj hu hg M.ap ho ⟨_,hI⟩;obtain⟨h1,h2⟩:=M.dq.qfM hj hu hg M.ap ho hI hb;have hEu:qh wx 29 u.ownBlock:=hI.jL (by decide);have hLu:qh wx 24 u.ownBlock:=hI.jL (by decide);have hgd:s0<=gd:=(M.dq.lt gd rfl).1;have hw:=M.hb.2;have hg2:w.grownBy wy none:=qbd M.g hg (λg e=>.inl (by have:=(hI.lt g e).1;omega));refine⟨hcell,(M.x.past hg hEu).past hst (hA _ (by decide)),h1,h2,(M.kt.vF hg (λb hkb hub=>by have:=M.kl b hkb;have:=(hI.lt b hub).1;omega)).grown hst (hA _ (by decide)),M.kl,M.od,?_,M.dr,M.hb,Nat.le_trans M.hbx (Nat.le_trans hg.size hst.size),(M.res.past hg hEu).past hst (hA _ (by decide)),M.hX,qbd hg2 hst (λg e=>by cases e;exact .inl (by omega))⟩;have h3:=M.ro.empties hg hLu;refine h3.far hst (hA _ (by decide)) (λe=>?_);rcases M.dr with h|h
 . rw[h]at e;cases e
 . have:=h gd rfl;have:=(M.ro.lt gd e).1;omega
end
theorem qv2{ops:Array Oper}{o:Oper}{a:Act}{K:Act->World->Prop}{Q:Exit->Act->World->Prop}{E:Prop}{w:World}{u:Int}
   (s x:Operand) (hgd:o.guard=none) (ho:o.op=.call {callee:=.builtin .append,args:=#[s,x],argTypes:=#[24,24]})
   {base:Nat} {v:Value} {l:List Int} (hown:qg w base v l) (hn:l.length<=1000000000) (hbase:base<=w.heap.size)
   (hs:a.eval s=v) {N:Nat} (hx:a.eval x=.slice (some ⟨N,0,none⟩) 1 1) (hN:N=w.heap.size)
   (h:∀v' w',qg w' base v' (l++[u])->w.grownBy w' v.ownBlock->(v'.ownBlock=v.ownBlock∨∃b,v'.ownBlock=some b/\w.heap.size<=b)->K (a.put o.dst v') w') :
   if Region.wanted o (yielded ops a.tmps)=true then Oper.wp prog o a (w.alloc (.cells #[.int .i64 u] 3)) K Q else E:=by
 subst hN;have hw:Region.wanted o (yielded ops a.tmps)=true:=by simp[Region.wanted,hgd]
 rw[if_pos hw]
 have hnews:∀j y,[int .i64 u][j]?=some y->(w.alloc (.cells #[.int .i64 u] 3)).cell? ((⟨w.heap.size,0,none⟩:Addr).add j)=some y:=by
  intro j y hj;have hadd:(⟨w.heap.size,0,none⟩:Addr).add j=⟨w.heap.size,j,none⟩:=by unfold Addr.add;split<;>simp_all
  rw[hadd,cell?_alloc_new];simpa using hj
 obtain⟨v',w',hr,h2,h3,h4⟩:=qj3 (P:=prog) (t:=24) (ty:=o.type) (c:=1) underlying24 qok rfl (by decide) (ownsRow.alloc hown (.cells #[.int .i64 u] 3)) (news:=[.int .i64 u]) rfl hnews (by intro y hy;simp at hy;subst hy;rfl) (by unfold maxLen;omega) (by omega) (by simp;omega);unfold Oper.wp execOp;simp only[ho,resolve,invoke,builtin,Sem.run_bind,Sem.run_pure,Result.andThen_ok,map_toArray,map_cons,map_nil,hs,hx,hr];refine h v' w' (by unfold qg;simpa using h2) ⟨h3.os,h3.tape,h3.output,Nat.le_trans (by simp) h3.size,λk hk hne=>(h3.block k (by simp;omega) hne).trans (Below.heap_alloc w _ k hk)⟩ (h4.imp id λe=>⟨_,e,by simp⟩)
theorem qts{ops:Array Oper}{o:Oper}{a:Act}{K:Act->World->Prop}{Q:Exit->Act->World->Prop}{E:Prop}{w:World}{u:Int}
   (s x:Operand) (hgd:o.guard=none) (ho:o.op=.call {callee:=.builtin .append,args:=#[s,x],argTypes:=#[24,24]})
   {base:Nat} {v:Value} {l:List Int} (hown:qg w.drew base v l) (hn:l.length<=1000000000) (hbase:base<=w.heap.size)
   (hs:a.eval s=v) {N:Nat} (hx:a.eval x=.slice (some ⟨N,0,none⟩) 1 1) (hN:N=w.heap.size)
   (h:∀v' w',qg w' base v' (l++[u])->w.drew.grownBy w' v.ownBlock->(v'.ownBlock=v.ownBlock∨∃b,v'.ownBlock=some b/\w.drew.heap.size<=b)->K (a.put o.dst v') w') :
   if Region.wanted o (yielded ops a.tmps)=true then Oper.wp prog o a (w.alloc (.cells #[.int .i64 u] 3)).drew K Q else E:=
 qv2 (w:=w.drew) s x hgd ho hown hn hbase hs hx hN h
theorem qx4{qa:List Node}{n k:Nat}{x:Int}(hx:(qat qa [])[k]?=some x):dealt qa n (k+1)=(dealt qa n k).set (k%n) ((dealt qa n k).getD (k%n) []++[x]):=by
 obtain⟨hk,rfl⟩:=List.getElem?_eq_some_iff.1 hx;unfold dealt;have hl:((qat qa []).take k).length=k:=by rw[length_take];omega
 rw[take_succ_eq_append_getElem hk,zipIdx_append,foldl_append,hl];simp only[zipIdx_cons,zipIdx_nil,foldl_cons,foldl_nil,Nat.zero_add]
theorem q1q{qa:List Node}{n k:Nat}(hn:0<n)(hk:k<=(qat qa []).length):(dealt qa n k).length=n:=(qt8 n hn (qat qa []) k hk).1
theorem q1r{qa:List Node}{n k:Nat}(hn:0<n)(hk:k<=(qat qa []).length)(qfG:k<=10):∀l∈dealt qa n k,l.length<=10:=by
 intro l hl;have h1:=(qt8 n hn (qat qa []) k hk).2.length_eq;have h2:l.length<=(dealt qa n k).flatten.length:=(sublist_flatten_of_mem hl).length_le;have h3:((qat qa []).take k).length<=10:=by rw[length_take];omega
 unfold dealt at h2;omega
theorem qv3{qa:List Node}{n:Int}(h:qaf qa=false):qbv qa n=none:=by unfold qbv;rw[h];rfl
theorem qv4{qa:List Node}{n:Int}(h:¬(1<=n/\n<=4)):qbv qa n=none:=by
 unfold qbv;split
 . rename_i hc;simp only[Bool.and_eq_true,decide_eq_true_eq]at hc;exact absurd hc.2 h
 . rfl
theorem qx5{qa:List Node}{n:Nat}(hv:qaf qa=true)(h1:1<=n)(h4:n<=4):qbv qa (n:Int)=some {qb:=dealt qa n (qat qa []).length,counts:=qbm qa,done:=[],rows:=replicate qa.length []}:=by
 unfold qbv;rw[hv,decide_eq_true (show (1:Int)<=n by omega),decide_eq_true (show (n:Int)<=4 by omega),Int.toNat_natCast];rfl
theorem qv5{w wx:World}(hg:w.grownBy wx none):jR w none (.returned (.tuple #[.agg #[.slice none 0 0,.slice none 0 0,.slice none 0 0,.slice none 0 0],.bool false])) ((((wx.setCell ⟨w.heap.size,0,none⟩ (.slice none 0 0)).setCell ⟨w.heap.size,1,none⟩ (.slice none 0 0)).setCell ⟨w.heap.size,2,none⟩ (.slice none 0 0)).setCell ⟨w.heap.size,3,none⟩ (.slice none 0 0)):=
 ⟨_,rfl,CV.zero _,qbd hg (qeg wx w.heap.size (.slice none 0 0) (.slice none 0 0) (.slice none 0 0) (.slice none 0 0)) (λg e=>by cases e;exact .inl (Nat.le_refl _))⟩
theorem q9k{w wx:World}{c:qj}{d k o r:Value}(hg:w.grownBy wx none)(hR:Blk wx w.heap.size 29 #[.slice none 0 0,.slice none 0 0,.slice none 0 0,.slice none 0 0])(hc:CV wx (.agg #[d,k,o,r]) c):jR w (some c) (.returned (.tuple #[.agg #[d,k,o,r],.bool true])) ((((wx.setCell ⟨w.heap.size,0,none⟩ d).setCell ⟨w.heap.size,1,none⟩ k).setCell ⟨w.heap.size,2,none⟩ o).setCell ⟨w.heap.size,3,none⟩ r):=
 have hst:=qeg wx w.heap.size d k o r
 ⟨_,rfl,hc.grown hst (qh.blk hR (by decide)) (qh.blk hR (by decide)),qbd hg hst (λg e=>by cases e;exact .inl (Nat.le_refl _))⟩
theorem qv6(pv:Value)(qa:List Node)(n:Int)(w:World)(hp:RN w pv qa)(hpl:qa.length<=1000000000):Calls prog 44 #[pv,.int .i64 n] w (jR w (qbv qa n)):=by
 obtain⟨A,np,cp,rfl,-,hnp,-⟩:=hp.form';have Hnp:=Lib.hid hnp;have hR0:=Blk.new w 29 #[.slice none 0 0,.slice none 0 0,.slice none 0 0,.slice none 0 0];have hgR:=grownBy_alloc w (.cells #[.slice none 0 0,.slice none 0 0,.slice none 0 0,.slice none 0 0] 29) none;clear hnp;by_cases hv:qaf qa=true
 . have Hv:=Lib.hid hv;have qfO:np<=10:=by have:=qap hv;have:=Hnp.out;omega
   by_cases hin:1<=n/\n<=4
   . have Hin:Hid ((decide (1<=n)&&decide (n<=4))=true):=by show _=_;simp[hin.1,hin.2]
     obtain⟨n,rfl⟩:=Int.eq_ofNat_of_zero_le (show (0:Int)<=n by omega);have h1n:1<=n:=by omega
     have hn4:n<=4:=by omega
     have Hr:Hid (qbv qa (n:Int)=some {qb:=dealt qa n (qat qa []).length,counts:=qbm qa,done:=[],rows:=replicate qa.length []}):=qx5 hv h1n hn4;clear hv hin;go_enter func44,ntmps44;go_upto_region 1 with fail;generalize w.alloc (.cells #[.slice none 0 0,.slice none 0 0,.slice none 0 0,.slice none 0 0] 29)=W at hR0 hgR |-;go_wp2_with fail;refine(qb7 _ qa W (hp.new hgR) hpl Hv.out).mono ?_;rintro e w1 ⟨rfl,hg1⟩;have g1:=qad hgR hg1;have hR1:=hR0.grown hg1 (by simp);clear hgR hR0 hg1;go_wp2_with fail;refine(qed _ _ _ _ Hin.out).mono ?_;rintro e w2 ⟨rfl,rfl⟩;go_wp2_with fail;refine(qqm _ qa w1 (hp.new g1) Hv.out).mono ?_;rintro e w2 ⟨kv,rfl,hkv,hg2⟩;obtain⟨Ak,nk,ck,rfl⟩:=hkv.ri.val;have g2:=qad g1 hg2;have hR2:=hR1.grown hg2 (by simp);have hkw:=hkv.low g1.size;have kT:=hR2.lt;clear g1 hR1 hg2 hkv;go_upto_region 4 with fail;have hE0:qg (w2.alloc (.cells #[] 3)) w2.heap.size (.slice (some ⟨w2.heap.size,0,none⟩) 0 0) []:=qg.empty w2 (Nat.le_refl _);have hgE:=grownBy_alloc w2 (.cells #[] 3) none;have hBX:=Blk.new (w2.alloc (.cells #[] 3)) 29 #[.slice none 0 0,.slice Ak nk ck,.slice (some ⟨w2.heap.size,0,none⟩) 0 0,.slice none 0 0];have hgX:=grownBy_alloc (w2.alloc (.cells #[] 3)) (.cells #[.slice none 0 0,.slice Ak nk ck,.slice (some ⟨w2.heap.size,0,none⟩) 0 0,.slice none 0 0] 29) none;have hg3:=qad hgE hgX
     have M0:jO w ((w2.alloc (.cells #[] 3)).alloc (.cells #[.slice none 0 0,.slice Ak nk ck,.slice (some ⟨w2.heap.size,0,none⟩) 0 0,.slice none 0 0] 29)) (w2.alloc (.cells #[] 3)).heap.size w2.heap.size w2.heap.size (.slice none 0 0) (.slice Ak nk ck) (.slice (some ⟨w2.heap.size,0,none⟩) 0 0) (.slice none 0 0) (qbm qa) [] 0 []:=
      ⟨hBX,LX.nil _ _,.nil,hkw.new hg3,λg hg=>(hkw.lt g hg).2,λw'=>hE0.ri.empty w',j9.nil _ _,.inl rfl,⟨Nat.le_refl _,g2.size⟩,hg3.size,hR2.grown hg3 (by simp),Nat.lt_of_lt_of_le kT hgE.size,qad g2 hg3⟩
     rw[size_alloc]at M0;have hs0:w2.heap.size<=((w2.alloc (.cells #[] 3)).alloc (.cells #[.slice none 0 0,.slice Ak nk ck,.slice (some ⟨w2.heap.size,0,none⟩) 0 0,.slice none 0 0] 29)).heap.size:=hg3.size;generalize ((w2.alloc (.cells #[] 3)).alloc (.cells #[.slice none 0 0,.slice Ak nk ck,.slice (some ⟨w2.heap.size,0,none⟩) 0 0,.slice none 0 0] 29))=w3 at M0 hs0 |-;clear hE0 hgE hBX hgX hg3 hkw hR2 kT g2;generalize w2.heap.size+1=X at M0 |-;generalize w2.heap.size=s0 at M0 hs0 |-;go_wp2_with fail
     go_loopg [7] (n+1) (λmm i wr=>∃(k:Nat) (d:Value) (xs:List Value),k<=n/\mm=n+1-k/\i=.int .i64 k/\jO w wr X s0 s0 d (.slice Ak nk ck) (.slice (some ⟨s0,0,none⟩) 0 0) (.slice none 0 0) (qbm qa) (replicate k []) 0 xs)
     case atStart=>exact⟨0,_,_,Nat.zero_le _,rfl,rfl,M0⟩
     case round=>
      clear M0 hs0;obtain⟨k,d,xs,hk,rfl,rfl,M⟩:=hrel;by_cases hlt:k<n
      . obtain⟨Ad,nd,cd,rfl⟩:=M.dq.rl.val;have x0:=M.x.cell 0;have hXl:X<wr.heap.size:=M.x.lt;have hE:qg (wr.alloc (.cells #[] 3)) wr.heap.size (.slice (some ⟨wr.heap.size,0,none⟩) 0 0) []:=qg.empty wr (Nat.le_refl _);have hgE:=grownBy_alloc wr (.cells #[] 3) none;have ME:=M.new hgE;have hbE:s0<=wr.heap.size:=M.hbx;have hlen:(replicate k ([]:List Int)).length<=1000000000:=by rw[length_replicate];omega
        go_wp2_with (at_builtin;go_must (refine q66 (.tmp 30) (.tmp 32) rfl rfl ME.dq (hE.low hbE) hlen ME.hbx rfl rfl (by simp) ?_));intro v5 w5 qX hg5
        obtain⟨z1,z2,M5⟩:=ME.kR hg5 qX (λg hg u hu g' hg'=>by
         have h1:=(hE.lt g hg).1;have h2:=(M.dq.lts u hu g' hg').2;omega)
        have er:replicate k ([]:List Int)++[[]]=replicate (k+1) []:=by rw[replicate_succ']
        rw[er]at M5;obtain⟨A5,n5,c5,rfl⟩:=qX.rl.val;clear qX hg5 ME hE hgE x0;go_wp2;go_roundg (n+1-(k+1))
        case measure=>omega
        case rel=>exact⟨k+1,_,_,by omega,rfl,by go_num,M5⟩
      . obtain rfl:n=k:=by omega
        obtain⟨w4,rfl⟩:∃w4:World,w4=wr:=⟨_,rfl⟩;have M0:jO w w4 X s0 w4.heap.size d (.slice Ak nk ck) (.slice (some ⟨s0,0,none⟩) 0 0) (.slice none 0 0) (qbm qa) (replicate n []) 0 xs:={M with ro:=j9.nil _ _,dr:=.inl rfl,hb:=⟨M.hbx,M.hb.2⟩,hbx:=Nat.le_refl _};have Hlt:Hid (∀g,d.ownBlock=some g->g<w4.heap.size):=λg hg=>(M.dq.lt g hg).2;clear M;go_wp2_with fail;generalize w4.heap.size=b2 at M0 Hlt
        go_loopg [8] (np+1) (λmm i wr=>∃(k:Nat) (r:Value),k<=np/\mm=np+1-k/\i=.int .i64 k/\jO w wr X s0 b2 d (.slice Ak nk ck) (.slice (some ⟨s0,0,none⟩) 0 0) r (qbm qa) (replicate n []) k xs)
        case atStart=>exact⟨0,_,Nat.zero_le _,rfl,rfl,M0⟩
        case round=>
         clear M0;obtain⟨k,r,hk,rfl,rfl,M⟩:=hrel;by_cases hlt:k<np
         . obtain⟨Ar,nr,cr,rfl⟩:=M.ro.rl.val;have x0:=M.x.cell 3;have hXl:X<wr.heap.size:=M.x.lt;have hE:qg (wr.alloc (.cells #[] 3)) wr.heap.size (.slice (some ⟨wr.heap.size,0,none⟩) 0 0) []:=qg.empty wr (Nat.le_refl _);have hgE:=grownBy_alloc wr (.cells #[] 3) none;have ME:=M.new hgE;have hlen:(replicate k ([]:List Int)).length<=1000000000:=by rw[length_replicate];omega
           go_wp2_with (at_builtin;go_must (refine qxb (.tmp 42) (.tmp 44) rfl rfl ME.ro hE.ri hlen ME.hbx rfl rfl (by simp) ?_));intro v5 w5 qX hg5;obtain⟨z1,z2,M5⟩:=ME.kS Hlt.out hg5 qX;obtain⟨A5,n5,c5,rfl⟩:=qX.rl.val;clear qX hg5 ME hE hgE x0;go_wp2;go_roundg (np+1-(k+1))
           case measure=>omega
           case rel=>exact⟨k+1,_,by omega,rfl,by go_num,M5⟩
         . obtain rfl:np=k:=by omega
           obtain⟨gd,zN,rfl,hcd,hbd⟩:=M.dq.form (n:=n) (by rw[length_replicate]) (by omega);obtain⟨Ar,nr,cr,rfl⟩:=M.ro.rl.val;have x1:=M.x.cell 1;obtain⟨w5,rfl⟩:∃w5:World,w5=wr:=⟨_,rfl⟩;have hcl:(qbm qa).length<=1000000:=by unfold qbm;rw[length_map,length_range];have:=Hnp.out;omega
           go_wp2_with fail;refine(qod _ (qbm qa) w5 M.kt.ri hcl).mono ?_;rintro e w6 ⟨rv,rfl,hrv,hg6⟩;rw[qsu Hv.out]at hrv;have M6:=M.new hg6;have hr6:=hrv.ri;obtain⟨Av,nv,cv,rfl⟩:=hr6.val;have hnv:=hr6.len;have Hnv:=Lib.hid hnv;have qfP:nv<=10:=by rw[hnv];have:=qht qa [];have:=Hnp.out;omega
           have hrb:Hid (∀g,(slice Av nv cv).ownBlock=some g->w5.heap.size<=g):=λg hg=>(hrv.lt g hg).1
           have MD:jO w w6 X s0 b2 (.slice (some ⟨gd,0,none⟩) n zN) (.slice Ak nk ck) (.slice (some ⟨s0,0,none⟩) 0 0) (.slice Ar nr cr) (qbm qa) (dealt qa n 0) np xs:=by
            have e:dealt qa n 0=replicate n []:=by unfold dealt;simp
            rw[e];exact M6
           have hxb:Hid (∀u∈xs,∀g,u.ownBlock=some g->g<w5.heap.size):=λu hu g hg=>(M.dq.lts u hu g hg).2;clear x1 M M6 hg6 hnv hr6
           have qiH:∀u∈xs,∀g,u.ownBlock=some g->(slice Av nv cv).ownBlock≠some g:=λu hu g hg e=>by
            have h1:=hxb.out u hu g hg;have h2:=hrb.out g e;omega
           generalize w5.heap.size=s1 at hrv hrb hxb;clear hrb hxb;have hn0:¬((n:Int)=0):=by omega
           have qoI:¬(n=0):=by omega
           go_wp2_with fail
           go_loopg [10] (nv+1) (λmm i wr=>∃(k:Nat) (xs:List Value),k<=nv/\mm=nv+1-k/\i=.int .i64 k/\jO w wr X s0 b2 (.slice (some ⟨gd,0,none⟩) n zN) (.slice Ak nk ck) (.slice (some ⟨s0,0,none⟩) 0 0) (.slice Ar nr cr) (qbm qa) (dealt qa n k) np xs/\qg wr s1 (.slice Av nv cv) (qat qa [])/\Hid (∀u∈xs,∀g,u.ownBlock=some g->(slice Av nv cv).ownBlock≠some g))
           case atStart=>exact⟨0,_,Nat.zero_le _,rfl,rfl,MD,hrv,qiH⟩
           case round=>
            clear MD hrv qiH;obtain⟨k,xs,hk,rfl,rfl,M,hrv,hap⟩:=hrel;by_cases hlt:k<nv
            . obtain⟨g,o,x,rfl,hx,c0⟩:=hrv.ri.at_ hlt;obtain⟨j,hj⟩:∃j,j=k%n:=⟨_,rfl⟩;have hjn:j<n:=by rw[hj];exact Nat.mod_lt _ (by omega)
              have hmod:(k:Int).tmod (n:Int)=(j:Int):=by rw[hj];rfl
              have hkr:k<=(qat qa []).length:=by rw[<-Hnv.out];exact hk
              have hdl:=q1q (qa:=qa) (n:=n) (k:=k) (by omega) hkr;have hjD:j<(dealt qa n k).length:=by rw[hdl];exact hjn
              obtain⟨l0,u,hl0,hu,cu,hou⟩:=M.dq.at_ hjD;have zY:l0.length<=10:=q1r (by omega) hkr (by omega) l0 (mem_of_getElem? hl0)
              have Hs:Hid (dealt qa n (k+1)=(dealt qa n k).set j (l0++[x])):=by
               show _=_;rw[qx4 hx,<-hj,getD_eq_getElem?_getD,hl0];rfl
              obtain⟨Ae,ne,ce,rfl⟩:=hou.ri.val;have x0:=M.x.cell 0;have hji:(j:Int)<(n:Int):=by omega
              have hki:(k:Int)<(nv:Int):=by omega
              have hXl:X<wr.heap.size:=M.x.lt;have hgl:g<wr.heap.size:=by simpa using qf5 c0
              have qtR:gd<wr.heap.size:=(M.dq.lt gd rfl).2;have hDr:wr.grownBy wr.drew none:=qay (qah _ none);have xQ:=hou.new hDr;have MDr:=M.new hDr;have hbs:s0<=wr.heap.size:=Nat.le_trans M.hb.1 M.hbx;have hum:=mem_of_getElem? hu;have Hj:=Lib.hid hj;clear hx hj hl0 hdl;go_wp2_with fail
              go_region_law (refine qts (w:=wr) (u:=x) (base:=s0) (v:=.slice Ae ne ce) (l:=l0) (.tmp 67) (.tmp 72) rfl rfl xQ (by omega) hbs rfl rfl rfl ?_;intro v' w4 qx hg4 hb4;have hEu:qh wr.drew 29 (ownBlock (.slice Ae ne ce)):=xQ.jL (by decide);have x04:=(MDr.x.past hg4 hEu).cell 0;obtain⟨⟨u0,cR,fR⟩,M5⟩:=MDr.qoH hjD hu xQ hg4 qx hb4;obtain⟨A4,n4',c4,rfl⟩:=qx.ri.val)
              all_goals
               have hst:w4.grownBy (w4.setCell ⟨gd,j,none⟩ (.slice A4 n4' c4)) (some gd):=qbf (p:=⟨gd,j,none⟩) (qah w4 (some gd)) (.inr rfl) _;have hI4:qh w4 3 (some gd):=(qc4 MDr.dq.1 hg4 (xQ.jL (by decide))) |> λh=>qh.own h (by decide);rw[<-Hs.out]at M5;have qoJ:=((hrv.new hDr).vF hg4 (λb hb e=>hap.out _ hum b e hb)).grown hst hI4
               have qoK:Hid (∀y∈xs.set j (.slice A4 n4' c4),∀b,y.ownBlock=some b->(slice (some ⟨g,o,none⟩) nv cv).ownBlock≠some b):=by
                show ∀y∈_,_;intro y hy b hyb e;rcases mem_or_eq_of_mem_set hy with hy|rfl
                . exact hap.out y hy b hyb e
                . rcases hb4 with e2|⟨b2,e2,hge⟩
                  . exact hap.out _ hum b (e2▸hyb) e
                  . rw[e2]at hyb;injection hyb with hyb;have h1:=(hrv.lt b e).2;have h2:wr.drew.heap.size=wr.heap.size:=rfl;omega
               clear M MDr hrv hap hou xQ qx hg4 hb4 hEu x04 hst hI4 x0 cu c0;go_wp2;go_roundg (nv+1-(k+1))
               case measure=>omega
               case rel=>exact⟨k+1,_,by omega,rfl,by go_num,M5,qoJ,qoK⟩
            . obtain rfl:nv=k:=by omega
              have hcv:CV wr (.agg #[.slice (some ⟨gd,0,none⟩) n zN,.slice Ak nk ck,.slice (some ⟨s0,0,none⟩) 0 0,.slice Ar nr cr]) {qb:=dealt qa n (qat qa []).length,counts:=qbm qa,done:=[],rows:=replicate qa.length []}:=by
               refine⟨_,_,_,_,rfl,?_,M.kt.ri,M.od wr,?_⟩
               . rw[<-Hnv.out];exact M.dq.rl
               . rw[<-Hnp.out];exact M.ro.rl
              have x0:=M.x.cell 0;have x1:=M.x.cell 1;have x2:=M.x.cell 2;have x3:=M.x.cell 3;have y0:=M.res.cell 0;have y1:=M.res.cell 1;have y2:=M.res.cell 2;have y3:=M.res.cell 3;have f0:=M.res.frozen 0;have f1:=M.res.frozen 1;have f2:=M.res.frozen 2;have f3:=M.res.frozen 3;have hfin:=Lib.hid (q9k M.g M.res hcv);clear M hcv hrv hap;go_wp2_with fail;refine bodyPost_ret (v:=.tuple #[.agg #[.slice (some ⟨gd,0,none⟩) n zN,.slice Ak nk ck,.slice (some ⟨s0,0,none⟩) 0 0,.slice Ar nr cr],.bool true]) (by simp[results,results44,go_sem,y0,y1,y2,y3]) rfl ?_;rw[Hr.out];exact hfin.out
   . have Hin:Hid ((decide (1<=n) && decide (n<=4))=false):=by
      show _=_;rw[Bool.and_eq_false_iff,decide_eq_false_iff_not,decide_eq_false_iff_not];omega
     have Hr:Hid (qbv qa n=none):=qv4 hin;clear hv hin;go_enter func44,ntmps44;go_upto_region 1 with fail;generalize w.alloc (.cells #[.slice none 0 0,.slice none 0 0,.slice none 0 0,.slice none 0 0] 29)=W at hR0 hgR |-;go_wp2_with fail;refine(qb7 _ qa W (hp.new hgR) hpl Hv.out).mono ?_;rintro e w1 ⟨rfl,hg1⟩;have g1:=qad hgR hg1;have hR1:=hR0.grown hg1 (by simp);have y0:=hR1.cell 0;have y1:=hR1.cell 1;have y2:=hR1.cell 2;have y3:=hR1.cell 3;have f0:=hR1.frozen 0;have f1:=hR1.frozen 1;have f2:=hR1.frozen 2;have f3:=hR1.frozen 3;have hfin:=Lib.hid (qv5 g1);clear hgR hR0 hg1 hR1 g1;go_wp2_with fail;refine(qed _ _ _ _ Hin.out).mono ?_;rintro e w2 ⟨rfl,rfl⟩;go_wp2_with fail;refine bodyPost_ret (v:=.tuple #[.agg #[.slice none 0 0,.slice none 0 0,.slice none 0 0,.slice none 0 0],.bool false]) (by simp[results,results44,go_sem,y0,y1,y2,y3]) rfl ?_;rw[Hr.out];exact hfin.out
 . have hv':qaf qa=false:=by simpa using hv
   have Hv:=Lib.hid hv';have Hr:Hid (qbv qa n=none):=qv3 hv';clear hv hv';go_enter func44,ntmps44;go_upto_region 1 with fail;generalize w.alloc (.cells #[.slice none 0 0,.slice none 0 0,.slice none 0 0,.slice none 0 0] 29)=W at hR0 hgR |-;go_wp2_with fail;refine(qb7 _ qa W (hp.new hgR) hpl Hv.out).mono ?_;rintro e w1 ⟨rfl,hg1⟩;have g1:=qad hgR hg1;have hR1:=hR0.grown hg1 (by simp);have y0:=hR1.cell 0;have y1:=hR1.cell 1;have y2:=hR1.cell 2;have y3:=hR1.cell 3;have f0:=hR1.frozen 0;have f1:=hR1.frozen 1;have f2:=hR1.frozen 2;have f3:=hR1.frozen 3;have hfin:=Lib.hid (qv5 g1);clear hgR hR0 hg1 hR1 g1;go_wp2_with fail;refine bodyPost_ret (v:=.tuple #[.agg #[.slice none 0 0,.slice none 0 0,.slice none 0 0,.slice none 0 0],.bool false]) (by simp[results,results44,go_sem,y0,y1,y2,y3]) rfl ?_;rw[Hr.out];exact hfin.out
end
end Go.Proofs.YtacemdoejblgaaaGreatDoor
