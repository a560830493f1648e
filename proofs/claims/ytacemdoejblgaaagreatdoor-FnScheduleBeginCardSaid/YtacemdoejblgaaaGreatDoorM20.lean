/- Part M20. Conditions: each statement's. -/
import Derived.Test.YtacemdoejblgaaaGreatDoorM19
import Derived.LaidEql
import Derived.Stop.Asserts
import Derived.RowKitTokens
import Derived.Maps.OwnOps
import Derived.Maps.OwnSet
namespace Go.Proofs.YtacemdoejblgaaaGreatDoor
open List Tryz Value
set_option maxRecDepth 100000
set_option maxHeartbeats 6400000
section
open Go.RowKit
theorem qbi(pv v:Value)(qa:List Node)(c:qj)(w:World)(hp:RN w pv qa)(h:CV w v c)(hfit:∀d∈c.qb,d.length<=1048576){b:Bool}(hb:qa3 qa c=b) :
   Calls prog 16 #[pv,v] w λe w'=>e=.returned (.bool b)/\w.grownBy w' none:=hb▸qrg pv v qa c w hp h hfit
theorem qj6(pv v:Value)(qa:List Node)(c:qj)(w:World)(hp:RN w pv qa)(h:CV w v c)(hfit:∀d∈c.qb,d.length<=1048576) :
   Calls prog 54 #[pv,v] w λe w'=>e=.returned (.int .i64 (qf0 qa c))/\w.grownBy w' none:=by
 obtain⟨A0,n0,c0,rfl,-,hn0,-⟩:=hp.form';obtain⟨A1,n1,c1,A2,n2,c2,A3,n3,c3,A4,n4,c4,rfl,h1,h2,h3,h4⟩:=h.form;have Hn0:=Lib.hid hn0;have Hn3:=Lib.hid h3.len;have hB:=h.box;have hg:=World.grownBy_alloc w (.cells #[.slice A1 n1 c1,.slice A2 n2 c2,.slice A3 n3 c3,.slice A4 n4 c4] 29) none;have k0:=hp.new hg;have qW:=Lib.hid hfit;clear hn0 h1 h2 h3 h4 hp h hfit;by_cases hv:qa3 qa c=true
 . have Hv:=Lib.hid hv;have hok:=qbp.1 hv;have vV:n0<=10:=by have:=qap hok.pv;have:=Hn0.out;omega
   have hn3:n3<=n0:=by have:=q0u hok.order;have:=Hn0.out;have:=Hn3.out;omega
   have Hr:Hid (qf0 qa c=(n0:Int)-(n3:Int)):=by
    show _=_;unfold qf0;rw[if_pos hv,Hn0.out,Hn3.out]
   clear hv hok;go_enter func54,ntmps54;go_upto_region 1 with fail;generalize w.alloc (.cells #[.slice A1 n1 c1,.slice A2 n2 c2,.slice A3 n3 c3,.slice A4 n4 c4] 29)=W at hB hg k0 |-;have d0:=hB.d0;have d1:=hB.d1;have d2:=hB.d2;have d3:=hB.d3;go_wp2_with fail;refine(qbi _ _ qa c W k0 hB.cv qW.out Hv.out).mono ?_;rintro e w1 ⟨rfl,hg1⟩;have B1:=hB.new hg1;clear d0 d1 d2 d3;have d2:=B1.d2;have g1:=qad hg hg1;have hw:IntKind.i64.wrap ((n0:Int)-(n3:Int))=(n0:Int)-(n3:Int):=IntWalk.i64_in _ (by omega);go_wp2;go_ret;exact⟨by rw[Hr.out];rfl,g1⟩
 . have hv':qa3 qa c=false:=by simpa using hv
   have Hv:=Lib.hid hv'
   have Hr:Hid (qf0 qa c=-1):=by
    show _=_;unfold qf0;rw[if_neg hv]
   clear hv hv';go_enter func54,ntmps54;go_upto_region 1 with fail;generalize w.alloc (.cells #[.slice A1 n1 c1,.slice A2 n2 c2,.slice A3 n3 c3,.slice A4 n4 c4] 29)=W at hB hg k0 |-;have d0:=hB.d0;have d1:=hB.d1;have d2:=hB.d2;have d3:=hB.d3;go_wp2_with fail;refine(qbi _ _ qa c W k0 hB.cv qW.out Hv.out).mono ?_;rintro e w1 ⟨rfl,hg1⟩;have g1:=qad hg hg1;go_wp2;go_ret;exact⟨by rw[Hr.out];rfl,g1⟩
theorem qcu(v:Value)(c:qj)(x:Int)(w:World)(h:CV w v c){b:Bool}(hb:qbs c x=b) :
   Calls prog 88 #[v,.int .i64 x] w λe w'=>e=.returned (.bool b)/\w.grownBy w' none:=by
 subst hb;obtain⟨A1,n1,c1,A2,n2,c2,A3,n3,c3,A4,n4,c4,rfl,h1,h2,h3,h4⟩:=h.form;have Hn1:=Lib.hid h1.len;have hB:=h.box;have hg:=World.grownBy_alloc w (.cells #[.slice A1 n1 c1,.slice A2 n2 c2,.slice A3 n3 c3,.slice A4 n4 c4] 29) none;clear h1 h2 h3 h4 h;have fin:∀w' b,w.grownBy w' none->qbs c x=b->(Ending.returned (.bool b)=.returned (.bool (qbs c x))/\w.grownBy w' none):=λw' b hg hr=>⟨by rw[hr],hg⟩
 have hoff:¬(0<=x/\x<n1)->qbs c x=false:=λhno=>by
  cases hw:qbs c x with
  |false=>rfl
  |true=>exact absurd (by have:=qb1.1 hw;have:=Hn1.out;omega) hno
 by_cases h0:0<=x
 . by_cases hx:x<(n1:Int)
   . have Hr:Hid (qbs c x=true):=qb1.2 ⟨h0,by have:=Hn1.out;omega⟩;clear hoff;go_enter func88,ntmps88;go_upto_region 1 with fail;generalize w.alloc (.cells #[.slice A1 n1 c1,.slice A2 n2 c2,.slice A3 n3 c3,.slice A4 n4 c4] 29)=W at hB hg |-;have d0:=hB.d0;have hfin:=Lib.hid (fin W true hg Hr.out);clear fin;go_wp2;go_ret;exact hfin.out
   . have Hr:Hid (qbs c x=false):=hoff (λe=>hx e.2);clear hoff;go_enter func88,ntmps88;go_upto_region 1 with fail;generalize w.alloc (.cells #[.slice A1 n1 c1,.slice A2 n2 c2,.slice A3 n3 c3,.slice A4 n4 c4] 29)=W at hB hg |-;have d0:=hB.d0;have hfin:=Lib.hid (fin W false hg Hr.out);clear fin;go_wp2;go_ret;exact hfin.out
 . have Hr:Hid (qbs c x=false):=hoff (λe=>h0 e.1);clear hoff;go_enter func88,ntmps88;go_upto_region 1 with fail;generalize w.alloc (.cells #[.slice A1 n1 c1,.slice A2 n2 c2,.slice A3 n3 c3,.slice A4 n4 c4] 29)=W at hB hg |-;have hfin:=Lib.hid (fin W false hg Hr.out);clear fin;go_wp2;go_ret;exact hfin.out
theorem zi.val{w:World}{base:Nat}{v:Value}{ll:List (List Int)}(h:zi w base v ll):∃A n c,v=.slice A n c:=let ⟨_,h1,_⟩:=h;h1.rl.val
theorem LX.ltz{w:World}{base:Nat}{v:Value}{ll:List (List Int)}{xs:List Value}(h:LX w base v ll xs):∀u∈xs,∀g,u.ownBlock=some g->base<=g/\g<w.heap.size:=by
 intro u hu g hg;obtain⟨i,hi,rfl⟩:=getElem_of_mem hu;have hl:=h.len;obtain⟨u',k1,k2⟩:=h.2 i _ (getElem?_eq_getElem (by omega));rw[getElem?_eq_getElem hi]at k1;rw[Option.some.inj k1]at hg;exact k2.lt g hg
theorem qbP.qcN{w w':World}{b:Nat}{v:Value}{c:qj}{row:Option Nat}(h:qbP w b v c)(hg:w.grownBy w' row)(hr:qh w 3 row)(hr':qh w 24 row):qbP w' b v c:=by
 obtain⟨d,k,o,r,xs,ys,rfl,h1,h2,h3,h4,h5,h6⟩:=h;exact⟨d,k,o,r,xs,ys,rfl,h1.grown hg hr hr',h2.grown hg hr,h3.grown hg hr,h4.grown hg hr hr',h5,h6⟩
theorem q8k{w0 w1 w2 w3 w4:World}{b:Nat}{d k o r:Value}{c:qj}(h1:zi w1 w0.heap.size d c.qb)(g2:w1.grownBy w2 none)(h2:qg w2 w1.heap.size k c.counts)(g3:w2.grownBy w3 none)(h3:qg w3 w2.heap.size o c.done)(g4:w3.grownBy w4 none)(h4:zi w4 w3.heap.size r c.rows)(hb:b<=w0.heap.size)(g1:w0.grownBy w1 none) :
   qbP w4 b (.agg #[d,k,o,r]) c:=by
 obtain⟨xs,x1,x2⟩:=h1;obtain⟨ys,y1,y2⟩:=h4;have s1:=g1.size;have s2:=g2.size;have s3:=g3.size;have s4:=g4.size;have l1:=x1.ltz;have l4:=y1.ltz;refine⟨d,k,o,r,xs,ys,rfl,(x1.new (qad (qad g2 g3) g4)).low hb,h2.ri.new (qad g3 g4),(h3.new g4).lower (by omega),y1.low (by omega),?_,λg hd hr=>?_⟩
 . refine pairwise_cons.2 ⟨λu hu g ho hg=>?_,Apart.join (s:=w3.heap.size) x2 y2 (λu hu g hg=>by have:=l1 u hu g hg;omega) (λu hu g hg=>(l4 u hu g hg).1)⟩;have h5:=h3.lt g ho;rcases mem_append.1 hu with hu|hu
   . have:=l1 u hu g hg;omega
   . have:=l4 u hu g hg;omega
 . have h5:=World.ownsRow.lt x1.1 g hd;have h6:=World.ownsRow.lt y1.1 g hr;omega
theorem qj7(v:Value)(c:qj)(w:World)(h:CV w v c)(hd:c.qb.length<=1000/\∀l∈c.qb,l.length<=1000)(hr:c.rows.length<=1000/\∀l∈c.rows,l.length<=1000)(hk:c.counts.length<=1000000000)(ho:c.done.length<=1000000000) :
   Calls prog 137 #[v] w (qzk w c):=by
 obtain⟨A1,n1,c1,A2,n2,c2,A3,n3,c3,A4,n4,c4,rfl,-,-,-,-⟩:=h.form;have B0:=zP.start h;go_enter func137,ntmps137;go_upto_region 1 with fail;generalize ((w.alloc (.cells #[.slice A1 n1 c1,.slice A2 n2 c2,.slice A3 n3 c3,.slice A4 n4 c4] 29)).alloc (.cells #[.slice none 0 0,.slice none 0 0,.slice none 0 0,.slice none 0 0] 29))=W at B0 |-;have BD:=B0.new (qay (qah W none));have z0:=B0.b.d0;have z1:=B0.b.d1;have z2:=B0.b.d2;have z3:=B0.b.d3;have hne:w.heap.size+1≠w.heap.size:=by omega
 go_region_held3 (λw'=>w'.cell? ⟨w.heap.size,0,none⟩=some (.slice A1 n1 c1)/\w'.cell? ⟨w.heap.size,1,none⟩=some (.slice A2 n2 c2)/\w'.cell? ⟨w.heap.size,2,none⟩=some (.slice A3 n3 c3)/\w'.cell? ⟨w.heap.size,3,none⟩=some (.slice A4 n4 c4)) (go_keep) (first
  |(go_at_call 182;have hz:=o3;refine(qqf _ c.rows _ (by exact B3.b.ro) hr.1 hr.2).mono ?_;rintro e w4 ⟨v4,rfl,o4,g4⟩;have B4:=B3.new g4;obtain⟨E4,e4,b4,rfl⟩:=o4.val;have p0:=B4.b.d0;have p1:=B4.b.d1;have p2:=B4.b.d2;have p3:=B4.b.d3;have y0:=B4.res.cell 0;have f0:=B4.res.frozen 0;have y1:=B4.res.cell 1;have f1:=B4.res.frozen 1;have y2:=B4.res.cell 2;have f2:=B4.res.frozen 2;have y3:=B4.res.cell 3;have f3:=B4.res.frozen 3)
  |(go_at_call 57;have hz:=o2;refine(qik _ c.done _ (by exact B2.b.dn) ho).mono ?_;rintro e w3 ⟨v3,rfl,o3,g3⟩;have B3:=B2.new g3;obtain⟨E3,e3,b3,rfl⟩:=o3.ri.val;have p0:=B3.b.d0;have p1:=B3.b.d1;have p2:=B3.b.d2;have p3:=B3.b.d3;have y0:=B3.res.cell 0;have f0:=B3.res.frozen 0;have y1:=B3.res.cell 1;have f1:=B3.res.frozen 1;have y2:=B3.res.cell 2;have f2:=B3.res.frozen 2;have y3:=B3.res.cell 3;have f3:=B3.res.frozen 3)
  |(go_at_call 57;refine(qik _ c.counts _ (by exact B1.b.ct) hk).mono ?_;rintro e w2 ⟨v2,rfl,o2,g2⟩;have B2:=B1.new g2;obtain⟨E2,e2,b2,rfl⟩:=o2.ri.val;have p0:=B2.b.d0;have p1:=B2.b.d1;have p2:=B2.b.d2;have p3:=B2.b.d3;have y0:=B2.res.cell 0;have f0:=B2.res.frozen 0;have y1:=B2.res.cell 1;have f1:=B2.res.frozen 1;have y2:=B2.res.cell 2;have f2:=B2.res.frozen 2;have y3:=B2.res.cell 3;have f3:=B2.res.frozen 3)
  |(go_at_call 182;refine(qqf _ c.qb _ (by first|exact BD.b.dq|exact B0.b.dq) hd.1 hd.2).mono ?_;rintro e w1 ⟨v1,rfl,o1,g1⟩;have B1:=(by first|exact BD.new g1|exact B0.new g1:zP w w1 (.slice A1 n1 c1) (.slice A2 n2 c2) (.slice A3 n3 c3) (.slice A4 n4 c4) c);obtain⟨E1,e1,b1,rfl⟩:=o1.val;have p0:=B1.b.d0;have p1:=B1.b.d1;have p2:=B1.b.d2;have p3:=B1.b.d3;have y0:=B1.res.cell 0;have f0:=B1.res.frozen 0;have y1:=B1.res.cell 1;have f1:=B1.res.frozen 1;have y2:=B1.res.cell 2;have f2:=B1.res.frozen 2;have y3:=B1.res.cell 3;have f3:=B1.res.frozen 3))
 have gW:W.grownBy w1 none:=by first|exact g1|exact qad (qay (qah W none)) g1
 have hs0:w.heap.size<=W.heap.size:=B0.g.size;have hO:=q8k (b:=w.heap.size) o1 g2 o2 g3 o3 g4 o4 hs0 g1;have hst:=qeg w4 (w.heap.size+1) (.slice E1 e1 b1) (.slice E2 e2 b2) (.slice E3 e3 b3) (.slice E4 e4 b4);have hI:qh w4 3 (some (w.heap.size+1)):=qh.blk B4.res (by decide);have hL:qh w4 24 (some (w.heap.size+1)):=qh.blk B4.res (by decide);have hO2:=hO.qcN hst hI hL;have gF:=qbd B4.g hst (λg e=>by cases e;exact .inl (Nat.le_succ _));have hfin:Hid (qzk w c _ _):=⟨_,rfl,hO2,gF⟩;clear hO hst hI hL hO2 gF gW o1 o2 o3 o4 g1 g2 g3 g4 B0 BD B1 B2 B3 B4;go_wp2_with fail;refine bodyPost_ret (v:=.agg #[.slice E1 e1 b1,.slice E2 e2 b2,.slice E3 e3 b3,.slice E4 e4 b4]) (by simp[results,results137,go_sem,y0,y1,y2,y3]) rfl ?_;exact hfin.out
theorem qjl(v:Value)(l:List Int)(w:World)(h:RI w v l)(hl:l.length<=1000000000):Calls prog 180 #[v] w λe w'=>∃u,e=.returned (.agg #[u])/\qg w' w.heap.size u l/\w.grownBy w' none:=by
 obtain⟨A,n,c,rfl⟩:=h.val;have hB:=Blk.new w 96 #[.slice none 0 0];have hg:=World.grownBy_alloc w (.cells #[.slice none 0 0] 96) none;have h1:=h.new hg;go_enter func180,ntmps180;go_upto_region 1 with fail;generalize w.alloc (.cells #[.slice none 0 0] 96)=W at hB hg h1 |-;go_wp2_with (at_builtin;go_must (refine qij _ (.tmp 3) 24 underlying24 rfl rfl h1 hl (Nat.le_refl _) rfl rfl ?_));intro v' w1 ho hg1;obtain⟨A',n',c',rfl⟩:=ho.ri.val;have B1:=hB.grown hg1 (by simp);have y0:=B1.cell 0;have f0:=B1.frozen 0;have hst:w1.grownBy (w1.setCell ⟨w.heap.size,0,none⟩ (.slice A' n' c')) (some w.heap.size):=qbf (qah _ _) (.inr rfl) _;have ho2:=(ho.grown hst (qh.blk B1 (by decide))).lower hg.size;have g2:=qbd (qad hg hg1) hst (λg e=>by cases e;exact .inl (Nat.le_refl _));clear ho hg1 B1 hB hst;go_wp2_with fail;refine bodyPost_ret (v:=.agg #[.slice A' n' c']) (by simp[results,results180,go_sem,y0]) rfl ?_;exact⟨_,rfl,ho2,g2⟩
theorem qpB(tb g o n c:Nat)(x:Int)(l:List Int)(w:World)(hB:Blk w tb 96 #[.slice (some ⟨g,o,none⟩) (n+1) c])(hr:RI w (.slice (some ⟨g,o,none⟩) (n+1) c) l)(hn:n<=10)(hx:l[n]?=some x) :
   Calls prog 181 #[.pointer (some ⟨tb,0,none⟩)] w λe w'=>e=.returned (.int .i64 x)/\w'=w.setCell ⟨tb,0,none⟩ (.slice (some ⟨g,o,none⟩) n c):=by
 obtain⟨g',o',x',e,hx',c0⟩:=hr.at_ (k:=n) (by omega);injection e with e;injection e with e1 e2;subst e1 e2;rw[hx]at hx';injection hx' with hx';subst hx';obtain⟨A,n',c',e,hnc,-⟩:=hr.form';injection e with e1 e2 e3;subst e2 e3;clear e1 hx hr;have d0:=hB.cell 0;have f0:=hB.frozen 0;have hw:IntKind.i64.wrap (((n+1:Nat):Int)-1)=(n:Int):=by rw[IntWalk.i64_in _ (by omega)];omega
 have hb1:(n:Int)<((n+1:Nat):Int):=by omega
 have hb2:(n:Int)<=(c:Int):=by omega
 go_enter func181,ntmps181;go_wp2;go_ret;exact⟨rfl,rfl⟩
theorem q8l(tb g o n c:Nat)(x:Int)(l:List Int)(w:World)(hB:Blk w tb 96 #[.slice (some ⟨g,o,none⟩) (n+1) c])(hr:RI w (.slice (some ⟨g,o,none⟩) (n+1) c) l)(hn:n<=10)(hx:l[0]?=some x) :
   Calls prog 184 #[.pointer (some ⟨tb,0,none⟩)] w λe w'=>e=.returned (.int .i64 x)/\w'=w.setCell ⟨tb,0,none⟩ (.slice (if c=1 then some ⟨g,o,none⟩else some ⟨g,o+1,none⟩) n (c-1)):=by
 obtain⟨g',o',x',e,hx',c0⟩:=hr.at_ (k:=0) (by omega);injection e with e;injection e with e1 e2;subst e1 e2;rw[hx]at hx';injection hx' with hx';subst hx';obtain⟨A,n',c',e,hnc,-⟩:=hr.form';injection e with e1 e2 e3;subst e2 e3;clear e1 hx hr;have c1:w.cell? ⟨g,o,none⟩=some (.int .i64 x):=c0;clear c0;have d0:=hB.cell 0;have f0:=hB.frozen 0;have hb1:(0:Int)<((n+1:Nat):Int):=by omega
 have hb2:(1:Int)<=((n+1:Nat):Int):=by omega
 have hb3:((n+1:Nat):Int)<=(c:Int):=by omega
 by_cases h1:c=1
 . subst h1;obtain rfl:n=0:=by omega
   go_enter func184,ntmps184;go_wp2;go_ret;exact⟨rfl,rfl⟩
 . rw[if_neg h1];go_enter func184,ntmps184;go_wp2;go_ret;exact⟨rfl,rfl⟩
theorem qpC(tb base:Nat)(x:Int)(u:Value)(l:List Int)(w0 w:World)(hB:Blk w tb 96 #[u])(ho:qg w base u l)(hl:l.length<=1000000)(hg:w0.grownBy w none)(hb:w0.heap.size<=base)(hbw:base<=w.heap.size)(ht:w0.heap.size<=tb) :
   Calls prog 67 #[.pointer (some ⟨tb,0,none⟩),.int .i64 x] w λe w'=>e=.returned (.tuple #[])/\∃u',Blk w' tb 96 #[u']/\qg w' base u' (l++[x])/\w0.grownBy w' none:=by
 obtain⟨A,n,c,rfl⟩:=ho.ri.val;have d0:=hB.cell 0;have f0:=hB.frozen 0;go_enter func67,ntmps67;go_wp2_with (at_builtin;go_must (refine qek (.tmp 8) (.tmp 10) rfl rfl ho (by omega) hbw rfl rfl rfl ?_));intro v2 w2 ho2 hg2;have B2:Blk w2 tb 96 #[.slice A n c]:=hB.past hg2 (ho.jL (by decide));have g2:=qbd hg hg2 (λg e=>.inl (Nat.le_trans hb (ho.lt g e).1));obtain⟨A2,n2,c2,rfl⟩:=ho2.ri.val;have e0:=B2.cell 0;have e1:=B2.frozen 0;have hst:w2.grownBy (w2.setCell ⟨tb,0,none⟩ (.slice A2 n2 c2)) (some tb):=qbf (qah _ _) (.inr rfl) _;have B3:Blk (w2.setCell ⟨tb,0,none⟩ (.slice A2 n2 c2)) tb 96 #[.slice A2 n2 c2]:=B2.jr 0 _;have ho3:=ho2.grown hst (qh.blk B2 (by decide));have g3:=qbd g2 hst (λg e=>by cases e;exact .inl ht);clear hB ho hg hg2 B2 g2 ho2 hst d0 f0;go_wp2_with fail
 first|exact vr (results_none rfl _ _ _) rfl ⟨rfl,_,B3,ho3,g3⟩|exact bodyPost_end (results_none rfl _ _ _) rfl ⟨rfl,_,B3,ho3,g3⟩|(go_ret;exact⟨rfl,_,B3,ho3,g3⟩)
theorem Apart.ky{xs:List Value}{k:Nat}{f:Value}(h:Apart xs)(hne:∀u∈xs,∀g,u.ownBlock=some g->f.ownBlock≠some g):Apart (xs.set k f):=by
 rw[Apart.iff]at *;intro i j u u' g hij hi hj hg;rw[getElem?_set]at hi hj;split at hi
 . rename_i e;subst e;split at hi
   . injection hi with hi;subst hi;rw[if_neg (by omega)]at hj;exact λe'=>hne u' (mem_of_getElem? hj) g e' hg
   . cases hi
 . split at hj
   . split at hj
     . injection hj with hj;subst hj;exact hne u (mem_of_getElem? hi) g hg
     . cases hj
   . exact h i j u u' g hij hi hj hg
theorem QI.jN{w w':World}{base:Nat}{v:Value}{l:List Int}{row:Option Nat}(h:QI w base v l)(hg:w.grownBy w' row)(hr:v.ownBlock=none∨v.ownBlock≠row):QI w' base v l:=QS.apart h hg hr
def LQ(w:World)(base:Nat)(v:Value)(ll:List (List Int))(xs:List Value):Prop:=
 w.ownsRow base 24 1 v ll.length xs/\∀(i:Nat) (l:List Int),ll[i]?=some l->∃u,xs[i]?=some u/\QI w base u l
section
variable {w w':World}{v:Value}{ll:List (List Int)}{base:Nat}{row:Option Nat}{xs:List Value}
theorem LX.lq(h:LX w base v ll xs):LQ w base v ll xs:=⟨h.1,λi l hi=>let ⟨u,k1,k2⟩:=h.2 i l hi;⟨u,k1,k2.qi⟩⟩
theorem LQ.grown(h:LQ w base v ll xs)(hg:w.grownBy w' row)(hr:qh w 3 row)(hr':qh w 24 row):LQ w' base v ll xs:=by
 refine⟨qc4 h.1 hg hr',λi l hi=>?_⟩;obtain⟨u,k1,k2⟩:=h.2 i l hi;exact⟨u,k1,k2.grown hg hr⟩
theorem LQ.new(h:LQ w base v ll xs)(hg:w.grownBy w' none):LQ w' base v ll xs:=h.grown hg (qh.none _ _) (qh.none _ _)
theorem LQ.rl(h:LQ w base v ll xs):RL w v ll:=⟨xs,TS.zV h.1,λi l hi=>let ⟨u,k1,k2⟩:=h.2 i l hi;⟨u,k1,k2.ri⟩⟩
theorem LQ.lt(h:LQ w base v ll xs):∀g,v.ownBlock=some g->base<=g/\g<w.heap.size:=World.ownsRow.lt h.1
theorem LQ.len(h:LQ w base v ll xs):xs.length=ll.length:=by have:=h.1.1;omega
theorem LQ.lts(h:LQ w base v ll xs):∀u∈xs,∀g,u.ownBlock=some g->base<=g/\g<w.heap.size:=by
 intro u hu g hg;obtain⟨i,hi,rfl⟩:=getElem_of_mem hu;have hl:=h.len;obtain⟨u',k1,k2⟩:=h.2 i _ (getElem?_eq_getElem (by omega));rw[getElem?_eq_getElem hi]at k1;cases k1;exact k2.lt g hg
theorem LQ.low{a b:Nat}(h:LQ w a v ll xs)(hab:b<=a):LQ w b v ll xs:=by
 refine⟨⟨h.1.1,?_⟩,λi l hi=>let ⟨u,k1,k2⟩:=h.2 i l hi;⟨u,k1,k2.low hab⟩⟩;rcases h.1.2 with h0|⟨g,cap,cur,h1,h2,h3⟩
 . exact .inl h0
 . exact .inr ⟨g,cap,cur,h1,Nat.le_trans hab h2,h3⟩
theorem LQ.jL(h:LQ w base v ll xs){E:TypeId}(hE:E≠24):qh w E v.ownBlock:=qh.own h.1 hE
theorem LQ.far{g:Nat}(h:LQ w base v ll xs)(hg:w.grownBy w' (some g))(hi:qh w 3 (some g))(hne:v.ownBlock≠some g):LQ w' base v ll xs:=by
 obtain⟨h1,h2⟩:=h;have hlt:=World.ownsRow.lt h1;refine⟨⟨h1.1,?_⟩,λi l hl=>let ⟨u,k1,k2⟩:=h2 i l hl;⟨u,k1,k2.grown hg hi⟩⟩;rcases h1.2 with h0|⟨g',cap,cur,rfl,k2,k3,k4⟩
 . exact .inl h0
 . exact .inr ⟨g',cap,cur,rfl,k2,(hg.block g' (hlt g' rfl).2 (λe=>hne (by rw[<-e];rfl))).trans k3,k4⟩
theorem LQ.jN{b:Nat}{cur:Array Value}(h:LQ w base v ll xs)(hg:w.grownBy w' (some b))(hB:Blk w b 3 cur)(hx:∀u∈xs,u.ownBlock≠some b):LQ w' base v ll xs:=by
 have hne:qh w 24 (some b):=qh.blk hB (by decide);refine⟨qc4 h.1 hg hne,λi l hi=>?_⟩;obtain⟨u,k1,k2⟩:=h.2 i l hi;exact⟨u,k1,k2.jN hg (.inr (hx u (mem_of_getElem? k1)))⟩
theorem LQ.form{n:Nat}(h:LQ w base v ll xs)(hn:ll.length=n)(h0:0<n):∃g cap,v=.slice (some ⟨g,0,none⟩) n cap/\n<=cap/\base<=g:=by
 subst hn;rcases h.1.2 with ⟨rfl,hz⟩|⟨g,cap,cur,rfl,hb,hh,hn,_,hcs,ht⟩
 . omega
 . exact⟨g,cap,rfl,hn,hb⟩
end
theorem LQ.cell{w:World}{base g n cap k:Nat}{ll:List (List Int)}{xs:List Value}(h:LQ w base (.slice (some ⟨g,0,none⟩) n cap) ll xs)(hk:k<ll.length):∃u,w.cell? ⟨g,k,none⟩=some u/\w.frozen? ⟨g,k,none⟩=false:=by
 rcases h.1.2 with ⟨e0,hz⟩|⟨g',cap',cur,e0,hb,hh,hn,hm,hcs,ht⟩
 . cases e0
 . injection e0 with e1 e2 e3;injection e1 with e1;injection e1 with e1;subst e1 e3;have hB:Blk w g 24 cur:=hh;refine⟨cur[k]'(by rw[hcs];omega),?_,hB.frozen _⟩;rw[hB.cell];exact Array.getElem?_eq_getElem (by rw[hcs];omega)
theorem LQ.jr{w:World}{base g n cap k:Nat}{ll:List (List Int)}{l:List Int}{f:Value}{xs:List Value}(h:LQ w base (.slice (some ⟨g,0,none⟩) n cap) ll xs)(hk:k<ll.length)(hf:QI w base f l) :
   LQ (w.setCell ⟨g,k,none⟩ f) base (.slice (some ⟨g,0,none⟩) n cap) (ll.set k l) (xs.set k f):=by
 have hxl:=h.len;obtain⟨h1,h2⟩:=h
 have hn:n=ll.length:=by
  rcases h1.2 with ⟨e0,hz⟩|⟨g',cap',cur,e0,_⟩
  . cases e0
  . injection e0
 subst hn;have s1:=World.ownsRow.stored h1 k f;have hne:qh w 3 (some g):=qh.own (v:=.slice (some ⟨g,0,none⟩) ll.length cap) h1 (by decide);refine⟨by rw[length_set];exact s1.1,λi x hi=>?_⟩;by_cases hik:i=k
 . subst hik;rw[getElem?_set_self hk]at hi;obtain rfl:l=x:=by simpa using hi
   exact⟨f,by rw[getElem?_set_self (by omega)],hf.grown s1.2 hne⟩
 . rw[getElem?_set_ne (λe=>hik e.symm)]at hi;obtain⟨u,k1,k2⟩:=h2 i x hi;exact⟨u,by rw[getElem?_set_ne (λe=>hik e.symm)];exact k1,k2.grown s1.2 hne⟩
structure vv(w:World)(base X:Nat)(d k o r:Value)(D:List (List Int))(N:List Int)(Rw:List (List Int))(xs ys:List Value):Prop where
 x:Blk w X 29 #[d,k,o,r]
 dq:LQ w base d D xs
 dn:qg w base o N
 ro:LX w base r Rw ys
 al:Apart (o::(xs++ys))
 dr:∀g,d.ownBlock=some g->r.ownBlock≠some g
section
variable {w w':World}{base X:Nat}{d k o r:Value}{D Rw:List (List Int)}{N:List Int}{xs ys:List Value}
theorem vv.new(h:vv w base X d k o r D N Rw xs ys)(hg:w.grownBy w' none):vv w' base X d k o r D N Rw xs ys:=⟨h.x.grown hg (by simp),h.dq.new hg,h.dn.new hg,h.ro.new hg,h.al,h.dr⟩
theorem vv.lts(h:vv w base X d k o r D N Rw xs ys):∀u∈o::(xs++ys),∀g,u.ownBlock=some g->base<=g/\g<w.heap.size:=by
 intro u hu g hg;rcases mem_cons.1 hu with rfl|hu
 . exact h.dn.lt g hg
 . rcases mem_append.1 hu with hu|hu
   . exact h.dq.lts u hu g hg
   . exact h.ro.lts u hu g hg
theorem vv.setRow{gr n cap m:Nat}{f:Value}{l:List Int}(h:vv w base X d k o (.slice (some ⟨gr,0,none⟩) n cap) D N Rw xs ys)(hm:m<Rw.length)(hf:qg w base f l)(hne:∀u∈o::(xs++ys),∀g,u.ownBlock=some g->f.ownBlock≠some g) :
   (∃u,w.cell? ⟨gr,m,none⟩=some u/\w.frozen? ⟨gr,m,none⟩=false)/\w.grownBy (w.setCell ⟨gr,m,none⟩ f) (some gr)/\base<=gr/\qh w 29 (some gr)/\qh w 3 (some gr)/\qh w 96 (some gr) /\
   vv (w.setCell ⟨gr,m,none⟩ f) base X d k o (.slice (some ⟨gr,0,none⟩) n cap) D N (Rw.set m l) xs (ys.set m f):=by
 have hst:w.grownBy (w.setCell ⟨gr,m,none⟩ f) (some gr):=qbf (p:=⟨gr,m,none⟩) (qah w (some gr)) (.inr rfl) _;have hI:qh w 3 (some gr):=h.ro.jL (by decide);have hE:qh w 29 (some gr):=h.ro.jL (by decide);refine⟨h.ro.cell hm,hst,(h.ro.lt gr rfl).1,hE,hI,h.ro.jL (by decide),h.x.grown hst (λe=>by injection e with e;exact hE _ rfl _ (e▸h.x)),h.dq.far hst hI (λe=>h.dr gr e rfl),h.dn.grown hst hI,h.ro.jr hm hf,?_,h.dr⟩;have hyl:ys.length=Rw.length:=h.ro.len
 have e:o::(xs++ys.set m f)=(o::(xs++ys)).set (xs.length+m+1) f:=by
  rw[set_cons_succ,set_append_right _ _ (by omega),show xs.length+m-xs.length=m by omega]
 rw[e];exact h.al.ky hne
theorem vv.kY{gd n cap j:Nat}{f:Value}{l:List Int}(h:vv w base X (.slice (some ⟨gd,0,none⟩) n cap) k o r D N Rw xs ys)(hj:j<D.length)(hf:QI w base f l)(hne:∀u∈o::(xs++ys),∀g,u.ownBlock=some g->f.ownBlock≠some g) :
   (∃u,w.cell? ⟨gd,j,none⟩=some u/\w.frozen? ⟨gd,j,none⟩=false)/\w.grownBy (w.setCell ⟨gd,j,none⟩ f) (some gd)/\base<=gd/\qh w 29 (some gd)/\qh w 3 (some gd) /\
   vv (w.setCell ⟨gd,j,none⟩ f) base X (.slice (some ⟨gd,0,none⟩) n cap) k o r (D.set j l) N Rw (xs.set j f) ys:=by
 have hst:w.grownBy (w.setCell ⟨gd,j,none⟩ f) (some gd):=qbf (p:=⟨gd,j,none⟩) (qah w (some gd)) (.inr rfl) _;have hI:qh w 3 (some gd):=h.dq.jL (by decide);have hE:qh w 29 (some gd):=h.dq.jL (by decide);refine⟨h.dq.cell hj,hst,(h.dq.lt gd rfl).1,hE,hI,h.x.grown hst (λe=>by injection e with e;exact hE _ rfl _ (e▸h.x)),h.dq.jr hj hf,h.dn.grown hst hI,h.ro.far hst hI (λe=>h.dr gd rfl e),?_,h.dr⟩;have hxl:xs.length=D.length:=h.dq.len
 have e:o::(xs.set j f++ys)=(o::(xs++ys)).set (j+1) f:=by
  rw[set_cons_succ,set_append_left _ _ (by omega)]
 rw[e];exact h.al.ky hne
theorem vv.put(h:vv w base X d k o r D N Rw xs ys){k':Value}:vv (w.setCell ⟨X,1,none⟩ k') base X d k' o r D N Rw xs ys:=by
 have hst:w.grownBy (w.setCell ⟨X,1,none⟩ k') (some X):=qbf (p:=⟨X,1,none⟩) (qah w (some X)) (.inr rfl) _;have hn:qh w 3 (some X):=qh.blk h.x (by decide);have hn':qh w 24 (some X):=qh.blk h.x (by decide);exact⟨h.x.jr 1 _,h.dq.grown hst hn hn',h.dn.grown hst hn,h.ro.grown hst hn hn',h.al,h.dr⟩
theorem vv.more{o':Value}{N':List Int}(h:vv w base X d k o r D N Rw xs ys)(hg:w.grownBy w' o.ownBlock)(ho:qg w' base o' N')(hb:o'.ownBlock=o.ownBlock∨∃b,o'.ownBlock=some b/\w.heap.size<=b) :
   w'.cell? ⟨X,2,none⟩=some o/\w'.frozen? ⟨X,2,none⟩=false/\vv (w'.setCell ⟨X,2,none⟩ o') base X d k o' r D N' Rw xs ys:=by
 have hEc:qh w 29 o.ownBlock:=h.dn.jL (by decide);have hx:=h.x.grown hg (λe=>hEc _ e.symm _ h.x);have hst:w'.grownBy (w'.setCell ⟨X,2,none⟩ o') (some X):=qbf (p:=⟨X,2,none⟩) (qah w' (some X)) (.inr rfl) _;have hn:qh w' 3 (some X):=qh.blk hx (by decide);have hn':qh w' 24 (some X):=qh.blk hx (by decide)
 have hdq:LQ w' base d D xs:=by
  cases e:o.ownBlock with
  |none=>rw[e]at hg;exact h.dq.new hg
  |some b=>
   rw[e]at hg;obtain⟨cur,hB⟩:=h.dn.block e;exact h.dq.jN hg hB (h.al.xu e).1
 have hro:LX w' base r Rw ys:=by
  cases e:o.ownBlock with
  |none=>rw[e]at hg;exact h.ro.new hg
  |some b=>
   rw[e]at hg;obtain⟨cur,hB⟩:=h.dn.block e;exact h.ro.jN hg hB (h.al.xu e).2
 refine⟨hx.cell 2,hx.frozen 2,hx.jr 2 _,hdq.grown hst hn hn',ho.grown hst hn,hro.grown hst hn hn',?_,h.dr⟩;refine pairwise_cons.2 ⟨λu hu g hg'=>?_,(pairwise_cons.1 h.al).2⟩;rcases hb with e|⟨b,e,hbs⟩
 . rw[e]at hg';exact(pairwise_cons.1 h.al).1 u hu g hg'
 . rw[e]at hg';injection hg' with hg';intro hu';have:=(h.lts u (mem_cons_of_mem _ hu) g hu').2;omega
end
def jw(w:World)(base:Nat)(v:Value)(c:qj):Prop:=
 ∃d k o r xs ys,v=.agg #[d,k,o,r]/\LQ w base d c.qb xs/\qg w base k c.counts/\qg w base o c.done/\LX w base r c.rows ys/\Apart (k::o::(xs++ys))/\(∀g,d.ownBlock=some g->r.ownBlock≠some g)
theorem jw.cv{w:World}{base:Nat}{v:Value}{c:qj}(h:jw w base v c):CV w v c:=by
 obtain⟨d,k,o,r,xs,ys,rfl,h1,h2,h3,h4,_⟩:=h;exact⟨d,k,o,r,rfl,h1.rl,h2.ri,h3.ri,h4.rl⟩
theorem jw.new{w w':World}{base:Nat}{v:Value}{c:qj}(h:jw w base v c)(hg:w.grownBy w' none):jw w' base v c:=by
 obtain⟨d,k,o,r,xs,ys,rfl,h1,h2,h3,h4,h5⟩:=h;exact⟨d,k,o,r,xs,ys,rfl,h1.new hg,h2.new hg,h3.new hg,h4.new hg,h5⟩
theorem jw.grown{w w':World}{base:Nat}{v:Value}{c:qj}{row:Option Nat}(h:jw w base v c)(hg:w.grownBy w' row)(hr:qh w 3 row)(hr':qh w 24 row):jw w' base v c:=by
 obtain⟨d,k,o,r,xs,ys,rfl,h1,h2,h3,h4,h5⟩:=h;exact⟨d,k,o,r,xs,ys,rfl,h1.grown hg hr hr',h2.grown hg hr,h3.grown hg hr,h4.grown hg hr hr',h5⟩
theorem jw.low{w:World}{a b:Nat}{v:Value}{c:qj}(h:jw w a v c)(hab:b<=a):jw w b v c:=by
 obtain⟨d,k,o,r,xs,ys,rfl,h1,h2,h3,h4,h5⟩:=h;exact⟨d,k,o,r,xs,ys,rfl,h1.low hab,h2.low hab,h3.low hab,h4.low hab,h5⟩
end
section
open Go.RowKit Go.Extern.Stop Go.Stop Go.Extern
theorem q8n(v:Value)(w:World):(ReflectliteType.typeOf #[.iface 244 v]).run prog w=.ok (.iface 213 (.agg #[.pointer (some ⟨1,244,none⟩)])) w:=by kernel_rfl
theorem qnz(v:Value)(w:World):(Go.method 379 213 v "Comparable").run prog w=.ok (248,v) w:=by kernel_rfl
theorem qyt(w:World):((ReflectliteType.method λt=>do Rtype.noPackHeld "Comparable" t;Functor.map (λa=>Value.bool a.comparable) (typeInfo t)) #[.agg #[.pointer (some ⟨1,244,none⟩)]]).run prog w=.ok (.bool true) w:=by kernel_rfl
theorem qpD:(Tryz.prog.info? 244).map (·.comparable)=some true:=by kernel_rfl
theorem qpE:(Tryz.prog.info? 268).map (·.size)=some 1:=by kernel_rfl
theorem qpF(v:Value)(xT:TypeId)(w:World):(Instr.typeAssert (.iface 171 v) xT 215 true).run prog w=.ok (.tuple #[.nilIface,.bool false]) w:=run_typeAssert_lacksB underlying215 (by kernel_rfl) (by kernel_rfl) v xT w
theorem q6c(v:Value)(xT:TypeId)(w:World):(Instr.typeAssert (.iface 171 v) xT 218 true).run prog w=.ok (.tuple #[.iface 171 v,.bool true]) w:=run_typeAssert_hasB underlying218 (by kernel_rfl) v xT w
theorem qux(v:Value)(w:World):(Go.method 379 171 v "Unwrap").run prog w=.ok (243,v) w:=by kernel_rfl
def qm(w:World)(a:Addr):Prop:=w.cell? ⟨0,0,none⟩=some (.iface 244 (.pointer (some a)))
theorem qm.new{w w':World}{a:Addr}(h:qm w a)(hg:w.grownBy w' none):qm w' a:=qc1 h hg
theorem qwy(s:ByteArray)(a:Addr)(w:World)(h:qm w a):Calls prog 243 #[.agg #[.string s]] w λe w'=>e=.returned (.iface 244 (.pointer (some a)))/\w.grownBy w' none:=by
 have h1:=h.new (World.grownBy_alloc w (.cells #[.string s] 171) none);unfold qm at h1;go_enter func243,ntmps243;go_wp2;go_ret;exact⟨rfl,World.grownBy_alloc _ _ _⟩
theorem qpG(a:Addr)(w:World):(binOp BinOp.eql 119 .nilIface (.iface 244 (.pointer (some a)))).run prog w=.ok (.bool false) w:=by kernel_rfl
theorem q0p(a:Addr)(w:World):Calls prog 90 #[.nilIface,.iface 244 (.pointer (some a))] w λe w'=>e=.returned (.bool false)/\w'=w:=by
 have e0:=qpG a;go_enter func90,ntmps90;go_wp2;go_ret;exact⟨rfl,rfl⟩
theorem q6d(s:ByteArray)(a:Addr)(w:World)(h:qm w a):Calls prog 140 #[.iface 171 (.agg #[.string s]),.iface 244 (.pointer (some a)),.bool true] w λe w'=>e=.returned (.bool true)/\w.grownBy w' none:=by
 obtain⟨i,hi,qpH⟩:=Option.map_eq_some_iff.1 qpD;obtain⟨j,hj,hjs⟩:=Option.map_eq_some_iff.1 qpE;have n1:=qpF;have n2:=q6c;have n3:=qux;have hty:=λw=>run_eql_iface_types (P:=prog) 171 244 (.agg #[.string s]) (.pointer (some a)) underlying119 (by decide) w;have heq:=λw=>run_eql_iface_ptr_same (P:=prog) w a underlying119 underlying244 hi qpH hj;go_enter func140,ntmps140;go_wp2_with fail;refine wp_loop_rounds 2 ?_;rw[rounds_succ];go_wp2_with fail;refine(qwy s a w h).mono ?_;rintro e w1 ⟨rfl,hg1⟩;go_wp2_with fail;rw[rounds_succ];go_wp2;go_ret;exact⟨rfl,hg1⟩
theorem q0q(s:ByteArray)(a:Addr)(w:World)(h:qm w a):Calls prog 90 #[.iface 171 (.agg #[.string s]),.iface 244 (.pointer (some a))] w λe w'=>e=.returned (.bool true)/\w.grownBy w' none:=by
 have h10:=run_callFunc_extern (P:=prog) (f:=139) (e:=ReflectliteType.typeOf) func139 (by kernel_rfl) (by kernel_rfl) (by kernel_rfl) (by kernel_rfl);have h11:=run_callFunc_extern (P:=prog) (f:=248) (e:=ReflectliteType.method λt=>do Rtype.noPackHeld "Comparable" t;pure (.bool (<-typeInfo t).comparable)) func248 (by kernel_rfl) (by kernel_rfl) (by kernel_rfl) (by kernel_rfl);have t1:=q8n;have t2:=qnz;have t3:=qyt;go_enter func90,ntmps90;go_wp2_with fail;refine(q6d s a w h).mono ?_;rintro e w1 ⟨rfl,hg1⟩;go_wp2;go_ret;exact⟨rfl,hg1⟩
end
section
open Go.RowKit
structure KeysOf(D:DataW Unit)(L:List Int):Prop where
 t:Maps.Tidy D
 h:∀x:Int,Maps.has D (.int .i64 x)=decide (x∈L)
 le:Maps.size D<=L.length
 nd:Maps.size D=L.length↔L.Nodup
theorem KeysOf.nil:KeysOf (.map []) []:=⟨Maps.tidy_empty,λx=>by simp[Maps.has],by simp[Maps.size],by simp[Maps.size]⟩
theorem KeysOf.put{D:DataW Unit}{L:List Int}(h:KeysOf D L)(x:Int)(d:DataW Unit):KeysOf (D.put (.int .i64 x) d) (L++[x]):=by
 have hs:=Maps.size_put (k:=.int .i64 x) h.t d;rw[h.h x]at hs;have hle:=h.le;have hnd:=h.nd;refine⟨h.t.put (show WideAt.IsKeyLit (.int .i64 x)from trivial) d,λy=>?_,?_,?_⟩
 . by_cases e:y=x
   . subst e;rw[Maps.has_put_same h.t.isMap (show WideAt.IsKeyLit (.int .i64 y)from trivial)];simp
   . rw[Maps.has_put_other (λe'=>e (by injection e')),h.h y];simp[e]
 . rw[hs,length_append,length_singleton];split<;>omega
 . have hap:(L++[x]).Nodup↔L.Nodup/\x∉L:=by
    rw[nodup_append];constructor
    . rintro⟨h1,_,h3⟩;exact⟨h1,λhx=>h3 x hx x (by simp) rfl⟩
    . rintro⟨h1,h2⟩;refine⟨h1,by simp,λa ha b hb e=>h2 ?_⟩;obtain rfl:b=x:=by simpa using hb
      exact e▸ha
   rw[hap,hs,length_append,length_singleton];by_cases hx:x∈L
   . rw[decide_eq_true hx,if_pos rfl];constructor
     . intro e;omega
     . intro e;exact absurd hx e.2
   . rw[decide_eq_false hx,if_neg (by simp)];constructor
     . intro e;exact⟨hnd.1 (by omega),hx⟩
     . intro e;have:=hnd.2 e.1;omega
theorem KeysOf.step{D:DataW Unit}{l:List Int}{k:Nat}{x:Int}(h:KeysOf D (l.take k))(hx:l[k]?=some x)(d:DataW Unit):KeysOf (D.put (.int .i64 x) d) (l.take (k+1)):=by
 obtain⟨h1,rfl⟩:=List.getElem?_eq_some_iff.1 hx;rw[take_succ_eq_append_getElem h1];exact h.put _ d
theorem qiJ:Maps.Keyed prog 3:=Maps.int_keyed underlying3
theorem qpI(w:World):(zeroValue 3).run prog w=.ok (.int .i64 0) w:=by kernel_rfl
def qiK(w wr:World)(l:List Int)(k:Nat):Prop:=∃D:DataW Unit,wr.ownsMap prog 3 (plainElem prog 3) w.heap.size k D/\KeysOf D (l.take k)/\w.grownBy wr none
theorem q27(tb:Nat)(u:Value)(l:List Int)(w:World)(hB:Blk w tb 96 #[u])(hr:RI w u l)(hl:l.length<=10)(hx:∀x∈l,0<=x/\x<=9){b:Bool}(hb:decide l.Nodup=b) :
   Calls prog 209 #[.pointer (some ⟨tb,0,none⟩)] w λe w'=>e=.returned (.bool b)/\w.grownBy w' none:=by
 obtain⟨A,n,c,rfl,-,hn⟩:=hr.form';have hmm:=run_makeMap (P:=prog);have Hn:=Lib.hid hn;have Hb:=Lib.hid hb;have Hx:=Lib.hid hx;have vV:n<=10:=by omega
 have c0:=(hB.alloc (.map #[] 0)).cell 0;clear hn hb hx hl;have hst:qiK w (w.alloc (.map #[] 0)) l 0:=⟨_,World.ownsMap_made _ _ _ _,by rw[take_zero];exact KeysOf.nil,qar (qah w none) _⟩;go_enter func209,ntmps209;go_wp2_with fail
 go_loopg [12] (n+1) (λmm i wr=>∃k:Nat,k<=n/\mm=n+1-k/\i=.int .i64 k/\qiK w wr l k)
 case atStart=>exact⟨0,Nat.zero_le _,rfl,rfl,hst⟩
 case round=>
  obtain⟨k,hk,rfl,rfl,D,hown,hks,hg⟩:=hrel;clear hst;by_cases hlt:k<n
  . obtain⟨g,o,x,rfl,hx,c1⟩:=(hr.new hg).at_ hlt;have qtW:=Hx.out x (mem_of_getElem? hx);have Hk:=Lib.hid (λd=>hks.step hx d);have hkey:keyOf prog 3 (.int .i64 x)=some (.int .i64 x):=Maps.keyOf_int_mk underlying3 (WalkArith.wf_i64 (by omega));clear hx hks
    go_wp2_with (first
     |(at_lookup;refine wpList_lookup_own_int _ rfl _ _ 243 rfl 3 3 .i64 qiJ underlying243 underlying3 (qpI _) w.heap.size k _ rfl hown _ _ rfl hkey ?_;intro cv hat hwc)
     |(at_mapUpdate;refine wpList_mapUpdate_own _ rfl _ _ _ 243 rfl 3 3 qiJ underlying243 _ w.heap.size k _ rfl hown (by unfold maxLen;omega) _ _ _ rfl rfl hkey _ [] (plainElem_int underlying3 (wrap64_wf _)) ?_;intro w1 hown1 qcO)
     |go_in)
    go_roundg (n+1-(k+1))
    case measure=>omega
    case rel=>exact⟨k+1,by omega,rfl,by go_num,_,hown1,Hk.out _,qbd hg qcO (λg e=>by cases e;exact .inl (Nat.le_refl _))⟩
  . obtain rfl:n=k:=by omega
    have hB1:=hB.grown hg (by simp);have hD:=hown.kept (qay (qah wr none)) (by simp);have hlen:=λty=>hD.len underlying243 ty;have qfW:=λty=>hown.len underlying243 ty;have c1:=hB1.cell 0;have hle:=hks.le
    have Hr:Hid ((Maps.size D==n)=b):=by
     show _=_;rw[<-Hb.out,Bool.eq_iff_iff,beq_iff_eq,decide_eq_true_eq];have:=hks.nd;rw[take_of_length_le (Nat.le_of_eq Hn.out.symm),<-Hn.out]at this;exact this
    generalize Maps.size D=m at hlen qfW Hr hle;have hfin:=Lib.hid hg;clear hks hg;by_cases hmn:m=n
    . subst hmn;have Hr2:Hid (b=true):=by have:=Hr.out;rw[beq_self_eq_true]at this;exact this.symm
      clear Hr Hb;go_wp2_with fail
      go_region
      all_goals go_wp2_with fail
      all_goals go_ret
      all_goals exact⟨by rw[Hr2.out];rfl,qay hfin.out⟩
    . have Hr2:Hid (b=false):=by have:=Hr.out;rw[beq_eq_false_iff_ne.2 hmn]at this;exact this.symm
      clear Hr Hb;have hmi:¬((m:Int)=(n:Int)):=by omega
      go_wp2_with fail
      go_region
      all_goals go_wp2_with fail
      all_goals go_ret
      all_goals exact⟨by rw[Hr2.out];show Ending.returned (.bool ((m:Int)==(n:Int)))=_;rw[beq_eq_false_iff_ne.2 hmi],qay hfin.out⟩
theorem qd2(v:Value)(l:List Int)(w:World)(h:RI w v l){b:Bool}(hb:qbj l=b) :
   Calls prog 179 #[v] w λe w'=>e=.returned (.bool b)/\w.grownBy w' none:=by
 obtain⟨A,n,c,rfl,-,hn⟩:=h.form';have hle:=h.le;rw[<-hn]at hle;have Hn:=Lib.hid hn;have Hb:=Lib.hid hb;clear hn hb
 have hoff:¬(l.length<=10/\∀x∈l,0<=x/\x<=9)->b=false:=λhno=>by
  rw[<-Hb.out];cases hd:qbj l with
  |false=>rfl
  |true=>exact absurd ⟨(qcm.1 hd).1,(qcm.1 hd).2.1⟩ hno
 by_cases kx:10<n
 . have Hr:Hid (b=false):=hoff (λe=>by have:=Hn.out;omega);have hgt:(10:Int)<(n:Int):=by omega
   clear hoff;go_enter func179,ntmps179;go_wp2;go_ret;exact⟨by rw[Hr.out];rfl,qah _ _⟩
 . have hgt:¬((10:Int)<(n:Int)):=by omega
   have qiL:=Lib.hid hoff;clear hoff;go_enter func179,ntmps179;go_wp2_with fail
   go_loopg [11] (n+1) (λmm i wr=>∃k:Nat,k<=n/\mm=n+1-k/\i=.int .i64 k/\Hid (∀x∈l.take k,0<=x/\x<=9)/\wr=w)
   case atStart=>exact⟨0,Nat.zero_le _,rfl,rfl,by show ∀x∈_,_;simp,rfl⟩
   case round=>
    obtain⟨k,hk,rfl,rfl,Hk,rfl⟩:=hrel;by_cases hlt:k<n
    . obtain⟨g,o,y,rfl,hy,c0⟩:=h.at_ hlt;have Hy:=Lib.hid hy;clear hy;by_cases hlo:y<0
      . have Hr:Hid (b=false):=qiL.out (λe=>by have:=e.2 y (mem_of_getElem? Hy.out);omega);go_wp2;go_ret;exact⟨by rw[Hr.out];rfl,qah _ _⟩
      . by_cases hhi:10<=y
        . have Hr:Hid (b=false):=qiL.out (λe=>by have:=e.2 y (mem_of_getElem? Hy.out);omega);go_wp2;go_ret;exact⟨by rw[Hr.out];rfl,qah _ _⟩
        . have Hs:Hid (∀ x∈l.take (k+1),0<=x/\x<=9):=by
           show ∀x∈_,_;obtain⟨h1,h2⟩:=List.getElem?_eq_some_iff.1 Hy.out;rw[take_succ_eq_append_getElem h1,h2];intro x hx;rcases mem_append.1 hx with hx|hx
           . exact Hk.out x hx
           . obtain rfl:x=y:=by simpa using hx
             omega
          go_wp2;go_roundg (n+1-(k+1))
          case measure=>omega
          case rel=>exact⟨k+1,by omega,rfl,by go_num,Hs,rfl⟩
    . obtain rfl:n=k:=by omega
      have Hx:Hid (∀x∈l,0<=x/\x<=9):=by
       have:=Hk.out;rw[take_of_length_le (Nat.le_of_eq Hn.out.symm)]at this;exact this
      have Hd:Hid (decide l.Nodup=b):=by
       show _=_;rw[<-Hb.out,Bool.eq_iff_iff,decide_eq_true_eq,qcm];exact⟨λe=>⟨by have:=Hn.out;omega,Hx.out,e⟩,λe=>e.2.2⟩
      have zY:l.length<=10:=by have:=Hn.out;omega
      clear Hk hgt;go_wp2_with fail;refine(qjl _ l wr h (by omega)).mono ?_;rintro e w1 ⟨u,rfl,ho,hg1⟩;obtain⟨A',n',c',rfl⟩:=ho.ri.val;have hB:=Blk.new w1 96 #[.slice A' n' c'];have hg2:=World.grownBy_alloc w1 (.cells #[.slice A' n' c'] 96) none;have r2:=ho.ri.new hg2;have g2:=qad hg1 hg2;clear ho hg1 hg2;go_upto_region 10 with fail;generalize w1.alloc (.cells #[.slice A' n' c'] 96)=w2 at hB r2 g2 |-;generalize w1.heap.size=tb at hB |-;go_wp2_with fail;refine(q27 tb _ l w2 hB r2 zY Hx.out Hd.out).mono ?_;rintro e w3 ⟨rfl,hg3⟩;go_wp2;go_ret;exact⟨rfl,qad g2 hg3⟩
def q8m(w:World)(r:Option (List Int×Int))(e:Ending)(w':World):Prop:=match r with
 |some (l,x)=>∃u,e=.returned (.tuple #[u,.int .i64 x,.bool true])/\QI w' w.heap.size u l/\w.grownBy w' none
 |none=>e=.returned (.tuple #[.slice none 0 0,.int .i64 0,.bool false])/\w.grownBy w' none
theorem qs3(v:Value)(d:List Int)(w:World)(h:RI w v d):Calls prog 136 #[v] w (q8m w (qdq d)):=by
 obtain⟨A,n,c,rfl,-,hn⟩:=h.form';have Hn:=Lib.hid hn;clear hn;by_cases hv:qbj d=true
 . have Hv:=Lib.hid hv;by_cases h0:n=0
   . have Hr:Hid (qdq d=none):=by
      show _=_;rw[eq_nil_of_length_eq_zero (by have:=Hn.out;omega:d.length=0)];exact qsw
     subst h0;clear hv;go_enter func136,ntmps136;go_wp2_with fail;refine(qd2 _ d w h Hv.out).mono ?_;rintro e w1 ⟨rfl,hg1⟩;go_wp2_with fail;refine bodyPost_ret (v:=.tuple #[.slice none 0 0,.int .i64 0,.bool false]) (by simp[results,results136,go_sem]) rfl ?_;rw[Hr.out];exact⟨rfl,hg1⟩
   . obtain⟨m,rfl⟩:∃m,n=m+1:=⟨n-1,by omega⟩;have qpJ:d.length<=10:=(qcm.1 hv).1;have hne:¬(((m+1:Nat):Int)=0):=by omega
     have qbW:m<=10:=by have:=Hn.out;omega
     obtain⟨x,hx⟩:∃x,d[m]?=some x:=⟨_,getElem?_eq_getElem (by have:=Hn.out;omega)⟩
     have Hr:Hid (qdq d=some (d.take m,x)):=by
      show _=_;rw[qqn hv (by have:=Hn.out;omega),<-Hn.out,getD_eq_getElem?_getD,show m+1-1=m by omega,hx];rfl
     have Hx:=Lib.hid hx;clear hv h0 hx;go_enter func136,ntmps136;go_wp2_with fail;refine(qd2 _ d w h Hv.out).mono ?_;rintro e w1 ⟨rfl,hg1⟩;go_wp2_with fail;refine(qjl _ d w1 (h.new hg1) (by omega)).mono ?_;rintro e w2 ⟨u,rfl,ho,hg2⟩;have g2:=qad hg1 hg2;have hs1:=hg1.size;have hob:=ho.lower hs1;obtain⟨g,cap,cur,rfl,-,-,-,-⟩:=hob.form (by have:=Hn.out;omega);have hl:d.length=m+1:=Hn.out.symm;rw[hl]at hob |-;have hB:=Blk.new w2 96 #[.slice (some ⟨g,0,none⟩) (m+1) cap];have hg3:=World.grownBy_alloc w2 (.cells #[.slice (some ⟨g,0,none⟩) (m+1) cap] 96) none;have ho3:=hob.new hg3;have g3:=qad g2 hg3;have hs3:=g2.size;clear hg1 hg2 ho hob hg3 g2 hl;go_upto_region 4 with fail;generalize w2.alloc (.cells #[.slice (some ⟨g,0,none⟩) (m+1) cap] 96)=w3 at hB ho3 g3 |-;generalize w2.heap.size=tb at hB hs3 |-;go_wp2_with fail;refine(qpB tb g 0 m cap x d w3 hB ho3.ri qbW Hx.out).mono ?_;rintro e w4 ⟨rfl,rfl⟩;have hst:w3.grownBy (w3.setCell ⟨tb,0,none⟩ (.slice (some ⟨g,0,none⟩) m cap)) (some tb):=qbf (qah _ _) (.inr rfl) _;have xK:qh w3 3 (some tb):=qh.blk hB (by decide)
     have hd2:d=d.take m++[x]:=by
      obtain⟨h1,h2⟩:=List.getElem?_eq_some_iff.1 Hx.out;have:=take_succ_eq_append_getElem h1;rw[h2,take_of_length_le (by have:=Hn.out;omega)]at this;exact this
     have q4:QI w3 w.heap.size (.slice (some ⟨g,0,none⟩) m cap) (d.take m):=by
      have q3:=ho3.qi;unfold QI at q3 |-;rw[hd2,map_append]at q3;obtain⟨-,-,q5⟩:=QS.init q3;rw[length_map,length_take,Nat.min_eq_left (by have:=Hn.out;omega)]at q5;exact q5
     have Q4:=q4.grown hst xK;have B4:=hB.jr 0 (.slice (some ⟨g,0,none⟩) m cap);have c4:=B4.cell 0;have g4:=qbd g3 hst (λg e=>by cases e;exact .inl hs3);clear hd2 q4 ho3 hst xK hB;generalize w3.setCell ⟨tb,0,none⟩ (.slice (some ⟨g,0,none⟩) m cap)=w4 at Q4 B4 c4 g4 |-;go_wp2_with fail;refine bodyPost_ret (v:=.tuple #[.slice (some ⟨g,0,none⟩) m cap,.int .i64 x,.bool true]) (by simp[results,results136,go_sem]) rfl ?_;rw[Hr.out];exact⟨_,rfl,Q4,g4⟩
 . have hv':qbj d=false:=by simpa using hv
   have Hv:=Lib.hid hv';have Hr:Hid (qdq d=none):=qsv hv';clear hv hv';go_enter func136,ntmps136;go_wp2_with fail;refine(qd2 _ d w h Hv.out).mono ?_;rintro e w1 ⟨rfl,hg1⟩;go_wp2_with fail;refine bodyPost_ret (v:=.tuple #[.slice none 0 0,.int .i64 0,.bool false]) (by simp[results,results136,go_sem]) rfl ?_;rw[Hr.out];exact⟨rfl,hg1⟩
theorem quw{d:List Int}{x:Int}(h:qbj d=true)(hx:d[0]?=some x):qb3 d=some (d.drop 1,x):=by
 unfold qb3;rw[h,if_pos rfl,head?_eq_getElem?,hx];rfl
theorem qo9(v:Value)(d:List Int)(w:World)(h:RI w v d):Calls prog 141 #[v] w (q8m w (qb3 d)):=by
 obtain⟨A,n,c,rfl,-,hn⟩:=h.form';have Hn:=Lib.hid hn;clear hn;by_cases hv:qbj d=true
 . have Hv:=Lib.hid hv;by_cases h0:n=0
   . have Hr:Hid (qb3 d=none):=by
      show _=_;rw[eq_nil_of_length_eq_zero (by have:=Hn.out;omega:d.length=0)];unfold qb3;simp
     subst h0;clear hv;go_enter func141,ntmps141;go_wp2_with fail;refine(qd2 _ d w h Hv.out).mono ?_;rintro e w1 ⟨rfl,hg1⟩;go_wp2_with fail;refine bodyPost_ret (v:=.tuple #[.slice none 0 0,.int .i64 0,.bool false]) (by simp[results,results141,go_sem]) rfl ?_;rw[Hr.out];exact⟨rfl,hg1⟩
   . obtain⟨m,rfl⟩:∃m,n=m+1:=⟨n-1,by omega⟩;have qpJ:d.length<=10:=(qcm.1 hv).1;have hne:¬(((m+1:Nat):Int)=0):=by omega
     have qbW:m<=10:=by have:=Hn.out;omega
     obtain⟨x,hx⟩:∃x,d[0]?=some x:=⟨_,getElem?_eq_getElem (by have:=Hn.out;omega)⟩;have Hr:Hid (qb3 d=some (d.drop 1,x)):=quw hv hx;have Hx:=Lib.hid hx;clear hv h0 hx;go_enter func141,ntmps141;go_wp2_with fail;refine(qd2 _ d w h Hv.out).mono ?_;rintro e w1 ⟨rfl,hg1⟩;go_wp2_with fail;refine(qjl _ d w1 (h.new hg1) (by omega)).mono ?_;rintro e w2 ⟨u,rfl,ho,hg2⟩;have g2:=qad hg1 hg2;have hs1:=hg1.size;have hob:=ho.lower hs1;obtain⟨g,cap,cur,rfl,-,-,-,-⟩:=hob.form (by have:=Hn.out;omega);have hl:d.length=m+1:=Hn.out.symm;rw[hl]at hob |-;have hB:=Blk.new w2 96 #[.slice (some ⟨g,0,none⟩) (m+1) cap];have hg3:=World.grownBy_alloc w2 (.cells #[.slice (some ⟨g,0,none⟩) (m+1) cap] 96) none;have ho3:=hob.new hg3;have g3:=qad g2 hg3;have hs3:=g2.size;clear hg1 hg2 ho hob hg3 g2 hl;go_upto_region 4 with fail;generalize w2.alloc (.cells #[.slice (some ⟨g,0,none⟩) (m+1) cap] 96)=w3 at hB ho3 g3 |-;generalize w2.heap.size=tb at hB hs3 |-;obtain⟨A2,hA2⟩:∃A2:Option Addr,A2=(if cap=1 then some ⟨g,0,none⟩else some ⟨g,0+1,none⟩):=⟨_,rfl⟩
     have hd2:d=x::d.drop 1:=by
      obtain⟨h1,h2⟩:=List.getElem?_eq_some_iff.1 Hx.out;rw[<-h2,getElem_cons_drop];rfl
     have q4:QI w3 w.heap.size (.slice A2 m (cap-1)) (d.drop 1):=by
      have q3:=ho3.qi;unfold QI at q3 |-;rw[hd2,map_cons]at q3;obtain⟨g',o',e1,e2,e3,e4,e5⟩:=QS.tail q3;injection e1 with e1;injection e1 with e1 e6;subst e1 e6;rw[show m+1-1=m by omega]at e4 e5;rw[hA2];split
      . exact e5 (by assumption)
      . exact e4
     have HA2:=Lib.hid hA2;clear hA2 hd2;go_wp2_with fail;refine(q8l tb g 0 m cap x d w3 hB ho3.ri qbW Hx.out).mono ?_;rw[<-HA2.out];rintro e w4 ⟨rfl,rfl⟩;have hst:w3.grownBy (w3.setCell ⟨tb,0,none⟩ (.slice A2 m (cap-1))) (some tb):=qbf (qah _ _) (.inr rfl) _;have xK:qh w3 3 (some tb):=qh.blk hB (by decide);have Q4:=q4.grown hst xK;have B4:=hB.jr 0 (.slice A2 m (cap-1));have c4:=B4.cell 0;have g4:=qbd g3 hst (λg e=>by cases e;exact .inl hs3);clear q4 ho3 hst xK hB HA2;generalize w3.setCell ⟨tb,0,none⟩ (.slice A2 m (cap-1))=w4 at Q4 B4 c4 g4 |-;go_wp2_with fail;refine bodyPost_ret (v:=.tuple #[.slice A2 m (cap-1),.int .i64 x,.bool true]) (by simp[results,results141,go_sem]) rfl ?_;rw[Hr.out];exact⟨_,rfl,Q4,g4⟩
 . have hv':qbj d=false:=by simpa using hv
   have Hv:=Lib.hid hv'
   have Hr:Hid (qb3 d=none):=by
    show _=_;unfold qb3;rw[hv'];rfl
   clear hv hv';go_enter func141,ntmps141;go_wp2_with fail;refine(qd2 _ d w h Hv.out).mono ?_;rintro e w1 ⟨rfl,hg1⟩;go_wp2_with fail;refine bodyPost_ret (v:=.tuple #[.slice none 0 0,.int .i64 0,.bool false]) (by simp[results,results141,go_sem]) rfl ?_;rw[Hr.out];exact⟨rfl,hg1⟩
theorem qg.kZ{w w':World}{b:Nat}{v o:Value}{l:List Int}(h:qg w b v l)(hg:w.grownBy w' o.ownBlock)(ho:∀g,o.ownBlock=some g->∀g',v.ownBlock=some g'->g≠g'):qg w' b v l:=by
 refine h.jN hg ?_;cases hv:v.ownBlock with
 |none=>exact .inl rfl
 |some g'=>exact .inr (λe=>ho g' e.symm g' hv rfl)
structure qaW(w0 wx:World)(base X:Nat)(d k o r:Value)(C:List Int)(D:List (List Int))(N:List Int)(Rw:List (List Int))(xs ys:List Value):Prop where
 o:vv wx base X d k o r D N Rw xs ys
 ct:RI wx k C
 res:Blk wx (X+1) 29 #[.slice none 0 0,.slice none 0 0,.slice none 0 0,.slice none 0 0]
 g:w0.grownBy wx none
theorem qaW.new{w0 wx wy:World}{base X:Nat}{d k o r:Value}{C:List Int}{D:List (List Int)}{N:List Int}{Rw:List (List Int)}{xs ys:List Value}(M:qaW w0 wx base X d k o r C D N Rw xs ys)(hg:wx.grownBy wy none):qaW w0 wy base X d k o r C D N Rw xs ys:=
 ⟨M.o.new hg,M.ct.new hg,M.res.grown hg (by simp),qad M.g hg⟩
theorem qaW.start{w0 w:World}{base:Nat}{d k o r:Value}{C:List Int}{D:List (List Int)}{N:List Int}{Rw:List (List Int)}{xs ys:List Value}(hd:LQ w base d D xs)(hk:RI w k C)(ho:qg w base o N)(hr:LX w base r Rw ys)(hal:Apart (o::(xs++ys)))(hdr:∀g,d.ownBlock=some g->r.ownBlock≠some g)(hg:w0.grownBy w none) :
   qaW w0 ((w.alloc (.cells #[d,k,o,r] 29)).alloc (.cells #[.slice none 0 0,.slice none 0 0,.slice none 0 0,.slice none 0 0] 29)) base w.heap.size d k o r C D N Rw xs ys:=by
 have hR0:=Blk.new (w.alloc (.cells #[d,k,o,r] 29)) 29 #[.slice none 0 0,.slice none 0 0,.slice none 0 0,.slice none 0 0];rw[World.size_alloc]at hR0;have g1:=World.grownBy_alloc w (.cells #[d,k,o,r] 29) none;have g2:=qad g1 (World.grownBy_alloc (w.alloc (.cells #[d,k,o,r] 29)) (.cells #[.slice none 0 0,.slice none 0 0,.slice none 0 0,.slice none 0 0] 29) none);exact⟨⟨(Blk.new w 29 #[d,k,o,r]).alloc _,hd.new g2,ho.new g2,hr.new g2,hal,hdr⟩,hk.new g2,hR0,qad hg g2⟩
def qiM(w0:World)(base:Nat)(c:qj)(e:Ending)(w':World):Prop:=∃v,e=.returned (.tuple #[v,.nilIface])/\jw w' base v c/\w0.grownBy w' none
theorem qnf(pv d k o r:Value)(qa:List Node)(c:qj)(L:List (List Int))(j m:Nat)(xs ys:List Value)(base:Nat)(w0 w:World)(hp:RN w pv qa)(hd:LQ w base d L xs)(hk:RI w k c.counts)(ho:qg w base o c.done)(hr:LX w base r c.rows ys)(hal:Apart (o::(xs++ys)))(hdr:∀g,d.ownBlock=some g->r.ownBlock≠some g)
   (hg:w0.grownBy w none) (hb:w0.heap.size<=base) (hbw:base<=w.heap.size) (H:qp qa c) (hL:L.length=c.qb.length) (hj:j<L.length) (hx:(m:Int)∈qat qa c.done) (hdl:∀l∈L,l.length<=10) :
   Calls prog 138 #[pv,.agg #[d,k,o,r],.int .i64 j,.int .i64 m] w (qiM w0 base (qg4 qa {c with qb:=L} j (m:Int))):=by
 have hmp:m<qa.length:=by
  obtain⟨i,hi,e,_⟩:=(qdw H.pv).1 hx;omega
 have hrl:c.rows.length=qa.length:=H.rl;obtain⟨A,n,cp,rfl,-,hn,-⟩:=hp.form';obtain⟨gd,zN,rfl,hcd,hbd⟩:=hd.form rfl (by omega);obtain⟨gr,xj,rfl,hcr,hbr⟩:=hr.form hrl (by omega);obtain⟨Ak,nk,ck,rfl⟩:=hk.val;obtain⟨Ao,no,co,rfl⟩:=ho.ri.val;have M0:=qaW.start hd hk ho hr hal hdr hg
 have qaX:Hid (∀u∈.slice Ao no co::(xs++ys),∀g,u.ownBlock=some g->g<w.heap.size):=by
  show ∀u∈_,_;intro u hu g hg;rcases mem_cons.1 hu with rfl|hu
  . exact(ho.lt g hg).2
  . rcases mem_append.1 hu with hu|hu
    . exact(hd.lts u hu g hg).2
    . exact(hr.lts u hu g hg).2
 have hnr:(qb4 qa c.counts (m:Int)).length<=10:=by
  have h1:=length_filter_le (λi=>has qa i (m:Int)&&decide (c.counts.getD i 0=1)) (range qa.length);have h2:=qap H.pv;unfold qb4;rw[length_map];rw[length_range]at h1;omega
 have hgW:w.grownBy ((w.alloc (.cells #[.slice (some ⟨gd,0,none⟩) L.length zN,.slice Ak nk ck,.slice Ao no co,.slice (some ⟨gr,0,none⟩) qa.length xj] 29)).alloc (.cells #[.slice none 0 0,.slice none 0 0,.slice none 0 0,.slice none 0 0] 29)) none:=qar (qar (qah w none) _) _;obtain⟨l0,hl0⟩:∃l0,L[j]?=some l0:=⟨_,getElem?_eq_getElem hj⟩;have zY:l0.length<=10:=hdl l0 (mem_of_getElem? hl0);have HH:=Lib.hid H;have Hx:=Lib.hid hx;have Hl0:=Lib.hid hl0;have Hrl:=Lib.hid hrl;have hdn:c.done.length<=1000:=by have:=qfz H;have:=qap H.pv;omega
 clear H hx hl0 hrl hd hk ho hr hal hdr hg hdl hL hn;obtain⟨nD,hnD⟩:∃nD,nD=L.length:=⟨_,rfl⟩;obtain⟨nR,hnR⟩:∃nR,nR=qa.length:=⟨_,rfl⟩;have hjD:j<nD:=by omega
 have hmR:m<nR:=by omega
 rw[<-hnD,<-hnR]at M0 hgW |-;have HnD:=Lib.hid hnD;have HnR:=Lib.hid hnR;clear hnD hnR;go_enter func138,ntmps138;go_upto_region 1 with fail;generalize ((w.alloc (.cells #[.slice (some ⟨gd,0,none⟩) nD zN,.slice Ak nk ck,.slice Ao no co,.slice (some ⟨gr,0,none⟩) nR xj] 29)).alloc (.cells #[.slice none 0 0,.slice none 0 0,.slice none 0 0,.slice none 0 0] 29))=W at M0 hgW |-;have d1:=M0.o.x.cell 1;have hsW:=hgW.size;go_wp2_with fail;refine(qif _ _ qa c.counts m W (hp.new hgW) M0.ct).mono ?_;intro e w1 hO;rw[HH.out.done Hx.out]at hO;obtain⟨kv,rv,rfl,o1,o2,hg1⟩:=hO;have M1:=M0.new hg1;have hs1:=hg1.size;have Hk:=Lib.hid o1.lt;have p1:=(hp.new hgW).new hg1;obtain⟨Ac,nc,cc,rfl⟩:=o1.ri.val;obtain⟨Ar,nr,cr,rfl,-,qiN⟩:=o2.ri.form';have Hnr:=Lib.hid qiN;have qcF:nr<=10:=by omega
 clear d1 M0 hg1 qiN;go_wp2_with fail;refine(q3x _ qa m w1 p1 HH.out.pv hmp).mono ?_;rintro e w2 ⟨qtX,rfl,o3,hg2⟩;have M2:=M1.new hg2;have hs2:=hg2.size;have qaU:=Lib.hid o3.lt;have o1b:=o1.new hg2;have o2b:=o2.ri.new hg2;obtain⟨Aw,nw,cw,rfl⟩:=o3.ri.val;clear M1 hg2 o1 o2 p1;have d0:=M2.o.x.cell 0;obtain⟨g,oz,l,Bl,ml,el,e1,hl,q0,hrl,-,-,-⟩:=M2.o.dq.rl.at_ hjD;injection e1 with e1;injection e1 with e1 e2;subst e1 e2;obtain rfl:l0=l:=Option.some.inj (Hl0.out.symm.trans hl);rw[Nat.zero_add]at q0;have hji:(j:Int)<(nD:Int):=by omega
 clear hl;go_wp2_with fail;refine(qjl _ l0 w2 hrl (by omega)).mono ?_;rintro e w3 ⟨u,rfl,o4,hg3⟩;obtain⟨An,nn,cn,rfl⟩:=o4.ri.val;have hB4:=Blk.new w3 96 #[.slice An nn cn];have hgN:=qad hg3 (World.grownBy_alloc w3 (.cells #[.slice An nn cn] 96) none);have o4b:=o4.new (World.grownBy_alloc w3 (.cells #[.slice An nn cn] 96) none);have hs3:=hg3.size;clear q0 hrl o4 hg3;go_upto_region 8 with fail;generalize w3.alloc (.cells #[.slice An nn cn] 96)=w4 at hB4 hgN o4b |-;generalize w3.heap.size=nb at hB4 hs3 |-;clear d0;go_wp2_with fail
 go_loopg [50] (nr+1) (λmm i wr=>∃(q:Nat) (u:Value),q<=nr/\mm=nr+1-q/\i=.int .i64 q/\Blk wr nb 96 #[u]/\qg wr w2.heap.size u (l0++(qb4 qa c.counts m).take q)/\w2.grownBy wr none)
 case atStart=>exact⟨0,_,Nat.zero_le _,rfl,rfl,hB4,by simpa using o4b,hgN⟩
 case round=>
  clear hB4 o4b hgN;obtain⟨q,u,hq,rfl,rfl,hB,hown,hgr⟩:=hrel;by_cases hlt:q<nr
  . obtain⟨g',o',y,rfl,hy,c0⟩:=(o2b.new hgr).at_ hlt
    have Hy:Hid ((l0++(qb4 qa c.counts m).take q)++[y]=l0++(qb4 qa c.counts m).take (q+1)):=by
     show _=_;obtain⟨h1,h2⟩:=List.getElem?_eq_some_iff.1 hy;rw[take_succ_eq_append_getElem h1,h2,append_assoc]
    have hlen:(l0++(qb4 qa c.counts m).take q).length<=1000000:=by
     rw[length_append,length_take];omega
    clear hy;go_wp2_with fail;refine(qpC nb w2.heap.size y u _ w2 wr hB hown hlen hgr (Nat.le_refl _) hgr.size hs3).mono ?_;rintro e w5 ⟨rfl,u',hB',hown',qpK⟩;rw[Hy.out]at hown';clear hB hown;go_wp2;go_roundg (nr+1-(q+1))
    case measure=>omega
    case rel=>exact⟨q+1,u',by omega,rfl,by go_num,hB',hown',qpK⟩
  . obtain rfl:nr=q:=by omega
    have M4:=M2.new hgr;have k4:=o1b.new hgr;have r4:=o3.new hgr;have hsr:=hgr.size;rw[take_of_length_le (Nat.le_of_eq Hnr.out.symm)]at hown;obtain⟨Af,nf,cf,rfl⟩:=hown.ri.val;have qaA:=Lib.hid hown.lt;clear M2 o1b o3 o2b hgr;have x1:=M4.o.x.cell 1;have y1:=M4.o.x.frozen 1;have zK:wr.grownBy (wr.setCell ⟨w.heap.size,1,none⟩ (.slice Ac nc cc)) (some w.heap.size):=qbf (p:=⟨w.heap.size,1,none⟩) (qah wr (some w.heap.size)) (.inr rfl) _;have hn5:qh wr 3 (some w.heap.size):=qh.blk M4.o.x (by decide);have O5:=M4.o.put (k':=.slice Ac nc cc);have k5:qg _ _ _ _:=k4.grown zK hn5;have r5:qg _ _ _ _:=r4.grown zK hn5;have n5:qg _ _ _ _:=hown.grown zK hn5;have B5:=hB.past zK (qh.blk M4.o.x (by decide));have R5:=M4.res.grown zK (by simp);have hw0:w0.heap.size<=w.heap.size:=Nat.le_trans hb hbw;have g5:w0.grownBy _ none:=qbd M4.g zK (λg e=>by cases e;exact .inl hw0);have hs5:=zK.size;clear k4 r4 hown hB hn5;go_upto_region 14 with fail;clear x1 y1 M4 zK;generalize wr.setCell ⟨w.heap.size,1,none⟩ (.slice Ac nc cc)=w5 at O5 k5 r5 n5 B5 R5 g5 hs5 |-;have x2:=O5.x.cell 2;have qaY:=O5.dn;go_wp2_with (at_builtin;go_must (refine qjv (.tmp 60) (.tmp 62) rfl rfl qaY (by omega) (by omega) rfl rfl rfl ?_));intro v6 w6 vp hg6 hb6;obtain⟨x6,f6,O6⟩:=O5.more hg6 vp hb6;have hoB:∀g,(slice Ao no co).ownBlock=some g->g<w.heap.size:=λg e=>qaX.out _ (by simp) g e;have k6:=k5.kZ hg6 (λg e g' e'=>by have:=hoB g e;have:=(Hk.out g' e').1;omega);have r6:=r5.kZ hg6 (λg e g' e'=>by have:=hoB g e;have:=(qaU.out g' e').1;omega);have n6:=n5.kZ hg6 (λg e g' e'=>by have:=hoB g e;have:=(qaA.out g' e').1;omega);have B6:=B5.past hg6 (qaY.jL (by decide));have R6:=R5.past hg6 (qaY.jL (by decide));have X6:=O5.x.past hg6 (qaY.jL (by decide));have g6:=qaY.gb g5 hg6 hb;have qaB:w6.grownBy (w6.setCell ⟨w.heap.size,2,none⟩ v6) (some w.heap.size):=qbf (p:=⟨w.heap.size,2,none⟩) (qah w6 (some w.heap.size)) (.inr rfl) _;have hn7:qh w6 3 (some w.heap.size):=qh.blk X6 (by decide);have k7:qg _ _ _ _:=k6.grown qaB hn7;have r7:qg _ _ _ _:=r6.grown qaB hn7;have n7:qg _ _ _ _:=n6.grown qaB hn7;have B7:=B6.past qaB (qh.blk X6 (by decide));have R7:=R6.grown qaB (by simp);have g7:w0.grownBy _ none:=qbd g6 qaB (λg e=>by cases e;exact .inl hw0)
    have hov:∀g,v6.ownBlock=some g->g<w.heap.size∨w5.heap.size<=g:=λg e=>by
     rcases hb6 with h|⟨b,h,hb'⟩
     . exact .inl (hoB g (h▸e))
     . rw[h]at e;cases e;exact .inr hb'
    have Hov:=Lib.hid hov;obtain⟨Av,nv,cv,rfl⟩:=vp.ri.val;clear k5 r5 n5 B5 R5 g5 qaY k6 r6 n6 B6 R6 g6 x2 hov hn7 vp hb6 O5 hg6 qaB;go_upto_region 15 with fail;clear x6 f6 X6;generalize w6.setCell ⟨w.heap.size,2,none⟩ (.slice Av nv cv)=w7 at O6 k7 r7 n7 B7 R7 g7 |-
    have qdN:∀u∈.slice Av nv cv::(xs++ys),∀g,u.ownBlock=some g->(slice Aw nw cw).ownBlock≠some g:=λu hu g hu' e=>by
     have h1:=qaU.out g e;rcases mem_cons.1 hu with rfl|hu
     . have:=Hov.out g hu';omega
     . have:=qaX.out u (mem_cons_of_mem _ hu) g hu';omega
    have hmr:m<c.rows.length:=by have:=Hrl.out;have:=HnR.out;omega
    obtain⟨⟨u8,cR,fR⟩,xw,hb8,hE8,hI8,hQ8,O8⟩:=O6.setRow hmr (r7.low (by omega)) qdN;have x3:=O6.x.cell 3;have k8:qg _ _ _ _:=k7.grown xw hI8;have n8:qg _ _ _ _:=n7.grown xw hI8;have B8:=B7.past xw hQ8;have R8:=R7.past xw hE8;have g8:w0.grownBy _ none:=qbd g7 xw (λg e=>by cases e;exact .inl (Nat.le_trans hb hb8));have hmi:(m:Int)<(nR:Int):=by omega
    clear k7 n7 r7 B7 R7 g7 qdN O6;go_upto_region 16 with fail;clear x3 cR fR xw hE8 hI8 hQ8;generalize w7.setCell ⟨gr,m,none⟩ (.slice Aw nw cw)=w8 at O8 k8 n8 B8 R8 g8 |-
    have qiO:∀u∈.slice Av nv cv::(xs++ys.set m (.slice Aw nw cw)),∀g,u.ownBlock=some g->(slice Af nf cf).ownBlock≠some g:=λu hu g hu' e=>by
     have h1:=qaA.out g e;rcases mem_cons.1 hu with rfl|hu
     . have:=Hov.out g hu';omega
     . rcases mem_append.1 hu with hu|hu
       . have:=qaX.out u (mem_cons_of_mem _ (mem_append_left _ hu)) g hu';omega
       . rcases mem_or_eq_of_mem_set hu with hu|rfl
         . have:=qaX.out u (mem_cons_of_mem _ (mem_append_right _ hu)) g hu';omega
         . have:=qaU.out g hu';omega
    have hjL:j<L.length:=by have:=HnD.out;omega
    obtain⟨⟨u9,cQ,fQ⟩,yq,hb9,hE9,hI9,O9⟩:=O8.kY hjL ((n8.low (by omega)).qi) qiO;have x0:=O8.x.cell 0;have z0:=B8.cell 0;have k9:qg _ _ _ _:=k8.grown yq hI9;have R9:=R8.past yq hE9;have g9:w0.grownBy _ none:=qbd g8 yq (λg e=>by cases e;exact .inl (Nat.le_trans hb hb9));clear k8 n8 R8 g8 qiO O8;go_upto_region 17 with fail;clear x0 z0 cQ fQ yq hE9 hI9 B8;generalize w8.setCell ⟨gd,j,none⟩ (.slice Af nf cf)=w9 at O9 k9 R9 g9 |-
    have hal:Apart (.slice Ac nc cc::.slice Av nv cv::(xs.set j (.slice Af nf cf)++ys.set m (.slice Aw nw cw))):=by
     refine pairwise_cons.2 ⟨λu hu g e e'=>?_,O9.al⟩;have h1:=Hk.out g e;rcases mem_cons.1 hu with rfl|hu
     . have:=Hov.out g e';omega
     . rcases mem_append.1 hu with hu|hu
       . rcases mem_or_eq_of_mem_set hu with hu|rfl
         . have:=qaX.out u (mem_cons_of_mem _ (mem_append_left _ hu)) g e';omega
         . have:=qaA.out g e';omega
       . rcases mem_or_eq_of_mem_set hu with hu|rfl
         . have:=qaX.out u (mem_cons_of_mem _ (mem_append_right _ hu)) g e';omega
         . have:=qaU.out g e';omega
    have hF:jw w9 base (.agg #[.slice (some ⟨gd,0,none⟩) nD zN,.slice Ac nc cc,.slice Av nv cv,.slice (some ⟨gr,0,none⟩) nR xj]) (qg4 qa {c with qb:=L} j (m:Int)):=by
     have e1:qg4 qa {c with qb:=L} j (m:Int)=⟨L.set j (l0++qb4 qa c.counts m),qb2 qa c.counts m,c.done++[(m:Int)],c.rows.set m (qdi qa m)⟩:=by
      unfold qg4;simp only[getD_eq_getElem?_getD,Hl0.out,Option.getD_some,Int.toNat_natCast]
     rw[e1];exact⟨_,_,_,_,_,_,rfl,O9.dq,k9.low (by omega),O9.dn,O9.ro,hal,O9.dr⟩
    have x0:=O9.x.cell 0;have x1:=O9.x.cell 1;have x2:=O9.x.cell 2;have x3:=O9.x.cell 3;have y0:=R9.cell 0;have y1:=R9.cell 1;have y2:=R9.cell 2;have y3:=R9.cell 3;have f0:=R9.frozen 0;have f1:=R9.frozen 1;have f2:=R9.frozen 2;have f3:=R9.frozen 3;have hst:=qeg w9 (w.heap.size+1) (.slice (some ⟨gd,0,none⟩) nD zN) (.slice Ac nc cc) (.slice Av nv cv) (.slice (some ⟨gr,0,none⟩) nR xj);have hfin:Hid (qiM w0 base (qg4 qa {c with qb:=L} j (m:Int)) _ _):=⟨_,rfl,hF.grown hst (qh.blk R9 (by decide)) (qh.blk R9 (by decide)),qbd g9 hst (λg e=>by cases e;exact .inl (by omega))⟩;clear hF hst hal k9 O9 R9 g9;go_wp2_with fail;refine bodyPost_ret (v:=.tuple #[.agg #[.slice (some ⟨gd,0,none⟩) nD zN,.slice Ac nc cc,.slice Av nv cv,.slice (some ⟨gr,0,none⟩) nR xj],.nilIface]) (by simp[results,results138,go_sem,y0,y1,y2,y3]) rfl ?_;exact hfin.out
end
end Go.Proofs.YtacemdoejblgaaaGreatDoor
