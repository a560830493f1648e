/- Part 29. Conditions: each statement's. -/
import Derived.Test.YtacemdoejblgaaaGreatDoorM28
namespace Go.Proofs.YtacemdoejblgaaaGreatDoor
set_option maxHeartbeats 6400000
set_option maxRecDepth 100000
section
open Go.RowKit
theorem qlz{qa:List Node}{c:qj}{w f:Int}(h:qaw qa c=false):qay qa c w f=none:=by unfold qay;rw [h];rfl
theorem ql0{qa:List Node}{c:qj}{w f:Int}(h:qa9 c w=false):qay qa c w f=none:=by unfold qay;rw [h,Bool.and_false];rfl
theorem qjy{qa:List Node}{c:qj}{w f:Int}(h:qa9 c f=false):qay qa c w f=none:=by unfold qay;rw [h,Bool.and_false];rfl
theorem qjz{qa:List Node}{c:qj}{w:Int}:qay qa c w w=none:=by unfold qay;simp
theorem qj0{qa:List Node}{c:qj}{k:Nat}{f:Int}{d:List Int}(hd:c.qb[k]?=some d)(h:d≠[]):qay qa c (k:Int) f=none:=by
 unfold qay;rw [Int.toNat_natCast,List.getD_eq_getElem?_getD,hd];simp [h]
theorem qny{qa:List Node}{c:qj}{k f:Nat}(hv:qaw qa c=true)(hk:k < c.qb.length)(hf:f < c.qb.length)(hne:k≠f)(he:c.qb[k]?=some []){d:List Int}(hd:c.qb[f]?=some d):qay qa c (k:Int) (f:Int)=(qbj d).map fun x=>qft qa { c with qb:=c.qb.set f x.1 } k x.2:=by
 have H:=qbk.1 hv;have hw:qa9 c (k:Int)=true:=qbh.2 ⟨Int.natCast_nonneg k,by omega⟩;have hw2:qa9 c (f:Int)=true:=qbh.2 ⟨Int.natCast_nonneg f,by omega⟩;have hne':¬ (k:Int)=(f:Int):=by omega
 unfold qay qbj;rw [hv,hw,hw2,H.xu hd,Int.toNat_natCast,Int.toNat_natCast,List.getD_eq_getElem?_getD,he,List.getD_eq_getElem?_getD,hd,decide_eq_false hne'];simp only [Option.getD_some,decide_true,Bool.not_false,Bool.and_self,if_true];cases d <;> rfl
theorem qmz(pv v:Value)(qa:List Node)(c:qj)(wk fk:Int)(w:World)(hp:RN w pv qa)(h:CV w v c)(hpl:qa.length<=1000000000)(hfit:c.qb.length<=1048576/\∀ d∈c.qb,d.length<=1048576) :
   Calls Tryz.prog 79 #[pv,v,.int .i64 wk,.int .i64 fk] w (qU w (qay qa c wk fk)):=by
 obtain⟨A,n,cp,rfl,-,hn,-⟩:=hp.form';obtain⟨A1,n1,c1,A2,n2,c2,A3,n3,c3,A4,n4,c4,rfl,h1,-,-,-⟩:=h.form;have B0:=j7.start h;have hn1:=h1.len;have qdR:n1<=1048576:=by omega
 have Hn1:=Lib.hid hn1;have qD:=Lib.hid hfit.2;clear hn hn1 h1 h hfit;by_cases hv:qaw qa c=true
 . have Hv:=Lib.hid hv;by_cases hin:0<=wk/\wk<=(n1:Int) - 1
   . have Hin:Hid ((decide (0<=wk) && decide (wk<=(n1:Int) - 1))=true):=by show _=_;simp [hin.1,hin.2]
     by_cases hif:0<=fk/\fk<=(n1:Int) - 1
     . have Hif:Hid ((decide (0<=fk) && decide (fk<=(n1:Int) - 1))=true):=by show _=_;simp [hif.1,hif.2]
       by_cases hsame:wk=fk
       . have hb:(wk == fk)=true:=by simpa using hsame
         have Hr:Hid (qay qa c wk fk=none):=by show _=_;rw [hsame];exact qjz
         clear hv hin hif hsame;go_enter Tryz.func79,Tryz.ntmps79;go_upto_region 1 with fail;generalize ((w.alloc (.cells #[.slice A1 n1 c1,.slice A2 n2 c2,.slice A3 n3 c3,.slice A4 n4 c4] 29)).alloc (.cells #[.slice none 0 0,.slice none 0 0,.slice none 0 0,.slice none 0 0] 29))=W at B0 |-;have d0:=B0.b.d0;have d1:=B0.b.d1;have d2:=B0.b.d2;have d3:=B0.b.d3;go_wp2_with fail;refine(qbz _ _ qa c W (hp.new B0.g) B0.b.cv hpl qD.out Hv.out).mono ?_;rintro e w1 ⟨rfl,hg1⟩;have B1:=B0.new hg1;clear B0 hg1 d0 d1 d2 d3;have d0:=B1.b.d0;have y0:=B1.res.cell 0;have y1:=B1.res.cell 1;have y2:=B1.res.cell 2;have y3:=B1.res.cell 3;have f0:=B1.res.frozen 0;have f1:=B1.res.frozen 1;have f2:=B1.res.frozen 2;have f3:=B1.res.frozen 3;have hfin:=Lib.hid (qfc B1.g);clear B1;go_wp2_with fail;refine(qdl _ _ _ _ Hin.out).mono ?_;rintro e w2 ⟨rfl,rfl⟩;go_wp2_with fail;refine(qdl _ _ _ _ Hif.out).mono ?_;rintro e w2 ⟨rfl,rfl⟩;go_wp2_with fail;refine bodyPost_ret (v:=.tuple #[.agg #[.slice none 0 0,.slice none 0 0,.slice none 0 0,.slice none 0 0],.bool false]) (by simp [results,Tryz.results79,go_sem,y0,y1,y2,y3]) rfl ?_;rw [Hr.out];exact hfin.out
       . have hb:(wk == fk)=false:=by simpa using hsame
         obtain⟨k,rfl⟩:=Int.eq_ofNat_of_zero_le hin.1;obtain⟨f,rfl⟩:=Int.eq_ofNat_of_zero_le hif.1;have hk:k < n1:=by omega
         have hf:f < n1:=by omega
         have hkf:k≠f:=fun e=>hsame (by rw [e]);clear hv hin hif hsame;go_enter Tryz.func79,Tryz.ntmps79;go_upto_region 1 with fail;generalize ((w.alloc (.cells #[.slice A1 n1 c1,.slice A2 n2 c2,.slice A3 n3 c3,.slice A4 n4 c4] 29)).alloc (.cells #[.slice none 0 0,.slice none 0 0,.slice none 0 0,.slice none 0 0] 29))=W at B0 |-;have d0:=B0.b.d0;have d1:=B0.b.d1;have d2:=B0.b.d2;have d3:=B0.b.d3;go_wp2_with fail;refine(qbz _ _ qa c W (hp.new B0.g) B0.b.cv hpl qD.out Hv.out).mono ?_;rintro e w1 ⟨rfl,hg1⟩;have B1:=B0.new hg1;clear B0 hg1 d0 d1 d2 d3;have d0:=B1.b.d0;have d1:=B1.b.d1;have d2:=B1.b.d2;have d3:=B1.b.d3;have hkD:k < c.qb.length:=by rw [<-Hn1.out];exact hk
         have hfD:f < c.qb.length:=by rw [<-Hn1.out];exact hf
         obtain⟨g,o,dw,Bw,mw,ew,rfl,hdw,qw,hrw,hmw,-,-⟩:=B1.b.dq.at_ hk;obtain⟨g2,o2,d,Bd,md,ed,e2,hd,q0,hrd,-,-,-⟩:=B1.b.dq.at_ hf;injection e2 with e2;injection e2 with e2 e3;subst e2 e3;have hki:(k:Int) < (n1:Int):=by omega
         have hfi:(f:Int) < (n1:Int):=by omega
         by_cases hm0:mw=0
         . have hgt:¬ ((0:Int) < (mw:Int)):=by omega
           have qgK:dw=[]:=List.eq_nil_of_length_eq_zero (by omega);subst qgK;have Heq:=Lib.hid (qny Hv.out hkD hfD hkf hdw hd);have Hd:=Lib.hid hd;clear hd hdw hmw hm0;go_wp2_with fail;refine(qdl _ _ _ _ Hin.out).mono ?_;rintro e w2 ⟨rfl,rfl⟩;go_wp2_with fail;refine(qdl _ _ _ _ Hif.out).mono ?_;rintro e w2 ⟨rfl,rfl⟩;go_wp2_with fail;refine(ql6 _ d w1 hrd).mono ?_;cases jT:qbj d with
           | none=>
             rintro e w2 ⟨u,y,rfl,hu,hg2⟩;have B2:=B1.new hg2;have Hr:Hid (qay qa c (k:Int) (f:Int)=none):=by show _=_;rw [Heq.out,jT];rfl
             have y0:=B2.res.cell 0;have y1:=B2.res.cell 1;have y2:=B2.res.cell 2;have y3:=B2.res.cell 3;have f0:=B2.res.frozen 0;have f1:=B2.res.frozen 1;have f2:=B2.res.frozen 2;have f3:=B2.res.frozen 3;have hfin:=Lib.hid (qfc B2.g);clear jT B1 B2 d0 d1 d2 d3 hg2 q0 hrd qw hrw;obtain⟨Au,nu,cu,rfl⟩:=hu.val;go_wp2_with fail;refine bodyPost_ret (v:=.tuple #[.agg #[.slice none 0 0,.slice none 0 0,.slice none 0 0,.slice none 0 0],.bool false]) (by simp [results,Tryz.results79,go_sem,y0,y1,y2,y3]) rfl ?_;rw [Hr.out];exact hfin.out
           | some lx=>
             obtain⟨l,x⟩:=lx;rintro e w2 ⟨u,rfl,hu,hg2⟩;have H:=qbk.1 Hv.out;obtain⟨hxd,hll⟩:=qwu jT;have jF:l.length<=10:=Nat.le_trans hll (qdu H d (List.mem_of_getElem? Hd.out));obtain⟨m,nd,rfl,hnd,vG,hmp⟩:=qjc H Hd.out hxd;have HH:=Lib.hid H;have Hr:Hid (qay qa c (k:Int) (f:Int)=some (qrh qa { c with qb:=c.qb.set f l } k m nd)):=by show _=_;rw [Heq.out,jT,qwt H hnd vG];rfl
             have Hnd:=Lib.hid hnd;have hDo:Hid (vU qa { c with qb:=c.qb.set f l } k m):=q0b H hkD hmp jF;have B2:=B1.new hg2;have hs1:w.heap.size<=w1.heap.size:=B1.g.size;have hu':=hu.lower hs1;obtain⟨Au,nu,cu,rfl⟩:=hu.ri.val;clear jT H hxd hll jF hnd vG hmp hu B1 hg2 d0 d1 d2 d3 q0 hrd qw hrw;have d0:=B2.b.d0;have d1:=B2.b.d1;have d2:=B2.b.d2;have d3:=B2.b.d3;go_wp2_with fail;refine(qki _ c w2 B2.b.cv (by have:=HH.out.d4;omega) (fun l hl=>by have:=qdu HH.out l hl;omega) (by have:=HH.out.rl;have:=qal HH.out.pv;omega) (fun l hl=>by have:=qqx HH.out l hl;omega) (by have:=HH.out.counts;rw [this,qfe];have:=qal HH.out.pv;omega) (by have:=qg5 HH.out;have:=qal HH.out.pv;omega)).mono ?_;rintro e w3 ⟨v3,rfl,⟨dv,kv,ov,rv,xs,ys,rfl,q1,q2,q3,q4,q5,q6⟩,hg3⟩;have B3:=B2.new hg3;have hu3:=hu'.new hg3;have hs2:w.heap.size<=w2.heap.size:=B2.g.size;obtain⟨gd,j5,rfl,hcd,hbd⟩:=q1.form Hn1.out.symm (by omega);obtain⟨Ar,nr,cr,rfl⟩:=q4.rl.val;obtain⟨Ak,nk,ck,rfl⟩:=q2.val;obtain⟨Ao,no,co,rfl⟩:=q3.ri.val;clear d0 d1 d2 d3 B2 hu' hg3;go_upto_region 7 with fail;have hO:=jW.lay (k:=.slice Ak nk ck) (q1.low hs2) (q3.lower hs2) (q4.low hs2) q5 q6;have hgX:=World.grownBy_alloc w3 (.cells #[.slice (some ⟨gd,0,none⟩) n1 j5,.slice Ak nk ck,.slice Ao no co,.slice Ar nr cr] 29) none;have q2':=q2.new hgX;have hu4:=hu3.new hgX;have B4:=B3.new hgX;have hRX:w.heap.size+1 < w3.heap.size:=B3.res.lt;generalize w3.alloc (.cells #[.slice (some ⟨gd,0,none⟩) n1 j5,.slice Ak nk ck,.slice Ao no co,.slice Ar nr cr] 29)=w4 at hO hgX q2' hu4 B4 |-;generalize w3.heap.size=X at hO hRX |-;obtain⟨⟨u0,cR,fR⟩,j3,hE5,xK,hx5,zf⟩:=hO.xo hfD hu4 q2';have x0:=hO.x.cell 0;have xL:=B4.res.past j3 hE5;have g5:=qa1 B4.g j3 (fun g e=>by cases e;exact .inl xK);clear q1 q2 q3 q4 q5 q6 hgX B3 hu3;go_upto_region 8 with fail;clear cR fR x0 j3 hE5 q2' hu4 B4 hO;generalize w4.setCell ⟨gd,f,none⟩ (.slice Au nu cu)=w5 at hx5 zf xL g5 |-;have x0:=hx5.cell 0;have x1:=hx5.cell 1;have x2:=hx5.cell 2;have x3:=hx5.cell 3;go_wp2_with fail;refine(qw5 _ _ qa { c with qb:=c.qb.set f l } k m nd w5 (hp.new g5) zf hDo.out Hnd.out).mono ?_;rintro e w6 ⟨v6,rfl,xM,hg6⟩;have zg:=xL.grown hg6 (by simp);have g6:=qac g5 hg6;obtain⟨B1',m1',e1',B2',m2',e2',B3',m3',e3',B4',m4',e4',rfl,-,-,-,-⟩:=xM.form;have hfin:=Lib.hid (q0c g6 zg xM);have y0:=zg.cell 0;have y1:=zg.cell 1;have y2:=zg.cell 2;have y3:=zg.cell 3;have f0:=zg.frozen 0;have f1:=zg.frozen 1;have f2:=zg.frozen 2;have f3:=zg.frozen 3;clear x0 x1 x2 x3 hx5 zf xL g5 hg6 xM zg g6;go_wp2_with fail;refine bodyPost_ret (v:=.tuple #[.agg #[.slice B1' m1' e1',.slice B2' m2' e2',.slice B3' m3' e3',.slice B4' m4' e4'],.bool true]) (by simp [results,Tryz.results79,go_sem,y0,y1,y2,y3]) rfl ?_;rw [Hr.out];exact hfin.out
         . have hgt:(0:Int) < (mw:Int):=by omega
           have Hr:Hid (qay qa c (k:Int) (f:Int)=none):=qj0 hdw (fun e=>hm0 (by rw [hmw,e];rfl));have y0:=B1.res.cell 0;have y1:=B1.res.cell 1;have y2:=B1.res.cell 2;have y3:=B1.res.cell 3;have f0:=B1.res.frozen 0;have f1:=B1.res.frozen 1;have f2:=B1.res.frozen 2;have f3:=B1.res.frozen 3;have hfin:=Lib.hid (qfc B1.g);clear B1 hd hdw hmw hm0 hrw hrd q0;go_wp2_with fail;refine(qdl _ _ _ _ Hin.out).mono ?_;rintro e w2 ⟨rfl,rfl⟩;go_wp2_with fail;refine(qdl _ _ _ _ Hif.out).mono ?_;rintro e w2 ⟨rfl,rfl⟩;go_wp2_with fail;refine bodyPost_ret (v:=.tuple #[.agg #[.slice none 0 0,.slice none 0 0,.slice none 0 0,.slice none 0 0],.bool false]) (by simp [results,Tryz.results79,go_sem,y0,y1,y2,y3]) rfl ?_;rw [Hr.out];exact hfin.out
     . have Hif:Hid ((decide (0<=fk) && decide (fk<=(n1:Int) - 1))=false):=by
         show _=_;rw [Bool.and_eq_false_iff,decide_eq_false_iff_not,decide_eq_false_iff_not];omega
       have Hr:Hid (qay qa c wk fk=none):=by
         show _=_;refine qjy ?_;unfold qa9;rw [<-Hn1.out,Bool.and_eq_false_iff,decide_eq_false_iff_not,decide_eq_false_iff_not];omega
       clear hv hin hif;go_enter Tryz.func79,Tryz.ntmps79;go_upto_region 1 with fail;generalize ((w.alloc (.cells #[.slice A1 n1 c1,.slice A2 n2 c2,.slice A3 n3 c3,.slice A4 n4 c4] 29)).alloc (.cells #[.slice none 0 0,.slice none 0 0,.slice none 0 0,.slice none 0 0] 29))=W at B0 |-;have d0:=B0.b.d0;have d1:=B0.b.d1;have d2:=B0.b.d2;have d3:=B0.b.d3;go_wp2_with fail;refine(qbz _ _ qa c W (hp.new B0.g) B0.b.cv hpl qD.out Hv.out).mono ?_;rintro e w1 ⟨rfl,hg1⟩;have B1:=B0.new hg1;clear B0 hg1 d0 d1 d2 d3;have d0:=B1.b.d0;have y0:=B1.res.cell 0;have y1:=B1.res.cell 1;have y2:=B1.res.cell 2;have y3:=B1.res.cell 3;have f0:=B1.res.frozen 0;have f1:=B1.res.frozen 1;have f2:=B1.res.frozen 2;have f3:=B1.res.frozen 3;have hfin:=Lib.hid (qfc B1.g);clear B1;go_wp2_with fail;refine(qdl _ _ _ _ Hin.out).mono ?_;rintro e w2 ⟨rfl,rfl⟩;go_wp2_with fail;refine(qdl _ _ _ _ Hif.out).mono ?_;rintro e w2 ⟨rfl,rfl⟩;go_wp2_with fail;refine bodyPost_ret (v:=.tuple #[.agg #[.slice none 0 0,.slice none 0 0,.slice none 0 0,.slice none 0 0],.bool false]) (by simp [results,Tryz.results79,go_sem,y0,y1,y2,y3]) rfl ?_;rw [Hr.out];exact hfin.out
   . have Hin:Hid ((decide (0<=wk) && decide (wk<=(n1:Int) - 1))=false):=by
       show _=_;rw [Bool.and_eq_false_iff,decide_eq_false_iff_not,decide_eq_false_iff_not];omega
     have Hr:Hid (qay qa c wk fk=none):=by
       show _=_;refine ql0 ?_;unfold qa9;rw [<-Hn1.out,Bool.and_eq_false_iff,decide_eq_false_iff_not,decide_eq_false_iff_not];omega
     clear hv hin;go_enter Tryz.func79,Tryz.ntmps79;go_upto_region 1 with fail;generalize ((w.alloc (.cells #[.slice A1 n1 c1,.slice A2 n2 c2,.slice A3 n3 c3,.slice A4 n4 c4] 29)).alloc (.cells #[.slice none 0 0,.slice none 0 0,.slice none 0 0,.slice none 0 0] 29))=W at B0 |-;have d0:=B0.b.d0;have d1:=B0.b.d1;have d2:=B0.b.d2;have d3:=B0.b.d3;go_wp2_with fail;refine(qbz _ _ qa c W (hp.new B0.g) B0.b.cv hpl qD.out Hv.out).mono ?_;rintro e w1 ⟨rfl,hg1⟩;have B1:=B0.new hg1;clear B0 hg1 d0 d1 d2 d3;have d0:=B1.b.d0;have y0:=B1.res.cell 0;have y1:=B1.res.cell 1;have y2:=B1.res.cell 2;have y3:=B1.res.cell 3;have f0:=B1.res.frozen 0;have f1:=B1.res.frozen 1;have f2:=B1.res.frozen 2;have f3:=B1.res.frozen 3;have hfin:=Lib.hid (qfc B1.g);clear B1;go_wp2_with fail;refine(qdl _ _ _ _ Hin.out).mono ?_;rintro e w2 ⟨rfl,rfl⟩;go_wp2_with fail;refine bodyPost_ret (v:=.tuple #[.agg #[.slice none 0 0,.slice none 0 0,.slice none 0 0,.slice none 0 0],.bool false]) (by simp [results,Tryz.results79,go_sem,y0,y1,y2,y3]) rfl ?_;rw [Hr.out];exact hfin.out
 . have hv':qaw qa c=false:=by simpa using hv
   have Hv:=Lib.hid hv';have Hr:Hid (qay qa c wk fk=none):=qlz hv';clear hv hv';go_enter Tryz.func79,Tryz.ntmps79;go_upto_region 1 with fail;generalize ((w.alloc (.cells #[.slice A1 n1 c1,.slice A2 n2 c2,.slice A3 n3 c3,.slice A4 n4 c4] 29)).alloc (.cells #[.slice none 0 0,.slice none 0 0,.slice none 0 0,.slice none 0 0] 29))=W at B0 |-;have d0:=B0.b.d0;have d1:=B0.b.d1;have d2:=B0.b.d2;have d3:=B0.b.d3;go_wp2_with fail;refine(qbz _ _ qa c W (hp.new B0.g) B0.b.cv hpl qD.out Hv.out).mono ?_;rintro e w1 ⟨rfl,hg1⟩;have B1:=B0.new hg1;clear B0 hg1 d0 d1 d2 d3;have y0:=B1.res.cell 0;have y1:=B1.res.cell 1;have y2:=B1.res.cell 2;have y3:=B1.res.cell 3;have f0:=B1.res.frozen 0;have f1:=B1.res.frozen 1;have f2:=B1.res.frozen 2;have f3:=B1.res.frozen 3;have hfin:=Lib.hid (qfc B1.g);clear B1;go_wp2_with fail;refine bodyPost_ret (v:=.tuple #[.agg #[.slice none 0 0,.slice none 0 0,.slice none 0 0,.slice none 0 0],.bool false]) (by simp [results,Tryz.results79,go_sem,y0,y1,y2,y3]) rfl ?_;rw [Hr.out];exact hfin.out
theorem qnz{qa:List Node}{c:qj}{w:Int}(h:qaw qa c=false):qbw qa c w=-1:=by unfold qbw;rw [h];rfl
theorem qn0{qa:List Node}{c:qj}{w:Int}(h:qa9 c w=false):qbw qa c w=-1:=by unfold qbw;rw [h,Bool.and_false];rfl
theorem ql1{qa:List Node}{c:qj}{k:Nat}(h:∀ s,s < c.qb.length->c.qb.getD ((k+s) % c.qb.length) []=[]):qbw qa c (k:Int)=-1:=by
 unfold qbw;split
 . rw [Int.toNat_natCast,List.find?_map]
   have:(List.range c.qb.length).find? ((fun i=>!decide (c.qb.getD i []=[])) ∘ fun s=>(k+s) % c.qb.length)=none:=by
     rw [List.find?_eq_none];intro s hs;have e:=h s (List.mem_range.1 hs);rw [List.getD_eq_getElem?_getD] at e;simp [e]
   rw [this];rfl
 . rfl
theorem qj1{qa:List Node}{c:qj}{k i:Nat}(hv:qaw qa c=true)(hk:k < c.qb.length)(hi:i < c.qb.length)(h:∀ s,s < i->c.qb.getD ((k+s) % c.qb.length) []=[])(hne:c.qb.getD ((k+i) % c.qb.length) []≠[]) :
   qbw qa c (k:Int)=(((k+i) % c.qb.length:Nat):Int):=by
 have hw:qa9 c (k:Int)=true:=qbh.2 ⟨Int.natCast_nonneg k,by omega⟩;unfold qbw;rw [hv,hw,Bool.and_true,if_pos rfl,Int.toNat_natCast,List.find?_map]
 have:(List.range c.qb.length).find? ((fun i=>!decide (c.qb.getD i []=[])) ∘ fun s=>(k+s) % c.qb.length)=some i:=by
   rw [List.find?_range_eq_some];refine⟨by simpa using hne,List.mem_range.2 hi,fun s hs=>?_⟩;have e:=h s hs;rw [List.getD_eq_getElem?_getD] at e;simp [e]
 rw [this];rfl
theorem qy2{qa:List Node}{c:qj}{w:Int}:-1<=qbw qa c w:=by
 unfold qbw;split
 . split <;> omega
 . omega
def qs4(c:qj)(k i:Nat):Prop:=∀ s,s < i->c.qb.getD ((k+s) % c.qb.length) []=[]
theorem qq1{c:qj}{k i:Nat}(h:qs4 c k i)(he:c.qb.getD ((k+i) % c.qb.length) []=[]):qs4 c k (i+1):=by
 intro s hs;by_cases e:s=i
 . subst e;exact he
 . exact h s (by omega)
theorem qos(pv v:Value)(qa:List Node)(c:qj)(wk:Int)(w:World)(hp:RN w pv qa)(h:CV w v c)(hpl:qa.length<=1000000000)(hfit:c.qb.length<=1048576/\∀ d∈c.qb,d.length<=1048576) :
   Calls Tryz.prog 77 #[pv,v,.int .i64 wk] w fun e w'=>e=.returned (.int .i64 (qbw qa c wk))/\w.grownBy w' none:=by
 obtain⟨A,n,cp,rfl,-,hn,-⟩:=hp.form';obtain⟨A1,n1,c1,A2,n2,c2,A3,n3,c3,A4,n4,c4,rfl,h1,-,-,-⟩:=h.form;have hX:=h.box;have hgW:=World.grownBy_alloc w (.cells #[.slice A1 n1 c1,.slice A2 n2 c2,.slice A3 n3 c3,.slice A4 n4 c4] 29) none;have hn1:=h1.len;have qdR:n1<=1048576:=by omega
 have Hn1:=Lib.hid hn1;have qD:=Lib.hid hfit.2;have d0:=hX.d0;have d1:=hX.d1;have d2:=hX.d2;have d3:=hX.d3;have hpW:=hp.new hgW;clear hn hn1 h1 h hfit;by_cases hv:qaw qa c=true
 . have Hv:=Lib.hid hv;by_cases hin:0<=wk/\wk<=(n1:Int) - 1
   . have Hin:Hid ((decide (0<=wk) && decide (wk<=(n1:Int) - 1))=true):=by show _=_;simp [hin.1,hin.2]
     obtain⟨k,rfl⟩:=Int.eq_ofNat_of_zero_le hin.1;have hk:k < n1:=by omega
     clear hv hin;go_enter Tryz.func77,Tryz.ntmps77;go_wp2_with fail;refine(qbz _ _ qa c _ hpW hX.cv hpl qD.out Hv.out).mono ?_;rintro e w1 ⟨rfl,hg1⟩;have hX1:=hX.new hg1;have g1:=qac hgW hg1;clear hX hgW hpW hg1 d0 d1 d2 d3;have d0:=hX1.d0;go_wp2_with fail;refine(qdl _ _ _ _ Hin.out).mono ?_;rintro e w2 ⟨rfl,rfl⟩;go_wp2_with fail
     go_loopg [7] (n1+1) (fun mm i wr=>∃ q:Nat,q<=n1/\mm=n1+1 - q/\i=.int .i64 q/\Hid (qs4 c k q)/\wr=w1)
     case atStart=>exact⟨0,Nat.zero_le _,rfl,rfl,fun s hs=>absurd hs (Nat.not_lt_zero _),rfl⟩
     case round=>
       obtain⟨q,hq,rfl,rfl,Hq,rfl⟩:=hrel;by_cases hlt:q < n1
       . obtain⟨t,ht⟩:∃ t,t=(k+q) % n1:=⟨_,rfl⟩;have htn:t < n1:=by rw [ht];exact Nat.mod_lt _ (by omega)
         have hmod:((k:Int)+(q:Int)).tmod (n1:Int)=(t:Int):=by rw [ht];rfl
         have hn0:¬ ((n1:Int)=0):=by omega
         obtain⟨g,o,d,B,m,e,rfl,hd,q0,hrd,hm,-,-⟩:=hX1.dq.at_ htn;have hti:(t:Int) < (n1:Int):=by omega
         have hget:c.qb.getD ((k+q) % c.qb.length) []=d:=by
           rw [<-Hn1.out,<-ht,List.getD_eq_getElem?_getD,hd];rfl
         by_cases hm0:m=0
         . have hd0:d=[]:=List.eq_nil_of_length_eq_zero (by omega);have Hs:Hid (qs4 c k (q+1)):=qq1 Hq.out (hget.trans hd0);have hgt:¬ ((0:Int) < (m:Int)):=by omega
           clear hd hget hd0 hm0 hm ht;go_wp2_with fail;go_roundg (n1+1 - (q+1))
           case measure=>omega
           case rel=>exact⟨q+1,by omega,rfl,by go_num,Hs,rfl⟩
         . have Hr:Hid (qbw qa c (k:Int)=(t:Int)):=by
             show _=_;rw [qj1 Hv.out (by rw [<-Hn1.out];exact hk) (by rw [<-Hn1.out];exact hlt) Hq.out (by rw [hget];intro e;rw [e] at hm;exact hm0 hm),ht,<-Hn1.out]
           have hgt:(0:Int) < (m:Int):=by omega
           clear hd hget hm0 hm ht;go_wp2_with fail;go_ret;exact⟨by rw [Hr.out];rfl,g1⟩
       . obtain rfl:n1=q:=by omega
         have Hr:Hid (qbw qa c (k:Int)=-1):=ql1 (by have:=Hq.out;rw [Hn1.out] at this;exact this);go_wp2_with fail;go_ret;exact⟨by rw [Hr.out];rfl,g1⟩
   . have Hin:Hid ((decide (0<=wk) && decide (wk<=(n1:Int) - 1))=false):=by
       show _=_;rw [Bool.and_eq_false_iff,decide_eq_false_iff_not,decide_eq_false_iff_not];omega
     have Hr:Hid (qbw qa c wk=-1):=by
       show _=_;refine qn0 ?_;unfold qa9;rw [<-Hn1.out,Bool.and_eq_false_iff,decide_eq_false_iff_not,decide_eq_false_iff_not];omega
     clear hv hin;go_enter Tryz.func77,Tryz.ntmps77;go_wp2_with fail;refine(qbz _ _ qa c _ hpW hX.cv hpl qD.out Hv.out).mono ?_;rintro e w1 ⟨rfl,hg1⟩;have hX1:=hX.new hg1;have g1:=qac hgW hg1;clear hX hgW hpW hg1 d0 d1 d2 d3;have d0:=hX1.d0;go_wp2_with fail;refine(qdl _ _ _ _ Hin.out).mono ?_;rintro e w2 ⟨rfl,rfl⟩;go_wp2_with fail;go_ret;exact⟨by rw [Hr.out];rfl,g1⟩
 . have hv':qaw qa c=false:=by simpa using hv
   have Hv:=Lib.hid hv';have Hr:Hid (qbw qa c wk=-1):=qnz hv';clear hv hv';go_enter Tryz.func77,Tryz.ntmps77;go_wp2_with fail;refine(qbz _ _ qa c _ hpW hX.cv hpl qD.out Hv.out).mono ?_;rintro e w1 ⟨rfl,hg1⟩;go_wp2_with fail;go_ret;exact⟨by rw [Hr.out];rfl,qac hgW hg1⟩
theorem qq2{w wx:World}{c:Option qj}{d k o r:Value}{b:Bool}(hg:w.grownBy wx none)(hR:Blk wx (w.heap.size+1) 29 #[.slice none 0 0,.slice none 0 0,.slice none 0 0,.slice none 0 0])(hb:b=c.isSome)(hc:CV wx (.agg #[d,k,o,r]) (c.getD qf7)):qU w c (.returned (.tuple #[.agg #[d,k,o,r],.bool b])) ((((wx.setCell ⟨w.heap.size+1,0,none⟩ d).setCell ⟨w.heap.size+1,1,none⟩ k).setCell ⟨w.heap.size+1,2,none⟩ o).setCell ⟨w.heap.size+1,3,none⟩ r):=by
 have hst:=qdz wx (w.heap.size+1) d k o r;have h2:=hc.grown hst (qg.blk hR (by decide)) (qg.blk hR (by decide));have h3:w.grownBy _ none:=qa1 hg hst (fun g e=>by cases e;exact .inl (Nat.le_succ _));subst hb;cases c with
 | none=>exact⟨_,rfl,h2,h3⟩
 | some c=>exact⟨_,rfl,h2,h3⟩
theorem qU.open_{w w':World}{c:Option qj}{e:Ending}(h:qU w c e w'):∃ v,e=.returned (.tuple #[v,.bool c.isSome])/\CV w' v (c.getD qf7)/\w.grownBy w' none:=by
 cases c with
 | none=>exact h
 | some c=>exact h
theorem qot(pv v:Value)(qa:List Node)(c:qj)(wk:Int)(w:World)(hp:RN w pv qa)(h:CV w v c)(hpl:qa.length<=1000000000)(hfit:c.qb.length<=1048576/\∀ d∈c.qb,d.length<=1048576) :
   Calls Tryz.prog 45 #[pv,v,.int .i64 wk] w (qU w (qba qa c wk)):=by
 obtain⟨A,n,cp,rfl,-,hn,-⟩:=hp.form';obtain⟨A1,n1,c1,A2,n2,c2,A3,n3,c3,A4,n4,c4,rfl,-,-,-,-⟩:=h.form;have B0:=j7.start h;have qD:=Lib.hid hfit;clear hn h hfit;go_enter Tryz.func45,Tryz.ntmps45;go_upto_region 1 with fail;generalize ((w.alloc (.cells #[.slice A1 n1 c1,.slice A2 n2 c2,.slice A3 n3 c3,.slice A4 n4 c4] 29)).alloc (.cells #[.slice none 0 0,.slice none 0 0,.slice none 0 0,.slice none 0 0] 29))=W at B0 |-;have d0:=B0.b.d0;have d1:=B0.b.d1;have d2:=B0.b.d2;have d3:=B0.b.d3;go_wp2_with fail;refine(qos _ _ qa c wk W (hp.new B0.g) B0.b.cv hpl qD.out).mono ?_;rintro e w1 ⟨rfl,hg1⟩;have B1:=B0.new hg1;clear B0 hg1 d0 d1 d2 d3;have hge:=qy2 (qa:=qa) (c:=c) (w:=wk);obtain⟨f,hf⟩:∃ f,f=qbw qa c wk:=⟨_,rfl⟩;rw [<-hf] at hge |-;have Hf:=Lib.hid hf;clear hf;by_cases h1:f=-1
 . have Hr:Hid (qba qa c wk=none):=by show _=_;unfold qba;rw [<-Hf.out,if_pos h1]
   have hlt:f < 0:=by omega
   have y0:=B1.res.cell 0;have y1:=B1.res.cell 1;have y2:=B1.res.cell 2;have y3:=B1.res.cell 3;have f0:=B1.res.frozen 0;have f1:=B1.res.frozen 1;have f2:=B1.res.frozen 2;have f3:=B1.res.frozen 3;have hfin:=Lib.hid (qfc B1.g);clear B1 h1 hge;go_wp2_with fail;refine bodyPost_ret (v:=.tuple #[.agg #[.slice none 0 0,.slice none 0 0,.slice none 0 0,.slice none 0 0],.bool false]) (by simp [results,Tryz.results45,go_sem,y0,y1,y2,y3]) rfl ?_;rw [Hr.out];exact hfin.out
 . have hlt:¬ f < 0:=by omega
   have d0:=B1.b.d0;have d1:=B1.b.d1;have d2:=B1.b.d2;have d3:=B1.b.d3;by_cases h2:f=wk
   . have hb:(f == wk)=true:=by simpa using h2
     have Hr:Hid (qba qa c wk=qci qa c wk):=by show _=_;unfold qba;rw [<-Hf.out,if_neg h1,if_pos h2]
     clear h1 h2 hge;go_wp2_with fail;refine(qq0 _ _ qa c wk w1 (hp.new B1.g) B1.b.cv hpl qD.out).mono ?_;rintro e w2 hout;obtain⟨v2,rfl,zJ,hg2⟩:=hout.open_;have B2:=B1.new hg2;obtain⟨B1',m1',e1',B2',m2',e2',B3',m3',e3',B4',m4',e4',rfl,-,-,-,-⟩:=zJ.form;generalize hb2:(qci qa c wk).isSome=b2;have hfin:=Lib.hid (qq2 B2.g B2.res hb2.symm zJ);have y0:=B2.res.cell 0;have y1:=B2.res.cell 1;have y2:=B2.res.cell 2;have y3:=B2.res.cell 3;have f0:=B2.res.frozen 0;have f1:=B2.res.frozen 1;have f2:=B2.res.frozen 2;have f3:=B2.res.frozen 3;clear d0 d1 d2 d3 B1 B2 hg2 zJ hout hb2;go_wp2_with fail;refine bodyPost_ret (v:=.tuple #[.agg #[.slice B1' m1' e1',.slice B2' m2' e2',.slice B3' m3' e3',.slice B4' m4' e4'],.bool b2]) (by simp [results,Tryz.results45,go_sem,y0,y1,y2,y3]) rfl ?_;rw [Hr.out];exact hfin.out
   . have hb:(f == wk)=false:=by simpa using h2
     have Hr:Hid (qba qa c wk=qay qa c wk f):=by show _=_;unfold qba;rw [<-Hf.out,if_neg h1,if_neg h2]
     clear h1 h2 hge;go_wp2_with fail;refine(qmz _ _ qa c wk f w1 (hp.new B1.g) B1.b.cv hpl qD.out).mono ?_;rintro e w2 hout;obtain⟨v2,rfl,zJ,hg2⟩:=hout.open_;have B2:=B1.new hg2;obtain⟨B1',m1',e1',B2',m2',e2',B3',m3',e3',B4',m4',e4',rfl,-,-,-,-⟩:=zJ.form;generalize hb2:(qay qa c wk f).isSome=b2;have hfin:=Lib.hid (qq2 B2.g B2.res hb2.symm zJ);have y0:=B2.res.cell 0;have y1:=B2.res.cell 1;have y2:=B2.res.cell 2;have y3:=B2.res.cell 3;have f0:=B2.res.frozen 0;have f1:=B2.res.frozen 1;have f2:=B2.res.frozen 2;have f3:=B2.res.frozen 3;clear d0 d1 d2 d3 B1 B2 hg2 zJ hout hb2;go_wp2_with fail;refine bodyPost_ret (v:=.tuple #[.agg #[.slice B1' m1' e1',.slice B2' m2' e2',.slice B3' m3' e3',.slice B4' m4' e4'],.bool b2]) (by simp [results,Tryz.results45,go_sem,y0,y1,y2,y3]) rfl ?_;rw [Hr.out];exact hfin.out
end
section
open Go.RowKit
end
section
open Go.RowKit
def ql2(cs:List Int)(k:Nat):List Int:=((List.range k).filter fun i=>decide (cs.getD i 0=0)).map fun i:Nat=>(i:Int)
def jG(cs:List Int):List Int:=ql2 cs cs.length
theorem qkd{cs:List Int}{k:Nat}{x:Int}(h:cs[k]?=some x):ql2 cs (k+1)=ql2 cs k++if x=0 then [(k:Int)] else []:=by
 unfold ql2;rw [List.range_succ,List.filter_append,List.map_append];have e:cs.getD k 0=x:=by rw [List.getD_eq_getElem?_getD,h];rfl
 by_cases hx:x=0
 . simp only [List.filter_cons,List.filter_nil,e,hx,decide_true,if_true,List.map_cons,List.map_nil]
 . simp only [List.filter_cons,List.filter_nil,e,hx,decide_false,Bool.false_eq_true,if_false,List.map_nil]
theorem qs5(cs:List Int)(k:Nat):(ql2 cs k).length<=k:=by
 unfold ql2;rw [List.length_map];have:=List.length_filter_le (fun i=>decide (cs.getD i 0=0)) (List.range k)
 rwa [List.length_range] at this
theorem qn1{qa:List Node}(hv:qae qa=true):jG (qa6 qa)=qao qa []:=by
 have key:∀ k,k<=qa.length->ql2 (qa6 qa) k=qce qa [] k:=by
   intro k
   induction k with
   | zero=>intro _;rfl
   | succ k ih=>
     intro hk;have hx:qa[k]?=some qa[k]:=List.getElem?_eq_getElem (by omega)
     have hc:(qa6 qa)[k]?=some ((qb2 qa k).length:Int):=by
       unfold qa6;rw [List.getElem?_map,List.getElem?_range (by omega)];rfl
     rw [qkd hc,qet [] hx,ih (by omega)]
     have hz:(((qb2 qa k).length:Int)=0)↔qdj [] (qa[k],k)=true:=by
       unfold qdj;rw [qgd,qdk hx];simp only [List.not_mem_nil,decide_false,Bool.not_false,Bool.true_and];constructor
       . intro h;have h0:dedup qa[k].frm=[]:=List.eq_nil_of_length_eq_zero (by omega);rw [List.all_eq_true];intro f hf;exfalso;have:=(qkz (i:=f.toNat)).2 ⟨f,hf,rfl⟩;rw [h0] at this;cases this
       . intro h
         have h0:qa[k].frm=[]:=by
           cases hfr:qa[k].frm with
           | nil=>rfl
           | cons a r=>rw [hfr] at h;simp at h
         rw [h0];rfl
     by_cases h0:((qb2 qa k).length:Int)=0
     . rw [if_pos h0,if_pos (hz.1 h0)]
     . rw [if_neg h0,if_neg (fun e=>h0 (hz.2 e)),List.append_nil]
 unfold jG qao;rw [if_pos hv];have:(qa6 qa).length=qa.length:=by unfold qa6;rw [List.length_map,List.length_range]
 rw [this];exact key _ (Nat.le_refl _)
theorem qke(v:Value)(cs:List Int)(w:World)(h:RI w v cs)(hl:cs.length<=1000000):Calls Tryz.prog 76 #[v] w (qes w (jG cs)):=by
 obtain⟨A,n,c,rfl,hnc,hn⟩:=h.form';rw [<-hn] at hl;have Hn:=Lib.hid hn;have h0:qf (w.alloc (.cells #[] 3)) w.heap.size (.slice (some ⟨w.heap.size,0,none⟩) 0 0) []:=qf.empty w (Nat.le_refl _);clear hn;go_enter Tryz.func76,Tryz.ntmps76;go_wp2_with fail
 go_loopg [3,4] (n+1) (fun mm out i wr=>∃ k:Nat,k<=n/\mm=n+1 - k/\i=.int .i64 k/\qf wr w.heap.size out (ql2 cs k)/\w.grownBy wr none)
 case atStart=>exact⟨0,Nat.zero_le _,rfl,rfl,h0,qap (qag w none) _⟩
 case round=>
   clear h0;obtain⟨k,hk,rfl,rfl,hown,hg⟩:=hrel;have hzl:=qs5 cs k;by_cases hlt:k < n
   . obtain⟨g,o,x,rfl,hx,c0⟩:=(h.new hg).at_ hlt;have hs:=qkd hx;have hsz:=hg.size;clear hx;by_cases h0:x=0
     . have hq:(x == 0)=true:=by simpa using h0
       rw [if_pos h0] at hs;have Hs:=Lib.hid hs;clear hs h0;go_wp2_with (at_builtin;go_must (refine qcg _ _ rfl rfl hown (by omega) hsz rfl rfl ?_));intro v2 w2 j4 hg2;rw [<-Hs.out] at j4;have hg3:=hown.gb hg hg2 (Nat.le_refl _);obtain⟨A2,n2,c2,rfl⟩:=j4.ri.val;go_wp2_with fail;go_roundg (n+1 - (k+1))
       case measure=>omega
       case rel=>exact⟨k+1,by omega,rfl,by go_num,j4,hg3⟩
     . have hq:(x == 0)=false:=by simpa using h0
       rw [if_neg h0,List.append_nil] at hs;rw [<-hs] at hown;obtain⟨A2,n2,c2,rfl⟩:=hown.ri.val;clear hs h0;go_wp2_with fail;go_roundg (n+1 - (k+1))
       case measure=>omega
       case rel=>exact⟨k+1,by omega,rfl,by go_num,hown,hg⟩
   . obtain rfl:n=k:=by omega
     obtain⟨A2,n2,c2,rfl⟩:=hown.ri.val;have ho2:qf wr w.heap.size (.slice A2 n2 c2) (jG cs):=by unfold jG;rw [<-Hn.out];exact hown
     go_wp2_with fail;go_ret;exact⟨_,rfl,ho2,hg⟩
theorem q2a{ops:Array Oper}{rest:List Oper}{o:Oper}{a:Act}{Q:Exit->Act->World->Prop}{w:World}{l:List Int}{f:Value}
   (s x:Operand) (hgd:o.guard=none) (ho:o.op=.call { callee:=.builtin .append,args:=#[s,x],argTypes:=#[27,27] })
   {base:Nat} {v:Value} {ll:List (List Int)} {xs:List Value} (hown:LX w base v ll xs) (hf:qf w base f l) (hn:ll.length<=1000000000) (hbase:base<=w.heap.size)
   (hs:a.eval s=v) {N:Nat} (hx:a.eval x=.slice (some ⟨N,0,none⟩) 1 1) (hN:N=w.heap.size)
   (h:∀ v' w',LX w' base v' (ll++[l]) (xs++[f])->w.grownBy w' v.ownBlock->wpList Tryz.prog ops Q rest (a.put o.dst v') w') :
   wpList Tryz.prog ops Q (o::rest) a (w.alloc (.cells #[f] 24)):=by
 subst hN;refine wpList_plain hgd fun K hK=>?_;have:=qil (ops:=ops) (E:=False) (Q:=Q) (K:=K) s x hgd ho hown hf hn hbase hs hx (fun v' w' h1 h2=>hK _ _ (h v' w' h1 h2))
 rwa [if_pos (by simp [Region.wanted,hgd])] at this
theorem qsb{ops:Array Oper}{rest:List Oper}{o:Oper}{a:Act}{Q:Exit->Act->World->Prop}{w:World}{l:List Int}{f:Value}
   (s x:Operand) (hgd:o.guard=none) (ho:o.op=.call { callee:=.builtin .append,args:=#[s,x],argTypes:=#[27,27] })
   {base:Nat} {v:Value} {ll:List (List Int)} (hown:qM w base v ll) (hf:RI w f l) (hn:ll.length<=1000000000) (hbase:base<=w.heap.size)
   (hs:a.eval s=v) {N:Nat} (hx:a.eval x=.slice (some ⟨N,0,none⟩) 1 1) (hN:N=w.heap.size)
   (h:∀ v' w',qM w' base v' (ll++[l])->w.grownBy w' v.ownBlock->wpList Tryz.prog ops Q rest (a.put o.dst v') w') :
   wpList Tryz.prog ops Q (o::rest) a (w.alloc (.cells #[f] 24)):=by
 subst hN;exact qif s x hgd ho hown hf hn hbase hs hx h
theorem qM.empties{w w':World}{base m:Nat}{v:Value}{row:Option Nat}(h:qM w base v (List.replicate m []))(hg:w.grownBy w' row)(hr:qg w 24 row):qM w' base v (List.replicate m []):=by
 obtain⟨xs,h1,h2⟩:=h;refine⟨xs,qch h1 hg hr,fun i l hi=>?_⟩;obtain⟨u,k1,k2⟩:=h2 i l hi
 obtain rfl:l=[]:=by
   rw [List.getElem?_replicate] at hi;split at hi
   . injection hi with hi;exact hi.symm
   . cases hi
 exact⟨u,k1,k2.empty w'⟩
theorem LX.qbN{w w':World}{base g n cap k:Nat}{ll:List (List Int)}{xs:List Value}{u u':Value}{l0 l':List Int}(h:LX w base (.slice (some ⟨g,0,none⟩) n cap) ll xs)(hk:k < ll.length)(hu:xs[k]?=some u)(hg:w.grownBy w' u.ownBlock)(hap:Apart xs)(ho:qf w' base u' l')(hI:qf w base u l0)(hb:u'.ownBlock=u.ownBlock∨∃ b,u'.ownBlock=some b/\w.heap.size<=b) :
   LX (w'.setCell ⟨g,k,none⟩ u') base (.slice (some ⟨g,0,none⟩) n cap) (ll.set k l') (xs.set k u')/\Apart (xs.set k u'):=by
 have hNu:qg w 24 u.ownBlock:=hI.qV (by decide);have hcs:=qch h.1 hg hNu
 have hn:n=ll.length:=by
   rcases h.1.2 with ⟨e,_⟩ | ⟨_,_,_,e,_⟩
   . cases e
   . injection e
 subst hn;have hst:w'.grownBy (w'.setCell ⟨g,k,none⟩ u') (some g):=qa2 (p:=⟨g,k,none⟩) (qag w' (some g)) (.inr rfl) _;have s1:=World.ownsRow.stored hcs k u';have hne:qg w' 3 (some g):=qg.own (v:=.slice (some ⟨g,0,none⟩) ll.length cap) hcs (by decide);have hxl:=h.len;have hkx:k < xs.length:=by omega
 refine⟨⟨by rw [List.length_set];exact s1.1,fun i x hi=>?_⟩,?_⟩
 . by_cases hik:i=k
   . subst hik;rw [List.getElem?_set_self hk] at hi;obtain rfl:l'=x:=by simpa using hi
     exact⟨u',by rw [List.getElem?_set_self hkx],ho.grown hst hne⟩
   . rw [List.getElem?_set_ne (fun e=>hik e.symm)] at hi;obtain⟨y,k1,k2⟩:=h.2 i x hi;refine⟨y,by rw [List.getElem?_set_ne (fun e=>hik e.symm)];exact k1,?_⟩
     have hyu:y.ownBlock=none∨y.ownBlock≠u.ownBlock:=by
       cases hy:y.ownBlock with
       | none=>exact .inl rfl
       | some b=>
         right;intro e;rw [Apart.iff] at hap;rcases Nat.lt_or_gt_of_ne hik with hlt | hlt
         . exact hap i k y u b hlt k1 hu hy e.symm
         . exact hap k i u y b hlt hu k1 e.symm hy
     exact(k2.qO hg hyu).grown hst hne
 . rw [Apart.iff] at hap |-;have qbO:=h.lts;intro i j a b gg hij ha hb' hga hgb
   have other:∀ (i:Nat) (a:Value),i≠k->xs[i]?=some a->a.ownBlock=some gg->u'.ownBlock≠some gg:=by
     intro i a hik ha hga e;rcases hb with e2 | ⟨b2,e2,hge⟩
     . rw [e2] at e;rcases Nat.lt_or_gt_of_ne hik with hlt | hlt
       . exact hap i k a u gg hlt ha hu hga e
       . exact hap k i u a gg hlt hu ha e hga
     . rw [e2] at e;injection e with e;have:=(qbO a (List.mem_of_getElem? ha) gg hga).2;omega
   by_cases hik:i=k
   . subst hik;rw [List.getElem?_set_self hkx] at ha;injection ha with ha;subst ha;rw [List.getElem?_set_ne (by omega)] at hb';exact other j b (by omega) hb' hgb hga
   . rw [List.getElem?_set_ne (fun e=>hik e.symm)] at ha;by_cases hjk:j=k
     . subst hjk;rw [List.getElem?_set_self hkx] at hb';injection hb' with hb';subst hb';exact other i a hik ha hga hgb
     . rw [List.getElem?_set_ne (fun e=>hjk e.symm)] at hb';exact hap i j a b gg hij ha hb' hga hgb
structure qP(w wx:World)(X s0 b2:Nat)(d k o r:Value)(cs:List Int)(D:List (List Int))(m:Nat)(xs:List Value):Prop where
 x:Blk wx X 29 #[d,k,o,r]
 dq:LX wx s0 d D xs
 ap:Apart xs
 kt:qf wx w.heap.size k cs
 kl:∀ g,k.ownBlock=some g->g < s0
 od:∀ w',RI w' o []
 ro:qM wx b2 r (List.replicate m [])
 dr:r=.slice none 0 0∨∀ g,d.ownBlock=some g->g < b2
 hb:s0<=b2/\w.heap.size<=s0
 hbx:b2<=wx.heap.size
 res:Blk wx w.heap.size 29 #[.slice none 0 0,.slice none 0 0,.slice none 0 0,.slice none 0 0]
 hX:w.heap.size < X
 g:w.grownBy wx none
section
variable {w wx wy:World}{X s0 b2 m:Nat}{d k o r:Value}{cs:List Int}{D:List (List Int)}{xs:List Value}
theorem qP.new(M:qP w wx X s0 b2 d k o r cs D m xs)(hg:wx.grownBy wy none):qP w wy X s0 b2 d k o r cs D m xs:=
 ⟨M.x.grown hg (by simp),M.dq.new hg,M.ap,M.kt.new hg,M.kl,M.od,M.ro.new hg,M.dr,M.hb,Nat.le_trans M.hbx hg.size,M.res.grown hg (by simp),M.hX,qac M.g hg⟩
theorem qP.xH(M:qP w wx X s0 b2 d k o (.slice none 0 0) cs D 0 xs)(hg:wx.grownBy wy d.ownBlock){v' f:Value}(ho:LX wy s0 v' (D++[[]]) (xs++[f]))(hf:∀ g,f.ownBlock=some g->∀ u∈xs,∀ g',u.ownBlock=some g'->g' < g) :
   wy.cell? ⟨X,0,none⟩=some d/\wy.frozen? ⟨X,0,none⟩=false/\qP w (wy.setCell ⟨X,0,none⟩ v') X s0 b2 v' k o (.slice none 0 0) cs (D++[[]]) 0 (xs++[f]):=by
 have hE:qg wx 29 d.ownBlock:=M.dq.qV (by decide);have hI:qg wx 3 d.ownBlock:=M.dq.qV (by decide);have hx:=M.x.past hg hE;have hst:wy.grownBy (wy.setCell ⟨X,0,none⟩ v') (some X):=qa2 (p:=⟨X,0,none⟩) (qag wy (some X)) (.inr rfl) _;have hn2:qg wy 3 (some X):=qg.blk hx (by decide);have hn3:qg wy 24 (some X):=qg.blk hx (by decide);have hg2:w.grownBy wy none:=M.dq.gb M.g hg M.hb.2;refine⟨hx.cell 0,hx.frozen 0,hx.qC 0 _,ho.grown hst hn2 hn3,?_,(M.kt.grown hg hI).grown hst hn2,M.kl,M.od,qM.nil _ _,.inl rfl,M.hb,Nat.le_trans M.hbx (Nat.le_trans hg.size hst.size),(M.res.past hg hE).grown hst (by simp;have:=M.hX;omega),M.hX,qa1 hg2 hst (fun g e=>by cases e;exact .inl (Nat.le_of_lt M.hX))⟩;unfold Apart;rw [List.pairwise_append];refine⟨M.ap,List.pairwise_singleton _ _,fun a ha b hb g hga hgb=>?_⟩;obtain rfl:b=f:=by simpa using hb
 have:=hf g hgb a ha g hga;omega
theorem qP.xI(M:qP w wx X s0 b2 d k o r cs D m xs)(hlt:∀ g,d.ownBlock=some g->g < b2)(hg:wx.grownBy wy r.ownBlock){v':Value}(ho:qM wy b2 v' (List.replicate m []++[[]])) :
   wy.cell? ⟨X,3,none⟩=some r/\wy.frozen? ⟨X,3,none⟩=false/\qP w (wy.setCell ⟨X,3,none⟩ v') X s0 b2 d k o v' cs D (m+1) xs:=by
 have hE:qg wx 29 r.ownBlock:=M.ro.qV (by decide);have hI:qg wx 3 r.ownBlock:=M.ro.qV (by decide);have hx:=M.x.past hg hE;have hst:wy.grownBy (wy.setCell ⟨X,3,none⟩ v') (some X):=qa2 (p:=⟨X,3,none⟩) (qag wy (some X)) (.inr rfl) _;have hn2:qg wy 3 (some X):=qg.blk hx (by decide);have hn3:qg wy 24 (some X):=qg.blk hx (by decide);have hg2:w.grownBy wy none:=M.ro.gb M.g hg (Nat.le_trans M.hb.2 M.hb.1)
 have hdq:LX wy s0 d D xs:=by
   cases hr:r.ownBlock with
   | none=>rw [hr] at hg;exact M.dq.new hg
   | some b=>
     rw [hr] at hg;refine M.dq.far hg (hr ▸ hI) (fun e=>?_);have:=hlt b e;have:=(M.ro.lt b hr).1;omega
 have er:List.replicate m ([]:List Int)++[[]]=List.replicate (m+1) []:=by rw [List.replicate_succ']
 rw [er] at ho;exact⟨hx.cell 3,hx.frozen 3,hx.qC 3 _,hdq.grown hst hn2 hn3,M.ap,(M.kt.grown hg hI).grown hst hn2,M.kl,M.od,ho.grown hst hn2 hn3,.inr hlt,M.hb,Nat.le_trans M.hbx (Nat.le_trans hg.size hst.size),(M.res.past hg hE).grown hst (by simp;have:=M.hX;omega),M.hX,qa1 hg2 hst (fun g e=>by cases e;exact .inl (Nat.le_of_lt M.hX))⟩
theorem qP.qgL{gd n cap j:Nat}{u u':Value}{l0 l':List Int}(M:qP w wx X s0 b2 (.slice (some ⟨gd,0,none⟩) n cap) k o r cs D m xs)(hj:j < D.length)(hu:xs[j]?=some u)(hI:qf wx s0 u l0)(hg:wx.grownBy wy u.ownBlock)(ho:qf wy s0 u' l')(hb:u'.ownBlock=u.ownBlock∨∃ b,u'.ownBlock=some b/\wx.heap.size<=b) :
   (∃ u0,wy.cell? ⟨gd,j,none⟩=some u0/\wy.frozen? ⟨gd,j,none⟩=false)/\qP w (wy.setCell ⟨gd,j,none⟩ u') X s0 b2 (.slice (some ⟨gd,0,none⟩) n cap) k o r cs (D.set j l') m (xs.set j u'):=by
 obtain⟨hcell,-,hst,hA⟩:=M.dq.turn hj hu hg M.ap ho ⟨_,hI⟩;obtain⟨h1,h2⟩:=M.dq.qbN hj hu hg M.ap ho hI hb;have hEu:qg wx 29 u.ownBlock:=hI.qV (by decide);have hLu:qg wx 24 u.ownBlock:=hI.qV (by decide);have hgd:s0<=gd:=(M.dq.lt gd rfl).1;have hw:=M.hb.2;have hg2:w.grownBy wy none:=qa1 M.g hg (fun g e=>.inl (by have:=(hI.lt g e).1;omega));refine⟨hcell,(M.x.past hg hEu).past hst (hA _ (by decide)),h1,h2,(M.kt.zk hg (fun b hkb hub=>by have:=M.kl b hkb;have:=(hI.lt b hub).1;omega)).grown hst (hA _ (by decide)),M.kl,M.od,?_,M.dr,M.hb,Nat.le_trans M.hbx (Nat.le_trans hg.size hst.size),(M.res.past hg hEu).past hst (hA _ (by decide)),M.hX,qa1 hg2 hst (fun g e=>by cases e;exact .inl (by omega))⟩;have h3:=M.ro.empties hg hLu;refine h3.far hst (hA _ (by decide)) (fun e=>?_);rcases M.dr with h | h
 . rw [h] at e;cases e
 . have:=h gd rfl;have:=(M.ro.lt gd e).1;omega
end
end
end Go.Proofs.YtacemdoejblgaaaGreatDoor
