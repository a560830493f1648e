/- Part 40. Conditions: each statement's. -/
import Derived.Test.YtacemdoejblgaaaGreatDoorM39
namespace Go.Proofs.YtacemdoejblgaaaGreatDoor
set_option maxHeartbeats 6400000
set_option maxRecDepth 100000
section
theorem qzs{n x:Int}(hn:1<=n)(hx:0<=x):∃ k:Nat,x.tmod n=(k:Int)/\(k:Int) < n:=by
 have h0:0<=x.tmod n:=Int.tmod_nonneg n hx;have h1:x.tmod n < n:=Int.tmod_lt_of_pos x (by omega);exact⟨(x.tmod n).toNat,by omega,by omega⟩
theorem quv{qa:List Node}{n x:Int}{c:qj}(hn:1<=n)(h:qo qa c)(hd:(c.qb.length:Int)=n)(hx:0<=x):((qba qa c (x.tmod n)).getD c).done.length=min (c.done.length+1) qa.length:=by
 obtain⟨k,hk,hk2⟩:=qzs hn hx;rw [hk];have hle:=qg5 h;by_cases hl:c.done.length < qa.length
 . obtain⟨c',hc⟩:=qtk h hl (k:=k) (by omega);rw [hc];obtain⟨_,h2,_,y,_,hy,_⟩:=qew hc;have:=qg5 h2;show c'.done.length=_;rw [hy] at this |-;simp only [List.length_append,List.length_cons,List.length_nil] at this |-;omega
 . cases hR:qba qa c (k:Int) with
   | none=>
     show c.done.length=_;omega
   | some c'=>
     obtain⟨_,h2,_,y,_,hy,_⟩:=qew hR;have:=qg5 h2;rw [hy] at this;simp only [List.length_append,List.length_cons,List.length_nil] at this;omega
theorem qn6{qa:List Node}{n:Int}(hn:1<=n):∀ (l:List Int) {c:qj},(∀ x∈l,0<=x)->qo qa c->(c.qb.length:Int)=n->(qdr qa n c l).done.length=min (c.done.length+l.length) qa.length
 | [],c,_,h,_=>by
   have:=qg5 h;show c.done.length=_;simp only [List.length_nil];omega
 | x::l,c,hx,h,hd=>by
   have hs:=quv hn h hd (hx x (by simp));obtain⟨h1,h2⟩:=qq9 h (x.tmod n);have ih:=qn6 hn l (fun y hy=>hx y (by simp [hy])) h1 (by rw [h2];exact hd);show (qdr qa n ((qba qa c (x.tmod n)).getD c) l).done.length=_;rw [ih,hs];simp only [List.length_cons];omega
theorem qzt{l:List Int}(h:qb9 l=true):∀ x∈l,0<=x:=by
 unfold qb9 at h;simp only [Bool.and_eq_true,decide_eq_true_eq,List.all_eq_true] at h;exact h.2
theorem qsi{qa:List Node}{n:Int}{l:List Int}{c:qj}(h:qbg qa n l=some c):∃ c0,qbm qa n=some c0/\qb9 l=true/\c=qdr qa n c0 l:=by
 unfold qbg at h;split at h
 . rename_i c0 hc;split at h
   . rename_i hl;injection h with h;exact⟨c0,hc,hl,h.symm⟩
   . cases h
 . cases h
theorem quw{qa:List Node}{n:Int}{c:qj}(h:qbm qa n=some c):1<=n/\n<=4/\c.done=[]/\qae qa=true:=by
 unfold qbm at h;split at h
 . rename_i hc;simp only [Bool.and_eq_true,decide_eq_true_eq] at hc;injection h with h;subst h;exact⟨hc.2.1,hc.2.2,rfl,hc.1⟩
 . cases h
theorem qux{qa:List Node}{n:Int}{l:List Int}{c:qj}(h:qbg qa n l=some c):c.done.length=min l.length qa.length:=by
 obtain⟨c0,hc,hl,rfl⟩:=qsi h;obtain⟨h1,h2⟩:=qgr hc;obtain⟨hn,_,h3,_⟩:=quw hc;rw [qn6 hn l (qzt hl) h1 h2,h3];simp
end Go.Proofs.YtacemdoejblgaaaGreatDoor
end
section
open Go.Conc Go.RowKit
noncomputable def qiy:Code:=match qc6 with | .seq x _=>x | _=>.skip
noncomputable def qB:Code:=match qc6 with | .seq _ x=>x | _=>.skip
theorem qlr:qc6=.seq qiy qB:=rfl
theorem qjk:qev Tryz.prog Fs Gs SN qB=true:=by kernel_rfl
theorem qls{pv cv:Value}{nw:Int}{qa:List Node}{l:List Int}{R b0:Nat}{Y1 Y2 Y3 Y4:Option Addr}{Yn1 Yc1 Yn2 Yc2 Yn3 Yc3 Yn4 Yc4:Nat}(ts:Array Value)(X:World)(hs:ts.size=75)(s3:ts[3]?=some pv)(s4:ts[4]?=some (.int .i64 nw))(s5:ts[5]?=some cv)(s6:ts[6]?=some (.pointer (some ⟨R,0,none⟩)))
   (s7:ts[7]?=some (.bool (qbg qa nw l).isSome)) (hp:RN X pv qa) (hl:RI X cv l) (sp:qig qa) (sc:qgz l) (hF:qY X b0 (.agg #[.slice Y1 Yn1 Yc1,.slice Y2 Yn2 Yc2,.slice Y3 Yn3 Yc3,.slice Y4 Yn4 Yc4]) ((qbg qa nw l).getD qf7)) (hB:Blk X R 29 #[.slice Y1 Yn1 Yc1,.slice Y2 Yn2 Yc2,.slice Y3 Yn3 Yc3,.slice Y4 Yn4 Yc4]) :
   qB.wp Tryz.prog (fun e a x=>e=.ret/\HG X x/\a.tmps[2]?=some (.bool true)) ⟨ts,[]⟩ X:=by
 revert ts;refine q6d ?_;intro v0 v1 v2 v3 v4 v5 v6 v7 v8 v9 v10 v11 v12 v13 v14 v15 v16 v17 v18 v19 v20 v21 v22 v23 v24 v25 v26 v27 v28 v29 v30 v31 v32 v33 v34 v35 v36 v37 v38 v39 v40 v41 v42 v43 v44 v45 v46 v47 v48 v49 v50 v51 v52 v53 v54 v55 v56 v57 v58 v59 v60 v61 v62 v63 v64 v65 v66 v67 v68 v69 v70 v71 v72 v73 v74 s3 s4 s5 s6 s7;obtain rfl:v3=pv:=by simpa using s3
 obtain rfl:v4=.int .i64 nw:=by simpa using s4
 obtain rfl:v5=cv:=by simpa using s5
 obtain rfl:v6=.pointer (some ⟨R,0,none⟩):=by simpa using s6
 obtain rfl:v7=.bool (qbg qa nw l).isSome:=by simpa using s7
 clear s3 s4 s5 s6 s7;obtain⟨P1,pn,pc,rfl,-,hpn,-⟩:=hp.form';obtain⟨I1,im,ic,rfl,-,him⟩:=hl.form';have Hpl:Hid (qa.length<=1000000000):=by have:=sp.1;show _<=_;omega
 have Hll:Hid (l.length<=1000000000):=by have:=sc.1;show _<=_;omega
 have hY4:jy X R (.slice Y1 Yn1 Yc1) (.slice Y2 Yn2 Yc2) (.slice Y3 Yn3 Yc3) (.slice Y4 Yn4 Yc4) ((qbg qa nw l).getD qf7):=by
   obtain⟨d',k',o',r',e,h1,h2,h3,h4⟩:=hF.cv;injection e with e;injection e with e;injection e with e1 e;injection e with e2 e;injection e with e3 e;injection e with e4 e;subst e1 e2 e3 e4;exact⟨hB,h1,h2,h3,h4⟩
 have Hpn:=Lib.hid hpn;have Him:=Lib.hid him;obtain⟨Q,hQ⟩:∃ Q,Q=qbg qa nw l:=⟨_,rfl⟩;have HT:Hid (∀ w,RN w (.slice P1 pn pc) qa->RI w (.slice I1 im ic) l->Calls Tryz.prog 14 #[.slice P1 pn pc,.int .i64 nw,.slice I1 im ic] w (qU w Q)):=fun w h1 h2=>by rw [hQ];exact qkg _ _ qa nw l w h1 h2 Hpl.out Hll.out
 rw [<-hQ] at hY4 |-;have HR:=Lib.hid hQ;clear hQ hF hB hpn him sp sc;simp only [qB,qc6,qbe,Tryz.f4,Option.getD_some];go_wp2_with fail;refine(HT.out X hp hl).mono ?_;intro e w5 hT;obtain⟨v5,rfl,zf,hg5⟩:=hT.open_;obtain⟨Z1,Zn1,Zc1,Z2,Zn2,Zc2,Z3,Zn3,Zc3,Z4,Zn4,Zc4,rfl,-,-,-,-⟩:=zf.form;have hZ:=zf.box;have gZ:=World.grownBy_alloc w5 (.cells #[.slice Z1 Zn1 Zc1,.slice Z2 Zn2 Zc2,.slice Z3 Zn3 Zc3,.slice Z4 Zn4 Zc4] 29) none;have hY6:=(hY4.new hg5).new gZ;have hp6:=(hp.new hg5).new gZ;have g6:=qac hg5 gZ;clear hY4 hp hl hg5 gZ zf hT;go_upto_region 6 with fail;generalize w5.alloc (.cells #[.slice Z1 Zn1 Zc1,.slice Z2 Zn2 Zc2,.slice Z3 Zn3 Zc3,.slice Z4 Zn4 Zc4] 29)=w6 at hp6 g6 hY6 hZ |-;generalize w5.heap.size=Z at hZ |-;have y0:=hY6.d0;have y1:=hY6.d1;have y2:=hY6.d2;have y3:=hY6.d3;have z0:=hZ.d0;have z1:=hZ.d1;have z2:=hZ.d2;have z3:=hZ.d3;cases Q with
 | none=>
   go_wp2_with fail;refine(qix _ _ _ w6 hY6.cv hZ.cv).mono ?_;rintro e w7 ⟨rfl,hg7⟩;have hY7:=hY6.new hg7;have hZ7:=hZ.new hg7;have g7:=qac g6 hg7;clear y0 y1 y2 y3 z0 z1 z2 z3 hY6 hZ hp6 g6 hg7;have y0:=hY7.d0;have y1:=hY7.d1;have y2:=hY7.d2;have y3:=hY7.d3;have z0:=hZ7.d0;have z1:=hZ7.d1;have z2:=hZ7.d2;have z3:=hZ7.d3;go_wp2_with fail;refine(qix _ _ _ w7 hY7.cv hZ7.cv).mono ?_;rintro e w8 ⟨rfl,hg8⟩;go_wp2_with fail;exact HG.of (qac g7 hg8)
 | some c'=>
   go_wp2_with fail;refine(qix _ _ _ w6 hY6.cv hZ.cv).mono ?_;rintro e w7 ⟨rfl,hg7⟩;have hY7:=hY6.new hg7;have hp7:=hp6.new hg7;have g7:=qac g6 hg7;change jy w7 R _ _ _ _ c' at hY7;clear y0 y1 y2 y3 z0 z1 z2 z3 hY6 hZ hp6 g6 hg7;obtain⟨hok,hdl⟩:=qy4 HR.out.symm;have hdn:=qux HR.out.symm;have Hv:Hid (qaw qa c'=true):=qbk.2 hok;have Hf:=Lib.hid (qud hok);have y0:=hY7.d0;have y1:=hY7.d1;have y2:=hY7.d2;have y3:=hY7.d3
   have qiA:Yn3=c'.done.length:=by
     obtain⟨A',c'',e,_⟩:=hY7.dn.form;injection e
   have qiB:Yn1=c'.qb.length:=by
     obtain⟨A',n',c'',e,h1,h2,_⟩:=hY7.dq.form';injection e with e1 e2 e3;omega
   have qiC:=Him.out;have qiD:=Hpn.out;obtain rfl:nw=(Yn1:Int):=by omega
   have kS:Yn3=min im pn:=by omega
   clear hok hdl hdn qiA qiB qiC qiD;rcases Nat.lt_or_ge im pn with hlt | hge
   . obtain rfl:Yn3=im:=by omega
     clear kS;go_wp2_with fail;refine(qbd _ _ qa c' _ hp7 hY7.cv Hf.out Hv.out).mono ?_;rintro e w8 ⟨rfl,hg8⟩;have k0:=qdi y0 hg8;have k1:=qdi y1 hg8;have k2:=qdi y2 hg8;have k3:=qdi y3 hg8;clear y0 y1 y2 y3;have hlt':(Yn3:Int) < (pn:Int):=by omega
     go_wp2_with fail;exact HG.of (qac g7 hg8)
   . obtain rfl:Yn3=pn:=by omega
     clear kS;go_wp2_with fail;refine(qbd _ _ qa c' _ hp7 hY7.cv Hf.out Hv.out).mono ?_;rintro e w8 ⟨rfl,hg8⟩;have k0:=qdi y0 hg8;have k1:=qdi y1 hg8;have k2:=qdi y2 hg8;have k3:=qdi y3 hg8;clear y0 y1 y2 y3;have qjQ:¬ ((im:Int) < (Yn3:Int)):=by omega
     have qjR:(Yn3:Int)<=(im:Int):=by omega
     go_wp2_with fail;exact⟨HG.of (qac g7 hg8),fun h=>by omega⟩
theorem qlt{W:World}{ea:Addr}{v:Value}{n g o c:Nat}{cs:Array Value}{e:TypeId}{fr:Nat × Nat}(S:Start W ea)(H:qX W v n g o c cs e fr) :
   qd Tryz.prog (j8 W) (fun _=>False) (fun _=>False) (fun _=>.left) 1 0 0 (G (Frame.enter Tryz.prog 4 #[v] .normal) []) W:=by
 refine qkb S H (fun ts w z pv cv nw qa l hD zL hb hO hE=>?_);have OO:∀ M:Mks (gr2 W.heap.size g ea).base,jY ((gr2 W.heap.size g ea).base.pen M):=fun M=>q9m M;have O:jB ((gr2 W.heap.size g ea).base.pen (mk2 W.heap.size g cs ea)) (fun _=>False) (fun _=>False):=⟨fun _ h=>h.elim,fun _ h=>h.elim⟩;have hT:∀ i,i≠0->(fun _=>q8.left:Nat->q8) i=.left:=fun _ _=>rfl;rw [qlr];refine qau ?_;generalize hc4:qB=c4;simp only [qiy,qc6,qbe,Tryz.f4,Option.getD_some];refine qaz ?_;simp only [List.size_toArray,List.length_cons,List.length_nil,Nat.reduceAdd,Nat.zero_add,List.range,List.range.loop];have hs:=hD.size;refine qo5 (OO _) zL hb (O.alone hT) (qdg hT) (by decide) rfl hD.s3 (fun w1 z1 hb1 hz1 hh1 ok1=>?_);refine qo5 (OO _) ok1 hb1 (O.alone hT) (qdg hT) (by decide) rfl ((qcc (by decide)).trans hD.s4) (fun w2 z2 hb2 hz2 hh2 ok2=>?_);refine qo5 (OO _) ok2 hb2 (O.alone hT) (qdg hT) (by decide) rfl ((qcc (by decide)).trans ((qcc (by decide)).trans hD.s5)) (fun w3 z3 hb3 hz3 hh3 ok3=>?_);have hO1:=hO.step hb1 (Mks.Le.refl _) hh1.but hb.size (qe9 hz1);have hO2:=hO1.step hb2 (Mks.Le.refl _) hh2.but hb1.size (qe9 hz2);have hO3:=hO2.step hb3 (Mks.Le.refl _) hh3.but hb2.size (qe9 hz3);have ez:z.heap=z3.heap:=(hz3.trans (hz2.trans hz1)).symm;have hE3:qp z3 ea:=(qe9 (x:=z) (y:=z3) ez.symm).err hE;have hrn:=hD.rn.heap ez;have hri:=hD.ri.heap ez
 refine qsj OO hb3 hrn hri hE3 (fun x hx=>by have:=hD.sc.2 x hx;omega) O hT (by decide) (by decide) (by decide) ok3 (i:=3) (p0:=20) (p1:=21) (p2:=22) (tc:=23) (tm:=19) (tv:=24) (tb:=25) (tx:=6) (tk:=7)
   ⟨⟨_,_,rfl,rfl,rfl,rfl⟩,⟨_,rfl,rfl,rfl,rfl⟩,⟨_,rfl,rfl,rfl,rfl⟩,⟨_,rfl,rfl,rfl,rfl⟩,⟨_,rfl,rfl,rfl,rfl⟩,⟨_,rfl,rfl,rfl,rfl⟩,⟨_,rfl,rfl,rfl,rfl⟩⟩
   ((qcc (by decide)).trans ((qcc (by decide)).trans (getSet (by rw [hs];decide)))) ((qcc (by decide)).trans (getSet (by simp [hs]))) (getSet (by simp [hs])) (by simp [hs]) (by simp [hs]) (by simp [hs]) (by simp [hs]) (by simp [hs]) (by decide) (by decide) (by decide) (by decide)
   (fun w4 z4 M4 Sh4 Fz4 T4 n4 A1 m1 c1 A2 m2 c2 A3 m3 c3 A4 m4 c4 R hle hb4 hg4 O4 hh4 hT4 hn4 qjS hF hB hR ok4=>?_)
 have hO4:=hO3.step hb4 hle hh4 hb3.size hg4;refine qan ?_;subst hc4
 have s2:∀ (t:Nat) (u:Value),t≠23->t≠19->t≠24->t≠25->t≠6->t≠7->t≠20->t≠21->t≠22->ts[t]?=some u->(qg2 (((ts.setIfInBounds 20 pv).setIfInBounds 21 (.int .i64 nw)).setIfInBounds 22 cv) 23 19 24 25 6 7 (.agg #[.slice A1 m1 c1,.slice A2 m2 c2,.slice A3 m3 c3,.slice A4 m4 c4]) (qbg qa nw l).isSome R)[t]?=some u:=fun t u h1 h2 h3 h4 h5 h6 h7 h8 h9 h=>by
   unfold qg2;rw [qcc (Ne.symm h6),qcc (Ne.symm h5),qcc (Ne.symm h4),qcc (Ne.symm h3),qcc (Ne.symm h2),qcc (Ne.symm h1),qcc (Ne.symm h9),qcc (Ne.symm h8),qcc (Ne.symm h7)];exact h
 have t3:=s2 3 pv (by decide) (by decide) (by decide) (by decide) (by decide) (by decide) (by decide) (by decide) (by decide) hD.s3;have t4:=s2 4 _ (by decide) (by decide) (by decide) (by decide) (by decide) (by decide) (by decide) (by decide) (by decide) hD.s4;have t5:=s2 5 cv (by decide) (by decide) (by decide) (by decide) (by decide) (by decide) (by decide) (by decide) (by decide) hD.s5;clear s2;generalize hts:qg2 (((ts.setIfInBounds 20 pv).setIfInBounds 21 (.int .i64 nw)).setIfInBounds 22 cv) 23 19 24 25 6 7 (.agg #[.slice A1 m1 c1,.slice A2 m2 c2,.slice A3 m3 c3,.slice A4 m4 c4]) (qbg qa nw l).isSome R=tz at ok4 t3 t4 t5 |-;have tsz:tz.size=75:=by rw [<-hts];simp [qg2,hs]
 have t6:tz[6]?=some (.pointer (some ⟨R,0,none⟩)):=by rw [<-hts];unfold qg2;rw [qcc (by decide),getSet (by simp [hs])]
 have t7:tz[7]?=some (.bool (qbg qa nw l).isSome):=by rw [<-hts];unfold qg2;rw [getSet (by simp [hs])]
 clear hts;have qiE:=hg4.rn hrn;have qiF:=hg4.ri hri
 refine qe2 (gr:=gr2 W.heap.size g ea) (OO M4) Tryz.func4 ok4 qjk hb4 (O4.alone hT4) (qdg hT4) (Q:=fun e a x=>e=.ret/\HG z4 x/\a.tmps[2]?=some (.bool true)) (fun e a x y exy h=>⟨h.1,h.2.1.heap exy,h.2.2⟩)
   (fun X eX=>wp_mono (qls tz X tsz t3 t4 t5 t6 t7 (qiE.heap eX) (qiF.heap eX) hD.sp hD.sc (hF.heap eX) (hB.heap eX)) (fun e a x h=>⟨h.1,h.2.1.from eX.symm,h.2.2⟩)) (fun e a x h=>by rw [h.1];trivial) ?_
 rintro e5 ⟨ts5,ds5⟩ td5 w5 z5 hb5 hh5 - ok5 - - ⟨rfl,hg5,h52⟩;have hO5:=hO4.step hb5 (Mks.Le.refl _) hh5.but hb4.size hg5;show qd Tryz.prog (j8 W) Sh4 Fz4 T4 n4 0 0 (G { (base 4).at ⟨ts5,[]⟩ (td5++_) with mode:=.returning } []) w5;exact q5g Tryz.func4 (by kernel_rfl) rfl h52 hT4 (by omega) (fun d=>hO5.fin d)
end
end Go.Proofs.YtacemdoejblgaaaGreatDoor
