/- Part M25. Conditions: each statement's. -/
import Derived.Test.YtacemdoejblgaaaGreatDoorM24
namespace Go.Proofs.YtacemdoejblgaaaGreatDoor
open List Option _root_.Go.Proofs.Tryz World
set_option maxRecDepth 100000
set_option maxHeartbeats 6400000
section
open Go.Conc Go.RowKit
theorem qgL{P:Array Value->Prop}(hP:∀v0 v1 v2 v3 v4 v5 v6 v7 v8 v9 v10 v11 v12 v13 v14 v15 v16 v17 v18 v19 v20 v21 v22 v23 v24 v25 v26 v27 v28 v29 v30 v31 v32 v33 v34 v35 v36 v37 v38:Value,P #[v0,v1,v2,v3,v4,v5,v6,v7,v8,v9,v10,v11,v12,v13,v14,v15,v16,v17,v18,v19,v20,v21,v22,v23,v24,v25,v26,v27,v28,v29,v30,v31,v32,v33,v34,v35,v36,v37,v38])(T:Array Value)(h:T.size=39):P T:=by
 obtain⟨l⟩:=T;replace h:l.length=39:=h;obtain⟨v0,l0,rfl,h0⟩:=qaa h;obtain⟨v1,l1,rfl,h1⟩:=qaa h0;obtain⟨v2,l2,rfl,h2⟩:=qaa h1;obtain⟨v3,l3,rfl,h3⟩:=qaa h2;obtain⟨v4,l4,rfl,h4⟩:=qaa h3;obtain⟨v5,l5,rfl,h5⟩:=qaa h4;obtain⟨v6,l6,rfl,h6⟩:=qaa h5;obtain⟨v7,l7,rfl,h7⟩:=qaa h6;obtain⟨v8,l8,rfl,h8⟩:=qaa h7;obtain⟨v9,l9,rfl,h9⟩:=qaa h8;obtain⟨v10,l10,rfl,h10⟩:=qaa h9;obtain⟨v11,l11,rfl,h11⟩:=qaa h10;obtain⟨v12,l12,rfl,h12⟩:=qaa h11;obtain⟨v13,l13,rfl,h13⟩:=qaa h12;obtain⟨v14,l14,rfl,h14⟩:=qaa h13;obtain⟨v15,l15,rfl,h15⟩:=qaa h14;obtain⟨v16,l16,rfl,h16⟩:=qaa h15;obtain⟨v17,l17,rfl,h17⟩:=qaa h16;obtain⟨v18,l18,rfl,h18⟩:=qaa h17;obtain⟨v19,l19,rfl,h19⟩:=qaa h18;obtain⟨v20,l20,rfl,h20⟩:=qaa h19;obtain⟨v21,l21,rfl,h21⟩:=qaa h20;obtain⟨v22,l22,rfl,h22⟩:=qaa h21;obtain⟨v23,l23,rfl,h23⟩:=qaa h22;obtain⟨v24,l24,rfl,h24⟩:=qaa h23;obtain⟨v25,l25,rfl,h25⟩:=qaa h24;obtain⟨v26,l26,rfl,h26⟩:=qaa h25;obtain⟨v27,l27,rfl,h27⟩:=qaa h26;obtain⟨v28,l28,rfl,h28⟩:=qaa h27;obtain⟨v29,l29,rfl,h29⟩:=qaa h28;obtain⟨v30,l30,rfl,h30⟩:=qaa h29;obtain⟨v31,l31,rfl,h31⟩:=qaa h30;obtain⟨v32,l32,rfl,h32⟩:=qaa h31;obtain⟨v33,l33,rfl,h33⟩:=qaa h32;obtain⟨v34,l34,rfl,h34⟩:=qaa h33;obtain⟨v35,l35,rfl,h35⟩:=qaa h34;obtain⟨v36,l36,rfl,h36⟩:=qaa h35;obtain⟨v37,l37,rfl,h37⟩:=qaa h36;obtain⟨v38,l38,rfl,h38⟩:=qaa h37;obtain rfl:=eq_nil_of_length_eq_zero h38;exact hP _ _ _ _ _ _ _ _ _ _ _ _ _ _ _ _ _ _ _ _ _ _ _ _ _ _ _ _ _ _ _ _ _ _ _ _ _ _ _
noncomputable def qir:Code:=Tryz.f19.body.getD .skip
noncomputable def qdU:Code:=match qir with | .seq x _=>x|_=>.skip
noncomputable def qjG:Code:=match qir with | .seq _ (.seq x _)=>x|_=>.skip
noncomputable def qaH:Code:=match qir with | .seq _ (.seq _ x)=>x|_=>.skip
theorem q7h:qir=.seq qdU (.seq qjG qaH):=rfl
theorem q90:qcl prog Fs Gs SN qdU=true:=by kernel_rfl
theorem q91:qcl prog Fs Gs SN qaH=true:=by kernel_rfl
def AllEnd(b:Nat)(ok:Bool)(f:qj)(x:World)(ts:Array Value):Prop:=∃v1 v2 d k,ts[6]?=some v1/\ts[7]?=some v2/\ts[8]?=some (.bool ok)/\jw x b (.agg #[d,k,v2,v1]) f
theorem qrL{x:World}{b R:Nat}{d k o r:Value}{c:qj}(hF:jw x b (.agg #[d,k,o,r]) c)(hB:Blk x R 29 #[d,k,o,r]):jU x R d k o r c:=by
 obtain⟨d',k',o',r',e,h1,h2,h3,h4⟩:=hF.cv;injection e with e;injection e with e;injection e with e1 e;injection e with e2 e;injection e with e3 e;injection e with e4 e;subst e1 e2 e3 e4;exact⟨hB,h1,h2,h3,h4⟩
def vG(X wr:World)(pv:Value)(qa:List Node)(R b:Nat)(cx:qj):Prop:=∃d k o r,Blk wr R 29 #[d,k,o,r]/\jw wr b (.agg #[d,k,o,r]) cx/\RN wr pv qa/\X.grownBy wr (some R)
theorem vG.end_{X wr:World}{pv:Value}{qa:List Node}{R b:Nat}{cx:qj}{d k o r:Value}(hB:Blk wr R 29 #[d,k,o,r])(hF:jw wr b (.agg #[d,k,o,r]) cx)(hp:RN wr pv qa)(hg:X.grownBy wr (some R)):vG X wr pv qa R b cx:=⟨d,k,o,r,hB,hF,hp,hg⟩
section
variable {pv cv:Value}{nw:Int}{qa:List Node}{l:List Int}{R b:Nat}{c:qj}{a:Addr}
theorem qrM(ts:Array Value)(X:World)(hs:ts.size=39)(s0:ts[0]?=some pv)(s1:ts[1]?=some (.int .i64 nw))(s2:ts[2]?=some cv) :
   qdU.wp prog (λe a x=>e=.normal/\x.heap=X.heap/\a.tmps.size=39/\a.tmps[0]?=some pv/\a.tmps[1]?=some (.int .i64 nw)/\a.tmps[2]?=some cv) ⟨ts,[]⟩ X:=by
 revert ts;refine qgL ?_;intro v0 v1 v2 v3 v4 v5 v6 v7 v8 v9 v10 v11 v12 v13 v14 v15 v16 v17 v18 v19 v20 v21 v22 v23 v24 v25 v26 v27 v28 v29 v30 v31 v32 v33 v34 v35 v36 v37 v38 s0 s1 s2;obtain rfl:v0=pv:=by simpa using s0
 obtain rfl:v1=.int .i64 nw:=by simpa using s1
 obtain rfl:v2=cv:=by simpa using s2
 clear s0 s1 s2;simp only[qdU,qir,f19,Option.getD_some];go_wp2_with fail
theorem qrN(ts:Array Value)(X:World)(hs:ts.size=39)(s10:ts[10]?=some (.bool false)) :
   qaH.wp prog (λe a x=>e=.ret/\x.heap=X.heap/\a.tmps[6]?=some (.slice none 0 0)/\a.tmps[7]?=some (.slice none 0 0)/\a.tmps[8]?=some (.bool false)) ⟨ts,[]⟩ X:=by
 revert ts;refine qgL ?_;intro v0 v1 v2 v3 v4 v5 v6 v7 v8 v9 v10 v11 v12 v13 v14 v15 v16 v17 v18 v19 v20 v21 v22 v23 v24 v25 v26 v27 v28 v29 v30 v31 v32 v33 v34 v35 v36 v37 v38 s10;obtain rfl:v10=.bool false:=by simpa using s10
 clear s10;simp only[qaH,qir,f19,Option.getD_some];go_wp2_with fail
theorem qrO(ts:Array Value)(X:World)(hs:ts.size=39)(s0:ts[0]?=some pv)(s9:ts[9]?=some (.pointer (some ⟨R,0,none⟩)))(s10:ts[10]?=some (.bool true))(hok:qp qa c)(hd:0<c.qb.length)(hE:qm X a)(hp:RN X pv qa)(hb:b<=R)(hbg:0<b)
   (hB:∃d k o r,Blk X R 29 #[d,k,o,r]/\jw X b (.agg #[d,k,o,r]) c):qaH.wp prog (λe a x=>e=.ret/\HGB R X x/\AllEnd b true (finish qa qa.length c) x a.tmps) ⟨ts,[]⟩ X:=by
 revert ts;refine qgL ?_;intro v0 v1 v2 v3 v4 v5 v6 v7 v8 v9 v10 v11 v12 v13 v14 v15 v16 v17 v18 v19 v20 v21 v22 v23 v24 v25 v26 v27 v28 v29 v30 v31 v32 v33 v34 v35 v36 v37 v38 s0 s9 s10;obtain rfl:v0=pv:=by simpa using s0
 obtain rfl:v9=.pointer (some ⟨R,0,none⟩):=by simpa using s9
 obtain rfl:v10=.bool true:=by simpa using s10
 clear s0 s9 s10;obtain⟨P1,pn,pc,rfl,-,hpn,-⟩:=hp.form'
 have hst:vG X X (.slice P1 pn pc) qa R b (finish qa 0 c):=by
  obtain⟨d,k,o,r,h1,h2⟩:=hB;exact⟨d,k,o,r,h1,h2,hp,qah _ _⟩
 obtain⟨N,hN⟩:∃N:Nat,N=qa.length-c.done.length:=⟨_,rfl⟩;have hle:=qfz hok;have hR0:R≠0:=by omega
 have Hok:=Lib.hid hok;have Hd:=Lib.hid hd;have HN:=Lib.hid hN;have Hle:=Lib.hid hle;have HE:=Lib.hid hE;clear hok hd hN hle hE hB hp hpn;simp only[qaH,qir,f19,Option.getD_some];go_wp2_with fail
 go_loopg [12] (N+1) (λmm _ wr=>∃q:Nat,q<=N/\mm=N+1-q/\vG X wr (.slice P1 pn pc) qa R b (finish qa q c))
 case atStart=>exact⟨0,Nat.zero_le _,rfl,hst⟩
 case round=>
  clear hst;obtain⟨q,hq,rfl,d,k,o,r,hB,hF,hp,hg⟩:=hrel;obtain⟨xU,hdx⟩:=qqv (qa:=qa) q Hok.out;have hdn:=qoi (qa:=qa) q Hok.out Hd.out;have xe:=(qhu xU).2
  have hE9:qm wr a:=by
   have h0:X.cell? ⟨0,0,none⟩=some _:=HE.out;exact(qnv hg (qf5 h0) (λe=>hR0 (Option.some.inj e))).trans h0
  have Hs:Hid (finish qa (q+1) c=(qa0 qa (finish qa q c) 0).getD (finish qa q c)):=qj2 qa q c;have hkx:0<(finish qa q c).qb.length:=by rw[hdx];exact Hd.out
  have Hen:Hid (q=N->finish qa qa.length c=finish qa q c):=λe=>qzs (by have:=HN.out;omega) (by have:=HN.out;have:=Hle.out;omega);have hNn:=HN.out;have hlen:=Hle.out;generalize finish qa q c=cx at hB hF xU hdx hdn xe Hs hkx Hen;have hBx:=qrL hF hB;obtain⟨V1,Vn1,Vc1,V2,Vn2,Vc2,V3,Vn3,Vc3,V4,Vn4,Vc4,e0⟩:=hF.form;injection e0 with e0;injection e0 with e0;injection e0 with ea e0;injection e0 with eb e0;injection e0 with ec e0;injection e0 with ed e0;subst ea eb ec ed;clear e0;have v0:=hBx.d0;have v1:=hBx.d1;have v2:=hBx.d2;have v3:=hBx.d3;have hfx:=Lib.hid (qpq xU);have HF:=Lib.hid hF;have HB:=Lib.hid hB;by_cases hlt:q<N
  . obtain⟨cy,hcy⟩:=qor xU (by omega) hkx;have Hcy:Hid (qa0 qa cx 0=some cy):=hcy;obtain⟨L,hL⟩:∃L:Int,L=qf0 qa cx:=⟨_,rfl⟩;have hLp:0<L:=by omega
    have HL:=Lib.hid hL;clear hcy xe hdn hdx xU hkx hL hNn hlen Hen hF hB;go_wp2_with fail;refine(qj6 _ _ qa cx wr hp hBx.cv hfx.out).mono ?_;rw[<-HL.out];rintro e w9 ⟨rfl,hg9⟩;have hp9:=hp.new hg9;have hB9:=hBx.new hg9;have qjH:=hE9.new hg9;have g9:=qqy hg hg9;clear v0 v1 v2 v3 hp hBx hE9;have v0:=hB9.d0;have v1:=hB9.d1;have v2:=hB9.d2;have v3:=hB9.d3;go_wp2_with fail;refine(qgz _ _ qa cx 0 a w9 qjH hp9 hB9.cv hfx.out).mono ?_;rw[Hcy.out];rintro e w10 ⟨v10,rfl,qaI,vw⟩;obtain⟨U1,Un1,Uc1,U2,Un2,Uc2,U3,Un3,Uc3,U4,Un4,Uc4,rfl⟩:=qaI.form;have hU:=qaI.cv.box;have gU:=grownBy_alloc w10 (.cells #[.slice U1 Un1 Uc1,.slice U2 Un2 Uc2,.slice U3 Un3 Uc3,.slice U4 Un4 Uc4] 29) none;have hB2:=(hB9.new vw).new gU;have hp2:=(hp9.new vw).new gU;have g2:=qqy (qqy g9 vw) gU;have hbw:b<=w9.heap.size:=by have:=hB9.b.lt;omega
    have HF2:=Lib.hid ((qaI.new gU).low hbw);clear v0 v1 v2 v3 hB9 hp9 g9 qjH qaI vw gU hbw HF HB hg hg9;go_upto_region 6 with fail;generalize w10.alloc (.cells #[.slice U1 Un1 Uc1,.slice U2 Un2 Uc2,.slice U3 Un3 Uc3,.slice U4 Un4 Uc4] 29)=w11 at hU hB2 hp2 g2 HF2 |-;generalize w10.heap.size=U at hU |-;have u0:=hU.d0;have u1:=hU.d1;have u2:=hU.d2;have u3:=hU.d3;have v0:=hB2.d0;have v1:=hB2.d1;have v2:=hB2.d2;have v3:=hB2.d3;have f0:=hB2.b.frozen 0;have f1:=hB2.b.frozen 1;have f2:=hB2.b.frozen 2;have f3:=hB2.b.frozen 3;have hset:=qeg w11 R (.slice U1 Un1 Uc1) (.slice U2 Un2 Uc2) (.slice U3 Un3 Uc3) (.slice U4 Un4 Uc4);have e1:finish qa (q+1) c=cy:=by rw[Hs.out,Hcy.out];rfl
    have hfin:Hid (vG X _ (.slice P1 pn pc) qa R b cy):=vG.end_ (hB2.put hU.cv).b (HF2.out.grown hset (qh.blk hB2.b (by decide)) (qh.blk hB2.b (by decide))) (hp2.grown hset (qh.blk hB2.b (by decide)) (qh.blk hB2.b (by decide))) (qad g2 hset);rw[<-e1]at hfin;clear hset hU hB2 hp2 g2 e1 HF2;go_wp2;go_roundg (N+1-(q+1))
    case measure=>omega
    case rel=>exact⟨q+1,by omega,rfl,hfin.out⟩
  . obtain rfl:N=q:=by omega
    have hz:qf0 qa cx=0:=by rw[xe];omega
    have Hz:=Lib.hid hz;have He:=Lib.hid (Hen.out rfl);clear xe hz xU hdn hdx hkx hNn hlen Hs hE9 hF hB;go_wp2_with fail;refine(qj6 _ _ qa cx wr hp hBx.cv hfx.out).mono ?_;rw[Hz.out];rintro e w10 ⟨rfl,vw⟩;have qdV:=hBx.new vw;have qaI:=HF.out.new vw;have g10:=qqy hg vw;rw[<-He.out]at qaI;clear v0 v1 v2 v3 hBx hp hg vw HF HB;have v0:=qdV.d0;have v1:=qdV.d1;have v2:=qdV.d2;have v3:=qdV.d3;go_wp2_with fail
    go_quiet (fail)
    go_wp2_with fail;exact⟨⟨g10.size,λi hi hne=>g10.block i hi (λe=>hne (Option.some.inj e))⟩,_,_,_,_,rfl,rfl,rfl,qaI⟩
end
theorem q4h{y:World}{ts:Array Value}{v1 v2 v3:Value}(h6:ts[6]?=some v1)(h7:ts[7]?=some v2)(h8:ts[8]?=some v3):(results f19 ts).run prog y=.ok (.tuple #[v1,v2,v3]) y:=by
 have e6:ts[6]?.getD undef=v1:=by rw[h6];rfl
 have e7:ts[7]?.getD undef=v2:=by rw[h7];rfl
 have e8:ts[8]?.getD undef=v3:=by rw[h8];rfl
 simp[results,results19,go_sem,e6,e7,e8]
section
variable {gr:Grd}{M:Mks gr.base}{Post:Value->World->Prop}{Sh:Nat->Prop}{Fz:Loc->Prop}{T:Nat->qA}{n0:Nat}{w z:World}
theorem q92(OO:∀M:Mks gr.base,zL (gr.base.pen M))(hb:Both (gr.base.pen M) w z){pv cv:Value}{nw:Int}{qa:List Node}{l:List Int}{ea:Addr}
   (hp:RN z pv qa) (hl:RI z cv l) (hE:qm z ea) (hx:∀x∈l,x<9223372036854775808)
   (O:zx (gr.base.pen M) Sh Fz) (hT:∀i,i≠0->T i=.left) (hn0:0<n0) (vN:n0<2000000000) {caller:Frame} {cs:List Frame} {ts:Array Value} (hs:ts.size=39) (s0:ts[0]?=some pv) (s1:ts[1]?=some (.int .i64 nw)) (s2:ts[2]?=some cv) (zy:∀v,v∈ts->Ok gr.A gr.F v)
   (next:∀w' z' (M':Mks gr.base) Sh' Fz' T' n' v1 v2 d k,M.Le M'->Both (gr.base.pen M') w' z'->HG z z'->zx (gr.base.pen M') Sh' Fz'->qn (gr.base.pen M) (λr=>w.heap.size<=r) w w'->(∀i,i≠0->T' i=.left)->n0<=n'->n'<=n0+4 ->
    Ok gr.A gr.F v1->Ok gr.A gr.F v2->jw z' z.heap.size (.agg #[d,k,v2,v1]) ((qa1 qa nw l).getD qdk)->qc prog Post Sh' Fz' T' n' 0 0 (G (caller.finish (.tuple #[v1,v2,.bool (qa1 qa nw l).isSome])) cs) w') :
   qc prog Post Sh Fz T n0 0 0 (G ((base 19).at ⟨ts,[]⟩ [.code qir]) (caller::cs)) w:=by
 rw[q7h];refine qao ?_
 refine qbg (OO M) func19 zy q90 hb (O.alone hT) (qaq hT) (Q:=λe a x=>e=.normal/\x.heap=z.heap/\a.tmps.size=39/\a.tmps[0]?=some pv/\a.tmps[1]?=some (.int .i64 nw)/\a.tmps[2]?=some cv)
  (λe a x y exy h=>⟨h.1,exy.symm.trans h.2.1,h.2.2⟩) (λX eX=>wp_mono (qrM ts X hs s0 s1 s2) (λe a x h=>⟨h.1,h.2.1.trans eX.symm,h.2.2⟩)) (λe a x h=>by rw[h.1];trivial) ?_
 rintro e1 ⟨ts1,ds1⟩ td1 w1 z1 hb1 hh1-ok1 qgK-⟨rfl,hz1,hs1,h10,h11,h12⟩;rw[qgK rfl];show qc prog Post Sh Fz T n0 0 0 (G ((base 19).at ⟨ts1,[]⟩ [.code _]) (caller::cs)) w1;have hg1:HG z z1:=qcs hz1;have qcH:z1.heap.size=z.heap.size:=by rw[hz1]
 refine qao ?_;generalize hcR:qaH=cR;simp only[qjG,qir,f19,Option.getD_some];refine qau ?_;simp only[List.size_toArray,length_cons,length_nil,Nat.reduceAdd,Nat.zero_add,range,range.loop]
 refine jy OO hb1 (hg1.rn hp) (hg1.ri hl) (hg1.err hE) hx O hT hn0 vN (by decide) ok1 hs1 (p0:=14) (p1:=15) (p2:=16) (tc:=17) (tm:=13) (tv:=18) (tb:=19) (tx:=9) (tk:=10)
  ⟨⟨_,_,rfl,rfl,rfl,rfl⟩,⟨_,rfl,rfl,rfl,rfl⟩,⟨_,rfl,rfl,rfl,rfl⟩,⟨_,rfl,rfl,rfl,rfl⟩,⟨_,rfl,rfl,rfl,rfl⟩,⟨_,rfl,rfl,rfl,rfl⟩,⟨_,rfl,rfl,rfl,rfl⟩⟩ rfl rfl rfl h10 h11 h12 (by decide) (by decide)
  (λw4 z4 M4 Sh4 Fz4 T4 n4 A1 m1 c1 A2 m2 c2 A3 m3 c3 A4 m4 c4 R hle hb4 hg4 O4 hh4 hT4 hn4 xS hF hB hR ok4=>?_)
 subst hcR;have gz4:=hg1.trans hg4;have t0:=qd7 (p0:=14) (p1:=15) (p2:=16) (tc:=17) (tm:=13) (tv:=18) (tb:=19) (tx:=9) (tk:=10) (a0:=pv) (a1:=.int .i64 nw) (a2:=cv) (v:=.agg #[.slice A1 m1 c1,.slice A2 m2 c2,.slice A3 m3 c3,.slice A4 m4 c4]) (b:=(qas qa nw l).isSome) (R:=R) (by decide) h10;have tR:=qhp (ts:=((ts1.setIfInBounds 14 pv).setIfInBounds 15 (.int .i64 nw)).setIfInBounds 16 cv) (tc:=17) (tm:=13) (tv:=18) (tb:=19) (tx:=9) (tk:=10) (v:=.agg #[.slice A1 m1 c1,.slice A2 m2 c2,.slice A3 m3 c3,.slice A4 m4 c4]) (b:=(qas qa nw l).isSome) (R:=R) (by decide) (by simp[hs1]);have tk:=qhq (ts:=((ts1.setIfInBounds 14 pv).setIfInBounds 15 (.int .i64 nw)).setIfInBounds 16 cv) (tc:=17) (tm:=13) (tv:=18) (tb:=19) (tx:=9) (tk:=10) (v:=.agg #[.slice A1 m1 c1,.slice A2 m2 c2,.slice A3 m3 c3,.slice A4 m4 c4]) (b:=(qas qa nw l).isSome) (R:=R) (by simp[hs1]);have tz:(qb0 (((ts1.setIfInBounds 14 pv).setIfInBounds 15 (.int .i64 nw)).setIfInBounds 16 cv) 17 13 18 19 9 10 (.agg #[.slice A1 m1 c1,.slice A2 m2 c2,.slice A3 m3 c3,.slice A4 m4 c4]) (qas qa nw l).isSome R).size=39:=jb.trans (by simp[hs1]);generalize qb0 _ _ _ _ _ _ _ _ _ _=t4 at ok4 t0 tR tk tz |-;have hgA:z.heap.size<=R:=by rw[<-qcH];exact hR
 rw[qcH]at hF;have quG:(qa1 qa nw l).isSome=(qas qa nw l).isSome:=by unfold qa1;rw[isSome_map]
 refine qbg (OO M4) func19 ok4 q91 hb4 (O4.alone hT4) (qaq hT4) (Q:=λe a x=>e=.ret/\HG z x/\AllEnd z.heap.size (qa1 qa nw l).isSome ((qa1 qa nw l).getD qdk) x a.tmps)
  (λe a x y exy h=>⟨h.1,h.2.1.heap exy,by
   obtain⟨v1,v2,d,k,h1,h2,h3,h4⟩:=h.2.2;exact⟨v1,v2,d,k,h1,h2,h3,h4.heap exy⟩⟩)
  (λX eX=>?_) (λe a x h=>by rw[h.1];trivial) ?_
 . cases hr:qas qa nw l with
   |none=>
    rw[hr]at tk;have e2:qa1 qa nw l=none:=by unfold qa1;rw[hr];rfl
    rw[e2];exact wp_mono (qrN t4 X tz tk) (λe a x h=>⟨h.1,(gz4.heap eX).heap h.2.1.symm,_,_,.slice none 0 0,.slice none 0 0,h.2.2.1,h.2.2.2.1,h.2.2.2.2,jw.zero _ _⟩)
   |some c=>
    rw[hr]at tk hF;have e2:qa1 qa nw l=some (finish qa qa.length c):=by unfold qa1;rw[hr];rfl
    rw[e2];obtain⟨hok,hdl⟩:=qh7 hr;have hd1:=hok.d1;exact wp_mono (qrO (b:=z.heap.size) t4 X tz t0 tR tk hok hd1 ((qcs (x:=z4) (y:=X) eX.symm).err (hg4.err (hg1.err hE))) ((hg4.rn (hg1.rn hp)).heap eX) hgA (qf5 hE) ⟨_,_,_,_,hB.heap eX,hF.heap eX⟩) (λe a x h=>⟨h.1,HGB.hg (gz4.heap eX) h.2.1 hgA,h.2.2⟩)
 rintro e5 ⟨t5,d5⟩ td5 w5 z5 hb5 hh5-ok5 xV-⟨rfl,hg5,v1,v2,d,k,h6,h7,h8,hF5⟩;show qc prog Post Sh4 Fz4 T4 n4 0 0 (G {(base 19).at ⟨t5,[]⟩ (td5++_)with mode:=.returning} (caller::cs)) w5;refine qrw (C:=gr.base.pen M4) (x:=.tuple #[v1,v2,.bool (qa1 qa nw l).isSome]) (OO M4).xM (q4f (OO M4) func19 ok5) rfl hb5 (O4.alone hT4) (qaq hT4) func19 (λd=>q4h h6 h7 h8) ?_;intro w7 z7 hb7 ez7 hh7 qdT hL7;exact next w7 z7 M4 Sh4 Fz4 T4 n4 v1 v2 d k hle hb7 (hg5.heap ez7.symm) O4 ((hh1.but.trans (hh4.mono (λr hr=>Nat.le_trans hh1.size hr))).trans (((hh5.trans hh7).but).down hle)) hT4 hn4 xS (qdT.zR _ (by simp)) (qdT.zR _ (by simp)) (hF5.heap ez7.symm)
end
structure kD(ops:Array Oper)(i:Nat)(a0 a1 a2:Operand)(tc tm t0 t1 t2 k0 k1 k2:Nat):Prop where
 o0:∃o ats,ops[i]?=some o/\o.op=.call {callee:=.value (.func 19),args:=#[a0,a1,a2],argTypes:=ats}/\o.dst=some tc/\o.guard=none
 o1:∃o,ops[i+1]?=some o/\o.op=.move (.tmp tc)/\o.dst=some tm/\o.guard=none
 o2:∃o,ops[i+2]?=some o/\o.op=.extract (.tmp tm) 0/\o.dst=some t0/\o.guard=none
 o3:∃o,ops[i+3]?=some o/\o.op=.extract (.tmp tm) 1/\o.dst=some t1/\o.guard=none
 o4:∃o,ops[i+4]?=some o/\o.op=.extract (.tmp tm) 2/\o.dst=some t2/\o.guard=none
 o5:∃o,ops[i+5]?=some o/\o.op=.assign (.tmp t0)/\o.dst=some k0/\o.guard=none
 o6:∃o,ops[i+6]?=some o/\o.op=.assign (.tmp t1)/\o.dst=some k1/\o.guard=none
 o7:∃o,ops[i+7]?=some o/\o.op=.assign (.tmp t2)/\o.dst=some k2/\o.guard=none
section
variable {gr:Grd}{M:Mks gr.base}{Post:Value->World->Prop}{Sh:Nat->Prop}{Fz:Loc->Prop}{T:Nat->qA}{n0:Nat}{w z:World}
theorem qsx(OO:∀M:Mks gr.base,zL (gr.base.pen M))(hb:Both (gr.base.pen M) w z){pv cv:Value}{nw:Int}{qa:List Node}{l:List Int}{ea:Addr}
   (hp:RN z pv qa) (hl:RI z cv l) (hE:qm z ea) (hx:∀x∈l,x<9223372036854775808) (okp:Ok gr.A gr.F pv) (okc:Ok gr.A gr.F cv) (O:zx (gr.base.pen M) Sh Fz) (hT:∀i,i≠0->T i=.left) (hn0:0<n0) (vN:n0<2000000000)
   {b:Frame} (hk:b.kind≠.early) {ts:Array Value} (zy:∀v,v∈ts->Ok gr.A gr.F v) {NT:Nat} (hs:ts.size=NT) {ops:Array Oper} {i tc tm t0 t1 t2 k0 k1 k2:Nat} {a0 a1 a2:Operand} (S:kD ops i a0 a1 a2 tc tm t0 t1 t2 k0 k1 k2)
   (h0:(Act.mk ts []).eval a0=pv) (h1:(Act.mk ts []).eval a1=.int .i64 nw) (h2:(Act.mk ts []).eval a2=cv) (lts:[tc,tm,t0,t1,t2,k0,k1,k2].all (λx=>decide (x<NT))=true) (nes:decide ([tc,tm,t0,t1,t2,k0,k1,k2].Nodup)=true)
   {k:List Item} {cs:List Frame}
   (next:∀w' z' (M':Mks gr.base) Sh' Fz' T' n' v1 v2 d q ts',M.Le M'->Both (gr.base.pen M') w' z'->HG z z'->zx (gr.base.pen M') Sh' Fz'->qn (gr.base.pen M) (λr=>w.heap.size<=r) w w'->(∀i,i≠0->T' i=.left)->n0<=n'->n'<=n0+4 ->
    jw z' z.heap.size (.agg #[d,q,v2,v1]) ((qa1 qa nw l).getD qdk)->ts'.size=NT->(∀t u,[tc,tm,t0,t1,t2,k0,k1,k2].all (λx=>x != t)=true->ts[t]?=some u->ts'[t]?=some u) ->
    ts'[k0]?=some v1->ts'[k1]?=some v2->ts'[k2]?=some (.bool (qa1 qa nw l).isSome)->(∀v,v∈ts'->Ok gr.A gr.F v)->qc prog Post Sh' Fz' T' n' 0 0 (G (b.at ⟨ts',[]⟩ (.inRegion ops []::k)) cs) w') :
   qc prog Post Sh Fz T n0 0 0 (G (b.at ⟨ts,[]⟩ (.inRegion ops [i,i+1,i+2,i+3,i+4,i+5,i+6,i+7]::k)) cs) w:=by
 subst hs;simp only[all_cons,all_nil,Bool.and_true,Bool.and_eq_true,decide_eq_true_eq]at lts nes;obtain⟨l0,l1,l2,l3,l4,l5,l6,l7⟩:=lts;simp only[nodup_cons,mem_cons,not_mem_nil,or_false,not_or,nodup_nil,and_true,not_false_eq_true]at nes;obtain⟨⟨c1,c2,c3,c4,c5,c6,c7⟩,⟨m2,m3,m4,m5,m6,m7⟩,⟨n3,n4,n5,n6,n7⟩,⟨p4,p5,p6,p7⟩,⟨q5,q6,q7⟩,⟨r6,r7⟩,s7⟩:=nes;obtain⟨⟨⟨_,_,_,_,_,_⟩,ats,e0,rfl,rfl,rfl⟩,⟨⟨_,_,_,_,_,_⟩,e1,rfl,rfl,rfl⟩,⟨⟨_,_,_,_,_,_⟩,e2,rfl,rfl,rfl⟩,⟨⟨_,_,_,_,_,_⟩,e3,rfl,rfl,rfl⟩,⟨⟨_,_,_,_,_,_⟩,e4,rfl,rfl,rfl⟩,⟨⟨_,_,_,_,_,_⟩,e5,rfl,rfl,rfl⟩,⟨⟨_,_,_,_,_,_⟩,e6,rfl,rfl,rfl⟩,⟨⟨_,_,_,_,_,_⟩,e7,rfl,rfl,rfl⟩⟩:=S;refine qho (c:=qir) e0 rfl hk rfl func19 (by kernel_rfl) rfl ?_;have hent:#[a0,a1,a2].map (Act.mk ts []).eval=#[pv,.int .i64 nw,cv]:=by simp[h0,h1,h2]
 rw[hent];refine q92 (nw:=nw) OO hb hp hl hE hx O hT hn0 vN (by rw[ntmps19];simp) (by simp) (by simp) (by simp) (λv hv=>?_) (λw1 z1 M1 Sh1 Fz1 T1 n1' v1 v2 d q hle hb1 hg1 O1 hh1 hT1 hn1 hn2 qrP qrQ hF=>?_)
 . rcases Array.mem_append.1 hv with hv|hv
   . simp only[List.mem_toArray,mem_cons,not_mem_nil,or_false]at hv;rcases hv with rfl|rfl|rfl
     . exact okp
     . exact .int _ _
     . exact okc
   . rw[Array.eq_of_mem_replicate hv];exact .undef
 have hHT:=λ(w:World)=>qaq (n:=n1') (w:=w) hT1;have OM:=OO M1;generalize hbs:(qa1 qa nw l).isSome=bs at next |-;rw[Frame.finish_at,e0]
 have ok1:∀u,u∈ts.setIfInBounds tc (.tuple #[v1,v2,.bool bs])->Ok gr.A gr.F u:=λu hu=>by
  rcases Array.mem_or_eq_of_mem_setIfInBounds hu with h5|h5
  . exact zy u h5
  . rw[h5];refine .tuple (λy hy=>?_);simp only[List.mem_toArray,mem_cons,not_mem_nil,or_false]at hy;rcases hy with rfl|rfl|rfl
    . exact qrP
    . exact qrQ
    . exact .bool _
 have hput:Act.put ⟨ts,[]⟩ (some tc) (.tuple #[v1,v2,.bool bs])=⟨ts.setIfInBounds tc (.tuple #[v1,v2,.bool bs]),[]⟩:=rfl;rw[show ((some (⟨some tc,.call {callee:=.value (.func 19),args:=#[a0,a1,a2],argTypes:=ats},_,_,_,none⟩:Oper)).bind (·.dst))=some tc from rfl,hput];clear hput hent;refine qea OM ok1 hb1 (O1.alone hT1) (hHT _) hk e1 (getSet l0) (λw2 z2 hb2 hz2 hh2 ok2=>?_);refine qqx OM ok2 hb2 (O1.alone hT1) (hHT _) hk e2 (getSet (by simpa using l1)) rfl (λw3 z3 hb3 hz3 hh3 ok3=>?_);refine qqx OM ok3 hb3 (O1.alone hT1) (hHT _) hk e3 ((qai (Ne.symm m2)).trans (getSet (by simpa using l1))) rfl (λw4 z4 hb4 hz4 hh4 ok4=>?_);refine qqx OM ok4 hb4 (O1.alone hT1) (hHT _) hk e4 ((qai (Ne.symm m3)).trans ((qai (Ne.symm m2)).trans (getSet (by simpa using l1)))) rfl (λw5 z5 hb5 hz5 hh5 ok5=>?_);refine qt4 OM ok5 hb5 (O1.alone hT1) (hHT _) hk e5 ((qai (Ne.symm n4)).trans ((qai (Ne.symm n3)).trans (getSet (by simpa using l2)))) (λw6 z6 hb6 hz6 hh6 ok6=>?_);refine qt4 OM ok6 hb6 (O1.alone hT1) (hHT _) hk e6 ((qai (Ne.symm p5)).trans ((qai (Ne.symm p4)).trans (getSet (by simpa using l3)))) (λw7 z7 hb7 hz7 hh7 ok7=>?_);refine qt4 OM ok7 hb7 (O1.alone hT1) (hHT _) hk e7 ((qai (Ne.symm q6)).trans ((qai (Ne.symm q5)).trans (getSet (by simpa using l4)))) (λw8 z8 hb8 hz8 hh8 ok8=>?_);have hsz:z8.heap=z1.heap:=(((((hz8.trans hz7).trans hz6).trans hz5).trans hz4).trans hz3).trans hz2;refine next w8 z8 M1 Sh1 Fz1 T1 n1' v1 v2 d q _ hle hb8 (hg1.heap hsz.symm) O1 (hh1.trans ((((((hh2.trans hh3).trans hh4).trans hh5).trans hh6).trans (hh7.trans hh8)).but.down hle)) hT1 hn1 hn2 (hF.heap hsz.symm) (by simp) (λt u h hu=>?_) ?_ ?_ (getSet (by simpa using l7)) ok8
 . simp only[all_cons,all_nil,Bool.and_true,Bool.and_eq_true,bne_iff_ne]at h;obtain⟨g1,g2,g3,g4,g5,g6,g7,g8⟩:=h;rw[qai g8,qai g7,qai g6,qai g5,qai g4,qai g3,qai g2,qai g1];exact hu
 . rw[qai (Ne.symm r7),qai (Ne.symm r6)];exact getSet (by simpa using l5)
 . rw[qai (Ne.symm s7)];exact getSet (by simpa using l6)
theorem zt(OO:∀M:Mks gr.base,zL (gr.base.pen M))(hb:Both (gr.base.pen M) w z){pv cv:Value}{nw:Int}{qa:List Node}{l:List Int}{ea:Addr}
   (hp:RN z pv qa) (hl:RI z cv l) (hE:qm z ea) (hx:∀x∈l,x<9223372036854775808) (O:zx (gr.base.pen M) Sh Fz) (hT:∀i,i≠0->T i=.left) (hn0:0<n0) (vN:n0<2000000000)
   {b:Frame} (hk:b.kind≠.early) {ts:Array Value} (zy:∀v,v∈ts->Ok gr.A gr.F v) {NT:Nat} (hs:ts.size=NT) {ops:Array Oper} {q0 q1 q2 p0 p1 p2 tc tm t0 t1 t2 k0 k1 k2:Nat} (S:kD ops 3 (.tmp p0) (.tmp p1) (.tmp p2) tc tm t0 t1 t2 k0 k1 k2)
   {y0 y1 y2:TypeId} {s0 s1 s2:String} {a0 a1 a2:Array Edge} (m0:ops[0]?=some ⟨some p0,.move (.tmp q0),y0,s0,a0,none⟩) (m1:ops[1]?=some ⟨some p1,.move (.tmp q1),y1,s1,a1,none⟩) (m2:ops[2]?=some ⟨some p2,.move (.tmp q2),y2,s2,a2,none⟩)
   (hpv:ts[q0]?=some pv) (hnw:ts[q1]?=some (.int .i64 nw)) (hcv:ts[q2]?=some cv)
   (lts:[p0,p1,p2,tc,tm,t0,t1,t2,k0,k1,k2].all (λx=>decide (x<NT))=true) (nes:decide ([tc,tm,t0,t1,t2,k0,k1,k2].Nodup/\p0≠q1/\p0≠q2/\p1≠q2/\p1≠p0/\p2≠p0/\p2≠p1)=true)
   {k:List Item} {cs:List Frame}
   (next:∀w' z' (M':Mks gr.base) Sh' Fz' T' n' v1 v2 d q ts',M.Le M'->Both (gr.base.pen M') w' z'->HG z z'->zx (gr.base.pen M') Sh' Fz'->qn (gr.base.pen M) (λr=>w.heap.size<=r) w w'->(∀i,i≠0->T' i=.left)->n0<=n'->n'<=n0+4 ->
    jw z' z.heap.size (.agg #[d,q,v2,v1]) ((qa1 qa nw l).getD qdk)->ts'.size=NT->(∀t u,[p0,p1,p2,tc,tm,t0,t1,t2,k0,k1,k2].all (λx=>x != t)=true->ts[t]?=some u->ts'[t]?=some u) ->
    ts'[k0]?=some v1->ts'[k1]?=some v2->ts'[k2]?=some (.bool (qa1 qa nw l).isSome)->(∀v,v∈ts'->Ok gr.A gr.F v)->qc prog Post Sh' Fz' T' n' 0 0 (G (b.at ⟨ts',[]⟩ k) cs) w') :
   qc prog Post Sh Fz T n0 0 0 (G (b.at ⟨ts,[]⟩ (.inRegion ops [0,1,2,3,4,5,6,7,8,9,10]::k)) cs) w:=by
 subst hs;simp only[all_cons,all_nil,Bool.and_true,Bool.and_eq_true,decide_eq_true_eq]at lts nes;obtain⟨l0,l1,l2,l3,l4,l5,l6,l7,l8,l9,l10⟩:=lts;obtain⟨nd,n5,n6,n7,n8,n9,n10⟩:=nes;refine qea (OO _) zy hb (O.alone hT) (qaq hT) hk m0 hpv (λw1 z1 hb1 hz1 hh1 ok1=>?_);refine qea (OO _) ok1 hb1 (O.alone hT) (qaq hT) hk m1 ((qai n5).trans hnw) (λw2 z2 hb2 hz2 hh2 ok2=>?_);refine qea (OO _) ok2 hb2 (O.alone hT) (qaq hT) hk m2 ((qai n7).trans ((qai n6).trans hcv)) (λw3 z3 hb3 hz3 hh3 ok3=>?_);have ez:z.heap=z3.heap:=(hz3.trans (hz2.trans hz1)).symm;have hg3:HG z z3:=qcs ez.symm
 refine qsx OO hb3 (hp.heap ez) (hl.heap ez) (hg3.err hE) hx (zy _ (Array.mem_of_getElem? hpv)) (zy _ (Array.mem_of_getElem? hcv)) O hT hn0 vN hk ok3 (NT:=ts.size) (by simp) S (qet ((qai n9).trans ((qai n8).trans (getSet l0)))) (qet ((qai n10).trans (getSet (by simpa using l1)))) (qet (getSet (by simpa using l2)))
  (by simp only[all_cons,all_nil,Bool.and_true,Bool.and_eq_true,decide_eq_true_eq];exact⟨l3,l4,l5,l6,l7,l8,l9,l10⟩) (decide_eq_true nd)
  (λw4 z4 M4 Sh4 Fz4 T4 n4 v1 v2 d q ts' hle hb4 hg4 O4 hh4 hT4 hn4 xS hF hsz hget hk0 hk1 hk2 ok4=>?_)
 refine qan ?_;have hsw:w.heap.size<=w3.heap.size:=((hh1.trans hh2).trans hh3).size;have ezs:z3.heap.size=z.heap.size:=by rw[ez]
 refine next w4 z4 M4 Sh4 Fz4 T4 n4 v1 v2 d q ts' hle hb4 (hg3.trans hg4) O4 (((hh1.trans hh2).trans hh3).but.trans (hh4.mono (λr hr=>Nat.le_trans hsw hr))) hT4 hn4 xS (by rw[<-ezs];exact hF) hsz (λt u h hu=>?_) hk0 hk1 hk2 ok4;rw[all_cons,all_cons,all_cons]at h;simp only[Bool.and_eq_true,bne_iff_ne]at h;obtain⟨g0,g1,g2,h⟩:=h;exact hget t u h ((qai g2).trans ((qai g1).trans ((qai g0).trans hu)))
end
end
section
open Go.RowKit
def q9m(w:World)(r:Option qj)(e:Ending)(w':World):Prop:=∃v1 v2,e=.returned (.tuple #[v1,v2,.bool r.isSome])/\RL w' v1 (r.getD qdk).rows/\RI w' v2 (r.getD qdk).done/\w.grownBy w' none
theorem q1u{ops:Array Oper}{rest:List Oper}{o:Oper}{a:Act}{Q:Exit->Act->World->Prop}{w:World}
   (s x:Operand) (hgd:o.guard=none) (ho:o.op=.call {callee:=.builtin .append,args:=#[s,x],argTypes:=#[27,27]})
   {v xv:Value} {ll:List (List Int)} (hs:a.eval s=v) (hx:a.eval x=xv) {base:Nat} (hown:j9 w base v []) (hxv:RL w xv ll) (hn:ll.length<=1000000) (hbase:base<=w.heap.size)
   (h:∀v' w',j9 w' base v' ll->w.grownBy w' v.ownBlock->wpList prog ops Q rest (a.put o.dst v') w') :
   wpList prog ops Q (o::rest) a w:=by
 obtain⟨i,hi,hz0,hz1,hz2⟩:=info_parts qox;obtain⟨xs,hxs,hrows⟩:=hxv;have hlen:xs.length=ll.length:=by have:=hxs.1;omega
 obtain⟨ys,hown,-⟩:=hown;obtain rfl:ys=[]:=eq_nil_of_length_eq_zero (by have:=hown.1;simpa using this);obtain⟨A,c,e,hc,hcm,hcn⟩:=TS.form hxs;subst e
 match A,hcn with
 |none,hcn=>
  obtain rfl:=hcn rfl;have hl0:ll=[]:=eq_nil_of_length_eq_zero (by omega);subst hl0;refine wpList_append_own_none hgd s x 27 ho base 24 i 1 underlying27 hi v _ _ hs hown hx ?_;exact h _ _ ⟨[],hown,λi l hi=>by simp at hi⟩ (qah _ _)
 |some ad,hcn=>
  refine wpList_append_own _ hgd s x 27 ho base 24 i _ 1 24 underlying27 hi hz0 hz1 hz2 rfl (by decide) v _ _ hs hown ad ll.length c xs hx (by rw[hlen,Nat.mul_one]) ?_ ?_ ?_ ?_ hbase ?_
  . intro j u hj;have hjl:=(List.getElem?_eq_some_iff.1 hj).1;obtain⟨g,o',cur,e,_,hcell⟩:=TS.at_ hxs (by omega);have e2:ad=⟨g,o',none⟩:=Option.some.inj e;rw[e2,Addr.add_lit];exact hcell j u hj
  . intro u hu;obtain⟨j,hj,rfl⟩:=getElem_of_mem hu;obtain⟨y,k1,k2⟩:=hrows j _ (getElem?_eq_getElem (by omega));rw[getElem?_eq_getElem hj]at k1;injection k1 with k1;obtain⟨B,m,e,h1,-⟩:=k2.form';rw[k1,h1];rfl
  . simp only[length_nil,Nat.zero_add];unfold maxLen;omega
  . simp only[length_nil,Nat.zero_add];omega
  . intro v' w' h1 h2 _;have hne:qh w 3 v.ownBlock:=qh.own hown (by decide);refine h v' w' ⟨xs,by simpa using h1,λi l hi=>?_⟩ h2;obtain⟨u,k1,k2⟩:=hrows i l hi;exact⟨u,k1,k2.grown h2 hne⟩
def qdW(w wr:World)(pv:Value)(qa:List Node)(X:Nat)(cx:qj):Prop:=∃d k o r,jU wr X d k o r cx/\RN wr pv qa/\w.grownBy wr none
theorem qep(pv cv:Value)(qa:List Node)(n:Int)(l:List Int)(w:World)(hp:RN w pv qa)(hl:RI w cv l)(hpl:qa.length<=1000000000)(hll:l.length<=1000000000) :
   Calls prog 20 #[pv,.int .i64 n,cv] w (q9m w (qa1 qa n l)):=by
 obtain⟨A,np,cp,rfl,-,hnp,-⟩:=hp.form';obtain⟨Ac,m,cc,rfl,-,-⟩:=hl.form';have HT:=Lib.hid (qeo _ _ qa n l w hp hl hpl hll);obtain⟨Q,hQ⟩:∃Q,Q=qas qa n l:=⟨_,rfl⟩;rw[<-hQ]at HT;have HA:Hid (qa1 qa n l=Q.map (finish qa qa.length)):=by show _=_;rw[hQ];rfl
 have HQ:=Lib.hid hQ;have Hnp:=Lib.hid hnp;have Hpl:=Lib.hid hpl;have quH:np<=1000000000:=by omega
 clear hQ hnp hll hl;rw[HA.out];clear HA hpl;go_enter func20,ntmps20;go_wp2_with fail;refine HT.out.mono ?_;intro e w1 hT;obtain⟨v1,rfl,hcv,hg1⟩:=hT.open_;obtain⟨A1,n1,c1,A2,n2,c2,A3,n3,c3,A4,n4,c4,rfl,-⟩:=hcv.form;have hX:=hcv.box;have gX:=grownBy_alloc w1 (.cells #[.slice A1 n1 c1,.slice A2 n2 c2,.slice A3 n3 c3,.slice A4 n4 c4] 29) none;have g2:=qad hg1 gX;have hp2:=hp.new g2;have hwX:w.heap.size<=w1.heap.size:=hg1.size;clear hT hcv hg1 gX hp HT;go_upto_region 2 with fail;generalize w1.alloc (.cells #[.slice A1 n1 c1,.slice A2 n2 c2,.slice A3 n3 c3,.slice A4 n4 c4] 29)=w2 at hX g2 hp2 |-;generalize w1.heap.size=X at hX hwX |-;cases Q with
 |none=>
  have ga:=grownBy_alloc w2 (.cells #[] 24) none;have gb:=grownBy_alloc (w2.alloc (.cells #[] 24)) (.cells #[] 3) none;have k1:=((j9.empty w2 (Nat.le_refl _)).rl).new gb;have k2:=(qg.empty (w2.alloc (.cells #[] 24)) (base:=0) (Nat.zero_le _)).ri;have g4:=qad (qad g2 ga) gb;rw[size_alloc]at k2;clear ga gb hX g2 hp2;simp only[isSome,Option.map];go_wp2_with fail
  go_ret3
  exact⟨_,_,rfl,k1,k2,g4⟩
 |some c=>
  obtain⟨hok,hdl⟩:=qh7 HQ.out.symm;have Hok:=Lib.hid hok;have hst:qdW w w2 (.slice A np cp) qa X (finish qa 0 c):=⟨_,_,_,_,hX,hp2,g2⟩;clear hok hdl hX hp2 g2;simp only[isSome,Option.map];go_wp2_with fail
  go_loopg [11] (np+1) (λmm i wr=>∃k:Nat,k<=np/\mm=np+1-k/\i=.int .i64 k/\qdW w wr (.slice A np cp) qa X (finish qa k c))
  case atStart=>exact⟨0,Nat.zero_le _,rfl,rfl,hst⟩
  case round=>
   clear hst;obtain⟨k,hk,rfl,rfl,d,q,o,r,hB,hp,hg⟩:=hrel;obtain⟨xU,-⟩:=qqv (qa:=qa) k Hok.out;have Hs:Hid (finish qa (k+1) c=(qa0 qa (finish qa k c) 0).getD (finish qa k c)):=qj2 qa k c;have qdX:Hid (np=k->finish qa qa.length c=finish qa k c):=λe=>by rw[<-Hnp.out,e]
   generalize finish qa k c=cx at hB xU Hs qdX;have qW:=Lib.hid (qy9 (.inl xU));have hrl:cx.rows.length<=1000000:=by have:=xU.rl;have:=qap xU.pv;omega
   have Hrl:=Lib.hid hrl;clear xU hrl;obtain⟨V1,Vn1,Vc1,V2,Vn2,Vc2,V3,Vn3,Vc3,V4,Vn4,Vc4,e0,-,-,-,-⟩:=hB.cv.form;injection e0 with e0;injection e0 with e0;injection e0 with ea e0;injection e0 with eb e0;injection e0 with ec e0;injection e0 with ed e0;subst ea eb ec ed;clear e0;have v0:=hB.d0;have v1:=hB.d1;have v2:=hB.d2;have v3:=hB.d3;by_cases hlt:k<np
   . obtain⟨R,hR⟩:∃R,R=qa0 qa cx 0:=⟨_,rfl⟩;rw[<-hR]at Hs;have HR:=Lib.hid hR;have hki:(k:Int)<(np:Int):=by omega
     clear hR qdX;go_wp2_with fail;refine(qkd _ _ qa cx 0 wr hp hB.cv Hpl.out qW.out).mono ?_;rw[<-HR.out];intro e w10 hT;obtain⟨v10,rfl,qaJ,vw⟩:=hT.open_;obtain⟨U1,Un1,Uc1,U2,Un2,Uc2,U3,Un3,Uc3,U4,Un4,Uc4,rfl,-⟩:=qaJ.form;have hU:=qaJ.box;have gU:=grownBy_alloc w10 (.cells #[.slice U1 Un1 Uc1,.slice U2 Un2 Uc2,.slice U3 Un3 Uc3,.slice U4 Un4 Uc4] 29) none;have hB2:=(hB.new vw).new gU;have hp2:=(hp.new vw).new gU;have g2:=qad (qad hg vw) gU;clear v0 v1 v2 v3 hB hp hg hT qaJ vw gU;go_upto_region 8 with fail;generalize w10.alloc (.cells #[.slice U1 Un1 Uc1,.slice U2 Un2 Uc2,.slice U3 Un3 Uc3,.slice U4 Un4 Uc4] 29)=w11 at hU hB2 hp2 g2 |-;generalize w10.heap.size=U at hU |-;cases R with
     |none=>
      have hfin:Hid (qdW w w11 (.slice A np cp) qa X (finish qa (k+1) c)):=by
       rw[Hs.out];exact⟨_,_,_,_,hB2,hp2,g2⟩
      clear hU hB2 hp2 g2;simp only[isSome];go_wp2;go_roundg (np+1-(k+1))
      case measure=>omega
      case rel=>exact⟨k+1,by omega,rfl,by go_num,hfin.out⟩
     |some cy=>
      replace hU:jU w11 U _ _ _ _ cy:=hU;have u0:=hU.d0;have u1:=hU.d1;have u2:=hU.d2;have u3:=hU.d3;have v0:=hB2.d0;have v1:=hB2.d1;have v2:=hB2.d2;have v3:=hB2.d3;have f0:=hB2.b.frozen 0;have f1:=hB2.b.frozen 1;have f2:=hB2.b.frozen 2;have f3:=hB2.b.frozen 3;have hset:=qeg w11 X (.slice U1 Un1 Uc1) (.slice U2 Un2 Uc2) (.slice U3 Un3 Uc3) (.slice U4 Un4 Uc4);have e1:finish qa (k+1) c=cy:=Hs.out;have hfin:Hid (qdW w _ (.slice A np cp) qa X cy):=⟨_,_,_,_,hB2.put hU.cv,hp2.grown hset (qh.blk hB2.b (by decide)) (qh.blk hB2.b (by decide)),qbd g2 hset (λg e=>by cases e;exact .inl hwX)⟩;rw[<-e1]at hfin;clear hset hU hB2 hp2 g2;simp only[isSome];go_wp2;go_roundg (np+1-(k+1))
      case measure=>omega
      case rel=>exact⟨k+1,by omega,rfl,by go_num,hfin.out⟩
   . obtain rfl:np=k:=by omega
     have He:=qdX.out rfl;clear qdX Hs;have ga:=grownBy_alloc wr (.cells #[] 24) none;have ho:=j9.empty wr (base:=wr.heap.size) (Nat.le_refl _);have hB2:=hB.new ga;have g2:=qad hg ga;have hbz:wr.heap.size<=(wr.alloc (.cells #[] 24)).heap.size:=ga.size;have hwz:w.heap.size<=wr.heap.size:=hg.size;have He2:=Lib.hid He;clear v0 v1 v2 v3 hB hp hg He ga;go_upto_region 11 with fail;generalize hbb:wr.heap.size=bb at ho hbz hwz |-;generalize wr.alloc (.cells #[] 24)=w12 at ho hB2 g2 hbz |-;clear hbb;have v3:=hB2.d3;go_wp2_with (at_builtin;go_must (refine q1u (.tmp 41) (.tmp 43) rfl rfl rfl rfl ho hB2.ro Hrl.out hbz ?_));intro v5 w5 h5 hg5;have hint:qh w12 3 (Value.ownBlock (.slice (some ⟨bb,0,none⟩) 0 0)):=ho.jL (by decide);have hcr:qh w12 29 (Value.ownBlock (.slice (some ⟨bb,0,none⟩) 0 0)):=ho.jL (by decide);have hX5:=hB2.b.past hg5 hcr;have hd5:=hB2.dn.grown hg5 hint;have g5:=qbd g2 hg5 (λg e=>.inl (by have:=(ho.lt g e).1;omega));have h5r:=h5.rl;obtain⟨A5,n5,c5,rfl⟩:=h5r.val;have y2:=hX5.cell 2;clear v3 hB2 ho g2 hg5 hint hcr h5;rw[<-He2.out]at h5r hd5;go_wp2_with fail
     go_quiet (fail)
     go_wp2_with fail
     go_ret3
     exact⟨_,_,rfl,h5r,hd5,qcn g5 _⟩
end
section
open Go.Conc Go.RowKit
theorem HG.rl{z x:World}(h:HG z x){v:Value}{l:List (List Int)}(k:RL z v l):RL x v l:=(k.new h.gb).heap rfl
theorem qmi{w:World}{r:Option qj}{f:qj}{ok:Bool}(hok:ok=r.isSome)(hf:f=r.getD qdk):q9m w r=λe w'=>∃v1 v2,e=.returned (.tuple #[v1,v2,.bool ok])/\RL w' v1 f.rows/\RI w' v2 f.done/\w.grownBy w' none:=by
 subst hok hf;rfl
structure jC(NT:Nat)(ts:Array Value)(x:World)(pv cv:Value)(nw:Int)(qa:List Node)(l:List Int)(v1 v2:Value)(f:qj)(ok:Bool):Prop where
 size:ts.size=NT
 s3:ts[3]?=some pv
 s4:ts[4]?=some (.int .i64 nw)
 s5:ts[5]?=some cv
 s6:ts[6]?=some v1
 s7:ts[7]?=some v2
 s8:ts[8]?=some (.bool ok)
 rn:RN x pv qa
 ri:RI x cv l
 ro:RL x v1 f.rows
 dn:RI x v2 f.done
structure qM(NT:Nat)(ts:Array Value)(x:World)(pv cv:Value)(nw:Int)(qa:List Node)(l:List Int)(v1 v2:Value)(f:qj)(ok:Bool):Prop where
 run:jC NT ts x pv cv nw qa l v1 v2 f ok
 told:∃u1 u2,ts[9]?=some u1/\ts[10]?=some u2/\ts[11]?=some (.bool ok)/\RL x u1 f.rows/\RI x u2 f.done
section
variable {NT:Nat}{ts:Array Value}{x y:World}{pv cv:Value}{nw:Int}{qa:List Node}{l:List Int}{v1 v2:Value}{f:qj}{ok:Bool}
theorem jC.hg(h:HG x y)(k:jC NT ts x pv cv nw qa l v1 v2 f ok):jC NT ts y pv cv nw qa l v1 v2 f ok:=⟨k.size,k.s3,k.s4,k.s5,k.s6,k.s7,k.s8,h.rn k.rn,h.ri k.ri,h.rl k.ro,h.ri k.dn⟩
theorem jC.heap(e:x.heap=y.heap)(k:jC NT ts x pv cv nw qa l v1 v2 f ok):jC NT ts y pv cv nw qa l v1 v2 f ok:=k.hg (qcs e.symm)
theorem qM.heap(e:x.heap=y.heap)(k:qM NT ts x pv cv nw qa l v1 v2 f ok):qM NT ts y pv cv nw qa l v1 v2 f ok:=
 ⟨k.run.heap e,let ⟨u1,u2,h1,h2,h3,h4,h5⟩:=k.told;⟨u1,u2,h1,h2,h3,h4.heap e,h5.heap e⟩⟩
theorem jw.ro{b:Nat}{d k o r:Value}{c:qj}(h:jw x b (.agg #[d,k,o,r]) c):RL x r c.rows/\RI x o c.done:=by
 obtain⟨d',k',o',r',e,h1,h2,h3,h4⟩:=h.cv;injection e with e;injection e with e;injection e with e1 e;injection e with e2 e;injection e with e3 e;injection e with e4 e;subst e1 e2 e3 e4;exact⟨h4,h3⟩
end
end
end Go.Proofs.YtacemdoejblgaaaGreatDoor
