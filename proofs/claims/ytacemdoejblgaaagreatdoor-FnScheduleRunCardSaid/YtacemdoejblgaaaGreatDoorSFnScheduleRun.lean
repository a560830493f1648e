/- Part SFnScheduleRun. Conditions: each statement's. -/
import Derived.Test.YtacemdoejblgaaaGreatDoorM24
namespace Go.Proofs.YtacemdoejblgaaaGreatDoor
open List _root_.Go.Proofs.Tryz World
set_option maxRecDepth 100000
set_option maxHeartbeats 6400000
section
open Go.RowKit
theorem qo(va vb:Value)(c:qj)(w:World)(ha:CV w va c)(hb:CV w vb c):Calls prog 15 #[va,vb] w λe w'=>e=.returned (.bool true)/\w.grownBy w' none:=by
 obtain⟨A1,n1,c1,A2,n2,c2,A3,n3,c3,A4,n4,c4,rfl,-,-,-,-⟩:=ha.form;obtain⟨B1,m1,e1,B2,m2,e2,B3,m3,e3,B4,m4,e4,rfl,-,-,-,-⟩:=hb.form;have hX:=ha.box.new (grownBy_alloc _ (.cells #[.slice B1 m1 e1,.slice B2 m2 e2,.slice B3 m3 e3,.slice B4 m4 e4] 29) none);have hY:=(hb.new (grownBy_alloc w (.cells #[.slice A1 n1 c1,.slice A2 n2 c2,.slice A3 n3 c3,.slice A4 n4 c4] 29) none)).box;rw[size_alloc]at hY;have g1:w.grownBy ((w.alloc (.cells #[.slice A1 n1 c1,.slice A2 n2 c2,.slice A3 n3 c3,.slice A4 n4 c4] 29)).alloc (.cells #[.slice B1 m1 e1,.slice B2 m2 e2,.slice B3 m3 e3,.slice B4 m4 e4] 29)) none:=qar (qar (qah w none) _) _;clear ha hb;go_enter func15,ntmps15;go_upto_region 1 with fail;generalize ((w.alloc (.cells #[.slice A1 n1 c1,.slice A2 n2 c2,.slice A3 n3 c3,.slice A4 n4 c4] 29)).alloc (.cells #[.slice B1 m1 e1,.slice B2 m2 e2,.slice B3 m3 e3,.slice B4 m4 e4] 29))=W at hX hY g1 |-;have x0:=hX.d0;have y0:=hY.d0;go_wp2_with fail;refine(qce _ _ c.qb c.qb W hX.dq hY.dq (c:=true) (decide_eq_true rfl)).mono ?_;rintro e w1 ⟨rfl,hg1⟩;replace hX:=hX.new hg1;replace hY:=hY.new hg1;replace g1:=qad g1 hg1;clear x0 y0 hg1;have x1:=hX.d1;have y1:=hY.d1;go_wp2_with fail;refine(qcv _ _ c.counts c.counts w1 hX.ct hY.ct (c:=true) (decide_eq_true rfl)).mono ?_;rintro e w2 ⟨rfl,hg1⟩;replace hX:=hX.new hg1;replace hY:=hY.new hg1;replace g1:=qad g1 hg1;clear x1 y1 hg1;have x2:=hX.d2;have y2:=hY.d2;go_wp2_with fail;refine(qcv _ _ c.done c.done w2 hX.dn hY.dn (c:=true) (decide_eq_true rfl)).mono ?_;rintro e w3 ⟨rfl,hg1⟩;replace hX:=hX.new hg1;replace hY:=hY.new hg1;replace g1:=qad g1 hg1;clear x2 y2 hg1;have x3:=hX.d3;have y3:=hY.d3;go_wp2_with fail;refine(qce _ _ c.rows c.rows w3 hX.ro hY.ro (c:=true) (decide_eq_true rfl)).mono ?_;rintro e w4 ⟨rfl,hg1⟩;go_wp2;go_ret;exact⟨rfl,qad g1 hg1⟩
end
section
open Go.Conc Go.RowKit
theorem qdZ{P:Array Value->Prop}(hP:∀v0 v1 v2 v3 v4 v5 v6 v7 v8 v9 v10 v11 v12 v13 v14 v15 v16 v17 v18 v19 v20 v21 v22 v23 v24 v25 v26 v27 v28 v29 v30 v31 v32 v33 v34 v35 v36 v37 v38 v39 v40 v41 v42 v43 v44 v45 v46 v47 v48 v49 v50 v51 v52 v53 v54 v55 v56 v57 v58 v59 v60 v61 v62 v63 v64 v65 v66 v67 v68 v69 v70 v71 v72 v73 v74:Value,P #[v0,v1,v2,v3,v4,v5,v6,v7,v8,v9,v10,v11,v12,v13,v14,v15,v16,v17,v18,v19,v20,v21,v22,v23,v24,v25,v26,v27,v28,v29,v30,v31,v32,v33,v34,v35,v36,v37,v38,v39,v40,v41,v42,v43,v44,v45,v46,v47,v48,v49,v50,v51,v52,v53,v54,v55,v56,v57,v58,v59,v60,v61,v62,v63,v64,v65,v66,v67,v68,v69,v70,v71,v72,v73,v74])(T:Array Value)(h:T.size=75):P T:=by
 obtain⟨l⟩:=T;replace h:l.length=75:=h;obtain⟨v0,l0,rfl,h0⟩:=qaa h;obtain⟨v1,l1,rfl,h1⟩:=qaa h0;obtain⟨v2,l2,rfl,h2⟩:=qaa h1;obtain⟨v3,l3,rfl,h3⟩:=qaa h2;obtain⟨v4,l4,rfl,h4⟩:=qaa h3;obtain⟨v5,l5,rfl,h5⟩:=qaa h4;obtain⟨v6,l6,rfl,h6⟩:=qaa h5;obtain⟨v7,l7,rfl,h7⟩:=qaa h6;obtain⟨v8,l8,rfl,h8⟩:=qaa h7;obtain⟨v9,l9,rfl,h9⟩:=qaa h8;obtain⟨v10,l10,rfl,h10⟩:=qaa h9;obtain⟨v11,l11,rfl,h11⟩:=qaa h10;obtain⟨v12,l12,rfl,h12⟩:=qaa h11;obtain⟨v13,l13,rfl,h13⟩:=qaa h12;obtain⟨v14,l14,rfl,h14⟩:=qaa h13;obtain⟨v15,l15,rfl,h15⟩:=qaa h14;obtain⟨v16,l16,rfl,h16⟩:=qaa h15;obtain⟨v17,l17,rfl,h17⟩:=qaa h16;obtain⟨v18,l18,rfl,h18⟩:=qaa h17;obtain⟨v19,l19,rfl,h19⟩:=qaa h18;obtain⟨v20,l20,rfl,h20⟩:=qaa h19;obtain⟨v21,l21,rfl,h21⟩:=qaa h20;obtain⟨v22,l22,rfl,h22⟩:=qaa h21;obtain⟨v23,l23,rfl,h23⟩:=qaa h22;obtain⟨v24,l24,rfl,h24⟩:=qaa h23;obtain⟨v25,l25,rfl,h25⟩:=qaa h24;obtain⟨v26,l26,rfl,h26⟩:=qaa h25;obtain⟨v27,l27,rfl,h27⟩:=qaa h26;obtain⟨v28,l28,rfl,h28⟩:=qaa h27;obtain⟨v29,l29,rfl,h29⟩:=qaa h28;obtain⟨v30,l30,rfl,h30⟩:=qaa h29;obtain⟨v31,l31,rfl,h31⟩:=qaa h30;obtain⟨v32,l32,rfl,h32⟩:=qaa h31;obtain⟨v33,l33,rfl,h33⟩:=qaa h32;obtain⟨v34,l34,rfl,h34⟩:=qaa h33;obtain⟨v35,l35,rfl,h35⟩:=qaa h34;obtain⟨v36,l36,rfl,h36⟩:=qaa h35;obtain⟨v37,l37,rfl,h37⟩:=qaa h36;obtain⟨v38,l38,rfl,h38⟩:=qaa h37;obtain⟨v39,l39,rfl,h39⟩:=qaa h38;obtain⟨v40,l40,rfl,h40⟩:=qaa h39;obtain⟨v41,l41,rfl,h41⟩:=qaa h40;obtain⟨v42,l42,rfl,h42⟩:=qaa h41;obtain⟨v43,l43,rfl,h43⟩:=qaa h42;obtain⟨v44,l44,rfl,h44⟩:=qaa h43;obtain⟨v45,l45,rfl,h45⟩:=qaa h44;obtain⟨v46,l46,rfl,h46⟩:=qaa h45;obtain⟨v47,l47,rfl,h47⟩:=qaa h46;obtain⟨v48,l48,rfl,h48⟩:=qaa h47;obtain⟨v49,l49,rfl,h49⟩:=qaa h48;obtain⟨v50,l50,rfl,h50⟩:=qaa h49;obtain⟨v51,l51,rfl,h51⟩:=qaa h50;obtain⟨v52,l52,rfl,h52⟩:=qaa h51;obtain⟨v53,l53,rfl,h53⟩:=qaa h52;obtain⟨v54,l54,rfl,h54⟩:=qaa h53;obtain⟨v55,l55,rfl,h55⟩:=qaa h54;obtain⟨v56,l56,rfl,h56⟩:=qaa h55;obtain⟨v57,l57,rfl,h57⟩:=qaa h56;obtain⟨v58,l58,rfl,h58⟩:=qaa h57;obtain⟨v59,l59,rfl,h59⟩:=qaa h58;obtain⟨v60,l60,rfl,h60⟩:=qaa h59;obtain⟨v61,l61,rfl,h61⟩:=qaa h60;obtain⟨v62,l62,rfl,h62⟩:=qaa h61;obtain⟨v63,l63,rfl,h63⟩:=qaa h62;obtain⟨v64,l64,rfl,h64⟩:=qaa h63;obtain⟨v65,l65,rfl,h65⟩:=qaa h64;obtain⟨v66,l66,rfl,h66⟩:=qaa h65;obtain⟨v67,l67,rfl,h67⟩:=qaa h66;obtain⟨v68,l68,rfl,h68⟩:=qaa h67;obtain⟨v69,l69,rfl,h69⟩:=qaa h68;obtain⟨v70,l70,rfl,h70⟩:=qaa h69;obtain⟨v71,l71,rfl,h71⟩:=qaa h70;obtain⟨v72,l72,rfl,h72⟩:=qaa h71;obtain⟨v73,l73,rfl,h73⟩:=qaa h72;obtain⟨v74,l74,rfl,h74⟩:=qaa h73;obtain rfl:=eq_nil_of_length_eq_zero h74;exact hP _ _ _ _ _ _ _ _ _ _ _ _ _ _ _ _ _ _ _ _ _ _ _ _ _ _ _ _ _ _ _ _ _ _ _ _ _ _ _ _ _ _ _ _ _ _ _ _ _ _ _ _ _ _ _ _ _ _ _ _ _ _ _ _ _ _ _ _ _ _ _ _ _ _ _
noncomputable def qbx:Code:=Tryz.f4.body.getD .skip
noncomputable def jI:Code:=match qbx with | .seq x _=>x|_=>.skip
noncomputable def jJ:Code:=match qbx with | .seq _ (.seq x _)=>x|_=>.skip
noncomputable def jK:Code:=match qbx with | .seq _ (.seq _ (.seq x _))=>x|_=>.skip
noncomputable def qdx:Code:=match qbx with | .seq _ (.seq _ (.seq _ x))=>x|_=>.skip
theorem qml:qbx=.seq jI (.seq jJ (.seq jK qdx)):=rfl
theorem qmm:qcl prog Fs Gs SN jI=true:=by kernel_rfl
theorem qmn:qcl prog Fs Gs SN jJ=true:=by kernel_rfl
theorem qmo:qcl prog Fs Gs SN jK=true:=by kernel_rfl
section
variable {v:Value}{n:Nat}
theorem qte(ts:Array Value)(X:World)(hs:ts.size=75)(h0:ts[0]?=some v):jI.wp prog (λe a x=>e=.normal/\x.heap=X.heap/\a.tmps.size=75/\a.tmps[0]?=some v/\a.tmps[2]?=some (.bool false)) ⟨ts,[]⟩ X:=by
 revert ts;refine qdZ ?_;intro v0 v1 v2 v3 v4 v5 v6 v7 v8 v9 v10 v11 v12 v13 v14 v15 v16 v17 v18 v19 v20 v21 v22 v23 v24 v25 v26 v27 v28 v29 v30 v31 v32 v33 v34 v35 v36 v37 v38 v39 v40 v41 v42 v43 v44 v45 v46 v47 v48 v49 v50 v51 v52 v53 v54 v55 v56 v57 v58 v59 v60 v61 v62 v63 v64 v65 v66 v67 v68 v69 v70 v71 v72 v73 v74 h0;obtain rfl:v0=v:=by simpa using h0
 clear h0;simp only[jI,qbx,f4,Option.getD_some];go_wp2_with fail
theorem qtf(hA:∃A c,v=.slice A n c)(ts:Array Value)(X:World)(hs:ts.size=75)(h0:ts[0]?=some v)(h2:ts[2]?=some (.bool false)):jJ.wp prog (λe a x=>x.heap=X.heap/\((e=.normal/\n<=1048576/\a.tmps.size=75/\a.tmps[0]?=some v/\a.tmps[2]?=some (.bool false))∨(e=.ret/\a.tmps[2]?=some (.bool true)))) ⟨ts,[]⟩ X:=by
 obtain⟨A,c,rfl⟩:=hA;revert ts;refine qdZ ?_;intro v0 v1 v2 v3 v4 v5 v6 v7 v8 v9 v10 v11 v12 v13 v14 v15 v16 v17 v18 v19 v20 v21 v22 v23 v24 v25 v26 v27 v28 v29 v30 v31 v32 v33 v34 v35 v36 v37 v38 v39 v40 v41 v42 v43 v44 v45 v46 v47 v48 v49 v50 v51 v52 v53 v54 v55 v56 v57 v58 v59 v60 v61 v62 v63 v64 v65 v66 v67 v68 v69 v70 v71 v72 v73 v74 h2 h0;obtain rfl:v0=.slice A n c:=by simpa using h0
 obtain rfl:v2=.bool false:=by simpa using h2
 clear h0 h2;simp only[jJ,qbx,f4,Option.getD_some];by_cases kx:1048576<n
 . go_wp2_with fail
 . have hle:n<=1048576:=by omega
   go_wp2_with fail
theorem qtg(hn:n<=1048576)(ts:Array Value)(X:World)(B0:Nat)(hs:ts.size=75)(h0:ts[0]?=some v)(h2:ts[2]?=some (.bool false))(hB:Bytes X B0 v n)(hX:B0<=X.heap.size) :
   jK.wp prog (λe a x=>e=.normal/\HG X x/\∃pv cv nw qa l,qY 75 a.tmps x pv cv nw qa l) ⟨ts,[]⟩ X:=by
 revert ts;refine qdZ ?_;intro v0 v1 v2 v3 v4 v5 v6 v7 v8 v9 v10 v11 v12 v13 v14 v15 v16 v17 v18 v19 v20 v21 v22 v23 v24 v25 v26 v27 v28 v29 v30 v31 v32 v33 v34 v35 v36 v37 v38 v39 v40 v41 v42 v43 v44 v45 v46 v47 v48 v49 v50 v51 v52 v53 v54 v55 v56 v57 v58 v59 v60 v61 v62 v63 v64 v65 v66 v67 v68 v69 v70 v71 v72 v73 v74 h0 h2;obtain rfl:v0=v:=by simpa using h0
 obtain rfl:v2=.bool false:=by simpa using h2
 clear h0 h2;simp only[jK,qbx,f4,Option.getD_some];go_wp2_with fail;refine(qfv B0 X _ n hB hX hn).mono ?_;rintro e w1 ⟨pv,cv,nw,qa,l,rfl,h1,h2,hr,hi,hp,hc,hg⟩;go_wp2_with fail;exact⟨HG.of hg,pv,cv,nw,qa,l,rfl,rfl,rfl,rfl,rfl,hr,hi,h1,h2,hp,hc⟩
end
theorem qn4{W:World}{ea:Addr}{v:Value}{n g o c:Nat}{cs:Array Value}{e:TypeId}{fr:Nat×Nat}(S:Start W ea)(H:qC W v n g o c cs e fr)
   (next:∀ts w z pv cv nw qa l,qY 75 ts z pv cv nw qa l->(∀u,u∈ts->Ok (gr2 W.heap.size g ea).A (gr2 W.heap.size g ea).F u)->Both ((gr2 W.heap.size g ea).base.pen (mk2 W.heap.size g cs ea)) w z->Old W ea g cs (mk2 W.heap.size g cs ea) w z->qm z ea ->
    qc prog (qv W) (λ_=>False) (λ_=>False) (λ_=>.left) 1 0 0 (G ((base 4).at ⟨ts,[]⟩ [.code qdx]) []) w) :
   qc prog (qv W) (λ_=>False) (λ_=>False) (λ_=>.left) 1 0 0 (G (Frame.enter prog 4 #[v] .normal) []) W:=by
 rw[enter_at (c:=qbx) _ func4 rfl,qml];obtain⟨A,hA,-⟩:=H.v;refine qh9 S H func4 (by kernel_rfl) rfl qmm qmn qmo (NT:=75) (by rw[ntmps4];simp) (λu hu=>?_) (by simp) (λts X=>qte ts X) (λts X=>qtf ⟨A,_,hA⟩ ts X) (λhn ts X B0=>qtg hn ts X B0) next;rcases Array.mem_append.1 hu with hu|hu
 . exact .inl (by simpa using hu)
 . exact .inr (Array.eq_of_mem_replicate hu)
end
section
theorem qs0{qa:List Node}{n:Int}(hn:1<=n):∀(l:List Int) {c:qj},(∀x∈l,0<=x)->qp qa c->(c.qb.length:Int)=n->(qdy qa n c l).done.length=min (c.done.length+l.length) qa.length
 |[],c,_,h,_=>by
  have:=qfz h;show c.done.length=_;simp only[length_nil];omega
 |x::l,c,hx,h,hd=>by
  have hs:=qqt hn h hd (hx x (by simp));obtain⟨h1,h2⟩:=qju h (x.tmod n);have ih:=qs0 hn l (λy hy=>hx y (by simp[hy])) h1 (by rw[h2];exact hd);show (qdy qa n ((qa0 qa c (x.tmod n)).getD c) l).done.length=_;rw[ih,hs];simp only[length_cons];omega
theorem zB{l:List Int}(h:qbt l=true):∀x∈l,0<=x:=by
 unfold qbt at h;simp only[Bool.and_eq_true,decide_eq_true_eq,List.all_eq_true]at h;exact h.2
theorem qzq{qa:List Node}{n:Int}{l:List Int}{c:qj}(h:qas qa n l=some c):c.done.length=min l.length qa.length:=by
 obtain⟨c0,hc,hl,rfl⟩:=qex h;obtain⟨h1,h2⟩:=qid hc;obtain⟨hn,_,h3,_⟩:=qf9 hc;rw[qs0 hn l (zB hl) h1 h2,h3];simp
end
section
open Go.Conc Go.RowKit
noncomputable def qlp:Code:=match qdx with | .seq x _=>x|_=>.skip
noncomputable def ja:Code:=match qdx with | .seq _ x=>x|_=>.skip
theorem qpr:qdx=.seq qlp ja:=rfl
theorem qmp:qcl prog Fs Gs SN ja=true:=by kernel_rfl
theorem qps{pv cv:Value}{nw:Int}{qa:List Node}{l:List Int}{R b0:Nat}{Y1 Y2 Y3 Y4:Option Addr}{Yn1 Yc1 Yn2 Yc2 Yn3 Yc3 Yn4 Yc4:Nat}(ts:Array Value)(X:World)(hs:ts.size=75)(s3:ts[3]?=some pv)(s4:ts[4]?=some (.int .i64 nw))(s5:ts[5]?=some cv)(s6:ts[6]?=some (.pointer (some ⟨R,0,none⟩)))
   (s7:ts[7]?=some (.bool (qas qa nw l).isSome)) (hp:RN X pv qa) (hl:RI X cv l) (sp:qe3 qa) (sc:qda l) (hF:jw X b0 (.agg #[.slice Y1 Yn1 Yc1,.slice Y2 Yn2 Yc2,.slice Y3 Yn3 Yc3,.slice Y4 Yn4 Yc4]) ((qas qa nw l).getD qdk)) (hB:Blk X R 29 #[.slice Y1 Yn1 Yc1,.slice Y2 Yn2 Yc2,.slice Y3 Yn3 Yc3,.slice Y4 Yn4 Yc4]) :
   ja.wp prog (λe a x=>e=.ret/\HG X x/\a.tmps[2]?=some (.bool true)) ⟨ts,[]⟩ X:=by
 revert ts;refine qdZ ?_;intro v0 v1 v2 v3 v4 v5 v6 v7 v8 v9 v10 v11 v12 v13 v14 v15 v16 v17 v18 v19 v20 v21 v22 v23 v24 v25 v26 v27 v28 v29 v30 v31 v32 v33 v34 v35 v36 v37 v38 v39 v40 v41 v42 v43 v44 v45 v46 v47 v48 v49 v50 v51 v52 v53 v54 v55 v56 v57 v58 v59 v60 v61 v62 v63 v64 v65 v66 v67 v68 v69 v70 v71 v72 v73 v74 s3 s4 s5 s6 s7;obtain rfl:v3=pv:=by simpa using s3
 obtain rfl:v4=.int .i64 nw:=by simpa using s4
 obtain rfl:v5=cv:=by simpa using s5
 obtain rfl:v6=.pointer (some ⟨R,0,none⟩):=by simpa using s6
 obtain rfl:v7=.bool (qas qa nw l).isSome:=by simpa using s7
 clear s3 s4 s5 s6 s7;obtain⟨P1,pn,pc,rfl,-,hpn,-⟩:=hp.form';obtain⟨I1,im,ic,rfl,-,him⟩:=hl.form';have Hpl:Hid (qa.length<=1000000000):=by have:=sp.1;show _<=_;omega
 have Hll:Hid (l.length<=1000000000):=by have:=sc.1;show _<=_;omega
 have hY4:jU X R (.slice Y1 Yn1 Yc1) (.slice Y2 Yn2 Yc2) (.slice Y3 Yn3 Yc3) (.slice Y4 Yn4 Yc4) ((qas qa nw l).getD qdk):=by
  obtain⟨d',k',o',r',e,h1,h2,h3,h4⟩:=hF.cv;injection e with e;injection e with e;injection e with e1 e;injection e with e2 e;injection e with e3 e;injection e with e4 e;subst e1 e2 e3 e4;exact⟨hB,h1,h2,h3,h4⟩
 have Hpn:=Lib.hid hpn;have Him:=Lib.hid him;obtain⟨Q,hQ⟩:∃Q,Q=qas qa nw l:=⟨_,rfl⟩;have HT:Hid (∀w,RN w (.slice P1 pn pc) qa->RI w (.slice I1 im ic) l->Calls prog 14 #[.slice P1 pn pc,.int .i64 nw,.slice I1 im ic] w (jR w Q)):=λw h1 h2=>by rw[hQ];exact qeo _ _ qa nw l w h1 h2 Hpl.out Hll.out
 rw[<-hQ]at hY4 |-;have HR:=Lib.hid hQ;clear hQ hF hB hpn him sp sc;simp only[ja,qdx,qbx,f4,Option.getD_some];go_wp2_with fail;refine(HT.out X hp hl).mono ?_;intro e w5 hT;obtain⟨v5,rfl,zQ,hg5⟩:=hT.open_;obtain⟨Z1,Zn1,Zc1,Z2,Zn2,Zc2,Z3,Zn3,Zc3,Z4,Zn4,Zc4,rfl,-,-,-,-⟩:=zQ.form;have hZ:=zQ.box;have gZ:=grownBy_alloc w5 (.cells #[.slice Z1 Zn1 Zc1,.slice Z2 Zn2 Zc2,.slice Z3 Zn3 Zc3,.slice Z4 Zn4 Zc4] 29) none;have hY6:=(hY4.new hg5).new gZ;have hp6:=(hp.new hg5).new gZ;have g6:=qad hg5 gZ;clear hY4 hp hl hg5 gZ zQ hT;go_upto_region 6 with fail;generalize w5.alloc (.cells #[.slice Z1 Zn1 Zc1,.slice Z2 Zn2 Zc2,.slice Z3 Zn3 Zc3,.slice Z4 Zn4 Zc4] 29)=w6 at hp6 g6 hY6 hZ |-;generalize w5.heap.size=Z at hZ |-;have y0:=hY6.d0;have y1:=hY6.d1;have y2:=hY6.d2;have y3:=hY6.d3;have z0:=hZ.d0;have z1:=hZ.d1;have z2:=hZ.d2;have z3:=hZ.d3;cases Q with
 |none=>
  go_wp2_with fail;refine(qo _ _ _ w6 hY6.cv hZ.cv).mono ?_;rintro e w7 ⟨rfl,hg7⟩;have hY7:=hY6.new hg7;have hZ7:=hZ.new hg7;have g7:=qad g6 hg7;clear y0 y1 y2 y3 z0 z1 z2 z3 hY6 hZ hp6 g6 hg7;have y0:=hY7.d0;have y1:=hY7.d1;have y2:=hY7.d2;have y3:=hY7.d3;have z0:=hZ7.d0;have z1:=hZ7.d1;have z2:=hZ7.d2;have z3:=hZ7.d3;go_wp2_with fail;refine(qo _ _ _ w7 hY7.cv hZ7.cv).mono ?_;rintro e w8 ⟨rfl,hg8⟩;go_wp2_with fail;exact HG.of (qad g7 hg8)
 |some c'=>
  go_wp2_with fail;refine(qo _ _ _ w6 hY6.cv hZ.cv).mono ?_;rintro e w7 ⟨rfl,hg7⟩;have hY7:=hY6.new hg7;have hp7:=hp6.new hg7;have g7:=qad g6 hg7;change jU w7 R _ _ _ _ c' at hY7;clear y0 y1 y2 y3 z0 z1 z2 z3 hY6 hZ hp6 g6 hg7;obtain⟨hok,hdl⟩:=qh7 HR.out.symm;have hdn:=qzq HR.out.symm;have Hv:Hid (qa3 qa c'=true):=qbp.2 hok;have Hf:=Lib.hid (qpq hok);have y0:=hY7.d0;have y1:=hY7.d1;have y2:=hY7.d2;have y3:=hY7.d3
  have qsF:Yn3=c'.done.length:=by
   obtain⟨A',c'',e,_⟩:=hY7.dn.form;injection e
  have qsG:Yn1=c'.qb.length:=by
   obtain⟨A',n',c'',e,h1,h2,_⟩:=hY7.dq.form';injection e with e1 e2 e3;omega
  have qsH:=Him.out;have qsI:=Hpn.out;obtain rfl:nw=(Yn1:Int):=by omega
  have qdI:Yn3=min im pn:=by omega
  clear hok hdl hdn qsF qsG qsH qsI;rcases Nat.lt_or_ge im pn with hlt|hge
  . obtain rfl:Yn3=im:=by omega
    clear qdI;go_wp2_with fail;refine(qbi _ _ qa c' _ hp7 hY7.cv Hf.out Hv.out).mono ?_;rintro e w8 ⟨rfl,hg8⟩;have k0:=qc1 y0 hg8;have k1:=qc1 y1 hg8;have k2:=qc1 y2 hg8;have k3:=qc1 y3 hg8;clear y0 y1 y2 y3;have hlt':(Yn3:Int)<(pn:Int):=by omega
    go_wp2_with fail;exact HG.of (qad g7 hg8)
  . obtain rfl:Yn3=pn:=by omega
    clear qdI;go_wp2_with fail;refine(qbi _ _ qa c' _ hp7 hY7.cv Hf.out Hv.out).mono ?_;rintro e w8 ⟨rfl,hg8⟩;have k0:=qc1 y0 hg8;have k1:=qc1 y1 hg8;have k2:=qc1 y2 hg8;have k3:=qc1 y3 hg8;clear y0 y1 y2 y3;have quI:¬((im:Int)<(Yn3:Int)):=by omega
    have quJ:(Yn3:Int)<=(im:Int):=by omega
    go_wp2_with fail;exact⟨HG.of (qad g7 hg8),λh=>by omega⟩
theorem qpt{W:World}{ea:Addr}{v:Value}{n g o c:Nat}{cs:Array Value}{e:TypeId}{fr:Nat×Nat}(S:Start W ea)(H:qC W v n g o c cs e fr) :
   qc prog (qv W) (λ_=>False) (λ_=>False) (λ_=>.left) 1 0 0 (G (Frame.enter prog 4 #[v] .normal) []) W:=by
 refine qn4 S H (λts w z pv cv nw qa l hD zy hb hO hE=>?_);have OO:∀M:Mks (gr2 W.heap.size g ea).base,zL ((gr2 W.heap.size g ea).base.pen M):=λM=>q4o M;have O:zx ((gr2 W.heap.size g ea).base.pen (mk2 W.heap.size g cs ea)) (λ_=>False) (λ_=>False):=⟨λ_ h=>h.elim,λ_ h=>h.elim⟩;have hT:∀i,i≠0->(λ_=>qA.left:Nat->qA) i=.left:=λ_ _=>rfl;rw[qpr];refine qao ?_;generalize hc4:ja=c4;simp only[qlp,qdx,qbx,f4,Option.getD_some];refine qau ?_;simp only[List.size_toArray,length_cons,length_nil,Nat.reduceAdd,Nat.zero_add,range,range.loop];have hs:=hD.size;refine qea (OO _) zy hb (O.alone hT) (qaq hT) (by decide) rfl hD.s3 (λw1 z1 hb1 hz1 hh1 ok1=>?_);refine qea (OO _) ok1 hb1 (O.alone hT) (qaq hT) (by decide) rfl ((qai (by decide)).trans hD.s4) (λw2 z2 hb2 hz2 hh2 ok2=>?_);refine qea (OO _) ok2 hb2 (O.alone hT) (qaq hT) (by decide) rfl ((qai (by decide)).trans ((qai (by decide)).trans hD.s5)) (λw3 z3 hb3 hz3 hh3 ok3=>?_);have hO1:=hO.step hb1 (Mks.Le.refl _) hh1.but hb.size (qcs hz1);have hO2:=hO1.step hb2 (Mks.Le.refl _) hh2.but hb1.size (qcs hz2);have hO3:=hO2.step hb3 (Mks.Le.refl _) hh3.but hb2.size (qcs hz3);have ez:z.heap=z3.heap:=(hz3.trans (hz2.trans hz1)).symm;have hE3:qm z3 ea:=(qcs (x:=z) (y:=z3) ez.symm).err hE;have hrn:=hD.rn.heap ez;have hri:=hD.ri.heap ez
 refine qis OO hb3 hrn hri hE3 (λx hx=>by have:=hD.sc.2 x hx;omega) O hT (by decide) (by decide) (by decide) ok3 (i:=3) (p0:=20) (p1:=21) (p2:=22) (tc:=23) (tm:=19) (tv:=24) (tb:=25) (tx:=6) (tk:=7)
  ⟨⟨_,_,rfl,rfl,rfl,rfl⟩,⟨_,rfl,rfl,rfl,rfl⟩,⟨_,rfl,rfl,rfl,rfl⟩,⟨_,rfl,rfl,rfl,rfl⟩,⟨_,rfl,rfl,rfl,rfl⟩,⟨_,rfl,rfl,rfl,rfl⟩,⟨_,rfl,rfl,rfl,rfl⟩⟩
  ((qai (by decide)).trans ((qai (by decide)).trans (getSet (by rw[hs];decide)))) ((qai (by decide)).trans (getSet (by simp[hs]))) (getSet (by simp[hs])) (by simp[hs]) (by simp[hs]) (by simp[hs]) (by simp[hs]) (by simp[hs]) (by decide) (by decide) (by decide) (by decide)
  (λw4 z4 M4 Sh4 Fz4 T4 n4 A1 m1 c1 A2 m2 c2 A3 m3 c3 A4 m4 c4 R hle hb4 hg4 O4 hh4 hT4 hn4 xS hF hB hR ok4=>?_)
 have hO4:=hO3.step hb4 hle hh4 hb3.size hg4;refine qan ?_;subst hc4
 have s2:∀(t:Nat) (u:Value),t≠23->t≠19->t≠24->t≠25->t≠6->t≠7->t≠20->t≠21->t≠22->ts[t]?=some u->(qb0 (((ts.setIfInBounds 20 pv).setIfInBounds 21 (.int .i64 nw)).setIfInBounds 22 cv) 23 19 24 25 6 7 (.agg #[.slice A1 m1 c1,.slice A2 m2 c2,.slice A3 m3 c3,.slice A4 m4 c4]) (qas qa nw l).isSome R)[t]?=some u:=λt u h1 h2 h3 h4 h5 h6 h7 h8 h9 h=>by
  unfold qb0;rw[qai (Ne.symm h6),qai (Ne.symm h5),qai (Ne.symm h4),qai (Ne.symm h3),qai (Ne.symm h2),qai (Ne.symm h1),qai (Ne.symm h9),qai (Ne.symm h8),qai (Ne.symm h7)];exact h
 have t3:=s2 3 pv (by decide) (by decide) (by decide) (by decide) (by decide) (by decide) (by decide) (by decide) (by decide) hD.s3;have t4:=s2 4 _ (by decide) (by decide) (by decide) (by decide) (by decide) (by decide) (by decide) (by decide) (by decide) hD.s4;have t5:=s2 5 cv (by decide) (by decide) (by decide) (by decide) (by decide) (by decide) (by decide) (by decide) (by decide) hD.s5;clear s2;generalize hts:qb0 (((ts.setIfInBounds 20 pv).setIfInBounds 21 (.int .i64 nw)).setIfInBounds 22 cv) 23 19 24 25 6 7 (.agg #[.slice A1 m1 c1,.slice A2 m2 c2,.slice A3 m3 c3,.slice A4 m4 c4]) (qas qa nw l).isSome R=tz at ok4 t3 t4 t5 |-;have tsz:tz.size=75:=by rw[<-hts];simp[qb0,hs]
 have t6:tz[6]?=some (.pointer (some ⟨R,0,none⟩)):=by rw[<-hts];unfold qb0;rw[qai (by decide),getSet (by simp[hs])]
 have t7:tz[7]?=some (.bool (qas qa nw l).isSome):=by rw[<-hts];unfold qb0;rw[getSet (by simp[hs])]
 clear hts;have qsJ:=hg4.rn hrn;have qsK:=hg4.ri hri
 refine qbg (gr:=gr2 W.heap.size g ea) (OO M4) func4 ok4 qmp hb4 (O4.alone hT4) (qaq hT4) (Q:=λe a x=>e=.ret/\HG z4 x/\a.tmps[2]?=some (.bool true)) (λe a x y exy h=>⟨h.1,h.2.1.heap exy,h.2.2⟩)
  (λX eX=>wp_mono (qps tz X tsz t3 t4 t5 t6 t7 (qsJ.heap eX) (qsK.heap eX) hD.sp hD.sc (hF.heap eX) (hB.heap eX)) (λe a x h=>⟨h.1,h.2.1.from eX.symm,h.2.2⟩)) (λe a x h=>by rw[h.1];trivial) ?_
 rintro e5 ⟨ts5,ds5⟩ td5 w5 z5 hb5 hh5-ok5 - - ⟨rfl,hg5,h52⟩;have hO5:=hO4.step hb5 (Mks.Le.refl _) hh5.but hb4.size hg5;show qc prog (qv W) Sh4 Fz4 T4 n4 0 0 (G {(base 4).at ⟨ts5,[]⟩ (td5++_)with mode:=.returning} []) w5;exact qf8 func4 (by kernel_rfl) rfl h52 hT4 (by omega) (λd=>hO5.fin d)
end
end Go.Proofs.YtacemdoejblgaaaGreatDoor
