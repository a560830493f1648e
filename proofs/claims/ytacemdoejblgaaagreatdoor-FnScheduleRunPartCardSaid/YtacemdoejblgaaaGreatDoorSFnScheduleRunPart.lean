/- Part SFnScheduleRunPart. Conditions: each statement's. -/
import Derived.Test.YtacemdoejblgaaaGreatDoorM24
namespace Go.Proofs.YtacemdoejblgaaaGreatDoor
open List _root_.Go.Proofs.Tryz World
set_option maxRecDepth 100000
set_option maxHeartbeats 6400000
section
open Go.RowKit
theorem qo(va vb:Value)(c:qj)(w:World)(ha:CV w va c)(hb:CV w vb c):Calls prog 15 #[va,vb] w λe w'=>e=.returned (.bool true)/\w.grownBy w' none:=by
 obtain⟨A1,n1,c1,A2,n2,c2,A3,n3,c3,A4,n4,c4,rfl,-,-,-,-⟩:=ha.form;obtain⟨B1,m1,e1,B2,m2,e2,B3,m3,e3,B4,m4,e4,rfl,-,-,-,-⟩:=hb.form;have hX:=ha.box.new (grownBy_alloc _ (.cells #[.slice B1 m1 e1,.slice B2 m2 e2,.slice B3 m3 e3,.slice B4 m4 e4] 29) none);have hY:=(hb.new (grownBy_alloc w (.cells #[.slice A1 n1 c1,.slice A2 n2 c2,.slice A3 n3 c3,.slice A4 n4 c4] 29) none)).box;rw[size_alloc]at hY;have g1:w.grownBy ((w.alloc (.cells #[.slice A1 n1 c1,.slice A2 n2 c2,.slice A3 n3 c3,.slice A4 n4 c4] 29)).alloc (.cells #[.slice B1 m1 e1,.slice B2 m2 e2,.slice B3 m3 e3,.slice B4 m4 e4] 29)) none:=qar (qar (qah w none) _) _;clear ha hb;go_enter func15,ntmps15;go_upto_region 1 with fail;generalize ((w.alloc (.cells #[.slice A1 n1 c1,.slice A2 n2 c2,.slice A3 n3 c3,.slice A4 n4 c4] 29)).alloc (.cells #[.slice B1 m1 e1,.slice B2 m2 e2,.slice B3 m3 e3,.slice B4 m4 e4] 29))=W at hX hY g1 |-;have x0:=hX.d0;have y0:=hY.d0;go_wp2_with fail;refine(qce _ _ c.qb c.qb W hX.dq hY.dq (c:=true) (decide_eq_true rfl)).mono ?_;rintro e w1 ⟨rfl,hg1⟩;replace hX:=hX.new hg1;replace hY:=hY.new hg1;replace g1:=qad g1 hg1;clear x0 y0 hg1;have x1:=hX.d1;have y1:=hY.d1;go_wp2_with fail;refine(qcv _ _ c.counts c.counts w1 hX.ct hY.ct (c:=true) (decide_eq_true rfl)).mono ?_;rintro e w2 ⟨rfl,hg1⟩;replace hX:=hX.new hg1;replace hY:=hY.new hg1;replace g1:=qad g1 hg1;clear x1 y1 hg1;have x2:=hX.d2;have y2:=hY.d2;go_wp2_with fail;refine(qcv _ _ c.done c.done w2 hX.dn hY.dn (c:=true) (decide_eq_true rfl)).mono ?_;rintro e w3 ⟨rfl,hg1⟩;replace hX:=hX.new hg1;replace hY:=hY.new hg1;replace g1:=qad g1 hg1;clear x2 y2 hg1;have x3:=hX.d3;have y3:=hY.d3;go_wp2_with fail;refine(qce _ _ c.rows c.rows w3 hX.ro hY.ro (c:=true) (decide_eq_true rfl)).mono ?_;rintro e w4 ⟨rfl,hg1⟩;go_wp2;go_ret;exact⟨rfl,qad g1 hg1⟩
end
section
theorem zB{l:List Int}(h:qbt l=true):∀x∈l,0<=x:=by
 unfold qbt at h;simp only[Bool.and_eq_true,decide_eq_true_eq,List.all_eq_true]at h;exact h.2
theorem qzr{qa:List Node}{n x:Int}{l:List Int}{c:qj}(h:qas qa n (l++[x])=some c):∃b,qas qa n l=some b/\(qa0 qa b (x.tmod n)).getD b=c:=by
 obtain⟨c0,hc,hl,rfl⟩:=qex h
 have hl2:qbt l=true:=by
  unfold qbt at hl |-;simp only[Bool.and_eq_true,decide_eq_true_eq,List.all_eq_true,length_append,length_cons,length_nil]at hl |-;exact⟨by omega,λy hy=>hl.2 y (by simp[hy])⟩
 refine⟨_,qf6 hc hl2,?_⟩;unfold qdy;rw[foldl_append];rfl
end
section
open Go.Conc Go.RowKit
theorem qvk{P:Array Value->Prop}(hP:∀v0 v1 v2 v3 v4 v5 v6 v7 v8 v9 v10 v11 v12 v13 v14 v15 v16 v17 v18 v19 v20 v21 v22 v23 v24 v25 v26 v27 v28 v29 v30 v31 v32 v33 v34 v35 v36 v37 v38 v39 v40 v41 v42 v43 v44 v45 v46 v47 v48 v49 v50 v51 v52 v53 v54 v55 v56 v57 v58 v59 v60 v61 v62 v63 v64 v65 v66 v67 v68 v69 v70 v71 v72 v73 v74 v75 v76 v77 v78 v79 v80 v81 v82 v83 v84 v85 v86 v87 v88 v89 v90 v91 v92 v93 v94 v95 v96 v97 v98 v99 yL yM yN yO yP yQ:Value,P #[v0,v1,v2,v3,v4,v5,v6,v7,v8,v9,v10,v11,v12,v13,v14,v15,v16,v17,v18,v19,v20,v21,v22,v23,v24,v25,v26,v27,v28,v29,v30,v31,v32,v33,v34,v35,v36,v37,v38,v39,v40,v41,v42,v43,v44,v45,v46,v47,v48,v49,v50,v51,v52,v53,v54,v55,v56,v57,v58,v59,v60,v61,v62,v63,v64,v65,v66,v67,v68,v69,v70,v71,v72,v73,v74,v75,v76,v77,v78,v79,v80,v81,v82,v83,v84,v85,v86,v87,v88,v89,v90,v91,v92,v93,v94,v95,v96,v97,v98,v99,yL,yM,yN,yO,yP,yQ])(T:Array Value)(h:T.size=106):P T:=by
 obtain⟨l⟩:=T;replace h:l.length=106:=h;obtain⟨v0,l0,rfl,h0⟩:=qaa h;obtain⟨v1,l1,rfl,h1⟩:=qaa h0;obtain⟨v2,l2,rfl,h2⟩:=qaa h1;obtain⟨v3,l3,rfl,h3⟩:=qaa h2;obtain⟨v4,l4,rfl,h4⟩:=qaa h3;obtain⟨v5,l5,rfl,h5⟩:=qaa h4;obtain⟨v6,l6,rfl,h6⟩:=qaa h5;obtain⟨v7,l7,rfl,h7⟩:=qaa h6;obtain⟨v8,l8,rfl,h8⟩:=qaa h7;obtain⟨v9,l9,rfl,h9⟩:=qaa h8;obtain⟨v10,l10,rfl,h10⟩:=qaa h9;obtain⟨v11,l11,rfl,h11⟩:=qaa h10;obtain⟨v12,l12,rfl,h12⟩:=qaa h11;obtain⟨v13,l13,rfl,h13⟩:=qaa h12;obtain⟨v14,l14,rfl,h14⟩:=qaa h13;obtain⟨v15,l15,rfl,h15⟩:=qaa h14;obtain⟨v16,l16,rfl,h16⟩:=qaa h15;obtain⟨v17,l17,rfl,h17⟩:=qaa h16;obtain⟨v18,l18,rfl,h18⟩:=qaa h17;obtain⟨v19,l19,rfl,h19⟩:=qaa h18;obtain⟨v20,l20,rfl,h20⟩:=qaa h19;obtain⟨v21,l21,rfl,h21⟩:=qaa h20;obtain⟨v22,l22,rfl,h22⟩:=qaa h21;obtain⟨v23,l23,rfl,h23⟩:=qaa h22;obtain⟨v24,l24,rfl,h24⟩:=qaa h23;obtain⟨v25,l25,rfl,h25⟩:=qaa h24;obtain⟨v26,l26,rfl,h26⟩:=qaa h25;obtain⟨v27,l27,rfl,h27⟩:=qaa h26;obtain⟨v28,l28,rfl,h28⟩:=qaa h27;obtain⟨v29,l29,rfl,h29⟩:=qaa h28;obtain⟨v30,l30,rfl,h30⟩:=qaa h29;obtain⟨v31,l31,rfl,h31⟩:=qaa h30;obtain⟨v32,l32,rfl,h32⟩:=qaa h31;obtain⟨v33,l33,rfl,h33⟩:=qaa h32;obtain⟨v34,l34,rfl,h34⟩:=qaa h33;obtain⟨v35,l35,rfl,h35⟩:=qaa h34;obtain⟨v36,l36,rfl,h36⟩:=qaa h35;obtain⟨v37,l37,rfl,h37⟩:=qaa h36;obtain⟨v38,l38,rfl,h38⟩:=qaa h37;obtain⟨v39,l39,rfl,h39⟩:=qaa h38;obtain⟨v40,l40,rfl,h40⟩:=qaa h39;obtain⟨v41,l41,rfl,h41⟩:=qaa h40;obtain⟨v42,l42,rfl,h42⟩:=qaa h41;obtain⟨v43,l43,rfl,h43⟩:=qaa h42;obtain⟨v44,l44,rfl,h44⟩:=qaa h43;obtain⟨v45,l45,rfl,h45⟩:=qaa h44;obtain⟨v46,l46,rfl,h46⟩:=qaa h45;obtain⟨v47,l47,rfl,h47⟩:=qaa h46;obtain⟨v48,l48,rfl,h48⟩:=qaa h47;obtain⟨v49,l49,rfl,h49⟩:=qaa h48;obtain⟨v50,l50,rfl,h50⟩:=qaa h49;obtain⟨v51,l51,rfl,h51⟩:=qaa h50;obtain⟨v52,l52,rfl,h52⟩:=qaa h51;obtain⟨v53,l53,rfl,h53⟩:=qaa h52;obtain⟨v54,l54,rfl,h54⟩:=qaa h53;obtain⟨v55,l55,rfl,h55⟩:=qaa h54;obtain⟨v56,l56,rfl,h56⟩:=qaa h55;obtain⟨v57,l57,rfl,h57⟩:=qaa h56;obtain⟨v58,l58,rfl,h58⟩:=qaa h57;obtain⟨v59,l59,rfl,h59⟩:=qaa h58;obtain⟨v60,l60,rfl,h60⟩:=qaa h59;obtain⟨v61,l61,rfl,h61⟩:=qaa h60;obtain⟨v62,l62,rfl,h62⟩:=qaa h61;obtain⟨v63,l63,rfl,h63⟩:=qaa h62;obtain⟨v64,l64,rfl,h64⟩:=qaa h63;obtain⟨v65,l65,rfl,h65⟩:=qaa h64;obtain⟨v66,l66,rfl,h66⟩:=qaa h65;obtain⟨v67,l67,rfl,h67⟩:=qaa h66;obtain⟨v68,l68,rfl,h68⟩:=qaa h67;obtain⟨v69,l69,rfl,h69⟩:=qaa h68;obtain⟨v70,l70,rfl,h70⟩:=qaa h69;obtain⟨v71,l71,rfl,h71⟩:=qaa h70;obtain⟨v72,l72,rfl,h72⟩:=qaa h71;obtain⟨v73,l73,rfl,h73⟩:=qaa h72;obtain⟨v74,l74,rfl,h74⟩:=qaa h73;obtain⟨v75,l75,rfl,h75⟩:=qaa h74;obtain⟨v76,l76,rfl,h76⟩:=qaa h75;obtain⟨v77,l77,rfl,h77⟩:=qaa h76;obtain⟨v78,l78,rfl,h78⟩:=qaa h77;obtain⟨v79,l79,rfl,h79⟩:=qaa h78;obtain⟨v80,l80,rfl,h80⟩:=qaa h79;obtain⟨v81,l81,rfl,h81⟩:=qaa h80;obtain⟨v82,l82,rfl,h82⟩:=qaa h81;obtain⟨v83,l83,rfl,h83⟩:=qaa h82;obtain⟨v84,l84,rfl,h84⟩:=qaa h83;obtain⟨v85,l85,rfl,h85⟩:=qaa h84;obtain⟨v86,l86,rfl,h86⟩:=qaa h85;obtain⟨v87,l87,rfl,h87⟩:=qaa h86;obtain⟨v88,l88,rfl,h88⟩:=qaa h87;obtain⟨v89,l89,rfl,h89⟩:=qaa h88;obtain⟨v90,l90,rfl,h90⟩:=qaa h89;obtain⟨v91,l91,rfl,h91⟩:=qaa h90;obtain⟨v92,l92,rfl,h92⟩:=qaa h91;obtain⟨v93,l93,rfl,h93⟩:=qaa h92;obtain⟨v94,l94,rfl,h94⟩:=qaa h93;obtain⟨v95,l95,rfl,h95⟩:=qaa h94;obtain⟨v96,l96,rfl,h96⟩:=qaa h95;obtain⟨v97,l97,rfl,h97⟩:=qaa h96;obtain⟨v98,l98,rfl,h98⟩:=qaa h97;obtain⟨v99,l99,rfl,h99⟩:=qaa h98;obtain⟨yL,quK,rfl,qsL⟩:=qaa h99;obtain⟨yM,quL,rfl,qsM⟩:=qaa qsL;obtain⟨yN,quM,rfl,qsN⟩:=qaa qsM;obtain⟨yO,quN,rfl,qsO⟩:=qaa qsN;obtain⟨yP,quO,rfl,qsP⟩:=qaa qsO;obtain⟨yQ,quP,rfl,qsQ⟩:=qaa qsP;obtain rfl:=eq_nil_of_length_eq_zero qsQ;exact hP _ _ _ _ _ _ _ _ _ _ _ _ _ _ _ _ _ _ _ _ _ _ _ _ _ _ _ _ _ _ _ _ _ _ _ _ _ _ _ _ _ _ _ _ _ _ _ _ _ _ _ _ _ _ _ _ _ _ _ _ _ _ _ _ _ _ _ _ _ _ _ _ _ _ _ _ _ _ _ _ _ _ _ _ _ _ _ _ _ _ _ _ _ _ _ _ _ _ _ _ _ _ _ _ _ _
noncomputable def qax:Code:=Tryz.f5.body.getD .skip
noncomputable def qN:Code:=match qax with | .seq x _=>x|_=>.skip
noncomputable def qO:Code:=match qax with | .seq _ (.seq x _)=>x|_=>.skip
noncomputable def qP:Code:=match qax with | .seq _ (.seq _ (.seq x _))=>x|_=>.skip
noncomputable def qa4:Code:=match qax with | .seq _ (.seq _ (.seq _ x))=>x|_=>.skip
theorem qiy:qax=.seq qN (.seq qO (.seq qP qa4)):=rfl
theorem qiz:qcl prog Fs Gs SN qN=true:=by kernel_rfl
theorem qi0:qcl prog Fs Gs SN qO=true:=by kernel_rfl
theorem qi1:qcl prog Fs Gs SN qP=true:=by kernel_rfl
section
variable {v:Value}{n:Nat}
theorem qmq(ts:Array Value)(X:World)(hs:ts.size=106)(h0:ts[0]?=some v):qN.wp prog (λe a x=>e=.normal/\x.heap=X.heap/\a.tmps.size=106/\a.tmps[0]?=some v/\a.tmps[2]?=some (.bool false)) ⟨ts,[]⟩ X:=by
 revert ts;refine qvk ?_;intro v0 v1 v2 v3 v4 v5 v6 v7 v8 v9 v10 v11 v12 v13 v14 v15 v16 v17 v18 v19 v20 v21 v22 v23 v24 v25 v26 v27 v28 v29 v30 v31 v32 v33 v34 v35 v36 v37 v38 v39 v40 v41 v42 v43 v44 v45 v46 v47 v48 v49 v50 v51 v52 v53 v54 v55 v56 v57 v58 v59 v60 v61 v62 v63 v64 v65 v66 v67 v68 v69 v70 v71 v72 v73 v74 v75 v76 v77 v78 v79 v80 v81 v82 v83 v84 v85 v86 v87 v88 v89 v90 v91 v92 v93 v94 v95 v96 v97 v98 v99 yL yM yN yO yP yQ h0;obtain rfl:v0=v:=by simpa using h0
 clear h0;simp only[qN,qax,f5,Option.getD_some];go_wp2_with fail
theorem qmr(hA:∃A c,v=.slice A n c)(ts:Array Value)(X:World)(hs:ts.size=106)(h0:ts[0]?=some v)(h2:ts[2]?=some (.bool false)):qO.wp prog (λe a x=>x.heap=X.heap/\((e=.normal/\n<=1048576/\a.tmps.size=106/\a.tmps[0]?=some v/\a.tmps[2]?=some (.bool false))∨(e=.ret/\a.tmps[2]?=some (.bool true)))) ⟨ts,[]⟩ X:=by
 obtain⟨A,c,rfl⟩:=hA;revert ts;refine qvk ?_;intro v0 v1 v2 v3 v4 v5 v6 v7 v8 v9 v10 v11 v12 v13 v14 v15 v16 v17 v18 v19 v20 v21 v22 v23 v24 v25 v26 v27 v28 v29 v30 v31 v32 v33 v34 v35 v36 v37 v38 v39 v40 v41 v42 v43 v44 v45 v46 v47 v48 v49 v50 v51 v52 v53 v54 v55 v56 v57 v58 v59 v60 v61 v62 v63 v64 v65 v66 v67 v68 v69 v70 v71 v72 v73 v74 v75 v76 v77 v78 v79 v80 v81 v82 v83 v84 v85 v86 v87 v88 v89 v90 v91 v92 v93 v94 v95 v96 v97 v98 v99 yL yM yN yO yP yQ h2 h0;obtain rfl:v0=.slice A n c:=by simpa using h0
 obtain rfl:v2=.bool false:=by simpa using h2
 clear h0 h2;simp only[qO,qax,f5,Option.getD_some];by_cases kx:1048576<n
 . go_wp2_with fail
 . have hle:n<=1048576:=by omega
   go_wp2_with fail
theorem qms(hn:n<=1048576)(ts:Array Value)(X:World)(B0:Nat)(hs:ts.size=106)(h0:ts[0]?=some v)(h2:ts[2]?=some (.bool false))(hB:Bytes X B0 v n)(hX:B0<=X.heap.size) :
   qP.wp prog (λe a x=>e=.normal/\HG X x/\∃pv cv nw qa l,qY 106 a.tmps x pv cv nw qa l) ⟨ts,[]⟩ X:=by
 revert ts;refine qvk ?_;intro v0 v1 v2 v3 v4 v5 v6 v7 v8 v9 v10 v11 v12 v13 v14 v15 v16 v17 v18 v19 v20 v21 v22 v23 v24 v25 v26 v27 v28 v29 v30 v31 v32 v33 v34 v35 v36 v37 v38 v39 v40 v41 v42 v43 v44 v45 v46 v47 v48 v49 v50 v51 v52 v53 v54 v55 v56 v57 v58 v59 v60 v61 v62 v63 v64 v65 v66 v67 v68 v69 v70 v71 v72 v73 v74 v75 v76 v77 v78 v79 v80 v81 v82 v83 v84 v85 v86 v87 v88 v89 v90 v91 v92 v93 v94 v95 v96 v97 v98 v99 yL yM yN yO yP yQ h0 h2;obtain rfl:v0=v:=by simpa using h0
 obtain rfl:v2=.bool false:=by simpa using h2
 clear h0 h2;simp only[qP,qax,f5,Option.getD_some];go_wp2_with fail;refine(qfv B0 X _ n hB hX hn).mono ?_;rintro e w1 ⟨pv,cv,nw,qa,l,rfl,h1,h2,hr,hi,hp,hc,hg⟩;go_wp2_with fail;exact⟨HG.of hg,pv,cv,nw,qa,l,rfl,rfl,rfl,rfl,rfl,hr,hi,h1,h2,hp,hc⟩
end
theorem qjo{W:World}{ea:Addr}{v:Value}{n g o c:Nat}{cs:Array Value}{e:TypeId}{fr:Nat×Nat}(S:Start W ea)(H:qC W v n g o c cs e fr)
   (next:∀ts w z pv cv nw qa l,qY 106 ts z pv cv nw qa l->(∀u,u∈ts->Ok (gr2 W.heap.size g ea).A (gr2 W.heap.size g ea).F u)->Both ((gr2 W.heap.size g ea).base.pen (mk2 W.heap.size g cs ea)) w z->Old W ea g cs (mk2 W.heap.size g cs ea) w z->qm z ea ->
    qc prog (qv W) (λ_=>False) (λ_=>False) (λ_=>.left) 1 0 0 (G ((base 5).at ⟨ts,[]⟩ [.code qa4]) []) w) :
   qc prog (qv W) (λ_=>False) (λ_=>False) (λ_=>.left) 1 0 0 (G (Frame.enter prog 5 #[v] .normal) []) W:=by
 rw[enter_at (c:=qax) _ func5 rfl,qiy];obtain⟨A,hA,-⟩:=H.v;refine qh9 S H func5 (by kernel_rfl) rfl qiz qi0 qi1 (NT:=106) (by rw[ntmps5];simp) (λu hu=>?_) (by simp) (λts X=>qmq ts X) (λts X=>qmr ⟨A,_,hA⟩ ts X) (λhn ts X B0=>qms hn ts X B0) next;rcases Array.mem_append.1 hu with hu|hu
 . exact .inl (by simpa using hu)
 . exact .inr (Array.eq_of_mem_replicate hu)
section
variable {NT:Nat}{ts:Array Value}{x y:World}{pv cv:Value}{nw:Int}{qa:List Node}{l:List Int}{R:Nat}{c:qj}{ok:Bool}
theorem jA.heap(e:x.heap=y.heap)(h:jA NT ts x pv cv nw qa l R c ok):jA NT ts y pv cv nw qa l R c ok:=
 ⟨h.size,h.s3,h.s4,h.s5,h.s6,h.s7,h.rn.heap e,h.ri.heap e,by
  obtain⟨Y1,Yn1,Yc1,Y2,Yn2,Yc2,Y3,Yn3,Yc3,Y4,Yn4,Yc4,k⟩:=h.box;exact⟨Y1,Yn1,Yc1,Y2,Yn2,Yc2,Y3,Yn3,Yc3,Y4,Yn4,Yc4,k.heap e⟩⟩
theorem zI.heap(e:x.heap=y.heap)(h:zI NT ts x pv cv nw qa l R c ok):zI NT ts y pv cv nw qa l R c ok:=
 ⟨h.run.heap e,by
  obtain⟨Z,Z1,Zn1,Zc1,Z2,Zn2,Zc2,Z3,Zn3,Zc3,Z4,Zn4,Zc4,k1,k2,k3⟩:=h.told;exact⟨Z,Z1,Zn1,Zc1,Z2,Zn2,Zc2,Z3,Zn3,Zc3,Z4,Zn4,Zc4,k1,k2,k3.heap e⟩⟩
end
noncomputable def qh4:Code:=match qa4 with | .seq x _=>x|_=>.skip
noncomputable def q8:Code:=match qa4 with | .seq _ (.seq x _)=>x|_=>.skip
noncomputable def qQ:Code:=match qa4 with | .seq _ (.seq _ (.seq x _))=>x|_=>.skip
theorem qi4:qcl prog Fs Gs SN q8=true:=by kernel_rfl
theorem qi5:qcl prog Fs Gs SN qQ=true:=by kernel_rfl
section
variable {pv cv:Value}{nw:Int}{qa:List Node}{l:List Int}{R:Nat}{c:qj}{ok:Bool}
theorem qmu(sp:qe3 qa)(sc:qda l)(hok:ok=(qas qa nw l).isSome)(hc:c=(qas qa nw l).getD qdk)(ts:Array Value)(X:World)(hs:ts.size=106)(H:jA 106 ts X pv cv nw qa l R c ok) :
   q8.wp prog (λe a x=>e=.normal/\HG X x/\zI 106 a.tmps x pv cv nw qa l R c ok) ⟨ts,[]⟩ X:=by
 revert ts;refine qvk ?_;intro v0 v1 v2 v3 v4 v5 v6 v7 v8 v9 v10 v11 v12 v13 v14 v15 v16 v17 v18 v19 v20 v21 v22 v23 v24 v25 v26 v27 v28 v29 v30 v31 v32 v33 v34 v35 v36 v37 v38 v39 v40 v41 v42 v43 v44 v45 v46 v47 v48 v49 v50 v51 v52 v53 v54 v55 v56 v57 v58 v59 v60 v61 v62 v63 v64 v65 v66 v67 v68 v69 v70 v71 v72 v73 v74 v75 v76 v77 v78 v79 v80 v81 v82 v83 v84 v85 v86 v87 v88 v89 v90 v91 v92 v93 v94 v95 v96 v97 v98 v99 yL yM yN yO yP yQ H;obtain rfl:v3=pv:=by simpa using H.s3
 obtain rfl:v4=.int .i64 nw:=by simpa using H.s4
 obtain rfl:v5=cv:=by simpa using H.s5
 obtain rfl:v6=.pointer (some ⟨R,0,none⟩):=by simpa using H.s6
 obtain rfl:v7=.bool ok:=by simpa using H.s7
 have hp:=H.rn;have hl:=H.ri;obtain⟨Y1,Yn1,Yc1,Y2,Yn2,Yc2,Y3,Yn3,Yc3,Y4,Yn4,Yc4,hY4⟩:=H.box;clear H;obtain⟨P1,pn,pc,rfl,-,hpn,-⟩:=hp.form';obtain⟨I1,im,ic,rfl,-,him⟩:=hl.form';have Hpn:=Lib.hid hpn;have Him:=Lib.hid him;clear hpn him;have Hpl:Hid (qa.length<=1000000000):=by have:=sp.1;show _<=_;omega
 have Hll:Hid (l.length<=1000000000):=by have:=sc.1;show _<=_;omega
 have HT:Hid (∀w,RN w (.slice P1 pn pc) qa->RI w (.slice I1 im ic) l->Calls prog 14 #[.slice P1 pn pc,.int .i64 nw,.slice I1 im ic] w λe w'=>∃v,e=.returned (.tuple #[v,.bool ok])/\CV w' v c/\w.grownBy w' none):=λw h1 h2=>by
  refine(qeo _ _ qa nw l w h1 h2 Hpl.out Hll.out).mono ?_;intro e w' hT;obtain⟨v,k1,k2,k3⟩:=hT.open_;exact⟨v,by rw[k1,hok],by rw[hc];exact k2,k3⟩
 clear sp sc hok hc;simp only[q8,qa4,qax,f5,Option.getD_some];go_wp2_with fail;refine(HT.out X hp hl).mono ?_;rintro e w5 ⟨v5,rfl,zQ,hg5⟩;obtain⟨Z1,Zn1,Zc1,Z2,Zn2,Zc2,Z3,Zn3,Zc3,Z4,Zn4,Zc4,rfl,-,-,-,-⟩:=zQ.form;have hZ:=zQ.box;have gZ:=grownBy_alloc w5 (.cells #[.slice Z1 Zn1 Zc1,.slice Z2 Zn2 Zc2,.slice Z3 Zn3 Zc3,.slice Z4 Zn4 Zc4] 29) none;have hY6:=(hY4.new hg5).new gZ;have hp6:=(hp.new hg5).new gZ;have hl6:=(hl.new hg5).new gZ;have g6:=qad hg5 gZ;go_wp2_with fail;exact⟨HG.of g6,⟨rfl,rfl,rfl,rfl,rfl,rfl,hp6,hl6,_,_,_,_,_,_,_,_,_,_,_,_,hY6⟩,_,_,_,_,_,_,_,_,_,_,_,_,_,rfl,rfl,hZ⟩
theorem qmv(ts:Array Value)(X:World)(hs:ts.size=106)(H:zI 106 ts X pv cv nw qa l R c ok) :
   qQ.wp prog (λe a x=>HG X x/\((e=.ret/\a.tmps[2]?=some (.bool true))∨(e=.normal/\ok=true/\0<l.length/\jA 106 a.tmps x pv cv nw qa l R c ok))) ⟨ts,[]⟩ X:=by
 revert ts;refine qvk ?_;intro v0 v1 v2 v3 v4 v5 v6 v7 v8 v9 v10 v11 v12 v13 v14 v15 v16 v17 v18 v19 v20 v21 v22 v23 v24 v25 v26 v27 v28 v29 v30 v31 v32 v33 v34 v35 v36 v37 v38 v39 v40 v41 v42 v43 v44 v45 v46 v47 v48 v49 v50 v51 v52 v53 v54 v55 v56 v57 v58 v59 v60 v61 v62 v63 v64 v65 v66 v67 v68 v69 v70 v71 v72 v73 v74 v75 v76 v77 v78 v79 v80 v81 v82 v83 v84 v85 v86 v87 v88 v89 v90 v91 v92 v93 v94 v95 v96 v97 v98 v99 yL yM yN yO yP yQ H;obtain⟨Z,Z1,Zn1,Zc1,Z2,Zn2,Zc2,Z3,Zn3,Zc3,Z4,Zn4,Zc4,s8,s9,hZ⟩:=H.told;obtain rfl:v3=pv:=by simpa using H.run.s3
 obtain rfl:v4=.int .i64 nw:=by simpa using H.run.s4
 obtain rfl:v5=cv:=by simpa using H.run.s5
 obtain rfl:v6=.pointer (some ⟨R,0,none⟩):=by simpa using H.run.s6
 obtain rfl:v7=.bool ok:=by simpa using H.run.s7
 obtain rfl:v8=.pointer (some ⟨Z,0,none⟩):=by simpa using s8
 obtain rfl:v9=.bool ok:=by simpa using s9
 have hp:=H.run.rn;have hl:=H.run.ri;obtain⟨Y1,Yn1,Yc1,Y2,Yn2,Yc2,Y3,Yn3,Yc3,Y4,Yn4,Yc4,hY⟩:=H.run.box;clear H s8 s9;obtain⟨I1,im,ic,rfl,-,him⟩:=hl.form';have Him:=Lib.hid him;clear him;have y0:=hY.d0;have y1:=hY.d1;have y2:=hY.d2;have y3:=hY.d3;have z0:=hZ.d0;have z1:=hZ.d1;have z2:=hZ.d2;have z3:=hZ.d3;simp only[qQ,qa4,qax,f5,Option.getD_some];cases ok with
 |false=>
  go_wp2_with fail;refine(qo _ _ _ X hY.cv hZ.cv).mono ?_;rintro e w7 ⟨rfl,hg7⟩;have hY7:=hY.new hg7;have hZ7:=hZ.new hg7;clear y0 y1 y2 y3 z0 z1 z2 z3 hY hZ;have y0:=hY7.d0;have y1:=hY7.d1;have y2:=hY7.d2;have y3:=hY7.d3;have z0:=hZ7.d0;have z1:=hZ7.d1;have z2:=hZ7.d2;have z3:=hZ7.d3;go_wp2_with fail;refine(qo _ _ _ w7 hY7.cv hZ7.cv).mono ?_;rintro e w8 ⟨rfl,hg8⟩;go_wp2_with fail;exact HG.of (qad hg7 hg8)
 |true=>
  go_wp2_with fail;refine(qo _ _ _ X hY.cv hZ.cv).mono ?_;rintro e w7 ⟨rfl,hg7⟩;have hp7:=hp.new hg7;have hl7:=hl.new hg7;have hY7:=hY.new hg7;by_cases hz:im=0
  . have hZ7:=hZ.new hg7;clear y0 y1 y2 y3 z0 z1 z2 z3;subst hz;have y0:=hY7.d0;have y1:=hY7.d1;have y2:=hY7.d2;have y3:=hY7.d3;have z0:=hZ7.d0;have z1:=hZ7.d1;have z2:=hZ7.d2;have z3:=hZ7.d3;go_wp2_with fail;refine(qo _ _ _ w7 hY7.cv hZ7.cv).mono ?_;rintro e w8 ⟨rfl,hg8⟩;go_wp2_with fail;exact HG.of (qad hg7 hg8)
  . have hz2:¬((im:Int)=0):=by omega
    have hz3:0<l.length:=by have:=Him.out;omega
    go_wp2_with fail;exact⟨HG.of hg7,rfl,rfl,rfl,rfl,rfl,rfl,hp7,hl7,_,_,_,_,_,_,_,_,_,_,_,_,hY7⟩
end
noncomputable def qR:Code:=match qa4 with | .seq _ (.seq _ (.seq _ (.seq x _)))=>x|_=>.skip
noncomputable def qh3:Code:=match qa4 with | .seq _ (.seq _ (.seq _ (.seq _ (.seq x _))))=>x|_=>.skip
noncomputable def q9:Code:=match qa4 with | .seq _ (.seq _ (.seq _ (.seq _ (.seq _ x))))=>x|_=>.skip
theorem qkf:qa4=.seq qh4 (.seq q8 (.seq qQ (.seq qR (.seq qh3 q9)))):=rfl
theorem qi2:qcl prog Fs Gs SN qR=true:=by kernel_rfl
theorem qi3:qcl prog Fs Gs SN q9=true:=by kernel_rfl
theorem q87(ρ:Operand->Value)(o:Oper)(x y:Operand)(h:o.op=.slice 24 x none (some y) none)(w:World){g q im ic n:Nat}(hx:ρ x=.slice (some ⟨g,q,none⟩) im ic)(hy:ρ y=.int .i64 (n:Nat))(hn:n<=ic) :
   (execOp ρ o).run prog w=.ok (.value (.slice (some ⟨g,q,none⟩) n ic)) w:=by
 have h1:¬((n:Int)<0):=by omega
 have h2:(n:Int)<=(ic:Int):=by omega
 unfold execOp;rw[h];simp only[hx]
 go_simp
section
variable {gr:Grd}{M:Mks gr.base}{Post:Value->World->Prop}{Sh:Nat->Prop}{Fz:Loc->Prop}{T:Nat->qA}{w z:World}
theorem qsR(OM:zL (gr.base.pen M)){n h:Nat}{b:Frame}{ts:Array Value}(zy:∀v,v∈ts->Ok gr.A gr.F v)(hb:Both (gr.base.pen M) w z)(O:Outside (gr.base.pen M) Sh Fz T n h)(hL:jv T n h w)(hk:b.kind≠.early)
   {ops:Array Oper} {i x y t:Nat} {ty:TypeId} {ps:String} {af:Array Edge} {g q im ic m:Nat} {rest:List Nat} {k:List Item} {cs:List Frame} (ho:ops[i]?=some ⟨some t,.slice 24 (.tmp x) none (some (.tmp y)) none,ty,ps,af,none⟩) (hx:ts[x]?=some (.slice (some ⟨g,q,none⟩) im ic)) (hy:ts[y]?=some (.int .i64 (m:Nat))) (hm:m<=ic)
   (next:∀w' z',Both (gr.base.pen M) w' z'->z'.heap=z.heap->Held (gr.base.pen M) w w'->(∀u,u∈ts.setIfInBounds t (.slice (some ⟨g,q,none⟩) m ic)->Ok gr.A gr.F u)->qc prog Post Sh Fz T n h 0 (G (b.at ⟨ts.setIfInBounds t (.slice (some ⟨g,q,none⟩) m ic),[]⟩ (.inRegion ops rest::k)) cs) w') :
   qc prog Post Sh Fz T n h 0 (G (b.at ⟨ts,[]⟩ (.inRegion ops (i::rest)::k)) cs) w:=
 qia (z2:=z) OM (by kernel_rfl) zy hb O hL (.slice (some ⟨g,q,none⟩) m ic) (.inl rfl) ho rfl hk (λd=>q87 _ _ _ _ rfl (z.at d) (qet hx) (qet hy) hm) (λw' d h1 h2 h3 _=>next w' (z.at d) h1 rfl h2 h3)
end
section
variable {pv cv:Value}{nw:Int}{qa:List Node}{l:List Int}{R:Nat}{c:qj}{ok:Bool}
theorem qmt(hz:0<l.length)(ts:Array Value)(X:World)(hs:ts.size=106)(H:jA 106 ts X pv cv nw qa l R c ok) :
   qR.wp prog (λe a x=>e=.normal/\x.heap=X.heap/\jA 106 a.tmps x pv cv nw qa l R c ok/\a.tmps[10]?=some (.int .i64 ((l.length-1:Nat):Int))) ⟨ts,[]⟩ X:=by
 revert ts;refine qvk ?_;intro v0 v1 v2 v3 v4 v5 v6 v7 v8 v9 v10 v11 v12 v13 v14 v15 v16 v17 v18 v19 v20 v21 v22 v23 v24 v25 v26 v27 v28 v29 v30 v31 v32 v33 v34 v35 v36 v37 v38 v39 v40 v41 v42 v43 v44 v45 v46 v47 v48 v49 v50 v51 v52 v53 v54 v55 v56 v57 v58 v59 v60 v61 v62 v63 v64 v65 v66 v67 v68 v69 v70 v71 v72 v73 v74 v75 v76 v77 v78 v79 v80 v81 v82 v83 v84 v85 v86 v87 v88 v89 v90 v91 v92 v93 v94 v95 v96 v97 v98 v99 yL yM yN yO yP yQ H;obtain rfl:v3=pv:=by simpa using H.s3
 obtain rfl:v4=.int .i64 nw:=by simpa using H.s4
 obtain rfl:v5=cv:=by simpa using H.s5
 obtain rfl:v6=.pointer (some ⟨R,0,none⟩):=by simpa using H.s6
 obtain rfl:v7=.bool ok:=by simpa using H.s7
 have hp:=H.rn;have hl:=H.ri;have yD:=H.box;clear H;obtain⟨I1,im,ic,rfl,-,him⟩:=hl.form';have hle:=hl.le;have hwr:IntKind.i64.wrap ((im:Int)-1)=((l.length-1:Nat):Int):=by rw[IntWalk.i64_in _ (by omega)];omega
 simp only[qR,qa4,qax,f5,Option.getD_some];have Hf:=Lib.hid (And.intro hp (And.intro hl yD));have Hw:=Lib.hid hwr;clear him hp hl yD hle;go_wp2_with fail;exact⟨rfl,rfl,rfl,rfl,rfl,rfl,Hf.out.1,Hf.out.2.1,Hf.out.2.2⟩
theorem qlq{V gI oI n:Nat}{im ic:Nat}{xv j:Int}{b:qj}{a:Addr}{V1 V2 V3 V4 Y1 Y2 Y3 Y4:Option Addr}{Vn1 Vc1 Vn2 Vc2 Vn3 Vc3 Vn4 Vc4 Yn1 Yc1 Yn2 Yc2 Yn3 Yc3 Yn4 Yc4:Nat}(ts:Array Value)(X:World)(hs:ts.size=106)(s3:ts[3]?=some pv)(s4:ts[4]?=some (.int .i64 nw))(s5:ts[5]?=some (.slice (some ⟨gI,oI,none⟩) im ic))(s6:ts[6]?=some (.pointer (some ⟨R,0,none⟩)))
   (s10:ts[10]?=some (.int .i64 (n:Nat))) (s11:ts[11]?=some (.pointer (some ⟨V,0,none⟩))) (s12:ts[12]?=some (.bool true)) (hE:qm X a) (hp:RN X pv qa) (hn:n<im) (hx:X.cell? ⟨gI,oI+n,none⟩=some (.int .i64 xv)) (hnw:¬(nw=0)) (hj:xv.tmod nw=j)
   (hV:jU X V (.slice V1 Vn1 Vc1) (.slice V2 Vn2 Vc2) (.slice V3 Vn3 Vc3) (.slice V4 Vn4 Vc4) b) (hY:jU X R (.slice Y1 Yn1 Yc1) (.slice Y2 Yn2 Yc2) (.slice Y3 Yn3 Yc3) (.slice Y4 Yn4 Yc4) c) (hfit:∀d∈b.qb,d.length<=1048576) (hc:(qa0 qa b j).getD b=c) :
   q9.wp prog (λe a x=>e=.ret/\HG X x/\a.tmps[2]?=some (.bool true)) ⟨ts,[]⟩ X:=by
 revert ts;refine qvk ?_;intro v0 v1 v2 v3 v4 v5 v6 v7 v8 v9 v10 v11 v12 v13 v14 v15 v16 v17 v18 v19 v20 v21 v22 v23 v24 v25 v26 v27 v28 v29 v30 v31 v32 v33 v34 v35 v36 v37 v38 v39 v40 v41 v42 v43 v44 v45 v46 v47 v48 v49 v50 v51 v52 v53 v54 v55 v56 v57 v58 v59 v60 v61 v62 v63 v64 v65 v66 v67 v68 v69 v70 v71 v72 v73 v74 v75 v76 v77 v78 v79 v80 v81 v82 v83 v84 v85 v86 v87 v88 v89 v90 v91 v92 v93 v94 v95 v96 v97 v98 v99 yL yM yN yO yP yQ s3 s4 s5 s6 s10 s11 s12;obtain rfl:v3=pv:=by simpa using s3
 obtain rfl:v4=.int .i64 nw:=by simpa using s4
 obtain rfl:v5=.slice (some ⟨gI,oI,none⟩) im ic:=by simpa using s5
 obtain rfl:v6=.pointer (some ⟨R,0,none⟩):=by simpa using s6
 obtain rfl:v10=.int .i64 (n:Nat):=by simpa using s10
 obtain rfl:v11=.pointer (some ⟨V,0,none⟩):=by simpa using s11
 obtain rfl:v12=.bool true:=by simpa using s12
 clear s3 s4 s5 s6 s10 s11 s12;obtain⟨P1,pn,pc,rfl,-,-,-⟩:=hp.form';obtain⟨Q,hQ⟩:∃Q,Q=qa0 qa b j:=⟨_,rfl⟩;rw[<-hQ]at hc;have HQ:=Lib.hid hQ;have Hc:=Lib.hid hc;have qW:=Lib.hid hfit;have hni:(n:Int)<(im:Int):=by omega
 clear hQ hc hfit;have e0:=hV.d0;have e1:=hV.d1;have e2:=hV.d2;have e3:=hV.d3;have gX:=qah X none;have hVl:=hV.b.lt;have hgl:gI<X.heap.size:=qf5 hx;simp only[q9,qa4,qax,f5,Option.getD_some];go_upto_region 10 with fail
 go_cut [13,14]from 76 to 87 (λt13 t14 wx=>∃bb U1 Un1 Uc1 U2 Un2 Uc2 U3 Un3 Uc3 U4 Un4 Uc4,t13=.pointer (some ⟨bb,0,none⟩)/\t14=.bool Q.isSome/\jU wx bb (.slice U1 Un1 Uc1) (.slice U2 Un2 Uc2) (.slice U3 Un3 Uc3) (.slice U4 Un4 Uc4) (Q.getD qdk)/\X.grownBy wx none)
 case first=>
  go_region_held3 (λw'=>w'.cell? ⟨V,0,none⟩=some (.slice V1 Vn1 Vc1)/\w'.cell? ⟨V,1,none⟩=some (.slice V2 Vn2 Vc2)/\w'.cell? ⟨V,2,none⟩=some (.slice V3 Vn3 Vc3)/\w'.cell? ⟨V,3,none⟩=some (.slice V4 Vn4 Vc4)/\w'.cell? ⟨gI,oI+n,none⟩=some (.int .i64 xv)) (go_keep) (first
   |(go_at_call 17;refine(qgz _ _ qa b j a _ (by first|exact hE|exact hE.new (qay gX)|exact hE.new (qar gX _)|exact hE.new (qay (qar gX _))) (by first|exact hp|exact hp.new (qay gX)|exact hp.new (qar gX _)|exact hp.new (qay (qar gX _))) (by first|exact hV.cv|exact(hV.new (qay gX)).cv|exact(hV.new (qar gX _)).cv|exact(hV.new (qay (qar gX _))).cv) qW.out).mono ?_;rw[<-HQ.out];rintro e w5 ⟨v5,rfl,hF5,hg5⟩;have zQ:=hF5.cv;obtain⟨U1,Un1,Uc1,U2,Un2,Uc2,U3,Un3,Uc3,U4,Un4,Uc4,rfl⟩:=hF5.form;have g5:X.grownBy w5 none:=(by first|exact hg5|exact qad (qay gX) hg5|exact qad (qar gX _) hg5|exact qad (qay (qar gX _)) hg5);have k0:=qc1 e0 g5;have k1:=qc1 e1 g5;have k2:=qc1 e2 g5;have k3:=qc1 e3 g5;have k4:=qc1 hx g5;have n1:V≠X.heap.size:=Nat.ne_of_lt hVl;have n2:=n1.symm;have n3:V≠w5.heap.size:=Nat.ne_of_lt (Nat.lt_of_lt_of_le hVl g5.size);have n4:=n3.symm;have n5:gI≠X.heap.size:=Nat.ne_of_lt hgl;have n6:=n5.symm;have n7:gI≠w5.heap.size:=Nat.ne_of_lt (Nat.lt_of_lt_of_le hgl g5.size);have n8:=n7.symm;try (have zH:Blk w5 X.heap.size 29 #[.slice none 0 0,.slice none 0 0,.slice none 0 0,.slice none 0 0]:=(Blk.new X 29 #[.slice none 0 0,.slice none 0 0,.slice none 0 0,.slice none 0 0]).drew.grown hg5 (by simp));try (have yy0:=zH.cell 0;have ff0:=zH.frozen 0;have yy1:=zH.cell 1;have ff1:=zH.frozen 1;have yy2:=zH.cell 2;have ff2:=zH.frozen 2;have yy3:=zH.cell 3;have ff3:=zH.frozen 3)))
  all_goals
   go_wp2_with fail;go_meet
   first
    |exact⟨_,_,_,_,_,_,_,_,_,_,_,_,_,rfl,rfl,(qgf zH zQ).1,qbd g5 (qgf zH zQ).2 (λg e=>by cases e;exact .inl (Nat.le_refl _))⟩
    |exact⟨_,_,_,_,_,_,_,_,_,_,_,_,_,rfl,rfl,zQ.box,qar g5 _⟩
 case rest=>
  obtain⟨bb,U1,Un1,Uc1,U2,Un2,Uc2,U3,Un3,Uc3,U4,Un4,Uc4,rfl,rfl,hU,gU⟩:=hcut;have hV2:=hV.new gU;have hY2:=hY.new gU;clear e0 e1 e2 e3 HQ qW hE hp;have y0:=hY2.d0;have y1:=hY2.d1;have y2:=hY2.d2;have y3:=hY2.d3;have e0:=hV2.d0;have e1:=hV2.d1;have e2:=hV2.d2;have e3:=hV2.d3;have u0:=hU.d0;have u1:=hU.d1;have u2:=hU.d2;have u3:=hU.d3;cases Q with
  |none=>
   obtain rfl:b=c:=Hc.out;go_wp2_with fail;refine(qo _ _ _ _ hV2.cv hY2.cv).mono ?_;rintro e w7 ⟨rfl,hg7⟩;go_wp2_with fail;exact HG.of (qad gU hg7)
  |some cy=>
   obtain rfl:cy=c:=Hc.out;go_wp2_with fail;refine(qo _ _ _ _ hU.cv hY2.cv).mono ?_;rintro e w7 ⟨rfl,hg7⟩;go_wp2_with fail;exact HG.of (qad gU hg7)
end
theorem qkg{W:World}{ea:Addr}{v:Value}{n g o c:Nat}{cs:Array Value}{e:TypeId}{fr:Nat×Nat}(S:Start W ea)(H:qC W v n g o c cs e fr) :
   qc prog (qv W) (λ_=>False) (λ_=>False) (λ_=>.left) 1 0 0 (G (Frame.enter prog 5 #[v] .normal) []) W:=by
 refine qjo S H (λts w z pv cv nw qa l hD zy hb hO hE=>?_);have OO:∀M:Mks (gr2 W.heap.size g ea).base,zL ((gr2 W.heap.size g ea).base.pen M):=λM=>q4o M;have O:zx ((gr2 W.heap.size g ea).base.pen (mk2 W.heap.size g cs ea)) (λ_=>False) (λ_=>False):=⟨λ_ h=>h.elim,λ_ h=>h.elim⟩;have hT:∀i,i≠0->(λ_=>qA.left:Nat->qA) i=.left:=λ_ _=>rfl;rw[qkf];refine qao ?_;generalize hc5:Code.seq q8 _=c5;simp only[qh4,qa4,qax,f5,Option.getD_some];refine qau ?_;simp only[List.size_toArray,length_cons,length_nil,Nat.reduceAdd,Nat.zero_add,range,range.loop]
 refine jy OO hb hD.rn hD.ri hE (λx hx=>by have:=hD.sc.2 x hx;omega) O hT (by decide) (by decide) (by decide) zy hD.size (p0:=25) (p1:=26) (p2:=27) (tc:=28) (tm:=24) (tv:=29) (tb:=30) (tx:=6) (tk:=7)
  ⟨⟨_,_,rfl,rfl,rfl,rfl⟩,⟨_,rfl,rfl,rfl,rfl⟩,⟨_,rfl,rfl,rfl,rfl⟩,⟨_,rfl,rfl,rfl,rfl⟩,⟨_,rfl,rfl,rfl,rfl⟩,⟨_,rfl,rfl,rfl,rfl⟩,⟨_,rfl,rfl,rfl,rfl⟩⟩ rfl rfl rfl hD.s3 hD.s4 hD.s5 (by decide) (by decide)
  (λw4 z4 M4 Sh4 Fz4 T4 n4 A1 m1 c1 A2 m2 c2 A3 m3 c3 A4 m4 c4 R hle hb4 hg4 O4 hh4 hT4 hn4 xS hF hB hR ok4=>?_)
 have hO4:=hO.step hb4 hle hh4 hb.size hg4;subst hc5;have hs:=hD.size
 have R4:jA 106 (qb0 (((ts.setIfInBounds 25 pv).setIfInBounds 26 (.int .i64 nw)).setIfInBounds 27 cv) 28 24 29 30 6 7 (.agg #[.slice A1 m1 c1,.slice A2 m2 c2,.slice A3 m3 c3,.slice A4 m4 c4]) (qas qa nw l).isSome R) z4 pv cv nw qa l R ((qas qa nw l).getD qdk) (qas qa nw l).isSome:=
  ⟨jb.trans (by simp[hs]),qd7 (by decide) hD.s3,qd7 (by decide) hD.s4,qd7 (by decide) hD.s5,qhp (by decide) (by simp[hs]),qhq (by simp[hs]),hg4.rn hD.rn,hg4.ri hD.ri,_,_,_,_,_,_,_,_,_,_,_,_,q99 hF hB⟩
 generalize qb0 _ _ _ _ _ _ _ _ _ _=t4 at ok4 R4 |-;obtain⟨cc,hcc⟩:∃cc,cc=(qas qa nw l).getD qdk:=⟨_,rfl⟩;obtain⟨ok,hok⟩:∃ok,ok=(qas qa nw l).isSome:=⟨_,rfl⟩;rw[<-hcc,<-hok]at R4;have hE4:=hg4.err hE;refine qao ?_
 refine qbg (gr:=gr2 W.heap.size g ea) (OO M4) func5 ok4 qi4 hb4 (O4.alone hT4) (qaq hT4) (Q:=λe a x=>e=.normal/\HG z4 x/\zI 106 a.tmps x pv cv nw qa l R cc ok)
  (λe a x y exy h=>⟨h.1,h.2.1.heap exy,h.2.2.heap exy⟩) (λX eX=>wp_mono (qmu hD.sp hD.sc hok hcc t4 X R4.size (R4.heap eX)) (λe a x h=>⟨h.1,h.2.1.from eX.symm,h.2.2⟩)) (λe a x h=>by rw[h.1];trivial) ?_
 rintro e5 ⟨t5,d5⟩ td5 w5 z5 hb5 hh5-ok5 xV-⟨rfl,hg5,T5⟩;rw[xV rfl];have hO5:=hO4.step hb5 (Mks.Le.refl _) hh5.but hb4.size hg5;show qc prog (qv W) Sh4 Fz4 T4 n4 0 0 (G ((base 5).at ⟨t5,[]⟩ [.code _]) []) w5;replace T5:zI 106 t5 z5 pv cv nw qa l R cc ok:=T5;refine qao ?_
 refine qbg (gr:=gr2 W.heap.size g ea) (OO M4) func5 ok5 qi5 hb5 (O4.alone hT4) (qaq hT4) (Q:=λe a x=>HG z5 x/\((e=.ret/\a.tmps[2]?=some (.bool true))∨(e=.normal/\ok=true/\0<l.length/\jA 106 a.tmps x pv cv nw qa l R cc ok)))
  (λe a x y exy h=>⟨h.1.heap exy,h.2.imp id (λk=>⟨k.1,k.2.1,k.2.2.1,k.2.2.2.heap exy⟩)⟩) (λX eX=>wp_mono (qmv t5 X T5.run.size (T5.heap eX)) (λe a x h=>⟨h.1.from eX.symm,h.2⟩)) (λe a x h=>by rcases h.2 with h|h<;>(rw[h.1];trivial)) ?_
 rintro e6 ⟨t6,d6⟩ td6 w6 z6 hb6 hh6-ok6 yu-⟨hg6,⟨rfl,h62⟩|⟨rfl,yw,hz,R6⟩⟩
 . have hO6:=hO5.step hb6 (Mks.Le.refl _) hh6.but hb5.size hg6;show qc prog (qv W) Sh4 Fz4 T4 n4 0 0 (G {(base 5).at ⟨t6,[]⟩ (td6++_)with mode:=.returning} []) w6;exact qf8 func5 (by kernel_rfl) rfl h62 hT4 (by omega) (λd=>hO6.fin d)
 rw[yu rfl];have hO6:=hO5.step hb6 (Mks.Le.refl _) hh6.but hb5.size hg6;show qc prog (qv W) Sh4 Fz4 T4 n4 0 0 (G ((base 5).at ⟨t6,[]⟩ [.code _]) []) w6;replace R6:jA 106 t6 z6 pv cv nw qa l R cc ok:=R6;rw[yw]at hok;obtain⟨c',hc'⟩:=Option.isSome_iff_exists.1 hok.symm;obtain rfl:cc=c':=by rw[hcc,hc'];rfl
 obtain⟨cn,hcn,_,_⟩:=qex hc';obtain⟨hn1,qjM,_,_⟩:=qf9 hcn;have hE6:=(hg5.trans hg6).err hE4;refine qao ?_
 refine qbg (gr:=gr2 W.heap.size g ea) (OO M4) func5 ok6 qi2 hb6 (O4.alone hT4) (qaq hT4) (Q:=λe a x=>e=.normal/\x.heap=z6.heap/\jA 106 a.tmps x pv cv nw qa l R cc ok/\a.tmps[10]?=some (.int .i64 ((l.length-1:Nat):Int)))
  (λe a x y exy h=>⟨h.1,exy.symm.trans h.2.1,h.2.2.1.heap exy,h.2.2.2⟩)
  (λX eX=>wp_mono (qmt hz t6 X R6.size (R6.heap eX)) (λe a x h=>⟨h.1,h.2.1.trans eX.symm,h.2.2⟩)) (λe a x h=>by rw[h.1];trivial) ?_
 rintro e8 ⟨t8,d8⟩ td8 w8 z8 hb8 hh8-ok8 qgO-⟨rfl,ez8,R8,hx8⟩;rw[qgO rfl];show qc prog (qv W) Sh4 Fz4 T4 n4 0 0 (G ((base 5).at ⟨t8,[]⟩ [.code _]) []) w8;replace R8:jA 106 t8 z8 pv cv nw qa l R cc ok:=R8;replace hx8:t8[10]?=some (.int .i64 ((l.length-1:Nat):Int)):=hx8;have hO8:=hO6.step hb8 (Mks.Le.refl _) hh8.but hb6.size (qcs ez8);have hE8:=(qcs (x:=z6) (y:=z8) ez8).err hE6;obtain⟨n,hn⟩:∃n,n=l.length-1:=⟨_,rfl⟩;rw[<-hn]at hx8;have hnl:n<l.length:=by omega
 obtain⟨I1,im,ic,rfl,hic,him⟩:=R8.ri.form';obtain⟨gI,oI,xv,rfl,hxv,-⟩:=R8.ri.at_ (k:=n) (by omega)
 have qcY:l=l.take n++[xv]:=by
  obtain⟨h1,rfl⟩:=List.getElem?_eq_some_iff.1 hxv;rw[<-take_succ_eq_append_getElem h1,show n+1=l.length by omega,take_length]
 have hlast:=hc';rw[qcY]at hlast;obtain⟨b,hb1,hb2⟩:=qzr hlast;have xg:=R8.size;refine qao ?_;generalize hc9:q9=c9;simp only[qh3,qa4,qax,f5,Option.getD_some];refine qau ?_;simp only[List.size_toArray,length_cons,length_nil,Nat.reduceAdd,Nat.zero_add,range,range.loop];refine qea (OO _) ok8 hb8 (O4.alone hT4) (qaq hT4) (by decide) rfl R8.s3 (λwa za hba hza hha oka=>?_);refine qea (OO _) oka hba (O4.alone hT4) (qaq hT4) (by decide) rfl ((qai (by decide)).trans R8.s4) (λwb zb hbb hzb hhb okb=>?_);refine qea (OO _) okb hbb (O4.alone hT4) (qaq hT4) (by decide) rfl ((qai (by decide)).trans ((qai (by decide)).trans R8.s5)) (λwc zc hbc hzc hhc okc=>?_);refine qea (OO _) okc hbc (O4.alone hT4) (qaq hT4) (by decide) rfl ((qai (by decide)).trans ((qai (by decide)).trans ((qai (by decide)).trans hx8))) (λwd zd hbd hzd hhd okd=>?_);refine qsR (OO _) okd hbd (O4.alone hT4) (qaq hT4) (by decide) rfl ((qai (by decide)).trans (getSet (by simp[xg]))) (getSet (by simp[xg])) (by omega) (λwe ze hbe hze hhe oke=>?_);have eze:z8.heap=ze.heap:=(hze.trans (hzd.trans (hzc.trans (hzb.trans hza)))).symm;have hOe:=hO8.step hbe (Mks.Le.refl _) ((((hha.trans hhb).trans hhc).trans hhd).trans hhe).but hb8.size (qcs eze.symm);have hEe:=(qcs (x:=z8) (y:=ze) eze.symm).err hE8;have qsS:=R8.ri.heap eze
 refine qis (l:=l.take n) OO hbe (R8.rn.heap eze) (qsS.take (by omega)) hEe (fun x hx=>by
     have:=hD.sc.2 x (mem_of_mem_take hx);omega) O4 hT4 (by omega) (by omega) (by decide) oke (i:=5) (p0:=68) (p1:=69) (p2:=72) (tc:=73) (tm:=67) (tv:=74) (tb:=75) (tx:=11) (tk:=12)
  ⟨⟨_,_,rfl,rfl,rfl,rfl⟩,⟨_,rfl,rfl,rfl,rfl⟩,⟨_,rfl,rfl,rfl,rfl⟩,⟨_,rfl,rfl,rfl,rfl⟩,⟨_,rfl,rfl,rfl,rfl⟩,⟨_,rfl,rfl,rfl,rfl⟩,⟨_,rfl,rfl,rfl,rfl⟩⟩
  ((qai (by decide)).trans ((qai (by decide)).trans ((qai (by decide)).trans ((qai (by decide)).trans (getSet (by rw[xg];decide)))))) ((qai (by decide)).trans ((qai (by decide)).trans ((qai (by decide)).trans (getSet (by simp[xg]))))) (getSet (by simp[xg])) (by simp[xg]) (by simp[xg]) (by simp[xg]) (by simp[xg]) (by simp[xg]) (by decide) (by decide) (by decide) (by decide)
  (λwf zf Mf Shf Fzf Tf nf B1 r1 f1 B2 r2 f2 B3 r3 f3 B4 r4 f4 Rf kp hbf hgf Of hhf hTf hnf qjI hFf hBf hRf okf=>?_)
 have hOf:=hOe.step hbf kp hhf hbe.size hgf;refine qan ?_;subst hc9;rw[hb1]at hFf okf |-
 have gt:∀(t:Nat) (u:Value),[68,69,70,71,72,73,67,74,75,11,12].all (λx=>x != t)=true->t8[t]?=some u->(qb0 (((((t8.setIfInBounds 68 pv).setIfInBounds 69 (.int .i64 nw)).setIfInBounds 70 (.slice (some ⟨gI,oI,none⟩) im ic)).setIfInBounds 71 (.int .i64 (n:Nat))).setIfInBounds 72 (.slice (some ⟨gI,oI,none⟩) n ic)) 73 67 74 75 11 12 (.agg #[.slice B1 r1 f1,.slice B2 r2 f2,.slice B3 r3 f3,.slice B4 r4 f4]) (some b).isSome Rf)[t]?=some u:=λt u h hu=>by
  simp only[all_cons,all_nil,Bool.and_true,Bool.and_eq_true,bne_iff_ne]at h;obtain⟨h1,h2,h3,h4,h5,h6,h7,h8,h9,h10,h11⟩:=h;unfold qb0;rw[qai h11,qai h10,qai h9,qai h8,qai h7,qai h6,qai h5,qai h4,qai h3,qai h2,qai h1];exact hu
 have sl3:=gt 3 pv (by decide) R8.s3;have sl4:=gt 4 _ (by decide) R8.s4;have sl5:=gt 5 _ (by decide) R8.s5;have sl6:=gt 6 _ (by decide) R8.s6;have qjN:=gt 10 _ (by decide) hx8;clear gt;have slz:(qb0 (((((t8.setIfInBounds 68 pv).setIfInBounds 69 (.int .i64 nw)).setIfInBounds 70 (.slice (some ⟨gI,oI,none⟩) im ic)).setIfInBounds 71 (.int .i64 (n:Nat))).setIfInBounds 72 (.slice (some ⟨gI,oI,none⟩) n ic)) 73 67 74 75 11 12 (.agg #[.slice B1 r1 f1,.slice B2 r2 f2,.slice B3 r3 f3,.slice B4 r4 f4]) (some b).isSome Rf).size=106:=jb.trans (by simp[xg]);have qjO:=qhp (ts:=((((t8.setIfInBounds 68 pv).setIfInBounds 69 (.int .i64 nw)).setIfInBounds 70 (.slice (some ⟨gI,oI,none⟩) im ic)).setIfInBounds 71 (.int .i64 (n:Nat))).setIfInBounds 72 (.slice (some ⟨gI,oI,none⟩) n ic)) (tc:=73) (tm:=67) (tv:=74) (tb:=75) (tx:=11) (tk:=12) (v:=.agg #[.slice B1 r1 f1,.slice B2 r2 f2,.slice B3 r3 f3,.slice B4 r4 f4]) (b:=(some b).isSome) (R:=Rf) (by decide) (by simp[xg]);have qaZ:=qhq (ts:=((((t8.setIfInBounds 68 pv).setIfInBounds 69 (.int .i64 nw)).setIfInBounds 70 (.slice (some ⟨gI,oI,none⟩) im ic)).setIfInBounds 71 (.int .i64 (n:Nat))).setIfInBounds 72 (.slice (some ⟨gI,oI,none⟩) n ic)) (tc:=73) (tm:=67) (tv:=74) (tb:=75) (tx:=11) (tk:=12) (v:=.agg #[.slice B1 r1 f1,.slice B2 r2 f2,.slice B3 r3 f3,.slice B4 r4 f4]) (b:=(some b).isSome) (R:=Rf) (by simp[xg]);generalize qb0 _ _ _ _ _ _ _ _ _ _=tf at okf sl3 sl4 sl5 sl6 qjN qjO qaZ slz |-;obtain⟨Y1,Yn1,Yc1,Y2,Yn2,Yc2,Y3,Yn3,Yc3,Y4,Yn4,Yc4,hY⟩:=R8.box;have h8f:HG z8 zf:=(qcs (x:=z8) (y:=ze) eze.symm).trans hgf;have hYf:=h8f.box hY;have hVf:=q99 hFf hBf;have hEf:=h8f.err hE8;have qgN:=h8f.rn R8.rn
 have hcell:zf.cell? ⟨gI,oI+n,none⟩=some (.int .i64 xv):=by
  obtain⟨g',o',x',e1,e2,e3⟩:=(h8f.ri R8.ri).at_ (k:=n) (by omega);rw[hxv]at e2;injection e2 with e2;injection e1 with e1;injection e1 with e4 e5;subst e2 e4 e5;exact e3
 have hfit:=qpq (qh7 hb1).1
 refine qbg (gr:=gr2 W.heap.size g ea) (OO Mf) func5 okf qi3 hbf (Of.alone hTf) (qaq hTf) (Q:=λe a x=>e=.ret/\HG zf x/\a.tmps[2]?=some (.bool true)) (λe a x y exy h=>⟨h.1,h.2.1.heap exy,h.2.2⟩)
  (λX eX=>wp_mono (qlq tf X slz sl3 sl4 sl5 sl6 qjN qjO qaZ ((qcs (x:=zf) (y:=X) eX.symm).err hEf) (qgN.heap eX) (by omega) (by
   have k:cell? {X with heap:=zf.heap} ⟨gI,oI+n,none⟩=some (.int .i64 xv):=hcell;rw[eX]at k;exact k) (by omega) rfl (hVf.heap eX) (hYf.heap eX) hfit hb2) (λe a x h=>⟨h.1,h.2.1.from eX.symm,h.2.2⟩)) (λe a x h=>by rw[h.1];trivial) ?_
 rintro eg ⟨tg,dg⟩ tdg wg zg hbg hhg-okg - - ⟨rfl,hgg,hg2⟩;have hOg:=hOf.step hbg (Mks.Le.refl _) hhg.but hbf.size hgg;show qc prog (qv W) Shf Fzf Tf nf 0 0 (G {(base 5).at ⟨tg,[]⟩ (tdg++_)with mode:=.returning} []) wg;exact qf8 func5 (by kernel_rfl) rfl hg2 hTf (by omega) (λd=>hOg.fin d)
end
end Go.Proofs.YtacemdoejblgaaaGreatDoor
