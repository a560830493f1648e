/- Part SFnScheduleRest. Conditions: each statement's. -/
import Derived.Test.YtacemdoejblgaaaGreatDoorM24
namespace Go.Proofs.YtacemdoejblgaaaGreatDoor
open List _root_.Go.Proofs.Tryz World
set_option maxRecDepth 100000
set_option maxHeartbeats 6400000
section
open Go.RowKit
theorem qo(va vb:Value)(c:qj)(w:World)(ha:CV w va c)(hb:CV w vb c):Calls prog 15 #[va,vb] w λe w'=>e=.returned (.bool true)/\w.grownBy w' none:=by
 obtain⟨A1,n1,c1,A2,n2,c2,A3,n3,c3,A4,n4,c4,rfl,-,-,-,-⟩:=ha.form;obtain⟨B1,m1,e1,B2,m2,e2,B3,m3,e3,B4,m4,e4,rfl,-,-,-,-⟩:=hb.form;have hX:=ha.box.new (grownBy_alloc _ (.cells #[.slice B1 m1 e1,.slice B2 m2 e2,.slice B3 m3 e3,.slice B4 m4 e4] 29) none);have hY:=(hb.new (grownBy_alloc w (.cells #[.slice A1 n1 c1,.slice A2 n2 c2,.slice A3 n3 c3,.slice A4 n4 c4] 29) none)).box;rw[size_alloc]at hY;have g1:w.grownBy ((w.alloc (.cells #[.slice A1 n1 c1,.slice A2 n2 c2,.slice A3 n3 c3,.slice A4 n4 c4] 29)).alloc (.cells #[.slice B1 m1 e1,.slice B2 m2 e2,.slice B3 m3 e3,.slice B4 m4 e4] 29)) none:=qar (qar (qah w none) _) _;clear ha hb;go_enter func15,ntmps15;go_upto_region 1 with fail;generalize ((w.alloc (.cells #[.slice A1 n1 c1,.slice A2 n2 c2,.slice A3 n3 c3,.slice A4 n4 c4] 29)).alloc (.cells #[.slice B1 m1 e1,.slice B2 m2 e2,.slice B3 m3 e3,.slice B4 m4 e4] 29))=W at hX hY g1 |-;have x0:=hX.d0;have y0:=hY.d0;go_wp2_with fail;refine(qce _ _ c.qb c.qb W hX.dq hY.dq (c:=true) (decide_eq_true rfl)).mono ?_;rintro e w1 ⟨rfl,hg1⟩;replace hX:=hX.new hg1;replace hY:=hY.new hg1;replace g1:=qad g1 hg1;clear x0 y0 hg1;have x1:=hX.d1;have y1:=hY.d1;go_wp2_with fail;refine(qcv _ _ c.counts c.counts w1 hX.ct hY.ct (c:=true) (decide_eq_true rfl)).mono ?_;rintro e w2 ⟨rfl,hg1⟩;replace hX:=hX.new hg1;replace hY:=hY.new hg1;replace g1:=qad g1 hg1;clear x1 y1 hg1;have x2:=hX.d2;have y2:=hY.d2;go_wp2_with fail;refine(qcv _ _ c.done c.done w2 hX.dn hY.dn (c:=true) (decide_eq_true rfl)).mono ?_;rintro e w3 ⟨rfl,hg1⟩;replace hX:=hX.new hg1;replace hY:=hY.new hg1;replace g1:=qad g1 hg1;clear x2 y2 hg1;have x3:=hX.d3;have y3:=hY.d3;go_wp2_with fail;refine(qce _ _ c.rows c.rows w3 hX.ro hY.ro (c:=true) (decide_eq_true rfl)).mono ?_;rintro e w4 ⟨rfl,hg1⟩;go_wp2;go_ret;exact⟨rfl,qad g1 hg1⟩
end
section
theorem zB{l:List Int}(h:qbt l=true):∀x∈l,0<=x:=by
 unfold qbt at h;simp only[Bool.and_eq_true,decide_eq_true_eq,List.all_eq_true]at h;exact h.2
theorem qqu{qa:List Node}{n:Int}(hn:1<=n):∀(l:List Int) (c:qj),(∀x∈l,0<=x)->qdy qa n c (l.map (·+n))=qdy qa n c l
 |[],_,_=>rfl
 |x::l,c,h=>by
  have h0:=h x (by simp)
  have e:(x+n).tmod n=x.tmod n:=by
   rw[Int.tmod_eq_emod_of_nonneg (by omega),Int.tmod_eq_emod_of_nonneg h0,Int.add_emod_right]
  have ih:=qqu (qa:=qa) hn l ((qa0 qa c (x.tmod n)).getD c) (λy hy=>h y (by simp[hy]));unfold qdy at ih |-;simp only[map_cons,foldl_cons,e];exact ih
theorem qxi{qa:List Node}{n:Int}{l:List Int}{c:qj}(h:qas qa n l=some c):qas qa n (l.map (·+n))=some c:=by
 obtain⟨c0,hc,hl,rfl⟩:=qex h;obtain⟨hn,_⟩:=qf9 hc;have hp:=zB hl
 have hl2:qbt (l.map (·+n))=true:=by
  unfold qbt at hl |-;simp only[Bool.and_eq_true,decide_eq_true_eq,List.all_eq_true,length_map]at hl |-;refine⟨hl.1,λy hy=>?_⟩;obtain⟨x,hx,rfl⟩:=mem_map.1 hy;have:=hl.2 x hx;omega
 rw[qf6 hc hl2,qqu hn l c0 hp]
end
section
open Go.Conc Go.RowKit
section
variable {NT:Nat}{ts:Array Value}{x y:World}{pv cv:Value}{nw:Int}{qa:List Node}{l:List Int}{R:Nat}{c:qj}{ok:Bool}
theorem jA.heap(e:x.heap=y.heap)(h:jA NT ts x pv cv nw qa l R c ok):jA NT ts y pv cv nw qa l R c ok:=
 ⟨h.size,h.s3,h.s4,h.s5,h.s6,h.s7,h.rn.heap e,h.ri.heap e,by
  obtain⟨Y1,Yn1,Yc1,Y2,Yn2,Yc2,Y3,Yn3,Yc3,Y4,Yn4,Yc4,k⟩:=h.box;exact⟨Y1,Yn1,Yc1,Y2,Yn2,Yc2,Y3,Yn3,Yc3,Y4,Yn4,Yc4,k.heap e⟩⟩
theorem zI.heap(e:x.heap=y.heap)(h:zI NT ts x pv cv nw qa l R c ok):zI NT ts y pv cv nw qa l R c ok:=
 ⟨h.run.heap e,by
  obtain⟨Z,Z1,Zn1,Zc1,Z2,Zn2,Zc2,Z3,Zn3,Zc3,Z4,Zn4,Zc4,k1,k2,k3⟩:=h.told;exact⟨Z,Z1,Zn1,Zc1,Z2,Zn2,Zc2,Z3,Zn3,Zc3,Z4,Zn4,Zc4,k1,k2,k3.heap e⟩⟩
end
theorem q1i{P:Array Value->Prop}(hP:∀v0 v1 v2 v3 v4 v5 v6 v7 v8 v9 v10 v11 v12 v13 v14 v15 v16 v17 v18 v19 v20 v21 v22 v23 v24 v25 v26 v27 v28 v29 v30 v31 v32 v33 v34 v35 v36 v37 v38 v39 v40 v41 v42 v43 v44 v45 v46 v47 v48 v49 v50 v51 v52 v53 v54 v55 v56 v57 v58 v59 v60 v61 v62 v63 v64 v65 v66 v67 v68 v69 v70 v71 v72 v73 v74 v75 v76 v77 v78 v79 v80 v81 v82 v83 v84 v85 v86:Value,P #[v0,v1,v2,v3,v4,v5,v6,v7,v8,v9,v10,v11,v12,v13,v14,v15,v16,v17,v18,v19,v20,v21,v22,v23,v24,v25,v26,v27,v28,v29,v30,v31,v32,v33,v34,v35,v36,v37,v38,v39,v40,v41,v42,v43,v44,v45,v46,v47,v48,v49,v50,v51,v52,v53,v54,v55,v56,v57,v58,v59,v60,v61,v62,v63,v64,v65,v66,v67,v68,v69,v70,v71,v72,v73,v74,v75,v76,v77,v78,v79,v80,v81,v82,v83,v84,v85,v86])(T:Array Value)(h:T.size=87):P T:=by
 obtain⟨l⟩:=T;replace h:l.length=87:=h;obtain⟨v0,l0,rfl,h0⟩:=qaa h;obtain⟨v1,l1,rfl,h1⟩:=qaa h0;obtain⟨v2,l2,rfl,h2⟩:=qaa h1;obtain⟨v3,l3,rfl,h3⟩:=qaa h2;obtain⟨v4,l4,rfl,h4⟩:=qaa h3;obtain⟨v5,l5,rfl,h5⟩:=qaa h4;obtain⟨v6,l6,rfl,h6⟩:=qaa h5;obtain⟨v7,l7,rfl,h7⟩:=qaa h6;obtain⟨v8,l8,rfl,h8⟩:=qaa h7;obtain⟨v9,l9,rfl,h9⟩:=qaa h8;obtain⟨v10,l10,rfl,h10⟩:=qaa h9;obtain⟨v11,l11,rfl,h11⟩:=qaa h10;obtain⟨v12,l12,rfl,h12⟩:=qaa h11;obtain⟨v13,l13,rfl,h13⟩:=qaa h12;obtain⟨v14,l14,rfl,h14⟩:=qaa h13;obtain⟨v15,l15,rfl,h15⟩:=qaa h14;obtain⟨v16,l16,rfl,h16⟩:=qaa h15;obtain⟨v17,l17,rfl,h17⟩:=qaa h16;obtain⟨v18,l18,rfl,h18⟩:=qaa h17;obtain⟨v19,l19,rfl,h19⟩:=qaa h18;obtain⟨v20,l20,rfl,h20⟩:=qaa h19;obtain⟨v21,l21,rfl,h21⟩:=qaa h20;obtain⟨v22,l22,rfl,h22⟩:=qaa h21;obtain⟨v23,l23,rfl,h23⟩:=qaa h22;obtain⟨v24,l24,rfl,h24⟩:=qaa h23;obtain⟨v25,l25,rfl,h25⟩:=qaa h24;obtain⟨v26,l26,rfl,h26⟩:=qaa h25;obtain⟨v27,l27,rfl,h27⟩:=qaa h26;obtain⟨v28,l28,rfl,h28⟩:=qaa h27;obtain⟨v29,l29,rfl,h29⟩:=qaa h28;obtain⟨v30,l30,rfl,h30⟩:=qaa h29;obtain⟨v31,l31,rfl,h31⟩:=qaa h30;obtain⟨v32,l32,rfl,h32⟩:=qaa h31;obtain⟨v33,l33,rfl,h33⟩:=qaa h32;obtain⟨v34,l34,rfl,h34⟩:=qaa h33;obtain⟨v35,l35,rfl,h35⟩:=qaa h34;obtain⟨v36,l36,rfl,h36⟩:=qaa h35;obtain⟨v37,l37,rfl,h37⟩:=qaa h36;obtain⟨v38,l38,rfl,h38⟩:=qaa h37;obtain⟨v39,l39,rfl,h39⟩:=qaa h38;obtain⟨v40,l40,rfl,h40⟩:=qaa h39;obtain⟨v41,l41,rfl,h41⟩:=qaa h40;obtain⟨v42,l42,rfl,h42⟩:=qaa h41;obtain⟨v43,l43,rfl,h43⟩:=qaa h42;obtain⟨v44,l44,rfl,h44⟩:=qaa h43;obtain⟨v45,l45,rfl,h45⟩:=qaa h44;obtain⟨v46,l46,rfl,h46⟩:=qaa h45;obtain⟨v47,l47,rfl,h47⟩:=qaa h46;obtain⟨v48,l48,rfl,h48⟩:=qaa h47;obtain⟨v49,l49,rfl,h49⟩:=qaa h48;obtain⟨v50,l50,rfl,h50⟩:=qaa h49;obtain⟨v51,l51,rfl,h51⟩:=qaa h50;obtain⟨v52,l52,rfl,h52⟩:=qaa h51;obtain⟨v53,l53,rfl,h53⟩:=qaa h52;obtain⟨v54,l54,rfl,h54⟩:=qaa h53;obtain⟨v55,l55,rfl,h55⟩:=qaa h54;obtain⟨v56,l56,rfl,h56⟩:=qaa h55;obtain⟨v57,l57,rfl,h57⟩:=qaa h56;obtain⟨v58,l58,rfl,h58⟩:=qaa h57;obtain⟨v59,l59,rfl,h59⟩:=qaa h58;obtain⟨v60,l60,rfl,h60⟩:=qaa h59;obtain⟨v61,l61,rfl,h61⟩:=qaa h60;obtain⟨v62,l62,rfl,h62⟩:=qaa h61;obtain⟨v63,l63,rfl,h63⟩:=qaa h62;obtain⟨v64,l64,rfl,h64⟩:=qaa h63;obtain⟨v65,l65,rfl,h65⟩:=qaa h64;obtain⟨v66,l66,rfl,h66⟩:=qaa h65;obtain⟨v67,l67,rfl,h67⟩:=qaa h66;obtain⟨v68,l68,rfl,h68⟩:=qaa h67;obtain⟨v69,l69,rfl,h69⟩:=qaa h68;obtain⟨v70,l70,rfl,h70⟩:=qaa h69;obtain⟨v71,l71,rfl,h71⟩:=qaa h70;obtain⟨v72,l72,rfl,h72⟩:=qaa h71;obtain⟨v73,l73,rfl,h73⟩:=qaa h72;obtain⟨v74,l74,rfl,h74⟩:=qaa h73;obtain⟨v75,l75,rfl,h75⟩:=qaa h74;obtain⟨v76,l76,rfl,h76⟩:=qaa h75;obtain⟨v77,l77,rfl,h77⟩:=qaa h76;obtain⟨v78,l78,rfl,h78⟩:=qaa h77;obtain⟨v79,l79,rfl,h79⟩:=qaa h78;obtain⟨v80,l80,rfl,h80⟩:=qaa h79;obtain⟨v81,l81,rfl,h81⟩:=qaa h80;obtain⟨v82,l82,rfl,h82⟩:=qaa h81;obtain⟨v83,l83,rfl,h83⟩:=qaa h82;obtain⟨v84,l84,rfl,h84⟩:=qaa h83;obtain⟨v85,l85,rfl,h85⟩:=qaa h84;obtain⟨v86,l86,rfl,h86⟩:=qaa h85;obtain rfl:=eq_nil_of_length_eq_zero h86;exact hP _ _ _ _ _ _ _ _ _ _ _ _ _ _ _ _ _ _ _ _ _ _ _ _ _ _ _ _ _ _ _ _ _ _ _ _ _ _ _ _ _ _ _ _ _ _ _ _ _ _ _ _ _ _ _ _ _ _ _ _ _ _ _ _ _ _ _ _ _ _ _ _ _ _ _ _ _ _ _ _ _ _ _ _ _ _ _
noncomputable def qa6:Code:=Tryz.f3.body.getD .skip
noncomputable def j0:Code:=match qa6 with | .seq x _=>x|_=>.skip
noncomputable def j3:Code:=match qa6 with | .seq _ (.seq x _)=>x|_=>.skip
noncomputable def j4:Code:=match qa6 with | .seq _ (.seq _ (.seq x _))=>x|_=>.skip
noncomputable def qbb:Code:=match qa6 with | .seq _ (.seq _ (.seq _ x))=>x|_=>.skip
theorem qlr:qa6=.seq j0 (.seq j3 (.seq j4 qbb)):=rfl
theorem qls:qcl prog Fs Gs SN j0=true:=by kernel_rfl
theorem qlt:qcl prog Fs Gs SN j3=true:=by kernel_rfl
theorem qlu:qcl prog Fs Gs SN j4=true:=by kernel_rfl
section
variable {v:Value}{n:Nat}
theorem qrl(ts:Array Value)(X:World)(hs:ts.size=87)(h0:ts[0]?=some v):j0.wp prog (λe a x=>e=.normal/\x.heap=X.heap/\a.tmps.size=87/\a.tmps[0]?=some v/\a.tmps[2]?=some (.bool false)) ⟨ts,[]⟩ X:=by
 revert ts;refine q1i ?_;intro v0 v1 v2 v3 v4 v5 v6 v7 v8 v9 v10 v11 v12 v13 v14 v15 v16 v17 v18 v19 v20 v21 v22 v23 v24 v25 v26 v27 v28 v29 v30 v31 v32 v33 v34 v35 v36 v37 v38 v39 v40 v41 v42 v43 v44 v45 v46 v47 v48 v49 v50 v51 v52 v53 v54 v55 v56 v57 v58 v59 v60 v61 v62 v63 v64 v65 v66 v67 v68 v69 v70 v71 v72 v73 v74 v75 v76 v77 v78 v79 v80 v81 v82 v83 v84 v85 v86 h0;obtain rfl:v0=v:=by simpa using h0
 clear h0;simp only[j0,qa6,Tryz.f3,Option.getD_some];go_wp2_with fail
theorem qrm(hA:∃A c,v=.slice A n c)(ts:Array Value)(X:World)(hs:ts.size=87)(h0:ts[0]?=some v)(h2:ts[2]?=some (.bool false)):j3.wp prog (λe a x=>x.heap=X.heap/\((e=.normal/\n<=1048576/\a.tmps.size=87/\a.tmps[0]?=some v/\a.tmps[2]?=some (.bool false))∨(e=.ret/\a.tmps[2]?=some (.bool true)))) ⟨ts,[]⟩ X:=by
 obtain⟨A,c,rfl⟩:=hA;revert ts;refine q1i ?_;intro v0 v1 v2 v3 v4 v5 v6 v7 v8 v9 v10 v11 v12 v13 v14 v15 v16 v17 v18 v19 v20 v21 v22 v23 v24 v25 v26 v27 v28 v29 v30 v31 v32 v33 v34 v35 v36 v37 v38 v39 v40 v41 v42 v43 v44 v45 v46 v47 v48 v49 v50 v51 v52 v53 v54 v55 v56 v57 v58 v59 v60 v61 v62 v63 v64 v65 v66 v67 v68 v69 v70 v71 v72 v73 v74 v75 v76 v77 v78 v79 v80 v81 v82 v83 v84 v85 v86 h2 h0;obtain rfl:v0=.slice A n c:=by simpa using h0
 obtain rfl:v2=.bool false:=by simpa using h2
 clear h0 h2;simp only[j3,qa6,Tryz.f3,Option.getD_some];by_cases kx:1048576<n
 . go_wp2_with fail
 . have hle:n<=1048576:=by omega
   go_wp2_with fail
theorem qrn(hn:n<=1048576)(ts:Array Value)(X:World)(B0:Nat)(hs:ts.size=87)(h0:ts[0]?=some v)(h2:ts[2]?=some (.bool false))(hB:Bytes X B0 v n)(hX:B0<=X.heap.size) :
   j4.wp prog (λe a x=>e=.normal/\HG X x/\∃pv cv nw qa l,qY 87 a.tmps x pv cv nw qa l) ⟨ts,[]⟩ X:=by
 revert ts;refine q1i ?_;intro v0 v1 v2 v3 v4 v5 v6 v7 v8 v9 v10 v11 v12 v13 v14 v15 v16 v17 v18 v19 v20 v21 v22 v23 v24 v25 v26 v27 v28 v29 v30 v31 v32 v33 v34 v35 v36 v37 v38 v39 v40 v41 v42 v43 v44 v45 v46 v47 v48 v49 v50 v51 v52 v53 v54 v55 v56 v57 v58 v59 v60 v61 v62 v63 v64 v65 v66 v67 v68 v69 v70 v71 v72 v73 v74 v75 v76 v77 v78 v79 v80 v81 v82 v83 v84 v85 v86 h0 h2;obtain rfl:v0=v:=by simpa using h0
 obtain rfl:v2=.bool false:=by simpa using h2
 clear h0 h2;simp only[j4,qa6,Tryz.f3,Option.getD_some];go_wp2_with fail;refine(qfv B0 X _ n hB hX hn).mono ?_;rintro e w1 ⟨pv,cv,nw,qa,l,rfl,h1,h2,hr,hi,hp,hc,hg⟩;go_wp2_with fail;exact⟨HG.of hg,pv,cv,nw,qa,l,rfl,rfl,rfl,rfl,rfl,hr,hi,h1,h2,hp,hc⟩
end
theorem qmw{W:World}{ea:Addr}{v:Value}{n g o c:Nat}{cs:Array Value}{e:TypeId}{fr:Nat×Nat}(S:Start W ea)(H:qC W v n g o c cs e fr)
   (next:∀ts w z pv cv nw qa l,qY 87 ts z pv cv nw qa l->(∀u,u∈ts->Ok (gr2 W.heap.size g ea).A (gr2 W.heap.size g ea).F u)->Both ((gr2 W.heap.size g ea).base.pen (mk2 W.heap.size g cs ea)) w z->Old W ea g cs (mk2 W.heap.size g cs ea) w z->qm z ea ->
    qc prog (qv W) (λ_=>False) (λ_=>False) (λ_=>.left) 1 0 0 (G ((base 3).at ⟨ts,[]⟩ [.code qbb]) []) w) :
   qc prog (qv W) (λ_=>False) (λ_=>False) (λ_=>.left) 1 0 0 (G (Frame.enter prog 3 #[v] .normal) []) W:=by
 rw[enter_at (c:=qa6) _ func3 rfl,qlr];obtain⟨A,hA,-⟩:=H.v;refine qh9 S H func3 (by kernel_rfl) rfl qls qlt qlu (NT:=87) (by rw[ntmps3];simp) (λu hu=>?_) (by simp) (λts X=>qrl ts X) (λts X=>qrm ⟨A,_,hA⟩ ts X) (λhn ts X B0=>qrn hn ts X B0) next;rcases Array.mem_append.1 hu with hu|hu
 . exact .inl (by simpa using hu)
 . exact .inr (Array.eq_of_mem_replicate hu)
noncomputable def qkc:Code:=match qbb with | .seq x _=>x|_=>.skip
noncomputable def qU:Code:=match qbb with | .seq _ (.seq x _)=>x|_=>.skip
noncomputable def j5:Code:=match qbb with | .seq _ (.seq _ (.seq x _))=>x|_=>.skip
theorem qlv:qcl prog Fs Gs SN qU=true:=by kernel_rfl
theorem qlw:qcl prog Fs Gs SN j5=true:=by kernel_rfl
section
variable {pv cv:Value}{nw:Int}{qa:List Node}{l:List Int}{R:Nat}{c:qj}{ok:Bool}
theorem qro(sp:qe3 qa)(sc:qda l)(hok:ok=(qas qa nw l).isSome)(hc:c=(qas qa nw l).getD qdk)(ts:Array Value)(X:World)(hs:ts.size=87)(H:jA 87 ts X pv cv nw qa l R c ok) :
   qU.wp prog (λe a x=>e=.normal/\HG X x/\zI 87 a.tmps x pv cv nw qa l R c ok) ⟨ts,[]⟩ X:=by
 revert ts;refine q1i ?_;intro v0 v1 v2 v3 v4 v5 v6 v7 v8 v9 v10 v11 v12 v13 v14 v15 v16 v17 v18 v19 v20 v21 v22 v23 v24 v25 v26 v27 v28 v29 v30 v31 v32 v33 v34 v35 v36 v37 v38 v39 v40 v41 v42 v43 v44 v45 v46 v47 v48 v49 v50 v51 v52 v53 v54 v55 v56 v57 v58 v59 v60 v61 v62 v63 v64 v65 v66 v67 v68 v69 v70 v71 v72 v73 v74 v75 v76 v77 v78 v79 v80 v81 v82 v83 v84 v85 v86 H;obtain rfl:v3=pv:=by simpa using H.s3
 obtain rfl:v4=.int .i64 nw:=by simpa using H.s4
 obtain rfl:v5=cv:=by simpa using H.s5
 obtain rfl:v6=.pointer (some ⟨R,0,none⟩):=by simpa using H.s6
 obtain rfl:v7=.bool ok:=by simpa using H.s7
 have hp:=H.rn;have hl:=H.ri;obtain⟨Y1,Yn1,Yc1,Y2,Yn2,Yc2,Y3,Yn3,Yc3,Y4,Yn4,Yc4,hY4⟩:=H.box;clear H;obtain⟨P1,pn,pc,rfl,-,hpn,-⟩:=hp.form';obtain⟨I1,im,ic,rfl,-,him⟩:=hl.form';have Hpn:=Lib.hid hpn;have Him:=Lib.hid him;clear hpn him;have Hpl:Hid (qa.length<=1000000000):=by have:=sp.1;show _<=_;omega
 have Hll:Hid (l.length<=1000000000):=by have:=sc.1;show _<=_;omega
 have HT:Hid (∀w,RN w (.slice P1 pn pc) qa->RI w (.slice I1 im ic) l->Calls prog 14 #[.slice P1 pn pc,.int .i64 nw,.slice I1 im ic] w λe w'=>∃v,e=.returned (.tuple #[v,.bool ok])/\CV w' v c/\w.grownBy w' none):=λw h1 h2=>by
  refine(qeo _ _ qa nw l w h1 h2 Hpl.out Hll.out).mono ?_;intro e w' hT;obtain⟨v,k1,k2,k3⟩:=hT.open_;exact⟨v,by rw[k1,hok],by rw[hc];exact k2,k3⟩
 clear sp sc hok hc;simp only[qU,qbb,qa6,Tryz.f3,Option.getD_some];go_wp2_with fail;refine(HT.out X hp hl).mono ?_;rintro e w5 ⟨v5,rfl,zQ,hg5⟩;obtain⟨Z1,Zn1,Zc1,Z2,Zn2,Zc2,Z3,Zn3,Zc3,Z4,Zn4,Zc4,rfl,-,-,-,-⟩:=zQ.form;have hZ:=zQ.box;have gZ:=grownBy_alloc w5 (.cells #[.slice Z1 Zn1 Zc1,.slice Z2 Zn2 Zc2,.slice Z3 Zn3 Zc3,.slice Z4 Zn4 Zc4] 29) none;have hY6:=(hY4.new hg5).new gZ;have hp6:=(hp.new hg5).new gZ;have hl6:=(hl.new hg5).new gZ;have g6:=qad hg5 gZ;go_wp2_with fail;exact⟨HG.of g6,⟨rfl,rfl,rfl,rfl,rfl,rfl,hp6,hl6,_,_,_,_,_,_,_,_,_,_,_,_,hY6⟩,_,_,_,_,_,_,_,_,_,_,_,_,_,rfl,rfl,hZ⟩
theorem qrp(ts:Array Value)(X:World)(hs:ts.size=87)(H:zI 87 ts X pv cv nw qa l R c ok) :
   j5.wp prog (λe a x=>HG X x/\((e=.ret/\a.tmps[2]?=some (.bool true))∨(e=.normal/\ok=true/\jA 87 a.tmps x pv cv nw qa l R c ok))) ⟨ts,[]⟩ X:=by
 revert ts;refine q1i ?_;intro v0 v1 v2 v3 v4 v5 v6 v7 v8 v9 v10 v11 v12 v13 v14 v15 v16 v17 v18 v19 v20 v21 v22 v23 v24 v25 v26 v27 v28 v29 v30 v31 v32 v33 v34 v35 v36 v37 v38 v39 v40 v41 v42 v43 v44 v45 v46 v47 v48 v49 v50 v51 v52 v53 v54 v55 v56 v57 v58 v59 v60 v61 v62 v63 v64 v65 v66 v67 v68 v69 v70 v71 v72 v73 v74 v75 v76 v77 v78 v79 v80 v81 v82 v83 v84 v85 v86 H;obtain⟨Z,Z1,Zn1,Zc1,Z2,Zn2,Zc2,Z3,Zn3,Zc3,Z4,Zn4,Zc4,s8,s9,hZ⟩:=H.told;obtain rfl:v3=pv:=by simpa using H.run.s3
 obtain rfl:v4=.int .i64 nw:=by simpa using H.run.s4
 obtain rfl:v5=cv:=by simpa using H.run.s5
 obtain rfl:v6=.pointer (some ⟨R,0,none⟩):=by simpa using H.run.s6
 obtain rfl:v7=.bool ok:=by simpa using H.run.s7
 obtain rfl:v8=.pointer (some ⟨Z,0,none⟩):=by simpa using s8
 obtain rfl:v9=.bool ok:=by simpa using s9
 have hp:=H.run.rn;have hl:=H.run.ri;obtain⟨Y1,Yn1,Yc1,Y2,Yn2,Yc2,Y3,Yn3,Yc3,Y4,Yn4,Yc4,hY⟩:=H.run.box;clear H s8 s9;have y0:=hY.d0;have y1:=hY.d1;have y2:=hY.d2;have y3:=hY.d3;have z0:=hZ.d0;have z1:=hZ.d1;have z2:=hZ.d2;have z3:=hZ.d3;simp only[j5,qbb,qa6,Tryz.f3,Option.getD_some];cases ok with
 |false=>
  go_wp2_with fail;refine(qo _ _ _ X hY.cv hZ.cv).mono ?_;rintro e w7 ⟨rfl,hg7⟩;have hY7:=hY.new hg7;have hZ7:=hZ.new hg7;clear y0 y1 y2 y3 z0 z1 z2 z3 hY hZ;have y0:=hY7.d0;have y1:=hY7.d1;have y2:=hY7.d2;have y3:=hY7.d3;have z0:=hZ7.d0;have z1:=hZ7.d1;have z2:=hZ7.d2;have z3:=hZ7.d3;go_wp2_with fail;refine(qo _ _ _ w7 hY7.cv hZ7.cv).mono ?_;rintro e w8 ⟨rfl,hg8⟩;go_wp2_with fail;exact HG.of (qad hg7 hg8)
 |true=>
  go_wp2_with fail;refine(qo _ _ _ X hY.cv hZ.cv).mono ?_;rintro e w7 ⟨rfl,hg7⟩;have hp7:=hp.new hg7;have hl7:=hl.new hg7;have hY7:=hY.new hg7;go_wp2_with fail;exact⟨HG.of hg7,rfl,rfl,rfl,rfl,rfl,rfl,hp7,hl7,_,_,_,_,_,_,_,_,_,_,_,_,hY7⟩
end
noncomputable def j6:Code:=match qbb with | .seq _ (.seq _ (.seq _ (.seq x _)))=>x|_=>.skip
noncomputable def j7:Code:=match qbb with | .seq _ (.seq _ (.seq _ (.seq _ (.seq x _))))=>x|_=>.skip
noncomputable def qi6:Code:=match qbb with | .seq _ (.seq _ (.seq _ (.seq _ (.seq _ (.seq x _)))))=>x|_=>.skip
noncomputable def qK:Code:=match qbb with | .seq _ (.seq _ (.seq _ (.seq _ (.seq _ (.seq _ x)))))=>x|_=>.skip
theorem qn5:qbb=.seq qkc (.seq qU (.seq j5 (.seq j6 (.seq j7 (.seq qi6 qK))))):=rfl
theorem qlx:qcl prog Fs Gs SN j6=true:=by kernel_rfl
theorem qly:qcl prog Fs Gs SN j7=true:=by kernel_rfl
theorem qkh:qcl prog Fs Gs SN qK=true:=by kernel_rfl
section
variable {pv cv:Value}{nw:Int}{qa:List Node}{l:List Int}{R:Nat}{c:qj}{ok:Bool}
theorem qrq(ts:Array Value)(X:World)(hs:ts.size=87)(H:jA 87 ts X pv cv nw qa l R c ok) :
   j6.wp prog (λe a x=>e=.normal/\HG X x/\jA 87 a.tmps x pv cv nw qa l R c ok/\∃xs,a.tmps[10]?=some xs/\qg x X.heap.size xs []) ⟨ts,[]⟩ X:=by
 revert ts;refine q1i ?_;intro v0 v1 v2 v3 v4 v5 v6 v7 v8 v9 v10 v11 v12 v13 v14 v15 v16 v17 v18 v19 v20 v21 v22 v23 v24 v25 v26 v27 v28 v29 v30 v31 v32 v33 v34 v35 v36 v37 v38 v39 v40 v41 v42 v43 v44 v45 v46 v47 v48 v49 v50 v51 v52 v53 v54 v55 v56 v57 v58 v59 v60 v61 v62 v63 v64 v65 v66 v67 v68 v69 v70 v71 v72 v73 v74 v75 v76 v77 v78 v79 v80 v81 v82 v83 v84 v85 v86 H;obtain rfl:v3=pv:=by simpa using H.s3
 obtain rfl:v4=.int .i64 nw:=by simpa using H.s4
 obtain rfl:v5=cv:=by simpa using H.s5
 obtain rfl:v6=.pointer (some ⟨R,0,none⟩):=by simpa using H.s6
 obtain rfl:v7=.bool ok:=by simpa using H.s7
 have hp:=H.rn;have hl:=H.ri;obtain⟨Y1,Yn1,Yc1,Y2,Yn2,Yc2,Y3,Yn3,Yc3,Y4,Yn4,Yc4,hY⟩:=H.box;clear H;simp only[j6,qbb,qa6,Tryz.f3,Option.getD_some];have hg:=grownBy_alloc X (.cells #[] 3) none;have ho:=qg.empty X (base:=X.heap.size) (Nat.le_refl _);have hp1:=hp.new hg;have hl1:=hl.new hg;have hY1:=hY.new hg;go_wp2_with fail;exact⟨HG.of hg,rfl,rfl,rfl,rfl,rfl,rfl,hp1,hl1,_,_,_,_,_,_,_,_,_,_,_,_,hY1⟩
theorem qrr(hn1:1<=nw)(hn4:nw<=4)(sc:qda l)(ts:Array Value)(X w0:World)(hs:ts.size=87)(H:jA 87 ts w0 pv cv nw qa l R c ok)(hw:HG w0 X)(xs:Value)(hx:ts[10]?=some xs)(ho:qg X w0.heap.size xs []) :
   j7.wp prog (λe a x=>e=.normal/\HG w0 x/\jA 87 a.tmps x pv cv nw qa l R c ok/\∃xs,a.tmps[10]?=some xs/\RI x xs (l.map (·+nw))) ⟨ts,[]⟩ X:=by
 revert ts;refine q1i ?_;intro v0 v1 v2 v3 v4 v5 v6 v7 v8 v9 v10 v11 v12 v13 v14 v15 v16 v17 v18 v19 v20 v21 v22 v23 v24 v25 v26 v27 v28 v29 v30 v31 v32 v33 v34 v35 v36 v37 v38 v39 v40 v41 v42 v43 v44 v45 v46 v47 v48 v49 v50 v51 v52 v53 v54 v55 v56 v57 v58 v59 v60 v61 v62 v63 v64 v65 v66 v67 v68 v69 v70 v71 v72 v73 v74 v75 v76 v77 v78 v79 v80 v81 v82 v83 v84 v85 v86 H hx;obtain rfl:v3=pv:=by simpa using H.s3
 obtain rfl:v4=.int .i64 nw:=by simpa using H.s4
 obtain rfl:v5=cv:=by simpa using H.s5
 obtain rfl:v6=.pointer (some ⟨R,0,none⟩):=by simpa using H.s6
 obtain rfl:v7=.bool ok:=by simpa using H.s7
 obtain rfl:v10=xs:=by simpa using hx
 have hp:=H.rn;have hl:=H.ri;have yD:=H.box;clear H hx;obtain⟨I1,im,ic,rfl,-,him⟩:=hl.form';obtain⟨Ax,nx,cx,rfl⟩:=ho.ri.val;have Hsc:=Lib.hid sc;have Him:=Lib.hid him;have Hl:=Lib.hid hl;have Hp:=Lib.hid hp;have qsB:=Lib.hid yD;have h20:im<=21:=by have:=sc.1;omega
 clear sc him hl hp yD;simp only[j7,qbb,qa6,Tryz.f3,Option.getD_some];go_wp2_with fail
 go_loopg [10,11] (im+1) (λmm v i wr=>∃k:Nat,k<=im/\mm=im+1-k/\i=.int .i64 k/\qg wr w0.heap.size v ((l.take k).map (·+nw))/\HG w0 wr)
 case atStart=>exact⟨0,Nat.zero_le _,rfl,rfl,by simpa using ho,hw⟩
 case round=>
  clear ho hw;obtain⟨k,hk,rfl,rfl,ho,hw⟩:=hrel;obtain⟨Ac,nc,cc,rfl⟩:=ho.ri.val;have hlr:RI wr (.slice I1 im ic) l:=hw.ri Hl.out;by_cases hlt:k<im
  . have hki:(k:Int)<(im:Int):=by omega
    obtain⟨gc,oc,y,rfl,hy,hcell⟩:=hlr.at_ hlt;have hyb:=Hsc.out.2 y (List.mem_of_getElem? hy);have hwr:IntKind.i64.wrap (y+nw)=y+nw:=by rw[IntWalk.i64_in _ (by omega)]
    have hll:((l.take k).map (·+nw)).length<=1000000000:=by rw[length_map,length_take];omega
    have htk:(l.take (k+1)).map (·+nw)=(l.take k).map (·+nw)++[y+nw]:=by
     obtain⟨h1,rfl⟩:=List.getElem?_eq_some_iff.1 hy;rw[take_succ_eq_append_getElem h1,map_append];rfl
    have Htk:=Lib.hid htk;clear htk hy hlr;go_wp2_with (at_builtin;go_must (refine qek (.tmp 65) (.tmp 72) rfl rfl ho hll hw.size rfl rfl rfl ?_));intro v5 w5 ho5 hg5;have hw5:=hw.grown hg5 (λg e=>(ho.lt g e).1)
    replace ho5:qg w5 w0.heap.size v5 ((l.take (k+1)).map (·+nw)):=by
     rw[Htk.out,map_take];exact ho5
    obtain⟨A5,n5,c5,rfl⟩:=ho5.ri.val;clear ho hg5 hw;go_wp2;go_roundg (im+1-(k+1))
    case measure=>omega
    case rel=>exact⟨k+1,by omega,rfl,by go_num,ho5,hw5⟩
  . obtain rfl:im=k:=by omega
    have htk:(l.take im).map (·+nw)=l.map (·+nw):=by rw[Him.out,take_length]
    rw[htk]at ho;have hp:=hw.rn Hp.out;obtain⟨Y1,Yn1,Yc1,Y2,Yn2,Yc2,Y3,Yn3,Yc3,Y4,Yn4,Yc4,hY⟩:=qsB.out;have hY1:=hw.box hY;have hxs:=ho.ri;go_wp2_with fail;exact⟨rfl,rfl,rfl,rfl,rfl,rfl,hp,hlr,_,_,_,_,_,_,_,_,_,_,_,_,hY1⟩
theorem qpu{V:Nat}{k0 k1 k2 k3 d0 d1 d2 d3:Value}(ts:Array Value)(X:World)(hs:ts.size=87)(s6:ts[6]?=some (.pointer (some ⟨R,0,none⟩)))(s12:ts[12]?=some (.pointer (some ⟨V,0,none⟩)))(s13:ts[13]?=some (.bool true))
   (hY:jU X R k0 k1 k2 k3 c) (hV:jU X V d0 d1 d2 d3 c):qK.wp prog (λe a x=>e=.ret/\HG X x/\a.tmps[2]?=some (.bool true)) ⟨ts,[]⟩ X:=by
 revert ts;refine q1i ?_;intro v0 v1 v2 v3 v4 v5 v6 v7 v8 v9 v10 v11 v12 v13 v14 v15 v16 v17 v18 v19 v20 v21 v22 v23 v24 v25 v26 v27 v28 v29 v30 v31 v32 v33 v34 v35 v36 v37 v38 v39 v40 v41 v42 v43 v44 v45 v46 v47 v48 v49 v50 v51 v52 v53 v54 v55 v56 v57 v58 v59 v60 v61 v62 v63 v64 v65 v66 v67 v68 v69 v70 v71 v72 v73 v74 v75 v76 v77 v78 v79 v80 v81 v82 v83 v84 v85 v86 s6 s12 s13;obtain rfl:v6=.pointer (some ⟨R,0,none⟩):=by simpa using s6
 obtain rfl:v12=.pointer (some ⟨V,0,none⟩):=by simpa using s12
 obtain rfl:v13=.bool true:=by simpa using s13
 clear s6 s12 s13;simp only[qK,qbb,qa6,Tryz.f3,Option.getD_some];have y0:=hY.d0;have y1:=hY.d1;have y2:=hY.d2;have y3:=hY.d3;have z0:=hV.d0;have z1:=hV.d1;have z2:=hV.d2;have z3:=hV.d3;go_wp2_with fail;refine(qo _ _ _ X hV.cv hY.cv).mono ?_;rintro e w7 ⟨rfl,hg7⟩;go_wp2_with fail;exact HG.of hg7
end
theorem qn6{W:World}{ea:Addr}{v:Value}{n g o c:Nat}{cs:Array Value}{e:TypeId}{fr:Nat×Nat}(S:Start W ea)(H:qC W v n g o c cs e fr) :
   qc prog (qv W) (λ_=>False) (λ_=>False) (λ_=>.left) 1 0 0 (G (Frame.enter prog 3 #[v] .normal) []) W:=by
 refine qmw S H (λts w z pv cv nw qa l hD zy hb hO hE=>?_);have OO:∀M:Mks (gr2 W.heap.size g ea).base,zL ((gr2 W.heap.size g ea).base.pen M):=λM=>q4o M;have O:zx ((gr2 W.heap.size g ea).base.pen (mk2 W.heap.size g cs ea)) (λ_=>False) (λ_=>False):=⟨λ_ h=>h.elim,λ_ h=>h.elim⟩;have hT:∀i,i≠0->(λ_=>qA.left:Nat->qA) i=.left:=λ_ _=>rfl;rw[qn5];refine qao ?_;generalize hc5:Code.seq qU _=c5;simp only[qkc,qbb,qa6,Tryz.f3,Option.getD_some];refine qau ?_;simp only[List.size_toArray,length_cons,length_nil,Nat.reduceAdd,Nat.zero_add,range,range.loop]
 refine jy OO hb hD.rn hD.ri hE (λx hx=>by have:=hD.sc.2 x hx;omega) O hT (by decide) (by decide) (by decide) zy hD.size (p0:=24) (p1:=25) (p2:=26) (tc:=27) (tm:=23) (tv:=28) (tb:=29) (tx:=6) (tk:=7)
  ⟨⟨_,_,rfl,rfl,rfl,rfl⟩,⟨_,rfl,rfl,rfl,rfl⟩,⟨_,rfl,rfl,rfl,rfl⟩,⟨_,rfl,rfl,rfl,rfl⟩,⟨_,rfl,rfl,rfl,rfl⟩,⟨_,rfl,rfl,rfl,rfl⟩,⟨_,rfl,rfl,rfl,rfl⟩⟩ rfl rfl rfl hD.s3 hD.s4 hD.s5 (by decide) (by decide)
  (λw4 z4 M4 Sh4 Fz4 T4 n4 A1 m1 c1 A2 m2 c2 A3 m3 c3 A4 m4 c4 R hle hb4 hg4 O4 hh4 hT4 hn4 xS hF hB hR ok4=>?_)
 have hO4:=hO.step hb4 hle hh4 hb.size hg4;subst hc5;have hs:=hD.size
 have R4:jA 87 (qb0 (((ts.setIfInBounds 24 pv).setIfInBounds 25 (.int .i64 nw)).setIfInBounds 26 cv) 27 23 28 29 6 7 (.agg #[.slice A1 m1 c1,.slice A2 m2 c2,.slice A3 m3 c3,.slice A4 m4 c4]) (qas qa nw l).isSome R) z4 pv cv nw qa l R ((qas qa nw l).getD qdk) (qas qa nw l).isSome:=
  ⟨jb.trans (by simp[hs]),qd7 (by decide) hD.s3,qd7 (by decide) hD.s4,qd7 (by decide) hD.s5,qhp (by decide) (by simp[hs]),qhq (by simp[hs]),hg4.rn hD.rn,hg4.ri hD.ri,_,_,_,_,_,_,_,_,_,_,_,_,q99 hF hB⟩
 generalize qb0 _ _ _ _ _ _ _ _ _ _=t4 at ok4 R4 |-;obtain⟨cc,hcc⟩:∃cc,cc=(qas qa nw l).getD qdk:=⟨_,rfl⟩;obtain⟨ok,hok⟩:∃ok,ok=(qas qa nw l).isSome:=⟨_,rfl⟩;rw[<-hcc,<-hok]at R4;have hE4:=hg4.err hE;refine qao ?_
 refine qbg (gr:=gr2 W.heap.size g ea) (OO M4) func3 ok4 qlv hb4 (O4.alone hT4) (qaq hT4) (Q:=λe a x=>e=.normal/\HG z4 x/\zI 87 a.tmps x pv cv nw qa l R cc ok)
  (λe a x y exy h=>⟨h.1,h.2.1.heap exy,h.2.2.heap exy⟩) (λX eX=>wp_mono (qro hD.sp hD.sc hok hcc t4 X R4.size (R4.heap eX)) (λe a x h=>⟨h.1,h.2.1.from eX.symm,h.2.2⟩)) (λe a x h=>by rw[h.1];trivial) ?_
 rintro e5 ⟨t5,d5⟩ td5 w5 z5 hb5 hh5-ok5 xV-⟨rfl,hg5,T5⟩;rw[xV rfl];have hO5:=hO4.step hb5 (Mks.Le.refl _) hh5.but hb4.size hg5;show qc prog (qv W) Sh4 Fz4 T4 n4 0 0 (G ((base 3).at ⟨t5,[]⟩ [.code _]) []) w5;replace T5:zI 87 t5 z5 pv cv nw qa l R cc ok:=T5;refine qao ?_
 refine qbg (gr:=gr2 W.heap.size g ea) (OO M4) func3 ok5 qlw hb5 (O4.alone hT4) (qaq hT4) (Q:=λe a x=>HG z5 x/\((e=.ret/\a.tmps[2]?=some (.bool true))∨(e=.normal/\ok=true/\jA 87 a.tmps x pv cv nw qa l R cc ok)))
  (λe a x y exy h=>⟨h.1.heap exy,h.2.imp id (λk=>⟨k.1,k.2.1,k.2.2.heap exy⟩)⟩) (λX eX=>wp_mono (qrp t5 X T5.run.size (T5.heap eX)) (λe a x h=>⟨h.1.from eX.symm,h.2⟩)) (λe a x h=>by rcases h.2 with h|h<;>(rw[h.1];trivial)) ?_
 rintro e6 ⟨t6,d6⟩ td6 w6 z6 hb6 hh6-ok6 yu-⟨hg6,⟨rfl,h62⟩|⟨rfl,yw,R6⟩⟩
 . have hO6:=hO5.step hb6 (Mks.Le.refl _) hh6.but hb5.size hg6;show qc prog (qv W) Sh4 Fz4 T4 n4 0 0 (G {(base 3).at ⟨t6,[]⟩ (td6++_)with mode:=.returning} []) w6;exact qf8 func3 (by kernel_rfl) rfl h62 hT4 (by omega) (λd=>hO6.fin d)
 rw[yu rfl];have hO6:=hO5.step hb6 (Mks.Le.refl _) hh6.but hb5.size hg6;show qc prog (qv W) Sh4 Fz4 T4 n4 0 0 (G ((base 3).at ⟨t6,[]⟩ [.code _]) []) w6;replace R6:jA 87 t6 z6 pv cv nw qa l R cc ok:=R6;rw[yw]at hok;obtain⟨c',hc'⟩:=Option.isSome_iff_exists.1 hok.symm;obtain rfl:cc=c':=by rw[hcc,hc'];rfl
 obtain⟨cn,hcn,_,_⟩:=qex hc';obtain⟨hn1,qjM,_,_⟩:=qf9 hcn;have hsh:=qxi hc';have hE6:=(hg5.trans hg6).err hE4;refine qao ?_
 refine qbg (gr:=gr2 W.heap.size g ea) (OO M4) func3 ok6 qlx hb6 (O4.alone hT4) (qaq hT4) (Q:=λe a x=>e=.normal/\HG z6 x/\jA 87 a.tmps x pv cv nw qa l R cc ok/\∃xs,a.tmps[10]?=some xs/\qg x z6.heap.size xs [])
  (λe a x y exy h=>by
   obtain⟨h1,h2,h3,xs,h4,h5⟩:=h
   exact⟨h1,h2.heap exy,h3.heap exy,xs,h4,by
    have k2:qg x z6.heap.size xs []=qg {y with heap:=x.heap} z6.heap.size xs []:=rfl;rw[k2,exy]at h5;exact h5⟩)
  (λX eX=>wp_mono (qrq t6 X R6.size (R6.heap eX)) (λe a x h=>⟨h.1,h.2.1.from eX.symm,h.2.2.1,by
   have h4:=h.2.2.2;rw[<-eX]at h4;exact h4⟩)) (λe a x h=>by rw[h.1];trivial) ?_
 rintro e8 ⟨t8,d8⟩ td8 w8 z8 hb8 hh8-ok8 qgO-⟨rfl,hg8,R8,xs,hx8,ho8⟩;rw[qgO rfl];show qc prog (qv W) Sh4 Fz4 T4 n4 0 0 (G ((base 3).at ⟨t8,[]⟩ [.code _]) []) w8;replace R8:jA 87 t8 z8 pv cv nw qa l R cc ok:=R8;have R86:jA 87 t8 z6 pv cv nw qa l R cc ok:=⟨R8.size,R8.s3,R8.s4,R8.s5,R8.s6,R8.s7,R6.rn,R6.ri,R6.box⟩;refine qao ?_
 refine qbg (gr:=gr2 W.heap.size g ea) (OO M4) func3 ok8 qly hb8 (O4.alone hT4) (qaq hT4) (Q:=λe a x=>e=.normal/\HG z6 x/\jA 87 a.tmps x pv cv nw qa l R cc ok/\∃xs,a.tmps[10]?=some xs/\RI x xs (l.map (·+nw)))
  (λe a x y exy h=>by
   obtain⟨h1,h2,h3,xs,h4,h5⟩:=h;exact⟨h1,h2.heap exy,h3.heap exy,xs,h4,h5.heap exy⟩)
  (λX eX=>qrr hn1 qjM hD.sc t8 X z6 R8.size R86 (hg8.heap eX) xs hx8 (by
   have k2:qg z8 z6.heap.size xs []=qg {X with heap:=z8.heap} z6.heap.size xs []:=rfl;rw[k2,eX]at ho8;exact ho8)) (λe a x h=>by rw[h.1];trivial) ?_
 rintro e9 ⟨t9,d9⟩ td9 w9 z9 hb9 hh9-ok9 qsC-⟨rfl,hg9,R9,xs9,hx9,hi9⟩;rw[qsC rfl];show qc prog (qv W) Sh4 Fz4 T4 n4 0 0 (G ((base 3).at ⟨t9,[]⟩ [.code _]) []) w9;replace R9:jA 87 t9 z9 pv cv nw qa l R cc ok:=R9;have hO9:=hO6.step hb9 (Mks.Le.refl _) (hh8.trans hh9).but hb6.size hg9;have hE9:=hg9.err hE6;refine qao ?_;generalize qsD:qK=c13;simp only[qi6,qbb,qa6,Tryz.f3,Option.getD_some];refine qau ?_;simp only[List.size_toArray,length_cons,length_nil,Nat.reduceAdd,Nat.zero_add,range,range.loop]
 refine jy OO hb9 R9.rn hi9 hE9 (fun x hx=>by
     obtain⟨y,hy,rfl⟩:=mem_map.1 hx;have:=hD.sc.2 y hy;omega) O4 hT4 (by omega) (by omega) (by decide) ok9 R9.size (p0:=75) (p1:=76) (p2:=77) (tc:=78) (tm:=74) (tv:=79) (tb:=80) (tx:=12) (tk:=13)
  ⟨⟨_,_,rfl,rfl,rfl,rfl⟩,⟨_,rfl,rfl,rfl,rfl⟩,⟨_,rfl,rfl,rfl,rfl⟩,⟨_,rfl,rfl,rfl,rfl⟩,⟨_,rfl,rfl,rfl,rfl⟩,⟨_,rfl,rfl,rfl,rfl⟩,⟨_,rfl,rfl,rfl,rfl⟩⟩ rfl rfl rfl R9.s3 R9.s4 hx9 (by decide) (by decide)
  (λwa za Ma Sha Fza Ta na B1 r1 f1 B2 r2 f2 B3 r3 f3 B4 r4 f4 Ra qsE hba hga Oa hha hTa hna hna' hFa hBa hRa oka=>?_)
 have hOa:=hO9.step hba qsE hha hb9.size hga;subst qsD;rw[hsh]at hFa oka |-;have a6:_:=qd7 (p0:=75) (p1:=76) (p2:=77) (tc:=78) (tm:=74) (tv:=79) (tb:=80) (tx:=12) (tk:=13) (t:=6) (a0:=pv) (a1:=.int .i64 nw) (a2:=xs9) (v:=.agg #[.slice B1 r1 f1,.slice B2 r2 f2,.slice B3 r3 f3,.slice B4 r4 f4]) (b:=(some cc).isSome) (R:=Ra) (by decide) R9.s6;have a12:=qhp (ts:=((t9.setIfInBounds 75 pv).setIfInBounds 76 (.int .i64 nw)).setIfInBounds 77 xs9) (tc:=78) (tm:=74) (tv:=79) (tb:=80) (tx:=12) (tk:=13) (v:=.agg #[.slice B1 r1 f1,.slice B2 r2 f2,.slice B3 r3 f3,.slice B4 r4 f4]) (b:=(some cc).isSome) (R:=Ra) (by decide) (by simp[R9.size]);have a13:=qhq (ts:=((t9.setIfInBounds 75 pv).setIfInBounds 76 (.int .i64 nw)).setIfInBounds 77 xs9) (tc:=78) (tm:=74) (tv:=79) (tb:=80) (tx:=12) (tk:=13) (v:=.agg #[.slice B1 r1 f1,.slice B2 r2 f2,.slice B3 r3 f3,.slice B4 r4 f4]) (b:=(some cc).isSome) (R:=Ra) (by simp[R9.size]);have asz:(qb0 (((t9.setIfInBounds 75 pv).setIfInBounds 76 (.int .i64 nw)).setIfInBounds 77 xs9) 78 74 79 80 12 13 (.agg #[.slice B1 r1 f1,.slice B2 r2 f2,.slice B3 r3 f3,.slice B4 r4 f4]) (some cc).isSome Ra).size=87:=jb.trans (by simp[R9.size]);generalize qb0 _ _ _ _ _ _ _ _ _ _=ta at oka a6 a12 a13 asz |-;obtain⟨Y1,Yn1,Yc1,Y2,Yn2,Yc2,Y3,Yn3,Yc3,Y4,Yn4,Yc4,hY⟩:=R9.box;have hYa:=hga.box hY;have hVa:=q99 hFa hBa
 refine qbg (gr:=gr2 W.heap.size g ea) (OO Ma) func3 oka qkh hba (Oa.alone hTa) (qaq hTa) (Q:=λe a x=>e=.ret/\HG za x/\a.tmps[2]?=some (.bool true)) (λe a x y exy h=>⟨h.1,h.2.1.heap exy,h.2.2⟩)
  (λX eX=>wp_mono (qpu ta X asz a6 a12 a13 (hYa.heap eX) (hVa.heap eX)) (λe a x h=>⟨h.1,h.2.1.from eX.symm,h.2.2⟩)) (λe a x h=>by rw[h.1];trivial) ?_
 rintro eb ⟨tb,db⟩ tdb wb zb hbb hhb-okb - - ⟨rfl,hgb,hb2⟩;have hOb:=hOa.step hbb (Mks.Le.refl _) hhb.but hba.size hgb;show qc prog (qv W) Sha Fza Ta na 0 0 (G {(base 3).at ⟨tb,[]⟩ (tdb++_)with mode:=.returning} []) wb;exact qf8 func3 (by kernel_rfl) rfl hb2 hTa (by omega) (λd=>hOb.fin d)
end
end Go.Proofs.YtacemdoejblgaaaGreatDoor
