/- Part SFnScheduleBegin. Conditions: each statement's. -/
import Derived.Test.YtacemdoejblgaaaGreatDoorM25
namespace Go.Proofs.YtacemdoejblgaaaGreatDoor
open List _root_.Go.Proofs.Tryz
set_option maxRecDepth 100000
set_option maxHeartbeats 6400000
section
theorem q4r{qa:List Node}{c:qj}(w:Int):∃l,((qa0 qa c w).getD c).done=c.done++l:=by
 cases hR:qa0 qa c w with
 |none=>exact⟨[],by simp⟩
 |some c'=>
  obtain⟨_,_,_,y,_,hy,_⟩:=qej hR;exact⟨[y],hy⟩
theorem qqw{qa:List Node}:∀(k:Nat) (c:qj),∃l,(finish qa k c).done=c.done++l
 |0,c=>⟨[],by simp[finish]⟩
 |k+1,c=>by
  obtain⟨l1,h1⟩:=q4r (qa:=qa) (c:=c) 0;obtain⟨l2,h2⟩:=qqw k ((qa0 qa c 0).getD c);exact⟨l1++l2,by show (finish qa k ((qa0 qa c 0).getD c)).done=_;rw[h2,h1,append_assoc]⟩
end
section
open Go.Conc Go.RowKit
theorem q6y{P:Array Value->Prop}(hP:∀v0 v1 v2 v3 v4 v5 v6 v7 v8 v9 v10 v11 v12 v13 v14 v15 v16 v17 v18 v19 v20 v21 v22 v23 v24 v25 v26 v27 v28 v29 v30 v31 v32 v33 v34 v35 v36 v37 v38 v39 v40 v41 v42 v43 v44 v45 v46 v47 v48 v49 v50 v51 v52 v53 v54 v55 v56 v57 v58 v59 v60 v61 v62 v63 v64 v65 v66 v67 v68 v69 v70 v71 v72 v73 v74 v75 v76 v77 v78 v79 v80 v81 v82 v83 v84 v85 v86 v87 v88:Value,P #[v0,v1,v2,v3,v4,v5,v6,v7,v8,v9,v10,v11,v12,v13,v14,v15,v16,v17,v18,v19,v20,v21,v22,v23,v24,v25,v26,v27,v28,v29,v30,v31,v32,v33,v34,v35,v36,v37,v38,v39,v40,v41,v42,v43,v44,v45,v46,v47,v48,v49,v50,v51,v52,v53,v54,v55,v56,v57,v58,v59,v60,v61,v62,v63,v64,v65,v66,v67,v68,v69,v70,v71,v72,v73,v74,v75,v76,v77,v78,v79,v80,v81,v82,v83,v84,v85,v86,v87,v88])(T:Array Value)(h:T.size=89):P T:=by
 obtain⟨l⟩:=T;replace h:l.length=89:=h;obtain⟨v0,l0,rfl,h0⟩:=qaa h;obtain⟨v1,l1,rfl,h1⟩:=qaa h0;obtain⟨v2,l2,rfl,h2⟩:=qaa h1;obtain⟨v3,l3,rfl,h3⟩:=qaa h2;obtain⟨v4,l4,rfl,h4⟩:=qaa h3;obtain⟨v5,l5,rfl,h5⟩:=qaa h4;obtain⟨v6,l6,rfl,h6⟩:=qaa h5;obtain⟨v7,l7,rfl,h7⟩:=qaa h6;obtain⟨v8,l8,rfl,h8⟩:=qaa h7;obtain⟨v9,l9,rfl,h9⟩:=qaa h8;obtain⟨v10,l10,rfl,h10⟩:=qaa h9;obtain⟨v11,l11,rfl,h11⟩:=qaa h10;obtain⟨v12,l12,rfl,h12⟩:=qaa h11;obtain⟨v13,l13,rfl,h13⟩:=qaa h12;obtain⟨v14,l14,rfl,h14⟩:=qaa h13;obtain⟨v15,l15,rfl,h15⟩:=qaa h14;obtain⟨v16,l16,rfl,h16⟩:=qaa h15;obtain⟨v17,l17,rfl,h17⟩:=qaa h16;obtain⟨v18,l18,rfl,h18⟩:=qaa h17;obtain⟨v19,l19,rfl,h19⟩:=qaa h18;obtain⟨v20,l20,rfl,h20⟩:=qaa h19;obtain⟨v21,l21,rfl,h21⟩:=qaa h20;obtain⟨v22,l22,rfl,h22⟩:=qaa h21;obtain⟨v23,l23,rfl,h23⟩:=qaa h22;obtain⟨v24,l24,rfl,h24⟩:=qaa h23;obtain⟨v25,l25,rfl,h25⟩:=qaa h24;obtain⟨v26,l26,rfl,h26⟩:=qaa h25;obtain⟨v27,l27,rfl,h27⟩:=qaa h26;obtain⟨v28,l28,rfl,h28⟩:=qaa h27;obtain⟨v29,l29,rfl,h29⟩:=qaa h28;obtain⟨v30,l30,rfl,h30⟩:=qaa h29;obtain⟨v31,l31,rfl,h31⟩:=qaa h30;obtain⟨v32,l32,rfl,h32⟩:=qaa h31;obtain⟨v33,l33,rfl,h33⟩:=qaa h32;obtain⟨v34,l34,rfl,h34⟩:=qaa h33;obtain⟨v35,l35,rfl,h35⟩:=qaa h34;obtain⟨v36,l36,rfl,h36⟩:=qaa h35;obtain⟨v37,l37,rfl,h37⟩:=qaa h36;obtain⟨v38,l38,rfl,h38⟩:=qaa h37;obtain⟨v39,l39,rfl,h39⟩:=qaa h38;obtain⟨v40,l40,rfl,h40⟩:=qaa h39;obtain⟨v41,l41,rfl,h41⟩:=qaa h40;obtain⟨v42,l42,rfl,h42⟩:=qaa h41;obtain⟨v43,l43,rfl,h43⟩:=qaa h42;obtain⟨v44,l44,rfl,h44⟩:=qaa h43;obtain⟨v45,l45,rfl,h45⟩:=qaa h44;obtain⟨v46,l46,rfl,h46⟩:=qaa h45;obtain⟨v47,l47,rfl,h47⟩:=qaa h46;obtain⟨v48,l48,rfl,h48⟩:=qaa h47;obtain⟨v49,l49,rfl,h49⟩:=qaa h48;obtain⟨v50,l50,rfl,h50⟩:=qaa h49;obtain⟨v51,l51,rfl,h51⟩:=qaa h50;obtain⟨v52,l52,rfl,h52⟩:=qaa h51;obtain⟨v53,l53,rfl,h53⟩:=qaa h52;obtain⟨v54,l54,rfl,h54⟩:=qaa h53;obtain⟨v55,l55,rfl,h55⟩:=qaa h54;obtain⟨v56,l56,rfl,h56⟩:=qaa h55;obtain⟨v57,l57,rfl,h57⟩:=qaa h56;obtain⟨v58,l58,rfl,h58⟩:=qaa h57;obtain⟨v59,l59,rfl,h59⟩:=qaa h58;obtain⟨v60,l60,rfl,h60⟩:=qaa h59;obtain⟨v61,l61,rfl,h61⟩:=qaa h60;obtain⟨v62,l62,rfl,h62⟩:=qaa h61;obtain⟨v63,l63,rfl,h63⟩:=qaa h62;obtain⟨v64,l64,rfl,h64⟩:=qaa h63;obtain⟨v65,l65,rfl,h65⟩:=qaa h64;obtain⟨v66,l66,rfl,h66⟩:=qaa h65;obtain⟨v67,l67,rfl,h67⟩:=qaa h66;obtain⟨v68,l68,rfl,h68⟩:=qaa h67;obtain⟨v69,l69,rfl,h69⟩:=qaa h68;obtain⟨v70,l70,rfl,h70⟩:=qaa h69;obtain⟨v71,l71,rfl,h71⟩:=qaa h70;obtain⟨v72,l72,rfl,h72⟩:=qaa h71;obtain⟨v73,l73,rfl,h73⟩:=qaa h72;obtain⟨v74,l74,rfl,h74⟩:=qaa h73;obtain⟨v75,l75,rfl,h75⟩:=qaa h74;obtain⟨v76,l76,rfl,h76⟩:=qaa h75;obtain⟨v77,l77,rfl,h77⟩:=qaa h76;obtain⟨v78,l78,rfl,h78⟩:=qaa h77;obtain⟨v79,l79,rfl,h79⟩:=qaa h78;obtain⟨v80,l80,rfl,h80⟩:=qaa h79;obtain⟨v81,l81,rfl,h81⟩:=qaa h80;obtain⟨v82,l82,rfl,h82⟩:=qaa h81;obtain⟨v83,l83,rfl,h83⟩:=qaa h82;obtain⟨v84,l84,rfl,h84⟩:=qaa h83;obtain⟨v85,l85,rfl,h85⟩:=qaa h84;obtain⟨v86,l86,rfl,h86⟩:=qaa h85;obtain⟨v87,l87,rfl,h87⟩:=qaa h86;obtain⟨v88,l88,rfl,h88⟩:=qaa h87;obtain rfl:=eq_nil_of_length_eq_zero h88;exact hP _ _ _ _ _ _ _ _ _ _ _ _ _ _ _ _ _ _ _ _ _ _ _ _ _ _ _ _ _ _ _ _ _ _ _ _ _ _ _ _ _ _ _ _ _ _ _ _ _ _ _ _ _ _ _ _ _ _ _ _ _ _ _ _ _ _ _ _ _ _ _ _ _ _ _ _ _ _ _ _ _ _ _ _ _ _ _ _ _
noncomputable def qa9:Code:=Tryz.f7.body.getD .skip
noncomputable def jc:Code:=match qa9 with | .seq x _=>x|_=>.skip
noncomputable def jd:Code:=match qa9 with | .seq _ (.seq x _)=>x|_=>.skip
noncomputable def je:Code:=match qa9 with | .seq _ (.seq _ (.seq x _))=>x|_=>.skip
noncomputable def qbo:Code:=match qa9 with | .seq _ (.seq _ (.seq _ x))=>x|_=>.skip
theorem qkz:qa9=.seq jc (.seq jd (.seq je qbo)):=rfl
theorem qk0:qcl prog Fs Gs SN jc=true:=by kernel_rfl
theorem qk1:qcl prog Fs Gs SN jd=true:=by kernel_rfl
theorem qk2:qcl prog Fs Gs SN je=true:=by kernel_rfl
section
variable {v:Value}{n:Nat}
theorem qqc(ts:Array Value)(X:World)(hs:ts.size=89)(h0:ts[0]?=some v):jc.wp prog (λe a x=>e=.normal/\x.heap=X.heap/\a.tmps.size=89/\a.tmps[0]?=some v/\a.tmps[2]?=some (.bool false)) ⟨ts,[]⟩ X:=by
 revert ts;refine q6y ?_;intro v0 v1 v2 v3 v4 v5 v6 v7 v8 v9 v10 v11 v12 v13 v14 v15 v16 v17 v18 v19 v20 v21 v22 v23 v24 v25 v26 v27 v28 v29 v30 v31 v32 v33 v34 v35 v36 v37 v38 v39 v40 v41 v42 v43 v44 v45 v46 v47 v48 v49 v50 v51 v52 v53 v54 v55 v56 v57 v58 v59 v60 v61 v62 v63 v64 v65 v66 v67 v68 v69 v70 v71 v72 v73 v74 v75 v76 v77 v78 v79 v80 v81 v82 v83 v84 v85 v86 v87 v88 h0;obtain rfl:v0=v:=by simpa using h0
 clear h0;simp only[jc,qa9,f7,Option.getD_some];go_wp2_with fail
theorem qqd(hA:∃A c,v=.slice A n c)(ts:Array Value)(X:World)(hs:ts.size=89)(h0:ts[0]?=some v)(h2:ts[2]?=some (.bool false)):jd.wp prog (λe a x=>x.heap=X.heap/\((e=.normal/\n<=1048576/\a.tmps.size=89/\a.tmps[0]?=some v/\a.tmps[2]?=some (.bool false))∨(e=.ret/\a.tmps[2]?=some (.bool true)))) ⟨ts,[]⟩ X:=by
 obtain⟨A,c,rfl⟩:=hA;revert ts;refine q6y ?_;intro v0 v1 v2 v3 v4 v5 v6 v7 v8 v9 v10 v11 v12 v13 v14 v15 v16 v17 v18 v19 v20 v21 v22 v23 v24 v25 v26 v27 v28 v29 v30 v31 v32 v33 v34 v35 v36 v37 v38 v39 v40 v41 v42 v43 v44 v45 v46 v47 v48 v49 v50 v51 v52 v53 v54 v55 v56 v57 v58 v59 v60 v61 v62 v63 v64 v65 v66 v67 v68 v69 v70 v71 v72 v73 v74 v75 v76 v77 v78 v79 v80 v81 v82 v83 v84 v85 v86 v87 v88 h2 h0;obtain rfl:v0=.slice A n c:=by simpa using h0
 obtain rfl:v2=.bool false:=by simpa using h2
 clear h0 h2;simp only[jd,qa9,f7,Option.getD_some];by_cases kx:1048576<n
 . go_wp2_with fail
 . have hle:n<=1048576:=by omega
   go_wp2_with fail
theorem qqe(hn:n<=1048576)(ts:Array Value)(X:World)(B0:Nat)(hs:ts.size=89)(h0:ts[0]?=some v)(h2:ts[2]?=some (.bool false))(hB:Bytes X B0 v n)(hX:B0<=X.heap.size) :
   je.wp prog (λe a x=>e=.normal/\HG X x/\∃pv cv nw qa l,qY 89 a.tmps x pv cv nw qa l) ⟨ts,[]⟩ X:=by
 revert ts;refine q6y ?_;intro v0 v1 v2 v3 v4 v5 v6 v7 v8 v9 v10 v11 v12 v13 v14 v15 v16 v17 v18 v19 v20 v21 v22 v23 v24 v25 v26 v27 v28 v29 v30 v31 v32 v33 v34 v35 v36 v37 v38 v39 v40 v41 v42 v43 v44 v45 v46 v47 v48 v49 v50 v51 v52 v53 v54 v55 v56 v57 v58 v59 v60 v61 v62 v63 v64 v65 v66 v67 v68 v69 v70 v71 v72 v73 v74 v75 v76 v77 v78 v79 v80 v81 v82 v83 v84 v85 v86 v87 v88 h0 h2;obtain rfl:v0=v:=by simpa using h0
 obtain rfl:v2=.bool false:=by simpa using h2
 clear h0 h2;simp only[je,qa9,f7,Option.getD_some];go_wp2_with fail;refine(qem B0 X _ n hB hX hn).mono ?_;rintro e w1 ⟨pv,cv,nw,qa,l,rfl,h1,h2,hr,hi,hp,hc,hg⟩;go_wp2_with fail;exact⟨HG.of hg,pv,cv,nw,qa,l,rfl,rfl,rfl,rfl,rfl,hr,hi,h1,h2,hp,hc⟩
end
theorem ql2{W:World}{ea:Addr}{v:Value}{n g o c:Nat}{cs:Array Value}{e:TypeId}{fr:Nat×Nat}(S:Start W ea)(H:qC W v n g o c cs e fr)
   (next:∀ts w z pv cv nw qa l,qY 89 ts z pv cv nw qa l->(∀u,u∈ts->Ok (gr2 W.heap.size g ea).A (gr2 W.heap.size g ea).F u)->Both ((gr2 W.heap.size g ea).base.pen (mk2 W.heap.size g cs ea)) w z->Old W ea g cs (mk2 W.heap.size g cs ea) w z->qm z ea ->
    qc prog (qv W) (λ_=>False) (λ_=>False) (λ_=>.left) 1 0 0 (G ((base 7).at ⟨ts,[]⟩ [.code qbo]) []) w) :
   qc prog (qv W) (λ_=>False) (λ_=>False) (λ_=>.left) 1 0 0 (G (Frame.enter prog 7 #[v] .normal) []) W:=by
 rw[enter_at (c:=qa9) _ func7 rfl,qkz];obtain⟨A,hA,-⟩:=H.v;refine qh9 S H func7 (by kernel_rfl) rfl qk0 qk1 qk2 (NT:=89) (by rw[ntmps7];simp) (λu hu=>?_) (by simp) (λts X=>qqc ts X) (λts X=>qqd ⟨A,_,hA⟩ ts X) (λhn ts X B0=>qqe hn ts X B0) next;rcases Array.mem_append.1 hu with hu|hu
 . exact .inl (by simpa using hu)
 . exact .inr (Array.eq_of_mem_replicate hu)
noncomputable def qja:Code:=match qbo with | .seq x _=>x|_=>.skip
noncomputable def qF:Code:=match qbo with | .seq _ (.seq x _)=>x|_=>.skip
noncomputable def jf:Code:=match qbo with | .seq _ (.seq _ (.seq x _))=>x|_=>.skip
noncomputable def qdv:Code:=match qbo with | .seq _ (.seq _ (.seq _ x))=>x|_=>.skip
theorem qm9:qbo=.seq qja (.seq qF (.seq jf qdv)):=rfl
theorem qkw:qcl prog Fs Gs SN qF=true:=by kernel_rfl
theorem qkx:qcl prog Fs Gs SN jf=true:=by kernel_rfl
section
variable {pv cv:Value}{nw:Int}{qa:List Node}{l:List Int}{u1 u2:Value}{f:qj}{ok:Bool}
theorem qp9(sp:qe3 qa)(sc:qda l)(hok:ok=(qa1 qa nw l).isSome)(hf:f=(qa1 qa nw l).getD qdk)(ts:Array Value)(X:World)(hs:ts.size=89)(H:jC 89 ts X pv cv nw qa l u1 u2 f ok) :
   qF.wp prog (λe a x=>e=.normal/\HG X x/\qM 89 a.tmps x pv cv nw qa l u1 u2 f ok) ⟨ts,[]⟩ X:=by
 revert ts;refine q6y ?_;intro v0 v1 v2 v3 v4 v5 v6 v7 v8 v9 v10 v11 v12 v13 v14 v15 v16 v17 v18 v19 v20 v21 v22 v23 v24 v25 v26 v27 v28 v29 v30 v31 v32 v33 v34 v35 v36 v37 v38 v39 v40 v41 v42 v43 v44 v45 v46 v47 v48 v49 v50 v51 v52 v53 v54 v55 v56 v57 v58 v59 v60 v61 v62 v63 v64 v65 v66 v67 v68 v69 v70 v71 v72 v73 v74 v75 v76 v77 v78 v79 v80 v81 v82 v83 v84 v85 v86 v87 v88 H;obtain rfl:v3=pv:=by simpa using H.s3
 obtain rfl:v4=.int .i64 nw:=by simpa using H.s4
 obtain rfl:v5=cv:=by simpa using H.s5
 obtain rfl:v6=u1:=by simpa using H.s6
 obtain rfl:v7=u2:=by simpa using H.s7
 obtain rfl:v8=.bool ok:=by simpa using H.s8
 have hp:=H.rn;have hl:=H.ri;have hro:=H.ro;have hdn:=H.dn;clear H;have hT:=qep _ _ qa nw l X hp hl (by have:=sp.1;omega) (by have:=sc.1;omega);rw[qmi hok hf]at hT;have HT:=Lib.hid hT;clear sp sc hok hf hT;simp only[qF,qbo,qa9,f7,Option.getD_some];go_wp2_with fail;refine HT.out.mono ?_;rintro e w5 ⟨y1,y2,rfl,h1,h2,hg5⟩;have hp6:=hp.new hg5;have hl6:=hl.new hg5;have qaK:=hro.new hg5;have qaL:=hdn.new hg5;clear HT hp hl hro hdn;go_wp2_with fail;exact⟨HG.of hg5,⟨rfl,rfl,rfl,rfl,rfl,rfl,rfl,hp6,hl6,qaK,qaL⟩,_,_,rfl,rfl,rfl,h1,h2⟩
theorem qqa(ts:Array Value)(X:World)(hs:ts.size=89)(H:qM 89 ts X pv cv nw qa l u1 u2 f ok) :
   jf.wp prog (λe a x=>HG X x/\((e=.ret/\a.tmps[2]?=some (.bool true))∨(e=.normal/\ok=true/\jC 89 a.tmps x pv cv nw qa l u1 u2 f ok))) ⟨ts,[]⟩ X:=by
 revert ts;refine q6y ?_;intro v0 v1 v2 v3 v4 v5 v6 v7 v8 v9 v10 v11 v12 v13 v14 v15 v16 v17 v18 v19 v20 v21 v22 v23 v24 v25 v26 v27 v28 v29 v30 v31 v32 v33 v34 v35 v36 v37 v38 v39 v40 v41 v42 v43 v44 v45 v46 v47 v48 v49 v50 v51 v52 v53 v54 v55 v56 v57 v58 v59 v60 v61 v62 v63 v64 v65 v66 v67 v68 v69 v70 v71 v72 v73 v74 v75 v76 v77 v78 v79 v80 v81 v82 v83 v84 v85 v86 v87 v88 H;obtain⟨y1,y2,s9,s10,s11,h1,h2⟩:=H.told;obtain rfl:v3=pv:=by simpa using H.run.s3
 obtain rfl:v4=.int .i64 nw:=by simpa using H.run.s4
 obtain rfl:v5=cv:=by simpa using H.run.s5
 obtain rfl:v6=u1:=by simpa using H.run.s6
 obtain rfl:v7=u2:=by simpa using H.run.s7
 obtain rfl:v8=.bool ok:=by simpa using H.run.s8
 obtain rfl:v9=y1:=by simpa using s9
 obtain rfl:v10=y2:=by simpa using s10
 obtain rfl:v11=.bool ok:=by simpa using s11
 have hp:=H.run.rn;have hl:=H.run.ri;have hro:=H.run.ro;have hdn:=H.run.dn;clear H s9 s10 s11;simp only[jf,qbo,qa9,f7,Option.getD_some];cases ok with
 |false=>
  go_wp2_with fail;refine(qcv _ _ f.done f.done X hdn h2 (c:=true) (decide_eq_true rfl)).mono ?_;rintro e w7 ⟨rfl,hg7⟩;go_wp2_with fail;refine(qce _ _ f.rows f.rows w7 (hro.new hg7) (h1.new hg7) (c:=true) (decide_eq_true rfl)).mono ?_;rintro e w8 ⟨rfl,hg8⟩;have g8:=qad hg7 hg8;go_wp2_with fail;refine(qcv _ _ f.done f.done w8 (hdn.new g8) (h2.new g8) (c:=true) (decide_eq_true rfl)).mono ?_;rintro e w9 ⟨rfl,hg9⟩;have g9:=qad g8 hg9;go_wp2_with fail;refine(qce _ _ f.rows f.rows w9 (hro.new g9) (h1.new g9) (c:=true) (decide_eq_true rfl)).mono ?_;rintro e w10 ⟨rfl,vw⟩;go_wp2_with fail;exact HG.of (qad g9 vw)
 |true=>
  go_wp2_with fail;refine(qcv _ _ f.done f.done X hdn h2 (c:=true) (decide_eq_true rfl)).mono ?_;rintro e w7 ⟨rfl,hg7⟩;go_wp2_with fail;refine(qce _ _ f.rows f.rows w7 (hro.new hg7) (h1.new hg7) (c:=true) (decide_eq_true rfl)).mono ?_;rintro e w8 ⟨rfl,hg8⟩;have g8:=qad hg7 hg8;have hp7:=hp.new g8;have hl7:=hl.new g8;have qaM:=hro.new g8;have qaN:=hdn.new g8;go_wp2_with fail;exact⟨HG.of g8,rfl,rfl,rfl,rfl,rfl,rfl,rfl,hp7,hl7,qaM,qaN⟩
noncomputable def qjb:Code:=match qdv with | .seq x _=>x|_=>.skip
noncomputable def qG:Code:=match qdv with | .seq _ x=>x|_=>.skip
theorem qna:qdv=.seq qjb qG:=rfl
theorem qky:qcl prog Fs Gs SN qG=true:=by kernel_rfl
theorem qqb{R:Nat}{k0 k1 k2 k3:Value}{c:qj}{t:List Int}(ht:f.done=c.done++t)(ts:Array Value)(X:World)(hs:ts.size=89)(s7:ts[7]?=some u2)(s12:ts[12]?=some (.pointer (some ⟨R,0,none⟩)))(s13:ts[13]?=some (.bool true))
   (hdn:RI X u2 f.done) (hB:jU X R k0 k1 k2 k3 c):qG.wp prog (λe a x=>e=.ret/\HG X x/\a.tmps[2]?=some (.bool true)) ⟨ts,[]⟩ X:=by
 revert ts;refine q6y ?_;intro v0 v1 v2 v3 v4 v5 v6 v7 v8 v9 v10 v11 v12 v13 v14 v15 v16 v17 v18 v19 v20 v21 v22 v23 v24 v25 v26 v27 v28 v29 v30 v31 v32 v33 v34 v35 v36 v37 v38 v39 v40 v41 v42 v43 v44 v45 v46 v47 v48 v49 v50 v51 v52 v53 v54 v55 v56 v57 v58 v59 v60 v61 v62 v63 v64 v65 v66 v67 v68 v69 v70 v71 v72 v73 v74 v75 v76 v77 v78 v79 v80 v81 v82 v83 v84 v85 v86 v87 v88 s7 s12 s13;obtain rfl:v7=u2:=by simpa using s7
 obtain rfl:v12=.pointer (some ⟨R,0,none⟩):=by simpa using s12
 obtain rfl:v13=.bool true:=by simpa using s13
 clear s7 s12 s13;obtain⟨A,n,cp,rfl,hnc,hn⟩:=hdn.form';obtain⟨A2,n2,c2,rfl,qnT,hn2⟩:=hB.dn.form';have hle:n2<=n:=by rw[hn,hn2,ht,length_append];omega
 have htk:f.done.take n2=c.done:=by rw[ht,hn2,take_left]
 have y2:=hB.d2;have hdt:=hdn.take hle;rw[htk]at hdt;have h1:(0:Int)<=(n2:Int):=by omega
 have h2:(n2:Int)<=(cp:Int):=by omega
 have h3:n2<=cp:=by omega
 have hdc:=hB.dn;have Hs:Hid (∀w,X.grownBy w none->Calls prog 21 #[.slice A n2 cp,.slice A2 n2 c2] w λe w'=>e=.returned (.bool true)/\w.grownBy w' none):=λw g=>qcv _ _ c.done c.done w (hdt.new g) (hdc.new g) (c:=true) (decide_eq_true rfl);clear hdn hB ht hn hn2 htk hdt hdc;simp only[qG,qdv,qbo,qa9,f7,Option.getD_some];go_upto_region 9 with fail
 go_region_held3 (λw'=>w'.cell? ⟨R,2,none⟩=some (.slice A2 n2 c2)) (go_keep) (first
  |(go_at_call 21;refine(Hs.out _ (by first|exact qah _ _|exact qay (qah _ _))).mono ?_;rintro e w7 ⟨rfl,hg7⟩;have qdY:X.grownBy w7 none:=(by first|exact hg7|exact qad (qay (qah _ none)) hg7);have k0:=qc1 y2 qdY))
 all_goals
  go_wp2_with fail
  first
   |exact HG.of qdY
   |exact HG.of (qay qdY)
   |exact HG.of (qcn qdY _)
end
theorem qnb{W:World}{ea:Addr}{v:Value}{n g o c:Nat}{cs:Array Value}{e:TypeId}{fr:Nat×Nat}(S:Start W ea)(H:qC W v n g o c cs e fr) :
   qc prog (qv W) (λ_=>False) (λ_=>False) (λ_=>.left) 1 0 0 (G (Frame.enter prog 7 #[v] .normal) []) W:=by
 refine ql2 S H (λts w z pv cv nw qa l hD zy hb hO hE=>?_);have OO:∀M:Mks (gr2 W.heap.size g ea).base,zL ((gr2 W.heap.size g ea).base.pen M):=λM=>q4o M;have O:zx ((gr2 W.heap.size g ea).base.pen (mk2 W.heap.size g cs ea)) (λ_=>False) (λ_=>False):=⟨λ_ h=>h.elim,λ_ h=>h.elim⟩;have hT:∀i,i≠0->(λ_=>qA.left:Nat->qA) i=.left:=λ_ _=>rfl;rw[qm9];refine qao ?_;generalize hc5:Code.seq qF _=c5;simp only[qja,qbo,qa9,f7,Option.getD_some];refine qau ?_;simp only[List.size_toArray,length_cons,length_nil,Nat.reduceAdd,Nat.zero_add,range,range.loop]
 refine zt OO hb hD.rn hD.ri hE (λx hx=>by have:=hD.sc.2 x hx;omega) O hT (by decide) (by decide) (by decide) zy hD.size (p0:=24) (p1:=25) (p2:=26) (tc:=27) (tm:=23) (t0:=28) (t1:=29) (t2:=30) (k0:=6) (k1:=7) (k2:=8)
  ⟨⟨_,_,rfl,rfl,rfl,rfl⟩,⟨_,rfl,rfl,rfl,rfl⟩,⟨_,rfl,rfl,rfl,rfl⟩,⟨_,rfl,rfl,rfl,rfl⟩,⟨_,rfl,rfl,rfl,rfl⟩,⟨_,rfl,rfl,rfl,rfl⟩,⟨_,rfl,rfl,rfl,rfl⟩,⟨_,rfl,rfl,rfl,rfl⟩⟩ rfl rfl rfl hD.s3 hD.s4 hD.s5 (by decide) (by decide)
  (λw4 z4 M4 Sh4 Fz4 T4 n4 u1 u2 d q t4 hle hb4 hg4 O4 hh4 hT4 hn4 xS hF xC zA hk0 hk1 hk2 ok4=>?_)
 have hO4:=hO.step hb4 hle hh4 hb.size hg4;subst hc5
 have R4:jC 89 t4 z4 pv cv nw qa l u1 u2 ((qa1 qa nw l).getD qdk) (qa1 qa nw l).isSome:=
  ⟨xC,zA _ _ (by decide) hD.s3,zA _ _ (by decide) hD.s4,zA _ _ (by decide) hD.s5,hk0,hk1,hk2,hg4.rn hD.rn,hg4.ri hD.ri,hF.ro.1,hF.ro.2⟩
 clear zA hk0 hk1 hk2 xC;obtain⟨f,hf⟩:∃f,f=(qa1 qa nw l).getD qdk:=⟨_,rfl⟩;obtain⟨ok,hok⟩:∃ok,ok=(qa1 qa nw l).isSome:=⟨_,rfl⟩;rw[<-hf,<-hok]at R4;have hE4:=hg4.err hE;refine qao ?_
 refine qbg (gr:=gr2 W.heap.size g ea) (OO M4) func7 ok4 qkw hb4 (O4.alone hT4) (qaq hT4) (Q:=λe a x=>e=.normal/\HG z4 x/\qM 89 a.tmps x pv cv nw qa l u1 u2 f ok)
  (λe a x y exy h=>⟨h.1,h.2.1.heap exy,h.2.2.heap exy⟩) (λX eX=>wp_mono (qp9 hD.sp hD.sc hok hf t4 X R4.size (R4.heap eX)) (λe a x h=>⟨h.1,h.2.1.from eX.symm,h.2.2⟩)) (λe a x h=>by rw[h.1];trivial) ?_
 rintro e5 ⟨t5,d5⟩ td5 w5 z5 hb5 hh5-ok5 xV-⟨rfl,hg5,T5⟩;rw[xV rfl];have hO5:=hO4.step hb5 (Mks.Le.refl _) hh5.but hb4.size hg5;show qc prog (qv W) Sh4 Fz4 T4 n4 0 0 (G ((base 7).at ⟨t5,[]⟩ [.code _]) []) w5;replace T5:qM 89 t5 z5 pv cv nw qa l u1 u2 f ok:=T5;refine qao ?_
 refine qbg (gr:=gr2 W.heap.size g ea) (OO M4) func7 ok5 qkx hb5 (O4.alone hT4) (qaq hT4) (Q:=λe a x=>HG z5 x/\((e=.ret/\a.tmps[2]?=some (.bool true))∨(e=.normal/\ok=true/\jC 89 a.tmps x pv cv nw qa l u1 u2 f ok)))
  (λe a x y exy h=>⟨h.1.heap exy,h.2.imp id (λk=>⟨k.1,k.2.1,k.2.2.heap exy⟩)⟩) (λX eX=>wp_mono (qqa t5 X T5.run.size (T5.heap eX)) (λe a x h=>⟨h.1.from eX.symm,h.2⟩)) (λe a x h=>by rcases h.2 with h|h<;>(rw[h.1];trivial)) ?_
 rintro e6 ⟨t6,d6⟩ td6 w6 z6 hb6 hh6-ok6 yu-⟨hg6,⟨rfl,h62⟩|⟨rfl,yw,R6⟩⟩
 . have hO6:=hO5.step hb6 (Mks.Le.refl _) hh6.but hb5.size hg6;show qc prog (qv W) Sh4 Fz4 T4 n4 0 0 (G {(base 7).at ⟨t6,[]⟩ (td6++_)with mode:=.returning} []) w6;exact qf8 func7 (by kernel_rfl) rfl h62 hT4 (by omega) (λd=>hO6.fin d)
 rw[yu rfl];have hO6:=hO5.step hb6 (Mks.Le.refl _) hh6.but hb5.size hg6;show qc prog (qv W) Sh4 Fz4 T4 n4 0 0 (G ((base 7).at ⟨t6,[]⟩ [.code _]) []) w6;replace R6:jC 89 t6 z6 pv cv nw qa l u1 u2 f ok:=R6;rw[yw]at hok;obtain⟨c',hc'⟩:=Option.isSome_iff_exists.1 hok.symm;obtain rfl:f=c':=by rw[hf,hc'];rfl
 have hE6:=(hg5.trans hg6).err hE4;have hs6:=R6.size;rw[qna];refine qao ?_;generalize hc9:qG=c9;simp only[qjb,qdv,qbo,qa9,f7,Option.getD_some];refine qau ?_;simp only[List.size_toArray,length_cons,length_nil,Nat.reduceAdd,Nat.zero_add,range,range.loop];obtain⟨c,hrun,hfc,_,_,_,_⟩:=qey hc';obtain⟨tl,htl⟩:=qqw (qa:=qa) qa.length c;rw[<-hfc]at htl
 refine jy OO hb6 R6.rn R6.ri hE6 (λx hx=>by have:=hD.sc.2 x hx;omega) O4 hT4 (by omega) (by omega) (by decide) ok6 R6.size (p0:=72) (p1:=73) (p2:=74) (tc:=75) (tm:=71) (tv:=76) (tb:=77) (tx:=12) (tk:=13)
  ⟨⟨_,_,rfl,rfl,rfl,rfl⟩,⟨_,rfl,rfl,rfl,rfl⟩,⟨_,rfl,rfl,rfl,rfl⟩,⟨_,rfl,rfl,rfl,rfl⟩,⟨_,rfl,rfl,rfl,rfl⟩,⟨_,rfl,rfl,rfl,rfl⟩,⟨_,rfl,rfl,rfl,rfl⟩⟩ rfl rfl rfl R6.s3 R6.s4 R6.s5 (by decide) (by decide)
  (λwf zf Mf Shf Fzf Tf nf A1 m1 c1 A2 m2 c2 A3 m3 c3 A4 m4 c4 Rf kp hbf hgf Of hhf hTf hnf qjI hFf hBf hRf okf=>?_)
 have hOf:=hO6.step hbf kp hhf hb6.size hgf;subst hc9;have sl7:=qd7 (p0:=72) (p1:=73) (p2:=74) (tc:=75) (tm:=71) (tv:=76) (tb:=77) (tx:=12) (tk:=13) (a0:=pv) (a1:=.int .i64 nw) (a2:=cv) (v:=.agg #[.slice A1 m1 c1,.slice A2 m2 c2,.slice A3 m3 c3,.slice A4 m4 c4]) (b:=(qas qa nw l).isSome) (R:=Rf) (by decide) R6.s7;have slz:(qb0 (((t6.setIfInBounds 72 pv).setIfInBounds 73 (.int .i64 nw)).setIfInBounds 74 cv) 75 71 76 77 12 13 (.agg #[.slice A1 m1 c1,.slice A2 m2 c2,.slice A3 m3 c3,.slice A4 m4 c4]) (qas qa nw l).isSome Rf).size=89:=jb.trans (by simp[hs6]);have qaZ:=qhp (ts:=((t6.setIfInBounds 72 pv).setIfInBounds 73 (.int .i64 nw)).setIfInBounds 74 cv) (tc:=75) (tm:=71) (tv:=76) (tb:=77) (tx:=12) (tk:=13) (v:=.agg #[.slice A1 m1 c1,.slice A2 m2 c2,.slice A3 m3 c3,.slice A4 m4 c4]) (b:=(qas qa nw l).isSome) (R:=Rf) (by decide) (by simp[hs6]);have qgM:=qhq (ts:=((t6.setIfInBounds 72 pv).setIfInBounds 73 (.int .i64 nw)).setIfInBounds 74 cv) (tc:=75) (tm:=71) (tv:=76) (tb:=77) (tx:=12) (tk:=13) (v:=.agg #[.slice A1 m1 c1,.slice A2 m2 c2,.slice A3 m3 c3,.slice A4 m4 c4]) (b:=(qas qa nw l).isSome) (R:=Rf) (by simp[hs6]);rw[hrun]at sl7 slz qaZ qgM hFf okf |-;generalize qb0 _ _ _ _ _ _ _ _ _ _=tf at okf sl7 qaZ qgM slz |-;have yD:=q99 hFf hBf;have qrS:=hgf.ri R6.dn
 refine qbg (gr:=gr2 W.heap.size g ea) (OO Mf) func7 okf qky hbf (Of.alone hTf) (qaq hTf) (Q:=λe a x=>e=.ret/\HG zf x/\a.tmps[2]?=some (.bool true)) (λe a x y exy h=>⟨h.1,h.2.1.heap exy,h.2.2⟩)
  (λX eX=>wp_mono (qqb htl tf X slz sl7 qaZ qgM (qrS.heap eX) (yD.heap eX)) (λe a x h=>⟨h.1,h.2.1.from eX.symm,h.2.2⟩)) (λe a x h=>by rw[h.1];trivial) ?_
 rintro eg ⟨tg,dg⟩ tdg wg zg hbg hhg-okg - - ⟨rfl,hgg,hg2⟩;have hOg:=hOf.step hbg (Mks.Le.refl _) hhg.but hbf.size hgg;show qc prog (qv W) Shf Fzf Tf nf 0 0 (G {(base 7).at ⟨tg,[]⟩ (tdg++_)with mode:=.returning} []) wg;exact qf8 func7 (by kernel_rfl) rfl hg2 hTf (by omega) (λd=>hOg.fin d)
end
end Go.Proofs.YtacemdoejblgaaaGreatDoor
