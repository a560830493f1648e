/- Part M05. Conditions: each statement's. -/
import Derived.Test.YtacemdoejblgaaaGreatDoorM04
namespace Go.Proofs.YtacemdoejblgaaaGreatDoor
open Go renaming World→Ab,mem_ready→Ah,Value→Ai,Goroutine→Aj,Frame→Am,TypeId→Ap
open Conc renaming stepG_region_end→As,stepG_region→At,stepG_seq→Ax,served→Ay,stepG_value→Az
open IntKind renaming wrap_i64→AA,i64→AB
open Loc.cell renaming injEq→AD
open Region renaming wanted→AE,binds→AF
open List renaming size_toArray→AG,length_cons→AH,length_nil→AI,getElem?_cons_zero→AJ,getElem?_cons_succ→AK,ne_nil_of_mem→AL,getElem?_toArray→AM,not_mem_nil→AN,mem_cons→AO
open List.range renaming loop→AP
open Nat renaming zero_add→AQ,reduceAdd→AR,lt_of_lt_of_le→AS,le_refl→AT,zero_le→AU
open Option renaming getD_some→AV
open Option.some renaming injEq→AW
open List Tryz
set_option maxRecDepth 100000
set_option maxHeartbeats 6400000
variable {a:Act}{ops:Array Oper}{tm:Array Ai}{B:Base}{main:Bool}{b:Am}{g g':Aj}{cs:List Am}{k:List Item}{rest:List Nat}{Wg i m0 n κ:Nat}{T:Nat->qz}{P:Program}{ty:Ap}{v:Ai}{w:Ab}
section
open Go.Conc Go.RowKit Go.Conc.Lib Go.ConcR.Gen
open Go.ConcR (KK WgAt stA smA Payload)
open Go.ConcN (upd upd_ne upd_same)
theorem q52 :
   Ay (G (b.at a (.inRegion ops (i::rest)::k)) cs) v=G (b.at (a.put ((ops[i]?).bind (·.dst)) v) (.inRegion ops rest::k)) cs:=by
 have:=Frame.finish_at (b:=b) (a:=a) (ops:=ops) (i:=i) (rest:=rest) (k:=k) (v:=v);unfold Ay G;dsimp only;rw[this]
section
variable {gr:Grd}{M1:Mks gr.base}{S:List String}{Post:Ai->Ab->Prop}{Sh:Nat->Prop}{Fz:Loc->Prop}{T:Nat->qz}{n0 m0 N fl:Nat}{csv:Ai}{chs:List Nat}{α:Type}{step:α->Nat->α}{D L:α->Ab->Prop}{w z:Ab}{cs:List Am}{kk:List Item}{lp:Code}
theorem qzu(W:Task gr m0 N fl csv chs step D L)(H:je (gr.base.pen M1) S)(qJ:qd9 (gr.base.pen M1) S (gr.X 71) qy)(hb:Both (gr.base.pen M1) w z){c:α}(hz:D c z)(C:jy m0 N N fl w)(hM:qV m0 N M1)(O:jC (gr.base.pen M1) Sh Fz)
   (lt1:∀r,Sh r->r<m0) (hN0:gr.N0<=m0) (hn0:0<n0) (hN1:1<=N) (R:qW m0 N n0 N T)  (hs:qP m0 N fl csv tm) (h29:tm[29]?=some csv) (h30:tm[30]?=some (.int .i64 (chs.length:Nat)))  (h31:tm[31]?=some (.int .i64 i)) (hi:i<chs.length)
   (hlen:chs.length<1000000)
   (next:∀tm' T' w' z',Both (gr.base.pen M1) w' z'->D (step c (chs[i]%N)) z'->jy m0 N N fl w'->qW m0 N n0 N T'->ql (gr.base.pen M1) (λr=>m0<=r) w w'->qP m0 N fl csv tm'->tm'[29]?=some csv->tm'[30]?=some (.int .i64 (chs.length:Nat))->tm'[31]?=some (.int .i64 ((i+1:Nat):Int)) ->
    qc prog Post (qb7 m0 Sh) (qci m0 N Fz) T' (n0+N) 0 0 (G ((base 43).at ⟨tm',[]⟩ (.inLoop lp::.inBlock 2::kk)) cs) w') :
   qc prog Post (qb7 m0 Sh) (qci m0 N Fz) T (n0+N) 0 0 (G ((base 43).at ⟨tm,[]⟩ (.code qcc::.inLoop lp::.inBlock 2::kk)) cs) w:=by
 obtain⟨v0,v1,v2,v3,v4,v5,v6,v7,v8,v9,v10,v11,v12,v13,v14,v15,v16,v17,v18,v19,v20,v21,v22,v23,v24,v25,v26,v27,v28,v29,v30,v31,v32,v33,v34,v35,v36,v37,v38,v39,v40,v41,v42,v43,v44,v45,v46,v47,v48,v49,v50,v51,v52,v53,v54,rfl⟩:=qh7 tm hs.size;have s0:=hs.s0;have s1:=hs.s1;have s2:=hs.s2;have s3:=hs.s3;have s6:=hs.s6;have s7:=hs.s7;have s8:=hs.s8;simp only[AM,AJ,AK,AW]at s0 s1 s2 s3 s6 s7 s8 h29 h30 h31;replace s2:=s2.symm;subst s0 s1 s2 s3 s6 s7 s8 h30 h31;replace h29:=h29.symm;subst h29;clear hs;obtain⟨ca,qdI,kY,a0,⟨cap,yT⟩,hadd⟩:=W.choice i hi;have hca:=(hb.cell qdI (kY c z hz)).1;have hxs:=W.small i hi
 have nsh:∀r,m0<=r->r≠m0+1->¬qb7 m0 Sh r:=λr hr hne h=>by
  rcases h with h|h
  . have:=lt1 r h;omega
  . exact hne h
 have yU:¬qb7 m0 Sh ca.block:=λh=>by
  rcases h with h|h
  . rcases O.zS _ h with k|k
    . exact k ⟨ca,qdI,rfl⟩
    . exact(ordinary hb (kY c z hz)).1 k
  . exact(ordinary hb (kY c z hz)).1 (by rw[h];exact hM.z1)
 have yA:decide ((i:Int)<((chs.length:Nat):Int))=true:=by simp;omega
 have hi0:(0:Int)<=(i:Int):=by omega
 have hi1:(i:Int)<((chs.length:Nat):Int):=by omega
 have qbA:AB.wrap ((i:Int)+1)=((i+1:Nat):Int):=by rw[AA];omega
 obtain⟨x,hx⟩:∃x,x=chs[i]:=⟨_,rfl⟩;rw[<-hx]at hca hxs next;have hcell:=hca;generalize hl:q51=nx;have hcs:csv=.slice (some a0) chs.length cap:=yT;have e0:qcc=.seq (match qcc with | .seq x _=>x|_=>.skip) (.seq (match qcc with | .seq _ (.seq x _)=>x|_=>.skip) (.seq (match qcc with | .seq _ (.seq _ (.seq x _))=>x|_=>.skip) q51)):=rfl;rw[e0,hl];clear e0;simp only[qcc,qgo,qh2,qg5,f43,AV];refine qat ?_;refine qaz ?_;simp only[AG,AH,AI,AQ,range,AP];refine qao (.bool true) rfl rfl (by decide) (λw=>by go_simp) (λw=>by simp[go_sem]) ?_;walk_nrm;refine qaj ?_;refine qat ?_;refine qhd (t:=true) rfl ?_;simp only[if_true];refine qms ?_;refine qat ?_;refine qey ?_;refine qat ?_;refine qaz ?_;simp only[AG,AH,AI,AR,AQ,range,AP];refine qao (.int .i64 i) rfl rfl (by decide) (λw=>by go_simp) (λw=>by simp[go_sem]) ?_;walk_nrm;refine qao (.pointer (some ca)) rfl rfl (by decide) (λw=>?_) (λw=>?_) ?_
 . rw[hcs,<-hadd]
   go_simp
 . rw[hcs];simp[go_sem, *]
 walk_nrm;refine qds hcell yU rfl rfl (by decide) (λw h=>by go_simp) (λw h=>by simp[go_sem,h]) ?_;walk_nrm;refine qao (.int .i64 i) rfl rfl (by decide) (λw=>by go_simp) (λw=>by simp[go_sem]) ?_;walk_nrm;refine qao (.int .i64 x) rfl rfl (by decide) (λw=>by go_simp) (λw=>by simp[go_sem]) ?_;walk_nrm;refine qaj ?_;refine qat ?_;clear hcell hca yU hadd yT hcs hi0 hi1 yA;obtain⟨j,hj⟩:∃j,j=x%N:=⟨_,rfl⟩;have hjN:j<N:=by rw[hj];exact Nat.mod_lt _ (by omega)
 have qjY:(x:Int).tmod (N:Int)=(j:Int):=by rw[hj,Int.tmod_eq_emod_of_nonneg (by omega)];exact(Int.natCast_emod x N).symm
 have hjx:j<=x:=by rw[hj];exact Nat.mod_le ..
 have hwrap:AB.wrap (j:Int)=(j:Int):=by rw[AA];omega
 have hNn:¬((N:Int)=0):=by omega
 have qjZ:¬(N=0):=by omega
 have qkA:((N:Int)==0)=false:=by simp;omega
 have hj0:(0:Int)<=(j:Int):=by omega
 have hj1:(j:Int)<(N:Int):=by omega
 rw[<-hj]at next;clear hj hx kY;obtain⟨ecb,kcb⟩:=C.cb;have hcb:=(qij kcb).1;obtain⟨arr,ra1,ra2,ra3⟩:=C.row;have hrow:w.cell? ⟨m0+2,j,none⟩=some (.chan (some (m0+7+2*j))):=by simp[World.cell?,ra1,ra3 j hjN]
 refine qtm (I:=fun Sb a w'=>∃ s0 s1 s2 s3 s4 s5 s6 x36 x37 x38 x39 x40 x41 x42,Sb=#[s0,s1,s2,s3,s4,s5,s6,false]/\a=⟨qd8 m0 N fl chs.length i x csv ca x36 x37 x38 x39 x40 x41 x42 v43 v4 v5 v9 v12 v13 v14 v15 v16 v17 v18 v19 v20 v21 v22 v23 v24 v25 v26 v27 v28 v44 v45 v46 v47 v48 v49 v50 v51 v52 v53 v54,[]⟩/\(s0=true->x36=.slice (some ⟨m0+2,0,none⟩) N N)/\(s1=true->x37=.int .i64 x)/\(s2=true->x38=.int .i64 N) /\
     (s3=true->s1=true/\s2=true/\x39=.int .i64 j)/\(s4=true->s0=true/\s3=true/\x40=.pointer (some ⟨m0+2,j,none⟩))/\(s5=true->s4=true/\x41=.chan (some (m0+7+2*j)))/\(s6=true->x42=.int .i64 i)/\w'=w)
  (by kernel_rfl) ⟨false,false,false,false,false,false,false,_,_,_,_,_,_,_,rfl,rfl,(λh=>by cases h),(λh=>by cases h),(λh=>by cases h),(λh=>by cases h),(λh=>by cases h),(λh=>by cases h),(λh=>by cases h),rfl⟩ ?_ ?_
 . rintro Sb a w' q rest ⟨s0,s1,s2,s3,s4,s5,s6,x36,x37,x38,x39,x40,x41,x42,rfl,rfl,i0,i1,i2,i3,i4,i5,i6,rfl⟩ hq hr hgo;obtain⟨hq0,o,ho,jc⟩:=Ah.1 hq
   have hq8:q<8:=by
    have:=(Array.getElem?_eq_some_iff.1 ho).1;simpa using this
   simp only[qd8]at hgo |-;rcases q with _|_|_|_|_|_|_|_|q
   . simp at hq0;subst hq0;obtain rfl:s4=false:=by cases s4 with|false=>rfl|true=>exact absurd (i4 rfl).1 (by simp)
     obtain rfl:s5=false:=by cases s5 with|false=>rfl|true=>exact absurd (i5 rfl).1 (by simp)
     refine qds hcb (nsh _ (by show m0<=m0+3;omega) (by show m0+3≠m0+1;omega)) rfl rfl (by decide) (λw h=>by go_simp) (λw h=>by simp[go_sem,h]) ?_;walk_nrm;exact hgo _ _ ⟨true,s1,s2,s3,false,false,s6,_,_,_,_,_,_,_,rfl,rfl,λ_=>rfl,i1,i2,i3,(λh=>by cases h),(λh=>by cases h),i6,rfl⟩
   . simp at hq0;subst hq0;obtain rfl:s3=false:=by cases s3 with|false=>rfl|true=>exact absurd (i3 rfl).1 (by simp)
     obtain rfl:s4=false:=by cases s4 with|false=>rfl|true=>exact absurd (i4 rfl).2.1 (by simp)
     obtain rfl:s5=false:=by cases s5 with|false=>rfl|true=>exact absurd (i5 rfl).1 (by simp)
     refine qao (.int .i64 x) rfl rfl (by decide) (λw=>by go_simp) (λw=>by simp[go_sem]) ?_;walk_nrm;exact hgo _ _ ⟨s0,true,s2,false,false,false,s6,_,_,_,_,_,_,_,rfl,rfl,i0,λ_=>rfl,i2,(λh=>by cases h),(λh=>by cases h),(λh=>by cases h),i6,rfl⟩
   . simp at hq0;subst hq0;obtain rfl:s3=false:=by cases s3 with|false=>rfl|true=>exact absurd (i3 rfl).2.1 (by simp)
     obtain rfl:s4=false:=by cases s4 with|false=>rfl|true=>exact absurd (i4 rfl).2.1 (by simp)
     obtain rfl:s5=false:=by cases s5 with|false=>rfl|true=>exact absurd (i5 rfl).1 (by simp)
     refine qao (.int .i64 N) rfl rfl (by decide) (λw=>by go_simp) (λw=>by simp[go_sem]) ?_;walk_nrm;exact hgo _ _ ⟨s0,s1,true,false,false,false,s6,_,_,_,_,_,_,_,rfl,rfl,i0,i1,λ_=>rfl,(λh=>by cases h),(λh=>by cases h),(λh=>by cases h),i6,rfl⟩
   . simp at hq0;subst hq0;obtain rfl:s4=false:=by cases s4 with|false=>rfl|true=>exact absurd (i4 rfl).2.1 (by simp)
     obtain rfl:s5=false:=by cases s5 with|false=>rfl|true=>exact absurd (i5 rfl).1 (by simp)
     obtain⟨rfl,rfl⟩:s1=true/\s2=true:=by
      simp at ho;subst ho;simp[AF]at jc;exact jc
     obtain rfl:=i1 rfl;obtain rfl:=i2 rfl;refine qao (.int .i64 j) rfl rfl (by decide) (λw=>by go_simp) (λw=>by simp[go_sem, *]) ?_;walk_nrm;exact hgo _ _ ⟨s0,true,true,true,false,false,s6,_,_,_,_,_,_,_,rfl,rfl,i0,λ_=>rfl,λ_=>rfl,λ_=>⟨rfl,rfl,rfl⟩,(λh=>by cases h),(λh=>by cases h),i6,rfl⟩
   . simp at hq0;subst hq0;obtain rfl:s5=false:=by cases s5 with|false=>rfl|true=>exact absurd (i5 rfl).1 (by simp)
     obtain⟨rfl,rfl⟩:s0=true/\s3=true:=by
      simp at ho;subst ho;simp[AF]at jc;exact jc
     obtain rfl:=i0 rfl;obtain⟨rfl,rfl,rfl⟩:=i3 rfl;refine qao (.pointer (some ⟨m0+2,j,none⟩)) rfl rfl (by decide) (λw=>by go_simp) (λw=>by simp[go_sem, *]) ?_;walk_nrm;exact hgo _ _ ⟨true,true,true,true,true,false,s6,_,_,_,_,_,_,_,rfl,rfl,λ_=>rfl,i1,i2,λ_=>⟨rfl,rfl,rfl⟩,λ_=>⟨rfl,rfl,rfl⟩,(λh=>by cases h),i6,rfl⟩
   . simp at hq0;subst hq0
     obtain rfl:s4=true:=by
      simp at ho;subst ho;simp[AF]at jc;exact jc
     obtain⟨rfl,rfl,rfl⟩:=i4 rfl;obtain⟨rfl,rfl,rfl⟩:=i3 rfl;refine qds hrow (nsh _ (by show m0<=m0+2;omega) (by show m0+2≠m0+1;omega)) rfl rfl (by decide) (λw h=>by go_simp) (λw h=>by simp[go_sem,h]) ?_;walk_nrm;exact hgo _ _ ⟨true,true,true,true,true,true,s6,_,_,_,_,_,_,_,rfl,rfl,i0,i1,i2,λ_=>⟨rfl,rfl,rfl⟩,λ_=>⟨rfl,rfl,rfl⟩,λ_=>⟨rfl,rfl⟩,i6,rfl⟩
   . simp at hq0;subst hq0;refine qao (.int .i64 i) rfl rfl (by decide) (λw=>by go_simp) (λw=>by simp[go_sem]) ?_;walk_nrm;exact hgo _ _ ⟨s0,s1,s2,s3,s4,s5,true,_,_,_,_,_,_,_,rfl,rfl,i0,i1,i2,i3,i4,i5,λ_=>rfl,rfl⟩
   . clear hgo
     obtain⟨rfl,rfl⟩:s5=true/\s6=true:=by
      simp at ho;subst ho;simp[AF]at jc;exact jc
     obtain⟨rfl,rfl⟩:=i5 rfl;obtain⟨rfl,rfl,rfl⟩:=i4 rfl;obtain⟨rfl,rfl,rfl⟩:=i3 rfl;obtain rfl:=i0 rfl;obtain rfl:=i1 rfl;obtain rfl:=i2 rfl;obtain rfl:=i6 rfl;obtain rfl:rest=[]:=hr (by rfl);clear i0 i1 i2 i3 i4 i5 i6 hr hq jc ho o hq0 hq8;obtain⟨s,hsj,hTj⟩:=R.work j hjN;obtain⟨κ,hκ⟩:=C.ch j hjN;obtain⟨κa,hκa⟩:=C.ac;obtain⟨eab,kab⟩:=C.ab;have hab:=(qij kab).1;have hCj:=hsj;obtain⟨y5,y6,y7,y8,y10,y11,y12,y13,y14,y15,y16,y17,rfl⟩:=hsj;subst hl;have qfQ:z.heap[m0+7+2*j]?=some (.chan 0 #[] false κ κ false):=(hb.vL ⟨_,gr.fresh ⟨m0+7+2*j,0,none⟩ (by show gr.N0<=m0+7+2*j;omega),rfl⟩ (hM.nc j hjN)).trans hκ;refine qtq (k:=n0+j) (sh:=qks m0 (qd8 m0 N fl chs.length i x csv ca (.slice (some ⟨m0+2,0,none⟩) N N) (.int .i64 x) (.int .i64 N) (.int .i64 j) (.pointer (some ⟨m0+2,j,none⟩)) (.chan (some (m0+7+2*j))) (.int .i64 i) (.chan (some (m0+4))) v4 v5 v9 v12 v13 v14 v15 v16 v17 v18 v19 v20 v21 v22 v23 v24 v25 v26 v27 v28 v44 v45 v46 v47 v48 v49 v50 v51 v52 v53 v54) lp kk cs) (mh:=4) (v:=.int .i64 i) (z:=undef) rfl (by omega) (by omega) hTj (κ:=κ) hκ (qtr rfl rfl (by decide) (λw=>by simp[go_sem,scase,qh6,undef]) (λw=>by simp[go_sem])) ?_ (λx hx=>?_) ⟨κa,hκa⟩ (by show m0+4≠m0+7+2*j;omega) (λi s' h1 h2 h3 h4=>?_) (λl hl=>?_) ?_
     . rw[q52];walk_nrm;refine Way.ctl rfl (λ_=>As) ?_;refine Way.ctl rfl (λ_=>At) ?_;simp only[AG,AH,AI,AR,AQ,range,AP];refine Way.load (ad:=⟨m0+5,0,none⟩) (v:=.chan (some (m0+4))) (by simp[qks]) rfl rfl (by decide) (λw h=>by go_simp) (λw h=>by simp[go_sem,h]) ?_;walk_nrm;exact Way.here q3a rfl rfl
     . simp only[qks,AO,AN,or_false]at hx;subst hx;exact hab
     . obtain⟨j',hj',rfl,hs'⟩:=R.seat h1 h4;rw[(qd2 hs').1];show m0+7+2*j'≠m0+4;omega
     . obtain⟨x,hx,rfl⟩:=hl;simp only[qks,AO,AN,or_false]at hx;subst hx;exact⟨.inr (.inr (.inl rfl)),nsh _ (by show m0<=m0+5;omega) (by show m0+5≠m0+1;omega)⟩
     . have hh1:=ql.chan (C:=gr.base.pen M1) (X:=λr=>r=m0+7+2*j) (w:=w') (c:=m0+7+2*j) rfl 0 #[] false (κ+1) (κ+1) false
       have C1:jy m0 N N fl (w'.setChan (m0+7+2*j) 0 #[] false (κ+1) (κ+1) false):=by
        refine C.held hM hh1 (λr hr=>.inr ⟨j,hjN,hr⟩) ⟨κa,?_⟩ (λq hq=>?_)
        . rw[qbr,if_neg (by omega)];exact hκa
        . by_cases e:q=j
          . subst e;exact⟨κ+1,by rw[qbr,if_pos rfl,if_pos (q6d hκ)]⟩
          . obtain⟨κq,hκq⟩:=C.ch q hq;exact⟨κq,by rw[qbr,if_neg (by omega)];exact hκq⟩
       refine qxo W H qJ (hb.setChan (hM.nc j hjN) 0 #[] false (κ+1) (κ+1) false) (W.chan c z _ _ _ _ (by omega) hz qfQ) C1 hM O lt1 hN0 hn0 R hjN hCj hTj (λT' w2 z2 hb2 hz2 C2 R2 hh2=>?_);have hhh:=(hh1.mono (λr hr=>by show m0<=r;rw[hr];omega)).trans hh2;have e:Ay (G (qks m0 (qd8 m0 N fl chs.length i x csv ca (.slice (some ⟨m0+2,0,none⟩) N N) (.int .i64 x) (.int .i64 N) (.int .i64 j) (.pointer (some ⟨m0+2,j,none⟩)) (.chan (some (m0+7+2*j))) (.int .i64 i) (.chan (some (m0+4))) v4 v5 v9 v12 v13 v14 v15 v16 v17 v18 v19 v20 v21 v22 v23 v24 v25 v26 v27 v28 v44 v45 v46 v47 v48 v49 v50 v51 v52 v53 v54) lp kk cs).fr (qks m0 (qd8 m0 N fl chs.length i x csv ca (.slice (some ⟨m0+2,0,none⟩) N N) (.int .i64 x) (.int .i64 N) (.int .i64 j) (.pointer (some ⟨m0+2,j,none⟩)) (.chan (some (m0+7+2*j))) (.int .i64 i) (.chan (some (m0+4))) v4 v5 v9 v12 v13 v14 v15 v16 v17 v18 v19 v20 v21 v22 v23 v24 v25 v26 v27 v28 v44 v45 v46 v47 v48 v49 v50 v51 v52 v53 v54) lp kk cs).cs) (recvd false (.int .i64 i) true)=G ((base 43).at ⟨(qd8 m0 N fl chs.length i x csv ca (.slice (some ⟨m0+2,0,none⟩) N N) (.int .i64 x) (.int .i64 N) (.int .i64 j) (.pointer (some ⟨m0+2,j,none⟩)) (.chan (some (m0+7+2*j))) (.int .i64 i) (.chan (some (m0+4))) v4 v5 v9 v12 v13 v14 v15 v16 v17 v18 v19 v20 v21 v22 v23 v24 v25 v26 v27 v28 v44 v45 v46 v47 v48 v49 v50 v51 v52 v53 v54).setIfInBounds 44 (.int .i64 i),[]⟩ (.inRegion qu2 []::.inBlock 3::.code q51::.inLoop lp::.inBlock 2::kk)) cs:=rfl;rw[e];clear e;refine qaj ?_;refine qle ?_;simp only[q51,qcc,qgo,qh2,qg5,f43,AV,qd8,setIfInBounds_toArray,set_cons_succ,set_cons_zero];refine qaz ?_;simp only[AG,AH,AI,AR,AQ,range,AP];refine qao (.int .i64 ((i+1:Nat):Int)) rfl rfl (by decide) (λw=>by go_simp) (λw=>by simp[go_sem]) ?_;walk_nrm;refine qao (.int .i64 ((i+1:Nat):Int)) rfl rfl (by decide) (λw=>by go_simp) (λw=>by simp[go_sem]) ?_;walk_nrm;refine qaj ?_;exact next _ _ _ _ hb2 hz2 C2 R2 hhh ⟨rfl,rfl,rfl,rfl,rfl,rfl,rfl,rfl⟩ rfl rfl rfl
   . omega
 . rintro Sb a w' ⟨s0,s1,s2,s3,s4,s5,s6,x36,x37,x38,x39,x40,x41,x42,rfl,rfl,i0,i1,i2,i3,i4,i5,i6,rfl⟩ jf
   have e0:s0=true:=by
    cases s0 with
    |true=>rfl
    |false=>exact absurd jf (AL (Ah.2 ⟨rfl,_,rfl,λe he=>by simp at he⟩:0∈_))
   subst e0
   have e1:s1=true:=by
    cases s1 with
    |true=>rfl
    |false=>exact absurd jf (AL (Ah.2 ⟨rfl,_,rfl,λe he=>by simp at he⟩:1∈_))
   subst e1
   have e2:s2=true:=by
    cases s2 with
    |true=>rfl
    |false=>exact absurd jf (AL (Ah.2 ⟨rfl,_,rfl,λe he=>by simp at he⟩:2∈_))
   subst e2
   have e6:s6=true:=by
    cases s6 with
    |true=>rfl
    |false=>exact absurd jf (AL (Ah.2 ⟨rfl,_,rfl,λe he=>by simp at he⟩:6∈_))
   subst e6
   have e3:s3=true:=by
    cases s3 with
    |true=>rfl
    | false=>exact absurd jf (AL (Ah.2 ⟨rfl,_,rfl,fun e he _=>by
        simp at he;rcases he with rfl|rfl<;>rfl⟩:3∈_))
   subst e3
   have e4:s4=true:=by
    cases s4 with
    |true=>rfl
    | false=>exact absurd jf (AL (Ah.2 ⟨rfl,_,rfl,fun e he _=>by
        simp at he;rcases he with rfl|rfl<;>rfl⟩:4∈_))
   subst e4
   have e5:s5=true:=by
    cases s5 with
    |true=>rfl
    | false=>exact absurd jf (AL (Ah.2 ⟨rfl,_,rfl,fun e he _=>by
        simp at he;rcases he with rfl<;>rfl⟩:5∈_))
   subst e5
   exact absurd jf (AL (Ah.2 ⟨rfl,_,rfl,λe he _=>by
    simp at he;rcases he with rfl|rfl<;>rfl⟩:7∈_))
end
end
section
open Go.Conc Go.RowKit Go.Conc.Lib Go.ConcR.Gen
open Go.ConcR (KK WgAt stA smA Payload)
section
variable {gr:Grd}{M1:Mks gr.base}{S:List String}{Post:Ai->Ab->Prop}{Sh:Nat->Prop}{Fz:Loc->Prop}{n0 m0 N fl:Nat}{csv:Ai}{chs:List Nat}{α:Type}{step:α->Nat->α}{D L:α->Ab->Prop}{cs:List Am}{kk:List Item}
def turns{α:Type}(step:α->Nat->α)(N:Nat)(c:α)(l:List Nat):α:=l.foldl (λc x=>step c (x%N)) c
theorem qru(W:Task gr m0 N fl csv chs step D L)(H:je (gr.base.pen M1) S)(qJ:qd9 (gr.base.pen M1) S (gr.X 71) qy)(hM:qV m0 N M1)(O:jC (gr.base.pen M1) Sh Fz)
   (lt1:∀r,Sh r->r<m0) (hN0:gr.N0<=m0) (hn0:0<n0) (hN1:1<=N) (hlen:chs.length<1000000) {c0:α} {w0:Ab}
   (next:∀tm T w z,Both (gr.base.pen M1) w z->D (turns step N c0 chs) z->jy m0 N N fl w->qW m0 N n0 N T->ql (gr.base.pen M1) (λr=>m0<=r) w0 w->qP m0 N fl csv tm->qc prog Post (qb7 m0 Sh) (qci m0 N Fz) T (n0+N) 0 0 (G ((base 43).at ⟨tm,[]⟩ kk) cs) w) :
   ∀r i tm T w z c,i+r=chs.length->turns step N c (chs.drop i)=turns step N c0 chs->Both (gr.base.pen M1) w z->D c z->jy m0 N N fl w->qW m0 N n0 N T->ql (gr.base.pen M1) (λr=>m0<=r) w0 w->qP m0 N fl csv tm->tm[29]?=some csv->tm[30]?=some (.int .i64 (chs.length:Nat))->tm[31]?=some (.int .i64 i) ->
    qc prog Post (qb7 m0 Sh) (qci m0 N Fz) T (n0+N) 0 0 (G ((base 43).at ⟨tm,[]⟩ (.code qcc::.inLoop qcc::.inBlock 2::kk)) cs) w:=by
 intro r
 induction r with
 |zero=>
  intro i tm T w z c hi hc hb hz C R hh hs h29 h30 h31;obtain rfl:i=chs.length:=by omega
  rw[drop_length]at hc;have hz':D (turns step N c0 chs) z:=by rw[<-hc];exact hz
  obtain⟨v0,v1,v2,v3,v4,v5,v6,v7,v8,v9,v10,v11,v12,v13,v14,v15,v16,v17,v18,v19,v20,v21,v22,v23,v24,v25,v26,v27,v28,v29,v30,v31,v32,v33,v34,v35,v36,v37,v38,v39,v40,v41,v42,v43,v44,v45,v46,v47,v48,v49,v50,v51,v52,v53,v54,rfl⟩:=qh7 tm hs.size;have s0:=hs.s0;have s1:=hs.s1;have s2:=hs.s2;have s3:=hs.s3;have s6:=hs.s6;have s7:=hs.s7;have s8:=hs.s8;simp only[AM,AJ,AK,AW]at s0 s1 s2 s3 s6 s7 s8 h29 h30 h31;replace s2:=s2.symm;subst s0 s1 s2 s3 s6 s7 s8 h30 h31;replace h29:=h29.symm;subst h29;clear hs;have yA:decide (((chs.length:Nat):Int)<((chs.length:Nat):Int))=false:=by simp
  generalize hl:qcc=lp;simp only[<-hl,qcc,qgo,qh2,qg5,f43,AV];refine qat ?_;refine qaz ?_;simp only[AG,AH,AI,AQ,range,AP];refine qao (.bool false) rfl rfl (by decide) (λw=>by go_simp) (λw=>by simp[go_sem]) ?_;walk_nrm;refine qaj ?_;refine qat ?_;refine qhd (t:=false) rfl ?_;simp only[Bool.false_eq_true,if_false];refine qs6 rfl ?_;exact next _ _ _ _ hb hz' C R hh ⟨rfl,rfl,rfl,rfl,rfl,rfl,rfl,rfl⟩
 |succ r ih=>
  intro i tm T w z c hi hc hb hz C R hh hs h29 h30 h31;have hil:i<chs.length:=by omega
  refine qzu W H qJ hb hz C hM O lt1 hN0 hn0 hN1 R hs h29 h30 h31 hil hlen (λtm' T' w' z' hb' hz' C' R' hh' hs' qfR qfS qfT=>?_);refine qnp ?_;refine ih (i+1) tm' T' w' z' _ (by omega) ?_ hb' hz' C' R' (hh.trans hh') hs' qfR qfS qfT;rw[<-hc,drop_eq_getElem_cons hil];rfl
theorem qxp(W:Task gr m0 N fl csv chs step D L)(H:je (gr.base.pen M1) S)(qJ:qd9 (gr.base.pen M1) S (gr.X 71) qy)(hM:qV m0 N M1)(O:jC (gr.base.pen M1) Sh Fz)
   (lt1:∀r,Sh r->r<m0) (hN0:gr.N0<=m0) (hn0:0<n0) (hN1:1<=N) (hlen:chs.length<1000000) {c0:α} {z:Ab}   (hb:Both (gr.base.pen M1) w z) (hz:D c0 z) (C:jy m0 N N fl w) (R:qW m0 N n0 N T) (hs:qP m0 N fl csv tm)
   (next:∀tm T w' z,Both (gr.base.pen M1) w' z->D (turns step N c0 chs) z->jy m0 N N fl w'->qW m0 N n0 N T->ql (gr.base.pen M1) (λr=>m0<=r) w w'->qP m0 N fl csv tm->qc prog Post (qb7 m0 Sh) (qci m0 N Fz) T (n0+N) 0 0 (G ((base 43).at ⟨tm,[]⟩ [.code qo4]) cs) w') :
   qc prog Post (qb7 m0 Sh) (qci m0 N Fz) T (n0+N) 0 0 (G ((base 43).at ⟨tm,[]⟩ [.code qgo]) cs) w:=by
 obtain⟨v0,v1,v2,v3,v4,v5,v6,v7,v8,v9,v10,v11,v12,v13,v14,v15,v16,v17,v18,v19,v20,v21,v22,v23,v24,v25,v26,v27,v28,v29,v30,v31,v32,v33,v34,v35,v36,v37,v38,v39,v40,v41,v42,v43,v44,v45,v46,v47,v48,v49,v50,v51,v52,v53,v54,rfl⟩:=qh7 tm hs.size;have s0:=hs.s0;have s1:=hs.s1;have s2:=hs.s2;have s3:=hs.s3;have s6:=hs.s6;have s7:=hs.s7;have s8:=hs.s8;simp only[AM,AJ,AK,AW]at s0 s1 s2 s3 s6 s7 s8;replace s2:=s2.symm;subst s0 s1 s2 s3 s6 s7 s8;clear hs
 have hk:∀(tm':Array Ai),qP m0 N fl csv tm'->tm'[29]?=some csv->tm'[30]?=some (.int .i64 (chs.length:Nat))->tm'[31]?=some (.int .i64 (0:Nat))->qc prog Post (qb7 m0 Sh) (qci m0 N Fz) T (n0+N) 0 0 (G ((base 43).at ⟨tm',[]⟩ [.code qcc,.inLoop qcc,.inBlock 2,.code qo4]) cs) w:=λtm' h1 h2 h3 h4=>
  qru W H qJ hM O lt1 hN0 hn0 hN1 hlen next chs.length 0 tm' T w z c0 (by omega) rfl hb hz C R (.refl _ _ _) h1 h2 h3 h4
 have e0:qgo=.seq (.seq (match qgo with | .seq (.seq x _) _=>x|_=>.skip) (.block 2 (.loop qcc))) qo4:=rfl;rw[e0];clear e0;obtain⟨A,cap,yT⟩:=W.form;generalize qcc=lp at hk |-;generalize qo4=r3 at hk |-;simp only[qgo,qh2,qg5,f43,AV];refine qat ?_;refine qat ?_;refine qaz ?_;simp only[AG,AH,AI,AR,AQ,range,AP];refine qao csv rfl rfl (by decide) (λw=>by go_simp) (λw=>by simp[go_sem]) ?_;walk_nrm;refine qao (.int .i64 (chs.length:Nat)) rfl rfl (by decide) (λw=>by rw[yT];go_simp) (λw=>by rw[yT];simp[go_sem]) ?_;walk_nrm;refine qao (.int .i64 (0:Nat)) rfl rfl (by decide) (λw=>by go_simp) (λw=>by simp[go_sem]) ?_;walk_nrm;refine qaj ?_;refine qey ?_;refine qmt ?_;exact hk _ ⟨rfl,rfl,rfl,rfl,rfl,rfl,rfl,rfl⟩ rfl rfl rfl
end
end
section
open Go.Conc Go.RowKit Go.Conc.Lib Go.ConcR.Gen
open Go.ConcR (KK WgAt stA smA Payload)
open Go.ConcN (upd upd_ne upd_same WgLive PayAt sumTo)
open Go.ConcN.Gen (AnchWN)
instance qkB:Payload:=⟨3⟩
def BxC(m0 N r:Nat):Prop:=∃j,j<N/\r=m0+6+2*j
section
variable {B:Base}{M:Mks B}{ty:Ap}{Wg:Nat}{Bx:Nat->Prop}{w w' z:Ab}
theorem Both.rm(hb:Both (B.pen M) w z)(hr:RM ty Wg Bx w w')(hW:M.Z Wg)(hBx:∀r,Bx r->M.Z r)(hl:WgLive ty Wg w)(hp:∀r,Bx r->PayAt r 1 w):Both (B.pen M) w' (z.at w'.drawn):=by
 refine⟨⟨hr.size.trans hb.rel.size,hr.os.trans hb.rel.os,by rw[hr.size];exact hb.rel.room,λr hpr=>?_,λr hB hnp=>?_,hb.rel.cln,hb.rel.chn,rfl⟩,by rw[hr.tape];exact hb.tape⟩
 . obtain⟨c',c,e,fr,h1,h2,h3,h4,h5,h6⟩:=hb.rel.part r hpr;by_cases e1:r=Wg
   . subst e1;obtain⟨st,sm,hw⟩:=hl;obtain⟨st',sm',hw'⟩:=hr.live ⟨st,sm,hw⟩;have hw0:w.heap[r]?=some (Go.ConcR.wgBlock ty st sm):=hw;rw[h2]at hw0;simp only[Go.ConcR.wgBlock,AW,Obj.cells.injEq]at hw0;obtain⟨-,rfl,-⟩:=hw0;refine⟨c',_,e,(0,0),h1,hw',by rw[h4 hW];exact AU _,h4,λi x hx=>?_,.inl rfl,h6.2⟩;rw[h4 hW]at hx;simp at hx
   . by_cases e2:Bx r
     . obtain⟨cs,hw,-⟩:=hp r e2;obtain⟨cs',hw',-⟩:=hr.box r e2 (hp r e2);rw[h2]at hw;simp only[AW,Obj.cells.injEq]at hw;obtain⟨-,rfl,-⟩:=hw;have hZ:=hBx r e2;refine⟨c',_,_,(0,0),h1,hw',by rw[h4 hZ];exact AU _,h4,λi x hx=>?_,.inl rfl,h6.2⟩;rw[h4 hZ]at hx;simp at hx
     . exact⟨c',c,e,fr,h1,(hr.block r e1 e2).trans h2,h3,h4,h5,h6⟩
 . exact(hr.block r (λe=>hnp (M.zp r (e▸hW))) (λe=>hnp (M.zp r (hBx r e)))).trans (hb.rel.same r hB hnp)
end
section
variable {P:Program}{ty:Ap}{Wg:Nat}{Bx:Nat->Prop}{Sh:Nat->Prop}{Fz:Loc->Prop}{Stop:Aj->Ab->Prop}{m:Nat}{w:Ab}
 {b:Am} {a:Act} {k:List Item} {cs:List Am} {ops:Array Oper} {i:Nat} {rest:List Nat} {o:Oper}
theorem qea(hs:g.status=.running)(h:∀w,stepG P true g w=.go g' w #[])(H:Goes P true (RM ty Wg Bx) (DM Wg Sh Fz) Stop m g' w):Goes P true (RM ty Wg Bx) (DM Wg Sh Fz) Stop (m+1) g w:=
 Goes.step hs (λw₁ h₁=>by rw[h];exact⟨qe3 _,Goes.rely (λ_ _ _ a b=>a.trans b) H h₁⟩)
theorem qtn(v:Ai)(ho:ops[i]?=some o)(hw:AE o (yielded ops a.tmps)=true)(hk:b.kind≠.early)(hr:∀w,(execOp a.eval o).run P w=.ok (.value v) w)(he:∀w,(execOp a.eval o).events P w #[]=#[])
   (H:Goes P true (RM ty Wg Bx) (DM Wg Sh Fz) Stop m (G (b.at (a.put o.dst v) (.inRegion ops rest::k)) cs) w):Goes P true (RM ty Wg Bx) (DM Wg Sh Fz) Stop (m+1) (G (b.at a (.inRegion ops (i::rest)::k)) cs) w:=
 qea rfl (λw=>by rw[Az ho hw hk (hr w)];unfold listed;rw[he w,seen_none]) H
theorem q9w{ad:Addr}(hc:w.cell? ad=some v)(hW:ad.block≠Wg)(hB:¬Bx ad.block)(hSh:¬Sh ad.block)(ho:ops[i]?=some o)(hw:AE o (yielded ops a.tmps)=true)(hk:b.kind≠.early)
   (hr:∀w,w.cell? ad=some v->(execOp a.eval o).run P w=.ok (.value v) w) (he:∀w,w.cell? ad=some v->(execOp a.eval o).events P w #[]=#[⟨.cell ad,false,false⟩])
   (H:Goes P true (RM ty Wg Bx) (DM Wg Sh Fz) Stop m (G (b.at (a.put o.dst v) (.inRegion ops rest::k)) cs) w):Goes P true (RM ty Wg Bx) (DM Wg Sh Fz) Stop (m+1) (G (b.at a (.inRegion ops (i::rest)::k)) cs) w:=
 Goes.step rfl (λw₁ h₁=>by
  have hc1:w₁.cell? ad=some v:=by
   unfold World.cell? at hc |-;rw[h₁.block _ hW hB];exact hc
  obtain⟨_,c,e,fr,hb,_⟩:=qdr hc1;have hlt:=(Array.getElem?_eq_some_iff.1 hb).1;rw[Az ho hw hk (hr w₁ hc1)];unfold listed;rw[he w₁ hc1];refine⟨⟨rfl,λe he'=>?_⟩,Goes.rely (λ_ _ _ a b=>a.trans b) H h₁⟩;have:=mem_seen he';rw[Array.mem_singleton]at this;subst this;exact⟨⟨λx hx=>(by cases hx;exact⟨λk=>absurd k hSh,λk=>by cases k⟩),λx hx=>(by cases hx;exact hlt)⟩,(λh=>by cases h),(λh=>by cases h),(λh=>by cases h)⟩)
theorem qxq(hs:g.status=.running)(h:∀w,stepG P true g w=.go g' w #[])(H:∃m,Goes P true (RM ty Wg Bx) (DM Wg Sh Fz) Stop m g' w):∃m,Goes P true (RM ty Wg Bx) (DM Wg Sh Fz) Stop m g w:=by
 obtain⟨m,H⟩:=H;exact⟨m+1,qea hs h H⟩
theorem q8w(v:Ai)(ho:ops[i]?=some o)(hw:AE o (yielded ops a.tmps)=true)(hk:b.kind≠.early)(hr:∀w,(execOp a.eval o).run P w=.ok (.value v) w)(he:∀w,(execOp a.eval o).events P w #[]=#[])
   (H:∃m,Goes P true (RM ty Wg Bx) (DM Wg Sh Fz) Stop m (G (b.at (a.put o.dst v) (.inRegion ops rest::k)) cs) w):∃m,Goes P true (RM ty Wg Bx) (DM Wg Sh Fz) Stop m (G (b.at a (.inRegion ops (i::rest)::k)) cs) w:=by
 obtain⟨m,H⟩:=H;exact⟨m+1,qtn v ho hw hk hr he H⟩
theorem q9x{f:FuncId}{fn:Func}{c:Code}{args:Array Operand}{ats:Array Ap}(ho:ops[i]?=some o)(hw:AE o (yielded ops a.tmps)=true)(hk:b.kind≠.early)(hop:o.op=.call {callee:=.value (.func f),args,argTypes:=ats})
   (hf:P.funcs[f]?=some fn) (hname:(fn.name == "runtime.NumGoroutine")=false) (hb:fn.body=some c)
   (H:Goes P true (RM ty Wg Bx) (DM Wg Sh Fz) Stop m (G ((base f).at {tmps:=args.map a.eval++Array.replicate (fn.ntmps-(args.map a.eval).size) undef,defers:=[]} [.code c]) (b.at a (.inRegion ops (i::rest)::k)::cs)) w) :
   Goes P true (RM ty Wg Bx) (DM Wg Sh Fz) Stop (m+1) (G (b.at a (.inRegion ops (i::rest)::k)) cs) w:=by
 have hb':fn.body.isNone=false:=by rw[hb];rfl
 refine qea rfl (λw=>?_) H;rw[stepG_enter ho hw hk (run_call_body hop hf hname hb'),enter_at _ hf hb];have:listed P b.fn a o w=#[]:=by unfold listed;rw[events_call_body hop hf hname hb'];exact seen_none P _
 rw[this]
end
theorem qzv{o:Oper}{c:Nat}(ho:ops[i]?=some o)(hw:AE o (yielded ops a.tmps)=true)(hk:b.kind≠.early)
   (hr:(execOp a.eval o).run P w=.ok (.value (.tuple #[])) (w.setChan c 0 #[] true κ κ false)) (he:(execOp a.eval o).events P w #[]=#[⟨.obj c,false,true⟩,⟨.obj c,true,true⟩]) (hl:(P.funcs[b.fn]?).any (·.norace)=false) :
   stepG P main (G (b.at a (.inRegion ops (i::rest)::k)) cs) w=.go (G (b.at (a.put o.dst (.tuple #[])) (.inRegion ops rest::k)) cs) (w.setChan c 0 #[] true κ κ false) #[⟨.obj c,false,true⟩,⟨.obj c,true,true⟩]:=by
 rw[Az ho hw hk hr];unfold listed;rw[he,seen_eq hl (by simp)]
theorem qhg{R:Ab->Ab->Prop}{D:Ab->Ab->Array Event->Prop}{A A':Aj->Ab->Prop}(h:∀g w,A g w->A' g w):∀{m:Nat} {g:Aj} {w:Ab},Goes P main R D A m g w->Goes P main R D A' m g w
 |0,g,w,H=>λw₁ h₁=>h _ _ (H w₁ h₁)
 |m+1,g,w,H=>by
  rcases H with H|⟨hs,H⟩
  . exact .inl (λw₁ h₁=>h _ _ (H w₁ h₁))
  . refine .inr ⟨hs,λw₁ h₁=>?_⟩;obtain⟨g',w',es,e1,e2,e3⟩:=goes_elim (H w₁ h₁);rw[e1];exact⟨e2,qhg h e3⟩
theorem q74{Bx:Nat->Prop}{Sh:Nat->Prop}{Fz:Loc->Prop}{A A':Aj->Ab->Prop}(h:∀g w,A g w->A' g w)(H:MKd P ty Wg Bx Sh Fz A g w):MKd P ty Wg Bx Sh Fz A' g w:=by
 obtain⟨h1,g',h2,m,h3⟩:=H;exact⟨h1,g',h2,m,qhg h h3⟩
structure qI(gr:Grd)(M1:Mks gr.base)(m0 N:Nat)(D:Ab->Prop)(w₀ w:Ab):Prop where
 both:∃z,Both (gr.base.pen M1) w z/\D z
 row:∃arr,w.heap[m0+2]?=some (.cells arr 107)/\arr.size=N/\∀j,j<N->arr[j]?=some (.chan (some (m0+7+2*j)))
 pay:∀j,j<N->PayAt (m0+6+2*j) 1 w
 live:WgLive wgL.tWg (m0+1) w
 held:ql (gr.base.pen M1) (λr=>m0<=r) w₀ w
section
variable {gr:Grd}{M1:Mks gr.base}{m0 N:Nat}{D:Ab->Prop}{w₀ w w':Ab}
theorem qI.rm(hD:∀x y,x.heap=y.heap->D x->D y)(hM:qV m0 N M1)(S:qI gr M1 m0 N D w₀ w)(hr:RM wgL.tWg (m0+1) (BxC m0 N) w w'):qI gr M1 m0 N D w₀ w':=by
 obtain⟨⟨z,hb,hz⟩,hrow,hpay,vX,xP⟩:=S;refine⟨⟨z.at w'.drawn,hb.rm hr hM.z1 (λr ⟨j,hj,e⟩=>e▸hM.zb j hj) vX (λr ⟨j,hj,e⟩=>e▸hpay j hj),hD z _ rfl hz⟩,?_,λj hj=>hr.box _ ⟨j,hj,rfl⟩ (hpay j hj),hr.live vX,xP.trans ⟨λr hr1 _=>hr.block r (λe=>hr1 (by show m0<=r;omega)) (λ⟨j,_,e⟩=>hr1 (by show m0<=r;omega)),by rw[hr.size];exact AT _,hr.os,hr.output,hr.tape⟩⟩;rw[hr.block (m0+2) (by omega) (λ⟨j,_,e⟩=>by omega)];exact hrow
theorem qI.close(hDc:∀x r κ κ' b,m0<=r->D x->x.heap[r]?=some (.chan 0 #[] false κ κ false)->D (x.setChan r 0 #[] b κ' κ' false))(hN0:gr.N0<=m0)(hM:qV m0 N M1)(S:qI gr M1 m0 N D w₀ w){j:Nat}(hj:j<N)(hκ:w.heap[m0+7+2*j]?=some (.chan 0 #[] false κ κ false)) :
   qI gr M1 m0 N D w₀ (w.setChan (m0+7+2*j) 0 #[] true κ κ false):=by
 obtain⟨⟨z,hb,hz⟩,hrow,hpay,⟨st,sm,vX⟩,xP⟩:=S;have hzc:z.heap[m0+7+2*j]?=some (.chan 0 #[] false κ κ false):=(hb.vL ⟨_,gr.fresh ⟨m0+7+2*j,0,none⟩ (by show gr.N0<=m0+7+2*j;omega),rfl⟩ (hM.nc j hj)).trans hκ;refine⟨⟨_,hb.setChan (hM.nc j hj) 0 #[] true κ κ false,hDc z _ κ κ true (by omega) hz hzc⟩,?_,λi hi=>?_,⟨st,sm,?_⟩,xP.trans (.chan (X:=λr=>m0<=r) (by show m0<=m0+7+2*j;omega) _ _ _ _ _ _)⟩
 . rw[qbr,if_neg (by omega)];exact hrow
 . obtain⟨cs,h1,h2⟩:=hpay i hi;exact⟨cs,by rw[qbr,if_neg (by omega)];exact h1,h2⟩
 . show (w.setChan (m0+7+2*j) 0 #[] true κ κ false).heap[m0+1]?=_;rw[qbr,if_neg (by omega)];exact vX
end
noncomputable def qdk:Code:=match qo4 with | .seq (.seq _ (.block _ (.loop c))) _=>c|_=>.skip
noncomputable def qxr:Code:=match qo4 with | .seq _ c=>c|_=>.skip
noncomputable def qzw:Array Oper:=match qxr with | .region _ ops _=>ops|_=>#[]
def chl(m0:Nat):Nat->Nat->List Nat
 |_,0=>[]
 |K,r+1=>(m0+7+2*K)::chl m0 (K+1) r
theorem qfU:(Tryz.prog.funcs[(base 43).fn]?).any (·.norace)=false:=by kernel_rfl
section
variable {gr:Grd}{M1:Mks gr.base}{m0 N fl:Nat}{csv:Ai}{D:Ab->Prop}{w₀:Ab}{Sh:Nat->Prop}{Fz:Loc->Prop}{cs:List Am}
noncomputable def qfV(tm:Array Ai):Am:=(base 43).at ⟨tm,[]⟩ [.inRegion qzw [0]]
def q53(gr:Grd)(M1:Mks gr.base)(m0 N:Nat)(D:Ab->Prop)(w₀:Ab)(cs:List Am)(g:Aj)(w:Ab):Prop:=∃tm,AnchWN wgL (qI gr M1 m0 N D w₀) (m0+1) (qfV tm) cs g w
theorem q3b(hD:∀x y,x.heap=y.heap->D x->D y)(hDc:∀x r κ κ' b,m0<=r->D x->x.heap[r]?=some (.chan 0 #[] false κ κ false)->D (x.setChan r 0 #[] b κ' κ' false))(hN0:gr.N0<=m0)(hN:N<=4)(hM:qV m0 N M1)(nsh:¬Sh (m0+2)) :
   ∀r K tm w,K+r=N->qI gr M1 m0 N D w₀ w->qP m0 N fl csv tm->tm[46]?=some (.slice (some ⟨m0+2,0,none⟩) N N)->tm[47]?=some (.int .i64 N)->tm[48]?=some (.int .i64 K) ->
    ∃m,Goes prog true (RM wgL.tWg (m0+1) (BxC m0 N)) (DM (m0+1) Sh Fz) (MCl prog wgL.tWg (m0+1) (BxC m0 N) Sh Fz (q53 gr M1 m0 N D w₀ cs) (chl m0 K r)) m (G ((base 43).at ⟨tm,[]⟩ [.code qdk,.inLoop qdk,.inBlock 4,.code qxr]) cs) w:=by
 intro r
 induction r with
 |zero=>
  intro K tm w hK S hs h46 h47 h48;obtain rfl:K=N:=by omega
  obtain⟨v0,v1,v2,v3,v4,v5,v6,v7,v8,v9,v10,v11,v12,v13,v14,v15,v16,v17,v18,v19,v20,v21,v22,v23,v24,v25,v26,v27,v28,v29,v30,v31,v32,v33,v34,v35,v36,v37,v38,v39,v40,v41,v42,v43,v44,v45,v46,v47,v48,v49,v50,v51,v52,v53,v54,rfl⟩:=qh7 tm hs.size;have s0:=hs.s0;have s1:=hs.s1;have s2:=hs.s2;have s3:=hs.s3;have s6:=hs.s6;have s7:=hs.s7;have s8:=hs.s8;simp only[AM,AJ,AK,AW]at s0 s1 s2 s3 s6 s7 s8 h46 h47 h48;replace s2:=s2.symm;subst s0 s1 s2 s3 s6 s7 s8 h46 h47 h48;clear hs;have yA:decide ((K:Int)<(K:Int))=false:=by simp
  obtain⟨m',hm'⟩:=q3c (Sh:=Sh) (Fz:=Fz) (Bx:=BxC m0 K) (F:=qI gr M1 m0 K D w₀) (Wg:=m0+1) (b₀:=base 43) (a₀:=⟨#[.pointer (some ⟨fl,0,none⟩),.int .i64 K,csv,.pointer (some ⟨m0,0,none⟩),v4,v5,.pointer (some ⟨m0+1,0,none⟩),.pointer (some ⟨m0+3,0,none⟩),.pointer (some ⟨m0+5,0,none⟩),v9,v10,v11,v12,v13,v14,v15,v16,v17,v18,v19,v20,v21,v22,v23,v24,v25,v26,v27,v28,v29,v30,v31,v32,v33,v34,v35,v36,v37,v38,v39,v40,v41,v42,v43,v44,v45,.slice (some ⟨m0+2,0,none⟩) K K,.int .i64 K,.int .i64 K,.bool false,v50,v51,v52,v53,v54],[]⟩) (ops₀:=qzw) (i₀:=0) (rest₀:=[]) (k₀:=[]) (cs:=cs) vg (λx y hr hF=>hF.rm hD hM hr) w ⟨S,S.live⟩;refine⟨m'+9,?_⟩;show Goes prog true _ _ (MKd prog wgL.tWg (m0+1) (BxC m0 K) Sh Fz (q53 gr M1 m0 K D w₀ cs)) _ _ _;replace hm':=qhg (λg x hx=>q74 (A':=q53 gr M1 m0 K D w₀ cs) (λg x hx=>⟨#[.pointer (some ⟨fl,0,none⟩),.int .i64 K,csv,.pointer (some ⟨m0,0,none⟩),v4,v5,.pointer (some ⟨m0+1,0,none⟩),.pointer (some ⟨m0+3,0,none⟩),.pointer (some ⟨m0+5,0,none⟩),v9,v10,v11,v12,v13,v14,v15,v16,v17,v18,v19,v20,v21,v22,v23,v24,v25,v26,v27,v28,v29,v30,v31,v32,v33,v34,v35,v36,v37,v38,v39,v40,v41,v42,v43,v44,v45,.slice (some ⟨m0+2,0,none⟩) K K,.int .i64 K,.int .i64 K,.bool false,v50,v51,v52,v53,v54],hx⟩) hx) hm';generalize hl:qdk=lp;simp only[<-hl,qdk,qxr,qo4,qgo,qh2,qg5,f43,AV];refine qea rfl (λ_=>Ax) ?_;refine qea rfl (λ_=>At) ?_;simp only[AG,AH,AI,AQ,range,AP];refine qtn (.bool false) rfl rfl (by decide) (λw=>by go_simp) (λw=>by simp[go_sem]) ?_;walk_nrm;refine qea rfl (λ_=>As) ?_;refine qea rfl (λ_=>Ax) ?_;refine qea rfl (λ_=>stepG_cond (t:=false) rfl) ?_;simp only[Bool.false_eq_true,if_false];refine qea rfl (λ_=>stepG_exit rfl) ?_;refine qea rfl (λ_=>At) ?_;simp only[AG,AH,AI,AQ,range,AP];refine q9x (fn:=waitFn wgL) (c:=body_wait wgL) rfl rfl (by decide) rfl vg.f_wait (nm_wait wgL) rfl ?_;walk_nrmf waitFn;exact hm'
 |succ r ih=>
  intro K tm w hK S hs h46 h47 h48;obtain⟨v0,v1,v2,v3,v4,v5,v6,v7,v8,v9,v10,v11,v12,v13,v14,v15,v16,v17,v18,v19,v20,v21,v22,v23,v24,v25,v26,v27,v28,v29,v30,v31,v32,v33,v34,v35,v36,v37,v38,v39,v40,v41,v42,v43,v44,v45,v46,v47,v48,v49,v50,v51,v52,v53,v54,rfl⟩:=qh7 tm hs.size;have s0:=hs.s0;have s1:=hs.s1;have s2:=hs.s2;have s3:=hs.s3;have s6:=hs.s6;have s7:=hs.s7;have s8:=hs.s8;simp only[AM,AJ,AK,AW]at s0 s1 s2 s3 s6 s7 s8 h46 h47 h48;replace s2:=s2.symm;subst s0 s1 s2 s3 s6 s7 s8 h46 h47 h48;clear hs;have yA:decide ((K:Int)<(N:Int))=true:=by simp;omega
  have hK0:(0:Int)<=(K:Int):=by omega
  have hK1:(K:Int)<(N:Int):=by omega
  have hKN:K<N:=by omega
  obtain⟨arr,ra1,ra2,ra3⟩:=S.row;have hrow:w.cell? ⟨m0+2,K,none⟩=some (.chan (some (m0+7+2*K))):=by simp[World.cell?,ra1,ra3 K hKN]
  refine⟨30,?_⟩;obtain⟨lp,hl⟩:∃lp,lp=qdk:=⟨_,rfl⟩;obtain⟨wc,hw⟩:∃wc,wc=qxr:=⟨_,rfl⟩;rw[show [Item.code qdk,.inLoop qdk,.inBlock 4,.code qxr]=[Item.code qdk,.inLoop lp,.inBlock 4,.code wc]from by rw[hl,hw]];simp only[qdk,qo4,qgo,qh2,qg5,f43,AV];refine qea rfl (λ_=>Ax) ?_;refine qea rfl (λ_=>At) ?_;simp only[AG,AH,AI,AQ,range,AP];refine qtn (.bool true) rfl rfl (by decide) (λw=>by go_simp) (λw=>by simp[go_sem]) ?_;walk_nrm;refine qea rfl (λ_=>As) ?_;refine qea rfl (λ_=>Ax) ?_;refine qea rfl (λ_=>stepG_cond (t:=true) rfl) ?_;simp only[if_true];refine qea rfl (λ_=>stepG_skip) ?_;refine qea rfl (λ_=>Ax) ?_;refine qea rfl (λ_=>stepG_block) ?_;refine qea rfl (λ_=>Ax) ?_;refine qea rfl (λ_=>At) ?_;simp only[AG,AH,AI,AR,AQ,range,AP];refine qtn (.pointer (some ⟨m0+2,K,none⟩)) rfl rfl (by decide) (λw=>by go_simp) (λw=>by simp[go_sem, *]) ?_;walk_nrm;refine q9w hrow (by show m0+2≠m0+1;omega) (λ⟨j,_,e⟩=>by have e:m0+2=m0+6+2*j:=e;omega) nsh rfl rfl (by decide) (λw h=>by go_simp) (λw h=>by simp[go_sem,h]) ?_;walk_nrm;refine qtn (.chan (some (m0+7+2*K))) rfl rfl (by decide) (λw=>by go_simp) (λw=>by simp[go_sem]) ?_;walk_nrm;refine qea rfl (λ_=>As) ?_;refine qea rfl (λ_=>At) ?_;simp only[AG,AH,AI,AR,AQ,range,AP];refine qtn (.chan (some (m0+7+2*K))) rfl rfl (by decide) (λw=>by go_simp) (λw=>by simp[go_sem]) ?_;walk_nrm;refine Goes.stop (λw₁ h₁=>?_);have S1:=S.rm hD hM h₁;refine⟨rfl,by simp[mayWake,G,Frame.at],λκ hκ=>⟨_,qzv rfl rfl (by decide) (by have hr:=run_close_open (P:=prog) #[107] 0 hκ;simp[go_sem,hr,Ab.setChan]) (by have he:=events_close_open (P:=prog) (es:=#[]) #[107] 0 hκ;simp[go_sem,he]) qfU,rfl,?_⟩⟩
  . walk_nrm;have S2:=S1.close hDc hN0 hM hKN hκ;have qbA:AB.wrap ((K:Int)+1)=((K+1:Nat):Int):=by rw[AA];omega
    refine qxq rfl (λ_=>As) ?_;refine qxq rfl (λ_=>stepG_inBlock) ?_;refine qxq rfl (λ_=>At) ?_;simp only[AG,AH,AI,AR,AQ,range,AP];refine q8w (.int .i64 ((K+1:Nat):Int)) rfl rfl (by decide) (λw=>by go_simp) (λw=>by simp[go_sem]) ?_;walk_nrm;refine q8w (.int .i64 ((K+1:Nat):Int)) rfl rfl (by decide) (λw=>by go_simp) (λw=>by simp[go_sem]) ?_;walk_nrm;refine qxq rfl (λ_=>As) ?_;refine qxq rfl (λ_=>stepG_inLoop) ?_;rw[hl,hw];exact ih (K+1) _ _ (by omega) S2 (by exact⟨rfl,rfl,rfl,rfl,rfl,rfl,rfl,rfl⟩) (by rfl) (by rfl) (by rfl)
end
theorem q75{Bx:Nat->Prop}{Sh:Nat->Prop}{Fz:Loc->Prop}{A A' Next:Aj->Ab->Prop}(h:∀g w,A g w->A' g w)(H:MW1 P ty Wg Bx Sh Fz A Next g w):MW1 P ty Wg Bx Sh Fz A' Next g w:=by
 refine⟨H.1,λv hv hw=>?_⟩;obtain⟨g',h1,h2,h3⟩:=H.2 v hv hw;refine⟨g',h1,h2,λhv0=>?_⟩;obtain⟨m,hm⟩:=h3 hv0;refine⟨m,qhg (λg x hx=>⟨hx.1,λv hv hw=>⟨(hx.2 v hv hw).1,λhne=>?_⟩⟩) hm⟩;obtain⟨g',k1,m,k2⟩:=(hx.2 v hv hw).2 hne;exact⟨g',k1,m,qhg h k2⟩
def q76:qz->jF
 | .seat s=>s
 | .left=>⟨[],default,[],0,undef,false⟩
def qka(m0 n0:Nat)(T:Nat->qz)(i:Nat):Hands:=⟨q76 (T i),m0+6+2*(i-n0),.int .i64 ((i-n0:Nat):Int)⟩
theorem qu3:∀{r K c:Nat},c∈chl m0 K r↔∃j,K<=j/\j<K+r/\c=m0+7+2*j
 |0,K,c=>by simp[chl];intro j h1 h2;omega
 |r+1,K,c=>by
  rw[chl,AO,qu3];constructor
  . rintro(rfl|⟨j,h1,h2,rfl⟩)
    . exact⟨K,AT _,by omega,rfl⟩
    . exact⟨j,by omega,by omega,rfl⟩
  . rintro⟨j,h1,h2,rfl⟩;by_cases e:j=K
    . subst e;exact .inl rfl
    . exact .inr ⟨j,by omega,by omega,rfl⟩
theorem qxs:∀{r K:Nat},(chl m0 K r).Nodup
 |0,_=>nodup_nil
 |r+1,K=>by
  rw[chl,nodup_cons];refine⟨λh=>?_,qxs⟩;obtain⟨j,h1,_,h3⟩:=qu3.1 h;omega
theorem q06{f:Nat->Nat}{n0:Nat}(h0:∀i,i<n0->f i=0):∀N,(∀j,j<N->f (n0+j)=1)->sumTo (n0+N) f=N
 |0,_=>by
  have:∀n,n<=n0->sumTo n f=0:=by
   intro n
   induction n with
   |zero=>intro _;rfl
   |succ n ih=>intro hn;show sumTo n f+f n=0;rw[ih (by omega),h0 n (by omega)]
  exact this n0 (AT _)
 |N+1,h=>by
  show sumTo (n0+N) f+f (n0+N)=N+1;rw[q06 h0 N (λj hj=>h j (by omega)),h N (by omega)]
section
variable {gr:Grd}{M1:Mks gr.base}{Post:Ai->Ab->Prop}{Sh:Nat->Prop}{Fz:Loc->Prop}{T:Nat->qz}{n0 m0 N fl:Nat}{csv:Ai}{D:Ab->Prop}{w₀ w z:Ab}
theorem qew(R:qW m0 N n0 N T)(hn0:0<n0):WkT T (n0+N) i↔n0<=i/\i<n0+N:=by
 constructor
 . rintro⟨h1,h2,h3⟩;refine⟨Nat.le_of_not_lt (λh=>?_),h2⟩;rw[R.old i h1 h]at h3;exact h3
 . rintro⟨h1,h2⟩;obtain⟨s,_,h⟩:=R.work (i-n0) (by omega);rw[show n0+(i-n0)=i from by omega]at h;exact⟨by omega,h2,by rw[h];trivial⟩
theorem qd1(R:qW m0 N n0 N T)(h1:n0<=i)(h2:i<n0+N):∃j s,j<N/\i=n0+j/\vh m0 j N s/\T i=.seat s/\qka m0 n0 T i=⟨s,m0+6+2*j,.int .i64 j⟩:=by
 obtain⟨s,hs,h⟩:=R.work (i-n0) (by omega);rw[show n0+(i-n0)=i from by omega]at h;refine⟨i-n0,s,by omega,by omega,hs,h,?_⟩;unfold qka;rw[h];rfl
theorem q77(R:qW m0 N n0 N T)(hn0:0<n0)(xq:n0+N<2147483648)(lt2:∀a:Addr,Fz (.cell a)->a.block<m0):jG prog wgL.tWg (m0+1) (BxC m0 N) (qb7 m0 Sh) (qci m0 N Fz) (n0+N) (WkT T (n0+N)) (qka m0 n0 T):=by
 refine⟨λi h=>⟨h.1,h.2.1⟩,λi j hi hj e=>?_,λi j hi hj e=>?_,λi hi=>?_,λi hi=>?_,λi j hi hj=>?_,λi hi x hx=>?_,λi hi=>?_,?_,λi hi x hl hb=>?_,λi hi=>?_,.inr rfl,λb hb h=>?_,xq⟩
 . obtain⟨h1,h2⟩:=(qew R hn0).1 hi;obtain⟨h3,h4⟩:=(qew R hn0).1 hj;obtain⟨a,s,ha,rfl,hs,_,e1⟩:=qd1 R h1 h2;obtain⟨b,s',hb,rfl,hs',_,e2⟩:=qd1 R h3 h4;rw[e1,e2]at e;change s.c=s'.c at e;rw[(qd2 hs).1,(qd2 hs').1]at e;omega
 . obtain⟨h1,h2⟩:=(qew R hn0).1 hi;obtain⟨h3,h4⟩:=(qew R hn0).1 hj;obtain⟨a,s,ha,rfl,hs,_,e1⟩:=qd1 R h1 h2;obtain⟨b,s',hb,rfl,hs',_,e2⟩:=qd1 R h3 h4;rw[e1,e2]at e;change m0+6+2*a=m0+6+2*b at e;omega
 . obtain⟨h1,h2⟩:=(qew R hn0).1 hi;obtain⟨a,s,ha,rfl,hs,_,e1⟩:=qd1 R h1 h2;rw[e1];show m0+6+2*a≠m0+1;omega
 . obtain⟨h1,h2⟩:=(qew R hn0).1 hi;obtain⟨a,s,ha,rfl,hs,_,e1⟩:=qd1 R h1 h2;rw[e1];show s.c≠m0+1;rw[(qd2 hs).1];omega
 . obtain⟨h1,h2⟩:=(qew R hn0).1 hi;obtain⟨h3,h4⟩:=(qew R hn0).1 hj;obtain⟨a,s,ha,rfl,hs,_,e1⟩:=qd1 R h1 h2;obtain⟨b,s',hb,rfl,hs',_,e2⟩:=qd1 R h3 h4;rw[e1,e2];show s.c≠m0+6+2*b;rw[(qd2 hs).1];omega
 . obtain⟨h1,h2⟩:=(qew R hn0).1 hi;obtain⟨a,s,ha,rfl,hs,_,e1⟩:=qd1 R h1 h2;rw[e1]at hx;change x∈s.L at hx;rw[(qd2 hs).2.1]at hx
   have key:x.1.block≠m0+1/\∀b,b<N->b≠a->x.1.block≠m0+6+2*b:=by
    simp only[qme,qgz,AO,AN,or_false]at hx;rcases hx with rfl|rfl|rfl
    . exact⟨by show m0+3≠m0+1;omega,λb _ _=>by show m0+3≠m0+6+2*b;omega⟩
    . exact⟨by show m0+6+2*a≠m0+1;omega,λb _ _=>by show m0+6+2*a≠m0+6+2*b;omega⟩
    . exact⟨by show m0+2≠m0+1;omega,λb _ _=>by show m0+2≠m0+6+2*b;omega⟩
   refine⟨key.1,λj hj hji=>?_⟩;obtain⟨h3,h4⟩:=(qew R hn0).1 hj;obtain⟨b,s',hb,rfl,hs',_,e2⟩:=qd1 R h3 h4;rw[e2];exact key.2 b hb (by omega)
 . obtain⟨h1,h2⟩:=(qew R hn0).1 hi;obtain⟨a,s,ha,rfl,hs,_,e1⟩:=qd1 R h1 h2;rw[e1];exact⟨a,ha,rfl⟩
 . rintro⟨j,_,e⟩;omega
 . obtain⟨h1,h2⟩:=(qew R hn0).1 hi;obtain⟨a,s,ha,rfl,hs,_,e1⟩:=qd1 R h1 h2;rw[e1]at hb |-;obtain⟨_,_,_,_,_,_,_,_,_,_,_,_,rfl⟩:=hs;exact qz7 hl hb
 . obtain⟨h1,h2⟩:=(qew R hn0).1 hi;obtain⟨a,s,ha,rfl,hs,_,e1⟩:=qd1 R h1 h2;rw[e1];obtain⟨_,_,_,_,_,_,_,_,_,_,_,_,rfl⟩:=hs;exact qna
 . rcases h with h|h|h|⟨j,_,h|h⟩
   . have:=lt2 _ h;omega
   . simp only[AD]at h;subst h;simp at hb
   . simp only[AD]at h;subst h;simp at hb
   . simp only[AD]at h;subst h;simp only at hb;omega
   . simp only[AD]at h;subst h;simp at hb
open Classical in
theorem qzx(hD:∀x y,x.heap=y.heap->D x->D y)(hDc:∀x r κ κ' b,m0<=r->D x->x.heap[r]?=some (.chan 0 #[] false κ κ false)->D (x.setChan r 0 #[] b κ' κ' false))(hN0:gr.N0<=m0)(hN:N<=4)(hn0:0<n0)(xq:n0+N<2147483648)(hM:qV m0 N M1)
   (lt1:∀r,Sh r->r<m0) (lt2:∀a:Addr,Fz (.cell a)->a.block<m0) (R:qW m0 N n0 N T) (C:jy m0 N N fl w) (hb:Both (gr.base.pen M1) w z) (hz:D z)  (hs:qP m0 N fl csv tm)
   {b₀:Am} {a₀:Act} {ops₀:Array Oper} {i₀:Nat} {rest₀:List Nat} {k₀:List Item} 
   (next:∀w',qI gr M1 m0 N D w w'->qc prog Post (qb7 m0 Sh) (qci m0 N Fz) (λ_=>.left) (n0+N) 0 0 (G (b₀.at (a₀.put ((ops₀[i₀]?).bind (·.dst)) (.tuple #[])) (.inRegion ops₀ rest₀::k₀)) cs) w') :
   qc prog Post (qb7 m0 Sh) (qci m0 N Fz) T (n0+N) 0 0 (G ((base 43).at ⟨tm,[]⟩ [.code qo4]) (b₀.at a₀ (.inRegion ops₀ (i₀::rest₀)::k₀)::cs)) w:=by
 obtain⟨v0,v1,v2,v3,v4,v5,v6,v7,v8,v9,v10,v11,v12,v13,v14,v15,v16,v17,v18,v19,v20,v21,v22,v23,v24,v25,v26,v27,v28,v29,v30,v31,v32,v33,v34,v35,v36,v37,v38,v39,v40,v41,v42,v43,v44,v45,v46,v47,v48,v49,v50,v51,v52,v53,v54,rfl⟩:=qh7 tm hs.size;have s0:=hs.s0;have s1:=hs.s1;have s2:=hs.s2;have s3:=hs.s3;have s6:=hs.s6;have s7:=hs.s7;have s8:=hs.s8;simp only[AM,AJ,AK,AW]at s0 s1 s2 s3 s6 s7 s8;replace s2:=s2.symm;subst s0 s1 s2 s3 s6 s7 s8;clear hs
 have nsh:∀r,m0<=r->r≠m0+1->¬qb7 m0 Sh r:=λr hr hne h=>by
  rcases h with h|h
  . have:=lt1 r h;omega
  . exact hne h
 obtain⟨ecb,kcb⟩:=C.cb;have hcb:=(qij kcb).1;have hG:jG prog wgL.tWg (m0+1) (BxC m0 N) (qb7 m0 Sh) (qci m0 N Fz) (n0+N) (WkT T (n0+N)) (qka m0 n0 T):=q77 R hn0 xq lt2;have hfz:∀b:Addr,b.block=m0+1->¬qci m0 N Fz (.cell b):=hG.fzW;have hS:qI gr M1 m0 N D w w:=⟨⟨z,hb,hz⟩,C.row,λj hj=>⟨_,C.bx j hj,rfl⟩,⟨_,_,C.wg⟩,.refl _ _ _⟩
 have hk:∀ (tm':Array Ai),qP m0 N fl csv tm'->tm'[46]?=some (.slice (some ⟨m0+2,0,none⟩) N N)->tm'[47]?=some (.int .i64 N)->tm'[48]?=some (.int .i64 (0:Nat)) ->
     qc prog Post (qb7 m0 Sh) (qci m0 N Fz) T (n0+N) 0 0 (G ((base 43).at ⟨tm',[]⟩ [.code qdk,.inLoop qdk,.inBlock 4,.code qxr]) (b₀.at a₀ (.inRegion ops₀ (i₀::rest₀)::k₀)::cs)) w:=λtm' h1 h2 h3 h4 d=>by
  obtain⟨m,hm⟩:=q3b (cs:=b₀.at a₀ (.inRegion ops₀ (i₀::rest₀)::k₀)::cs) (Sh:=qb7 m0 Sh) (Fz:=qci m0 N Fz) (w₀:=w) hD hDc hN0 hN hM (nsh _ (by omega) (by omega)) N 0 tm' (w.at d) (by omega) (hS.rm hD hM (RM.at w d)) h1 h2 h3 h4
  have hAn:∀g x,q53 gr M1 m0 N D w (b₀.at a₀ (.inRegion ops₀ (i₀::rest₀)::k₀)::cs) g x->∃m,Goes prog true (RM wgL.tWg (m0+1) (BxC m0 N)) (DM (m0+1) (qb7 m0 Sh) (qci m0 N Fz)) (MW1 prog wgL.tWg (m0+1) (BxC m0 N) (qb7 m0 Sh) (qci m0 N Fz) (q53 gr M1 m0 N D w (b₀.at a₀ (.inRegion ops₀ (i₀::rest₀)::k₀)::cs)) (LdL prog Post (qb7 m0 Sh) (qci m0 N Fz) (n0+N))) m g x:=by
   rintro g x ⟨tm2,ha⟩
   obtain⟨m,hm⟩:=q3d (Post:=Post) (n:=n0+N) (Sh:=qb7 m0 Sh) (Fz:=qci m0 N Fz) (Bx:=BxC m0 N) (F:=qI gr M1 m0 N D w) (Wg:=m0+1) (b₀:=base 43) (a₀:=⟨tm2,[]⟩) (ops₀:=qzw) (i₀:=0) (rest₀:=[]) (k₀:=[]) (cs:=b₀.at a₀ (.inRegion ops₀ (i₀::rest₀)::k₀)::cs) vg hfz (λx y hr hF=>hF.rm hD hM hr) (λx hF _=>by
    refine qaj ?_;refine qxw ?_;refine qof rfl rfl func43 rfl ?_;exact next x hF) g x ha
   exact⟨m,qhg (λg x hx=>q75 (λg x hx=>⟨tm2,hx⟩) hx) hm⟩
  have hR1:∀i,WkT T (n0+N) i->T i=.seat (qka m0 n0 T i).s:=λi hi=>by
   obtain⟨h1,h2⟩:=(qew R hn0).1 hi;obtain⟨a,s,ha,rfl,hs,hT,e1⟩:=qd1 R h1 h2;rw[e1];exact hT
  have hR2:∀i,WkT T (n0+N) i->((⟨(qka m0 n0 T i).bx,0,none⟩:Addr),(qka m0 n0 T i).val)∈(qka m0 n0 T i).s.L:=λi hi=>by
   obtain⟨h1,h2⟩:=(qew R hn0).1 hi;obtain⟨a,s,ha,rfl,hs,hT,e1⟩:=qd1 R h1 h2;rw[e1];show _∈s.L;rw[(qd2 hs).2.1];simp[qme,qgz]
  have hR3:∀i,WkT T (n0+N) i->(qka m0 n0 T i).s.c∈chl m0 0 N:=λi hi=>by
   obtain⟨h1,h2⟩:=(qew R hn0).1 hi;obtain⟨a,s,ha,rfl,hs,hT,e1⟩:=qd1 R h1 h2;rw[e1];exact qu3.2 ⟨a,AU _,by omega,(qd2 hs).1⟩
  have hR4:∀c,c∈chl m0 0 N->∃i,WkT T (n0+N) i/\(qka m0 n0 T i).s.c=c:=λc hc=>by
   obtain⟨j,_,h2,rfl⟩:=qu3.1 hc;have hw:WkT T (n0+N) (n0+j):=(qew R hn0).2 ⟨by omega,by omega⟩;obtain⟨a,s,ha,e0,hs,hT,e1⟩:=qd1 R (i:=n0+j) (by omega) (by omega);refine⟨n0+j,hw,?_⟩;rw[e1];show s.c=_;rw[(qd2 hs).1];omega
  have hV:(sumTo (n0+N) λi=>if WkT T (n0+N) i then 1 else 0)=N:=by
   refine q06 (λi hi=>if_neg (λh=>?_)) N (λj hj=>if_pos ((qew R hn0).2 ⟨by omega,by omega⟩));have:=((qew R hn0).1 h).1;omega
  exact q4c (Next:=LdL prog Post (qb7 m0 Sh) (qci m0 N Fz) (n0+N)) hG (λg x ⟨tm,T',hg,_⟩=>by rw[hg];rfl) hAn (λg x hx=>hx.lead) hR1 (λi hi=>R.out i hi) hR2 qxs hR3 hR4 hV C.wg hm
 have e0:qo4=.seq (.seq (match qo4 with | .seq (.seq x _) _=>x|_=>.skip) (.block 4 (.loop qdk))) qxr:=rfl;rw[e0];clear e0;generalize qdk=lp at hk |-;generalize qxr=wc at hk |-;simp only[qo4,qgo,qh2,qg5,f43,AV];refine qat ?_;refine qat ?_;refine qaz ?_;simp only[AG,AH,AI,AR,AQ,range,AP];refine qds hcb (nsh _ (by show m0<=m0+3;omega) (by show m0+3≠m0+1;omega)) rfl rfl (by decide) (λw h=>by go_simp) (λw h=>by simp[go_sem,h]) ?_;walk_nrm;refine qao (.int .i64 N) rfl rfl (by decide) (λw=>by go_simp) (λw=>by simp[go_sem]) ?_;walk_nrm;refine qao (.int .i64 (0:Nat)) rfl rfl (by decide) (λw=>by go_simp) (λw=>by simp[go_sem]) ?_;walk_nrm;refine qaj ?_;refine qey ?_;refine qmt ?_;exact hk _ ⟨rfl,rfl,rfl,rfl,rfl,rfl,rfl,rfl⟩ rfl rfl rfl
end
end
section
open Go.Conc Go.RowKit Go.Conc.Lib Go.ConcR.Gen
open Go.ConcR (KK WgAt stA smA Payload)
theorem ql.down{M M':Mks B}{X:Nat->Prop}{w':Ab}(h:ql (B.pen M') X w w')(k:M.Le M'):ql (B.pen M) X w w':=
 ⟨λr hr hr'=>h.block r hr (hr'.imp id (Or.imp (k.z r) (k.ch r))),h.size,h.os,h.output,h.tape⟩
theorem qV.qfW{M:Mks B}{K:Nat}{Sh:Nat->Prop}{Fz:Loc->Prop}(C:qV m0 K M)(O:jC (B.pen M) Sh Fz):jC (B.pen M) (qb7 m0 Sh) (qci m0 K Fz):=by
 refine⟨λr hr=>?_,λl hl=>?_⟩
 . rcases hr with hr|rfl
   . exact O.zS r hr
   . exact .inr C.z1
 . rcases hl with hl|rfl|rfl|⟨j,hj,rfl|rfl⟩
   . exact O.still l hl
   . exact⟨_,rfl,.inr C.z3⟩
   . exact⟨_,rfl,.inr C.z5⟩
   . exact⟨_,rfl,.inr (C.zb j hj)⟩
   . exact⟨_,rfl,.inr C.z2⟩
section
variable {gr:Grd}{M:Mks gr.base}{S:List String}{Post:Ai->Ab->Prop}{Sh:Nat->Prop}{Fz:Loc->Prop}{T:Nat->qz}{n0 N fl:Nat}{csv:Ai}{chs:List Nat}{α:Type}{step:α->Nat->α}{D L:α->Ab->Prop}{w z:Ab}
 {b₀:Am} {a₀:Act} {ops₀:Array Oper} {i₀:Nat} {rest₀:List Nat} {k₀:List Item} {cs:List Am}
theorem qsr(W:Task gr w.heap.size N fl csv chs step D L)(H:∀M:Mks gr.base,je (gr.base.pen M) S)(qJ:∀M:Mks gr.base,qd9 (gr.base.pen M) S (gr.X 71) qy)(hb:Both (gr.base.pen M) w z){c0:α}(hz:D c0 z)(O:jC (gr.base.pen M) Sh Fz)
   (hT:∀i,i≠0->T i=.left) (hn0:0<n0) (xq:n0<2000000000) (hN1:1<=N) (hN:N<=4) (hlen:chs.length<1000000)
   (next:∀w' z' (M':Mks gr.base) Sh' Fz',M.Le M'->Both (gr.base.pen M') w' z'->D (turns step N c0 chs) z'->jC (gr.base.pen M') Sh' Fz'->(∀r,Sh' r->Sh r∨w.heap.size<=r)->ql (gr.base.pen M) (λr=>w.heap.size<=r) w w' ->
    qc prog Post Sh' Fz' (λ_=>.left) (n0+N) 0 0 (G (b₀.at (a₀.put ((ops₀[i₀]?).bind (·.dst)) (.tuple #[])) (.inRegion ops₀ rest₀::k₀)) cs) w') :
   qc prog Post Sh Fz T n0 0 0 (G ((base 43).at ⟨#[.pointer (some ⟨fl,0,none⟩),.int .i64 N,csv,undef,undef,undef,undef,undef,undef,undef,undef,undef,undef,undef,undef,undef,undef,undef,undef,undef,undef,undef,undef,undef,undef,undef,undef,undef,undef,undef,undef,undef,undef,undef,undef,undef,undef,undef,undef,undef,undef,undef,undef,undef,undef,undef,undef,undef,undef,undef,undef,undef,undef,undef,undef],[]⟩ [.code qg5]) (b₀.at a₀ (.inRegion ops₀ (i₀::rest₀)::k₀)::cs)) w:=by
 have hroom:M.N<=w.heap.size:=hb.rel.room;have hN0:gr.N0<=w.heap.size:=Nat.le_trans M.ge hroom;obtain⟨lt1,lt2⟩:=O.lt;refine qzs hb O hT (D:=D c0) (W.alloc c0) hz hN1 hN (λtm w1 z1 M1 hs1 le1 hb1 hz1 hM1 C1 sz1 hh1=>?_);refine qzt (M:=M) (D:=D c0) (w₀:=w) (W.alloc c0) O hroom hN ⟨hb1,hz1,le1,sz1,by omega,hh1⟩ C1 hM1 hT hn0 hs1 (λtm2 T2 w2 z2 M2 S2 C2 hM2 R2 hs2=>?_);refine qxp W (H M2) (qJ M2) hM2 (O.le S2.le) (λr hr=>AS (lt1 r hr) hroom) hN0 hn0 hN1 hlen S2.both S2.data C2 R2 hs2 (λtm3 T3 w3 z3 hb3 hz3 C3 R3 hh3 hs3=>?_);refine qzx (D:=D (turns step N c0 chs)) (W.qaZ _) (λx r κ κ' b=>W.chan _ x r κ κ' b) hN0 hN hn0 (by omega) hM2 (λr hr=>AS (lt1 r hr) hroom) (λa ha=>AS (lt2 a ha) hroom) R3 C3 hb3 hz3 hs3 (λw4 S4=>?_);obtain⟨⟨z4,hb4,hz4⟩,-,-,-,hh4⟩:=S4;exact next w4 z4 M2 _ _ S2.le hb4 hz4 (hM2.qfW (O.le S2.le)) (λr h=>h.imp id (λe=>by rw[e];exact Nat.le_succ _)) ((S2.held.trans (hh3.down S2.le)).trans (hh4.down S2.le))
end
end
section
open Go.Conc
section
variable {C:Pen}{S:List String}{Post:Ai->Ab->Prop}{Sh:Nat->Prop}{Fz:Loc->Prop}{T:Nat->qz}{n h dd:Nat}{w z:Ab}
theorem qto(H:je C S){fr:Am}(hX:FrE C S {fr with todo:=[]})(hm:fr.mode=.returning)(hb:Both C w z)(O:Outside C Sh Fz T n h)(hL:qH T n h w){fn':Func}(hf:C.P.funcs[fr.fn]?=some fn'){x:Ai}(hres:∀d,(results fn' fr.tmps).run C.P (z.at d)=.ok x (z.at d))
   {caller:Am}  (next:∀w' z',Both C w' z'->z'.heap=z.heap->Held C w w'->Ok C.A C.F x->qH T n h w'->qc C.P Post Sh Fz T n h dd (G (caller.finish x) cs) w') :
   qc C.P Post Sh Fz T n h dd (G fr (caller::cs)) w:=by
 refine λe=>qo8 rfl (λd=>?_);have hk:qd C (results fn' fr.tmps) (Ok C.A C.F):=qhw (fr:={fr with todo:=[]}) H hX hf;have ho:=hk (w.at d) (z.at d) #[] (hb.at d).rel (λk q _ _=>by rw[show (w.at d).tape=(z.at d).tape from hb.tape.symm]);rw[hres d]at ho;obtain⟨w2,new,h1,h2,h3,h4⟩:=ho;rw[Sem.runT_eq]at h1;have h5:(results fn' fr.tmps).run C.P (w.at d)=.ok x w2:=(Prod.mk.inj h1).1;obtain⟨h7,h8⟩:=qht (w:=w.at d) O (hL.at d) (qi3 (C:=C) h3 fr.fn);refine⟨G (caller.finish x) cs,w2,seen C.P fr.fn new,?_,h7,?_⟩
 . have h6:(results fn' fr.tmps).events C.P (w.at d) #[]=new:=by have:=(Prod.mk.inj h1).2;simpa using this
   have hdf:fr.defers=[]:=jL.defers (fr:={fr with todo:=[]}) hX;have hkind:fr.kind=.normal:=jL.kind (fr:={fr with todo:=[]}) hX;show stepG C.P (h==0) (G fr (caller::cs)) (w.at d)=_;simp[G,stepG,unwind,hm,hdf,hf,doReturn,hkind,GStep.after,h5,h6]
 . rw[h8 dd];have hb2:Both C w2 (z.at d):=⟨h2,by rw[h3.tape];exact hb.tape⟩;exact(next w2 (z.at d) hb2 rfl (Held.trans (show Held C w (w.at d)from⟨λ_ _=>rfl,AT _,rfl,rfl,rfl,.of rfl⟩) h3.held) h4 (λi s hi hn hT=>(h7.fact i s hi hn hT).1)).lead
end
theorem jC.alone{C:Pen}{Sh:Nat->Prop}{Fz:Loc->Prop}(O:jC C Sh Fz)(hT:∀i,i≠0->T i=.left):Outside C Sh Fz T n 0:=
 ⟨λi s h1 _ h3=>(by rw[hT i h1]at h3;cases h3),O.zS,O.still⟩
theorem qh4(hT:∀i,i≠0->T i=.left):qH T n 0 w:=λi s h1 _ h3=>(by rw[hT i h1]at h3;cases h3)
end
end Go.Proofs.YtacemdoejblgaaaGreatDoor
