/- Part 15. Conditions: each statement's. -/
import Derived.Test.YtacemdoejblgaaaGreatDoorM14
namespace Go.Proofs.YtacemdoejblgaaaGreatDoor
set_option maxHeartbeats 6400000
set_option maxRecDepth 100000
section
open Go.Conc Go.RowKit Go.Conc.Lib Go.ConcR.Gen
open Go.ConcR (KK WgAt stA smA Payload)
section
variable {gr:Grd}{M:Mks gr.base}{Post:Value->World->Prop}{Sh:Nat->Prop}{Fz:Loc->Prop}{n0 m0 N fl:Nat}{csv:Value}{D:World->Prop}{w₀:World}{cs:List Frame}{kk:List Item}
theorem qrj(hD:∀ x o,D x->D (x.alloc o))(O:jB (gr.base.pen M) Sh Fz)(hm0:M.N<=m0)(hN:N<=4)
   (next:∀ tm T w z M1,jv gr M m0 D w₀ w z M1 (m0+6+2 * N)->ju m0 N N fl w->qQ m0 N M1->qR m0 N n0 N T->qN m0 N fl csv tm->qd Tryz.prog Post (qcb m0 Sh) (qco m0 N Fz) T (n0+N) 0 0 (G ((base 43).at ⟨tm,[]⟩ kk) cs) w) :
   ∀ r K tm T w z M1,K+r=N->jv gr M m0 D w₀ w z M1 (m0+6+2 * K)->ju m0 N K fl w->qQ m0 K M1->qR m0 N n0 K T->qN m0 N fl csv tm->tm[18]?=some (.int .i64 N)->tm[19]?=some (.int .i64 K) ->
     qd Tryz.prog Post (qcb m0 Sh) (qco m0 K Fz) T (n0+K) 0 0 (G ((base 43).at ⟨tm,[]⟩ (.code qel::.inLoop qel::.inBlock 0::kk)) cs) w:=by
 intro r
 induction r with
 | zero=>
   intro K tm T w z M1 hK S C hM R hs h18 h19;obtain rfl:K=N:=by omega
   obtain⟨v0,v1,v2,v3,v4,v5,v6,v7,v8,v9,v10,v11,v12,v13,v14,v15,v16,v17,v18,v19,v20,v21,v22,v23,v24,v25,v26,v27,v28,v29,v30,v31,v32,v33,v34,v35,v36,v37,v38,v39,v40,v41,v42,v43,v44,v45,v46,v47,v48,v49,v50,v51,v52,v53,v54,rfl⟩:=qhz tm hs.size;have s0:=hs.s0;have s1:=hs.s1;have s2:=hs.s2;have s3:=hs.s3;have s6:=hs.s6;have s7:=hs.s7;have s8:=hs.s8;simp only [List.getElem?_toArray,List.getElem?_cons_zero,List.getElem?_cons_succ,Option.some.injEq] at s0 s1 s2 s3 s6 s7 s8 h18 h19;replace s2:=s2.symm;subst s0 s1 s2 s3 s6 s7 s8 h18 h19;clear hs;have ye:decide ((K:Int) < (K:Int))=false:=by simp
   generalize hl:qel=lp;simp only [<-hl,qel,qhv,qg7,Tryz.f43,Option.getD_some];refine qau ?_;refine qaz ?_;simp only [List.size_toArray,List.length_cons,List.length_nil,Nat.zero_add,List.range,List.range.loop];refine qat (.bool false) rfl rfl (by decide) (fun w=>by go_simp) (fun w=>by simp [go_sem]) ?_;walk_nrm;refine qan ?_;refine qau ?_;refine qhc (t:=false) rfl ?_;simp only [Bool.false_eq_true,if_false];refine qss rfl ?_;exact next _ _ _ _ _ S C hM R ⟨rfl,rfl,rfl,rfl,rfl,rfl,rfl,rfl⟩
 | succ r ih=>
   intro K tm T w z M1 hK S C hM R hs h18 h19;refine q2j hD O hm0 hN (by omega) S C hM R hs h18 h19 (fun tm' T' w' z' M2 S' C' hM' R' hs' qeV qeW=>?_);refine qni ?_;exact ih (K+1) tm' T' w' z' M2 (by omega) S' C' hM' R' hs' qeV qeW
theorem qy9(hD:∀ x o,D x->D (x.alloc o))(O:jB (gr.base.pen M) Sh Fz)(hm0:M.N<=m0)(hN:N<=4){tm:Array Value}{T:Nat->q8}{w z:World}{M1:Mks gr.base}(S:jv gr M m0 D w₀ w z M1 (m0+6))(C:ju m0 N 0 fl w)(hM:qQ m0 0 M1)(hT:∀ i,i≠0->T i=.left)(hn0:0 < n0)
   (hs:qN m0 N fl csv tm)
   (next:∀ tm T w z M1,jv gr M m0 D w₀ w z M1 (m0+6+2 * N)->ju m0 N N fl w->qQ m0 N M1->qR m0 N n0 N T->qN m0 N fl csv tm->qd Tryz.prog Post (qcb m0 Sh) (qco m0 N Fz) T (n0+N) 0 0 (G ((base 43).at ⟨tm,[]⟩ [.code qgq]) cs) w) :
   qd Tryz.prog Post (qcb m0 Sh) (qco m0 0 Fz) T n0 0 0 (G ((base 43).at ⟨tm,[]⟩ [.code qhv]) cs) w:=by
 obtain⟨v0,v1,v2,v3,v4,v5,v6,v7,v8,v9,v10,v11,v12,v13,v14,v15,v16,v17,v18,v19,v20,v21,v22,v23,v24,v25,v26,v27,v28,v29,v30,v31,v32,v33,v34,v35,v36,v37,v38,v39,v40,v41,v42,v43,v44,v45,v46,v47,v48,v49,v50,v51,v52,v53,v54,rfl⟩:=qhz tm hs.size;have s0:=hs.s0;have s1:=hs.s1;have s2:=hs.s2;have s3:=hs.s3;have s6:=hs.s6;have s7:=hs.s7;have s8:=hs.s8;simp only [List.getElem?_toArray,List.getElem?_cons_zero,List.getElem?_cons_succ,Option.some.injEq] at s0 s1 s2 s3 s6 s7 s8;replace s2:=s2.symm;subst s0 s1 s2 s3 s6 s7 s8;clear hs;obtain⟨lt1,lt2⟩:=O.lt
 have nsh:¬ qcb m0 Sh (m0+3):=fun h=>by
   rcases h with h | h
   . have:=lt1 _ h;omega
   . omega
 obtain⟨ecb,kcb⟩:=C.cb;have hcb:=(qia kcb).1;have e0:qhv=.seq (.seq (match qhv with | .seq (.seq x _) _=>x | _=>.skip) (.block 0 (.loop qel))) qgq:=rfl;rw [e0];clear e0
 have hk:∀ (tm':Array Value),qN m0 N fl csv tm'->tm'[18]?=some (.int .i64 N)->tm'[19]?=some (.int .i64 (0:Nat))->qd Tryz.prog Post (qcb m0 Sh) (qco m0 0 Fz) T n0 0 0 (G ((base 43).at ⟨tm',[]⟩ [.code qel,.inLoop qel,.inBlock 0,.code qgq]) cs) w:=fun tm' h1 h2 h3=>
   qrj hD O hm0 hN next N 0 tm' T w z M1 (by omega) S C hM ⟨fun i h _=>hT i h,fun j hj=>absurd hj (Nat.not_lt_zero j),fun i hi=>hT i (by omega)⟩ h1 h2 h3
 generalize qel=lp at hk |-;generalize qgq=r2 at hk |-;simp only [qhv,qg7,Tryz.f43,Option.getD_some];refine qau ?_;refine qau ?_;refine qaz ?_;simp only [List.size_toArray,List.length_cons,List.length_nil,Nat.reduceAdd,Nat.zero_add,List.range,List.range.loop];refine qdx hcb nsh rfl rfl (by decide) (fun w h=>by go_simp) (fun w h=>by simp [go_sem,h]) ?_;walk_nrm;refine qat (.int .i64 N) rfl rfl (by decide) (fun w=>by go_simp) (fun w=>by simp [go_sem]) ?_;walk_nrm;refine qat (.int .i64 (0:Nat)) rfl rfl (by decide) (fun w=>by go_simp) (fun w=>by simp [go_sem]) ?_;walk_nrm;refine qan ?_;refine qe4 ?_;refine qmo ?_;exact hk _ ⟨rfl,rfl,rfl,rfl,rfl,rfl,rfl,rfl⟩ rfl rfl
end
end
section
open Go.Conc Go.RowKit Go.Conc.Lib Go.ConcR.Gen
open Go.ConcR (KK WgAt stA smA Payload)
open Go.ConcN (upd upd_ne upd_same)
structure Task(gr:Grd)(m0 N fl:Nat)(csv:Value)(chs:List Nat){α:Type}(step:α->Nat->α)(D L:α->World->Prop):Prop where
 alloc:∀ c x o,D c x->D c (x.alloc o)
 qaR:∀ c x y,x.heap=y.heap->D c x->D c y
 chan:∀ c x r κ κ' b,m0<=r->D c x->x.heap[r]?=some (.chan 0 #[] false κ κ false)->D c (x.setChan r 0 #[] b κ' κ' false)
 lock:∀ c x,D c x->x.cell? ⟨fl,0,none⟩=some (.int .i32 0)
 heap:∀ c x y,x.heap=y.heap->L c x->L c y
 held:∀ c x,L c x->x.cell? ⟨fl,0,none⟩=some (.int .i32 1)
 free:∀ c x,L c x->D c (x.setCell ⟨fl,0,none⟩ (.int .i32 0))
 turn:∀ c x j,j < N->D c x->∀ d t,qv.wp Tryz.prog (fun e _ y=>e=.normal/\L (step c j) y) ⟨qfn fl j,[]⟩ (re ((x.setCell ⟨fl,0,none⟩ (.int .i32 1)).at d) t 0)
 floor:gr.A ⟨fl,0,none⟩
 form:∃ A cap,csv=.slice A chs.length cap
 choice:∀ i (h:i < chs.length),∃ ca:Addr,gr.A ca/\(∀ c x,D c x->x.cell? ca=some (.int .i64 chs[i]))/\∃ a0,(∃ cap,csv=.slice (some a0) chs.length cap)/\a0.add i=ca
 small:∀ i (h:i < chs.length),chs[i] < 9223372036854775808
noncomputable def qcf:Code:=match qgq with | .seq (.seq _ (.block _ (.loop c))) _=>c | _=>.skip
noncomputable def qoy:Code:=match qgq with | .seq _ c=>c | _=>.skip
noncomputable def quq:Array Oper:=match qcf with | .seq _ (.seq _ (.seq (.block _ (.seq _ (.seq _ (.region _ ops _)))) _))=>ops | _=>#[]
noncomputable def q4y:Code:=match qcf with | .seq _ (.seq _ (.seq _ c))=>c | _=>.skip
def qee(m0 N fl len i x:Nat)(csv:Value)(ca:Addr)(x36 x37 x38 x39 x40 x41 x42 x43 v4 v5 v9 v12 v13 v14 v15 v16 v17 v18 v19 v20 v21 v22 v23 v24 v25 v26 v27 v28 v44 v45 v46 v47 v48 v49 v50 v51 v52 v53 v54:Value):Array Value:=
 #[.pointer (some ⟨fl,0,none⟩),.int .i64 N,csv,.pointer (some ⟨m0,0,none⟩),v4,v5,.pointer (some ⟨m0+1,0,none⟩),.pointer (some ⟨m0+3,0,none⟩),.pointer (some ⟨m0+5,0,none⟩),v9,.int .i64 i,.int .i64 x,v12,v13,v14,v15,v16,v17,v18,v19,v20,v21,v22,v23,v24,v25,v26,v27,v28,csv,.int .i64 len,.int .i64 i,.bool true,.int .i64 i,.pointer (some ca),.int .i64 x,x36,x37,x38,x39,x40,x41,x42,x43,v44,v45,v46,v47,v48,v49,v50,v51,v52,v53,v54]
noncomputable def qkj(m0:Nat)(ts:Array Value)(lp:Code)(kk:List Item)(cs:List Frame):jD where
 L:=[(⟨m0+5,0,none⟩,.chan (some (m0+4)))]
 fr:=(base 43).at ⟨ts,[]⟩ (.inRegion quq [1]::.inBlock 3::.code q4y::.inLoop lp::.inBlock 2::kk)
 cs:=cs
 c:=m0+4
 z:=.int .i64 0
 ok:=false
theorem q2k{m0 N fl len i x:Nat}{csv:Value}{ca:Addr}{x36 x37 x38 x39 x40 x41 x42 v4 v5 v9 v12 v13 v14 v15 v16 v17 v18 v19 v20 v21 v22 v23 v24 v25 v26 v27 v28 v44 v45 v46 v47 v48 v49 v50 v51 v52 v53 v54:Value}{lp:Code}{kk:List Item}{cs:List Frame}{main:Bool} :
   qin Tryz.prog main (qkj m0 (qee m0 N fl len i x csv ca x36 x37 x38 x39 x40 x41 x42 (.chan (some (m0+4))) v4 v5 v9 v12 v13 v14 v15 v16 v17 v18 v19 v20 v21 v22 v23 v24 v25 v26 v27 v28 v44 v45 v46 v47 v48 v49 v50 v51 v52 v53 v54) lp kk cs):=by
 unfold qkj;simp only [qee,quq,qcf,qgq,qhv,qg7,Tryz.f43,Option.getD_some];refine qrl (b:=base 43) (i:=1) rfl rfl rfl (by decide) (fun w=>?_) (fun w=>?_)
 . simp [go_sem,rcase]
 . simp [go_sem]
section
variable {gr:Grd}{M1:Mks gr.base}{S:List String}{Post:Value->World->Prop}{Sh:Nat->Prop}{Fz:Loc->Prop}{T:Nat->q8}{n0 m0 N fl:Nat}{csv:Value}{chs:List Nat}{α:Type}{step:α->Nat->α}{D L:α->World->Prop}{w z:World}{cs:List Frame}{kk:List Item}{lp:Code}
theorem qw8(W:Task gr m0 N fl csv chs step D L)(H:jo (gr.base.pen M1) S)(jw:qe0 (gr.base.pen M1) S (gr.X 71) qv)(hb:Both (gr.base.pen M1) w z){c:α}(hz:D c z)(C:ju m0 N N fl w)(hM:qQ m0 N M1)(O:jB (gr.base.pen M1) Sh Fz)
   (lt1:∀ r,Sh r->r < m0) (hN0:gr.N0<=m0) (hn0:0 < n0) (R:qR m0 N n0 N T) {j:Nat} (hj:j < N) {s:jD} (hs:zY m0 j N s) (hT:T (n0+j)=.seat s) {ts:Array Value} {call:Int}
   (next:∀ T' w' z',Both (gr.base.pen M1) w' z'->D (step c j) z'->ju m0 N N fl w'->qR m0 N n0 N T'->ql (gr.base.pen M1) (fun r=>m0<=r) w w' ->
     qd Tryz.prog Post (qcb m0 Sh) (qco m0 N Fz) T' (n0+N) 0 0 (Go.Conc.served (G (qkj m0 ts lp kk cs).fr (qkj m0 ts lp kk cs).cs) (recvd false (.int .i64 call) true)) w') :
   qd Tryz.prog Post (qcb m0 Sh) (qco m0 N Fz) (upd T 0 (.seat (qkj m0 ts lp kk cs))) (n0+N) (n0+j) 0 (Go.Conc.served (G s.fr s.cs) (recvd s.ok (.int .i64 call) true)) w:=by
 have nsh:∀ r,m0<=r->r≠m0+1->¬ qcb m0 Sh r:=fun r hr hne h=>by
   rcases h with h | h
   . have:=lt1 r h;omega
   . exact hne h
 have O1:=hM.out R O;obtain⟨e1,e2,e3,e4,e5⟩:=qd7 hs;obtain⟨ef,kf⟩:=C.fb;obtain⟨ea,ka⟩:=C.ab;have kbx:=C.bx j hj;obtain⟨κ,hκ⟩:=C.ac
 have hL0:qH (upd T 0 (.seat (qkj m0 ts lp kk cs))) (n0+N) (n0+j) w:=fun i s' h1 h2 h3=>by
   by_cases hi:i=0
   . subst hi;rw [upd_same] at h3;cases h3;intro x hx;simp only [qkj,List.mem_cons,List.not_mem_nil,or_false] at hx;subst hx;exact(qia ka).1
   . rw [upd_ne T _ hi] at h3;exact C.hold R i s' hi h2 h3
 have O2:Outside (gr.base.pen M1) (qcb m0 Sh) (qco m0 N Fz) (upd T 0 (.seat (qkj m0 ts lp kk cs))) (n0+N) (n0+j):=by
   refine⟨fun i s' h1 h2 h3=>?_,O1.zW,O1.still⟩;by_cases hi:i=0
   . subst hi;rw [upd_same] at h3;cases h3;refine⟨.inr hM.c4,fun x hx=>.inr ?_⟩;simp only [qkj,List.mem_cons,List.not_mem_nil,or_false] at hx;subst hx;exact hM.z5
   . rw [upd_ne T _ hi] at h3;exact O1.seat i s' hi h2 h3
 refine q2q H jw hb O2 hL0 W.floor (W.lock c z hz) (W.heap (step c j)) (W.held (step c j)) (W.turn c z j hj hz) hs (by omega) (by omega) (upd_same ..) rfl (qia kf).1 (qia kbx).1 (qia ka).1 hM.z5 (nsh m0 (by omega) (by omega)) (nsh _ (by omega) (by omega)) (nsh _ (by omega) (by omega)) hκ hM.c4 hM.n4 (gr.fresh _ (by show gr.N0<=m0+4;omega))
   (C.vP hj) (C.ch j hj) (hM.cc j hj) (by show m0+7+2 * j≠m0+4;omega) (fun i s' h1 h2 h3 h4=>?_) (fun l hl=>?_) (fun x hx=>?_) ?_
 . rw [upd_ne T _ h2] at h4;obtain⟨j',hj',rfl,hs'⟩:=R.seat h2 h4;rw [(qd7 hs').1];omega
 . obtain⟨x,hx,rfl⟩:=hl;simp only [ql9,qg0,List.mem_cons,List.not_mem_nil,or_false] at hx;rcases hx with rfl | rfl | rfl
   . exact⟨.inr (.inl rfl),nsh _ (by show m0<=m0+3;omega) (by show m0+3≠m0+1;omega)⟩
   . exact⟨.inr (.inr (.inr ⟨j,hj,.inl rfl⟩)),nsh _ (by show m0<=m0+6+2 * j;omega) (by show m0+6+2 * j≠m0+1;omega)⟩
   . exact⟨.inr (.inr (.inr ⟨j,hj,.inr rfl⟩)),nsh _ (by show m0<=m0+2;omega) (by show m0+2≠m0+1;omega)⟩
 . simp only [ql9,qg0,List.mem_cons,List.not_mem_nil,or_false] at hx;rcases hx with rfl | rfl | rfl
   . exact hM.z3
   . exact hM.zb j hj
   . exact hM.z2
 . intro s' w' z' hs' hL' hb' hh' qeX hz4;refine next _ w' _ hb' (W.chan _ _ _ _ _ _ (by show m0<=m0+4;omega) (W.free _ _ hL') hz4) (C.held hM hh' (fun r hr=>.inl hr) ⟨_,qeX⟩ (fun i hi=>?_)) ⟨fun i h1 h2=>?_,fun i hi=>?_,fun i hi=>?_⟩ (hh'.mono (fun r hr=>by show m0<=r;rw [hr];show m0<=m0+4;omega))
   . obtain⟨κ',hκ'⟩:=C.ch i hi;exact⟨κ',(hh'.block _ (fun e:m0+7+2 * i=m0+4=>by omega) (.inr (.inr (hM.cc i hi)))).trans hκ'⟩
   . rw [upd_ne _ _ (by omega),upd_ne T _ h1];exact R.old i h1 h2
   . by_cases e:i=j
     . subst e;exact⟨s',hs',upd_same ..⟩
     . rw [upd_ne _ _ (by omega),upd_ne T _ (by omega)];exact R.work i hi
   . rw [upd_ne _ _ (by omega),upd_ne T _ (by omega)];exact R.out i hi
end
theorem q4z{b:Frame}{a:Act}{k:List Item}{cs:List Frame}{ops:Array Oper}{i:Nat}{rest:List Nat}{v:Value} :
   Go.Conc.served (G (b.at a (.inRegion ops (i::rest)::k)) cs) v=G (b.at (a.put ((ops[i]?).bind (·.dst)) v) (.inRegion ops rest::k)) cs:=by
 have:=Frame.finish_at (b:=b) (a:=a) (ops:=ops) (i:=i) (rest:=rest) (k:=k) (v:=v);unfold Go.Conc.served G;dsimp only;rw [this]
section
variable {gr:Grd}{M1:Mks gr.base}{S:List String}{Post:Value->World->Prop}{Sh:Nat->Prop}{Fz:Loc->Prop}{T:Nat->q8}{n0 m0 N fl:Nat}{csv:Value}{chs:List Nat}{α:Type}{step:α->Nat->α}{D L:α->World->Prop}{w z:World}{cs:List Frame}{kk:List Item}{lp:Code}
theorem qza(W:Task gr m0 N fl csv chs step D L)(H:jo (gr.base.pen M1) S)(jw:qe0 (gr.base.pen M1) S (gr.X 71) qv)(hb:Both (gr.base.pen M1) w z){c:α}(hz:D c z)(C:ju m0 N N fl w)(hM:qQ m0 N M1)(O:jB (gr.base.pen M1) Sh Fz)
   (lt1:∀ r,Sh r->r < m0) (hN0:gr.N0<=m0) (hn0:0 < n0) (hN1:1<=N) (R:qR m0 N n0 N T) {tm:Array Value} (hs:qN m0 N fl csv tm) (h29:tm[29]?=some csv) (h30:tm[30]?=some (.int .i64 (chs.length:Nat))) {i:Nat} (h31:tm[31]?=some (.int .i64 i)) (hi:i < chs.length)
   (hlen:chs.length < 1000000)
   (next:∀ tm' T' w' z',Both (gr.base.pen M1) w' z'->D (step c (chs[i] % N)) z'->ju m0 N N fl w'->qR m0 N n0 N T'->ql (gr.base.pen M1) (fun r=>m0<=r) w w'->qN m0 N fl csv tm'->tm'[29]?=some csv->tm'[30]?=some (.int .i64 (chs.length:Nat))->tm'[31]?=some (.int .i64 ((i+1:Nat):Int)) ->
     qd Tryz.prog Post (qcb m0 Sh) (qco m0 N Fz) T' (n0+N) 0 0 (G ((base 43).at ⟨tm',[]⟩ (.inLoop lp::.inBlock 2::kk)) cs) w') :
   qd Tryz.prog Post (qcb m0 Sh) (qco m0 N Fz) T (n0+N) 0 0 (G ((base 43).at ⟨tm,[]⟩ (.code qcf::.inLoop lp::.inBlock 2::kk)) cs) w:=by
 obtain⟨v0,v1,v2,v3,v4,v5,v6,v7,v8,v9,v10,v11,v12,v13,v14,v15,v16,v17,v18,v19,v20,v21,v22,v23,v24,v25,v26,v27,v28,v29,v30,v31,v32,v33,v34,v35,v36,v37,v38,v39,v40,v41,v42,v43,v44,v45,v46,v47,v48,v49,v50,v51,v52,v53,v54,rfl⟩:=qhz tm hs.size;have s0:=hs.s0;have s1:=hs.s1;have s2:=hs.s2;have s3:=hs.s3;have s6:=hs.s6;have s7:=hs.s7;have s8:=hs.s8;simp only [List.getElem?_toArray,List.getElem?_cons_zero,List.getElem?_cons_succ,Option.some.injEq] at s0 s1 s2 s3 s6 s7 s8 h29 h30 h31;replace s2:=s2.symm;subst s0 s1 s2 s3 s6 s7 s8 h30 h31;replace h29:=h29.symm;subst h29;clear hs;obtain⟨ca,qcT,kN,a0,⟨cap,yF⟩,hadd⟩:=W.choice i hi;have hca:=(hb.cell qcT (kN c z hz)).1;have hxs:=W.small i hi
 have nsh:∀ r,m0<=r->r≠m0+1->¬ qcb m0 Sh r:=fun r hr hne h=>by
   rcases h with h | h
   . have:=lt1 r h;omega
   . exact hne h
 have yG:¬ qcb m0 Sh ca.block:=fun h=>by
   rcases h with h | h
   . rcases O.zW _ h with k | k
     . exact k ⟨ca,qcT,rfl⟩
     . exact(ordinary hb (kN c z hz)).1 k
   . exact(ordinary hb (kN c z hz)).1 (by rw [h];exact hM.z1)
 have ye:decide ((i:Int) < ((chs.length:Nat):Int))=true:=by simp;omega
 have hi0:(0:Int)<=(i:Int):=by omega
 have hi1:(i:Int) < ((chs.length:Nat):Int):=by omega
 have qaS:IntKind.i64.wrap ((i:Int)+1)=((i+1:Nat):Int):=by rw [IntKind.wrap_i64];omega
 obtain⟨x,hx⟩:∃ x,x=chs[i]:=⟨_,rfl⟩;rw [<-hx] at hca hxs next;have hcell:=hca;generalize hl:q4y=nx;have hcs:csv=.slice (some a0) chs.length cap:=yF;have e0:qcf=.seq (match qcf with | .seq x _=>x | _=>.skip) (.seq (match qcf with | .seq _ (.seq x _)=>x | _=>.skip) (.seq (match qcf with | .seq _ (.seq _ (.seq x _))=>x | _=>.skip) q4y)):=rfl;rw [e0,hl];clear e0;simp only [qcf,qgq,qhv,qg7,Tryz.f43,Option.getD_some];refine qau ?_;refine qaz ?_;simp only [List.size_toArray,List.length_cons,List.length_nil,Nat.zero_add,List.range,List.range.loop];refine qat (.bool true) rfl rfl (by decide) (fun w=>by go_simp) (fun w=>by simp [go_sem]) ?_;walk_nrm;refine qan ?_;refine qau ?_;refine qhc (t:=true) rfl ?_;simp only [if_true];refine qmn ?_;refine qau ?_;refine qe4 ?_;refine qau ?_;refine qaz ?_;simp only [List.size_toArray,List.length_cons,List.length_nil,Nat.reduceAdd,Nat.zero_add,List.range,List.range.loop];refine qat (.int .i64 i) rfl rfl (by decide) (fun w=>by go_simp) (fun w=>by simp [go_sem]) ?_;walk_nrm;refine qat (.pointer (some ca)) rfl rfl (by decide) (fun w=>?_) (fun w=>?_) ?_
 . rw [hcs,<-hadd]
   go_simp
 . rw [hcs];simp [go_sem,*]
 walk_nrm;refine qdx hcell yG rfl rfl (by decide) (fun w h=>by go_simp) (fun w h=>by simp [go_sem,h]) ?_;walk_nrm;refine qat (.int .i64 i) rfl rfl (by decide) (fun w=>by go_simp) (fun w=>by simp [go_sem]) ?_;walk_nrm;refine qat (.int .i64 x) rfl rfl (by decide) (fun w=>by go_simp) (fun w=>by simp [go_sem]) ?_;walk_nrm;refine qan ?_;refine qau ?_;clear hcell hca yG hadd yF hcs hi0 hi1 ye;obtain⟨j,hj⟩:∃ j,j=x % N:=⟨_,rfl⟩;have hjN:j < N:=by rw [hj];exact Nat.mod_lt _ (by omega)
 have qiG:(x:Int).tmod (N:Int)=(j:Int):=by rw [hj,Int.tmod_eq_emod_of_nonneg (by omega)];exact(Int.natCast_emod x N).symm
 have hjx:j<=x:=by rw [hj];exact Nat.mod_le ..
 have hwrap:IntKind.i64.wrap (j:Int)=(j:Int):=by rw [IntKind.wrap_i64];omega
 have hNn:¬ ((N:Int)=0):=by omega
 have qiH:¬ (N=0):=by omega
 have qiI:((N:Int) == 0)=false:=by simp;omega
 have hj0:(0:Int)<=(j:Int):=by omega
 have hj1:(j:Int) < (N:Int):=by omega
 rw [<-hj] at next;clear hj hx kN;obtain⟨ecb,kcb⟩:=C.cb;have hcb:=(qia kcb).1;obtain⟨arr,ra1,ra2,ra3⟩:=C.row;have hrow:w.cell? ⟨m0+2,j,none⟩=some (.chan (some (m0+7+2 * j))):=by simp [World.cell?,ra1,ra3 j hjN]
 refine qta (I:=fun Sb a w'=>∃ s0 s1 s2 s3 s4 s5 s6 x36 x37 x38 x39 x40 x41 x42,Sb=#[s0,s1,s2,s3,s4,s5,s6,false]/\a=⟨qee m0 N fl chs.length i x csv ca x36 x37 x38 x39 x40 x41 x42 v43 v4 v5 v9 v12 v13 v14 v15 v16 v17 v18 v19 v20 v21 v22 v23 v24 v25 v26 v27 v28 v44 v45 v46 v47 v48 v49 v50 v51 v52 v53 v54,[]⟩/\(s0=true->x36=.slice (some ⟨m0+2,0,none⟩) N N)/\(s1=true->x37=.int .i64 x)/\(s2=true->x38=.int .i64 N) /\
     (s3=true->s1=true/\s2=true/\x39=.int .i64 j)/\(s4=true->s0=true/\s3=true/\x40=.pointer (some ⟨m0+2,j,none⟩))/\(s5=true->s4=true/\x41=.chan (some (m0+7+2 * j)))/\(s6=true->x42=.int .i64 i)/\w'=w)
   (by kernel_rfl) ⟨false,false,false,false,false,false,false,_,_,_,_,_,_,_,rfl,rfl,(fun h=>by cases h),(fun h=>by cases h),(fun h=>by cases h),(fun h=>by cases h),(fun h=>by cases h),(fun h=>by cases h),(fun h=>by cases h),rfl⟩ ?_ ?_
 . rintro Sb a w' q rest ⟨s0,s1,s2,s3,s4,s5,s6,x36,x37,x38,x39,x40,x41,x42,rfl,rfl,i0,i1,i2,i3,i4,i5,i6,rfl⟩ hq hr hgo;obtain⟨hq0,o,ho,jc⟩:=mem_ready.1 hq
   have hq8:q < 8:=by
     have:=(Array.getElem?_eq_some_iff.1 ho).1;simpa using this
   simp only [qee] at hgo |-;rcases q with _ | _ | _ | _ | _ | _ | _ | _ | q
   . simp at hq0;subst hq0;obtain rfl:s4=false:=by cases s4 with | false=>rfl | true=>exact absurd (i4 rfl).1 (by simp)
     obtain rfl:s5=false:=by cases s5 with | false=>rfl | true=>exact absurd (i5 rfl).1 (by simp)
     refine qdx hcb (nsh _ (by show m0<=m0+3;omega) (by show m0+3≠m0+1;omega)) rfl rfl (by decide) (fun w h=>by go_simp) (fun w h=>by simp [go_sem,h]) ?_;walk_nrm;exact hgo _ _ ⟨true,s1,s2,s3,false,false,s6,_,_,_,_,_,_,_,rfl,rfl,fun _=>rfl,i1,i2,i3,(fun h=>by cases h),(fun h=>by cases h),i6,rfl⟩
   . simp at hq0;subst hq0;obtain rfl:s3=false:=by cases s3 with | false=>rfl | true=>exact absurd (i3 rfl).1 (by simp)
     obtain rfl:s4=false:=by cases s4 with | false=>rfl | true=>exact absurd (i4 rfl).2.1 (by simp)
     obtain rfl:s5=false:=by cases s5 with | false=>rfl | true=>exact absurd (i5 rfl).1 (by simp)
     refine qat (.int .i64 x) rfl rfl (by decide) (fun w=>by go_simp) (fun w=>by simp [go_sem]) ?_;walk_nrm;exact hgo _ _ ⟨s0,true,s2,false,false,false,s6,_,_,_,_,_,_,_,rfl,rfl,i0,fun _=>rfl,i2,(fun h=>by cases h),(fun h=>by cases h),(fun h=>by cases h),i6,rfl⟩
   . simp at hq0;subst hq0;obtain rfl:s3=false:=by cases s3 with | false=>rfl | true=>exact absurd (i3 rfl).2.1 (by simp)
     obtain rfl:s4=false:=by cases s4 with | false=>rfl | true=>exact absurd (i4 rfl).2.1 (by simp)
     obtain rfl:s5=false:=by cases s5 with | false=>rfl | true=>exact absurd (i5 rfl).1 (by simp)
     refine qat (.int .i64 N) rfl rfl (by decide) (fun w=>by go_simp) (fun w=>by simp [go_sem]) ?_;walk_nrm;exact hgo _ _ ⟨s0,s1,true,false,false,false,s6,_,_,_,_,_,_,_,rfl,rfl,i0,i1,fun _=>rfl,(fun h=>by cases h),(fun h=>by cases h),(fun h=>by cases h),i6,rfl⟩
   . simp at hq0;subst hq0;obtain rfl:s4=false:=by cases s4 with | false=>rfl | true=>exact absurd (i4 rfl).2.1 (by simp)
     obtain rfl:s5=false:=by cases s5 with | false=>rfl | true=>exact absurd (i5 rfl).1 (by simp)
     obtain⟨rfl,rfl⟩:s1=true/\s2=true:=by
       simp at ho;subst ho;simp [Region.binds] at jc;exact jc
     obtain rfl:=i1 rfl;obtain rfl:=i2 rfl;refine qat (.int .i64 j) rfl rfl (by decide) (fun w=>by go_simp) (fun w=>by simp [go_sem,*]) ?_;walk_nrm;exact hgo _ _ ⟨s0,true,true,true,false,false,s6,_,_,_,_,_,_,_,rfl,rfl,i0,fun _=>rfl,fun _=>rfl,fun _=>⟨rfl,rfl,rfl⟩,(fun h=>by cases h),(fun h=>by cases h),i6,rfl⟩
   . simp at hq0;subst hq0;obtain rfl:s5=false:=by cases s5 with | false=>rfl | true=>exact absurd (i5 rfl).1 (by simp)
     obtain⟨rfl,rfl⟩:s0=true/\s3=true:=by
       simp at ho;subst ho;simp [Region.binds] at jc;exact jc
     obtain rfl:=i0 rfl;obtain⟨rfl,rfl,rfl⟩:=i3 rfl;refine qat (.pointer (some ⟨m0+2,j,none⟩)) rfl rfl (by decide) (fun w=>by go_simp) (fun w=>by simp [go_sem,*]) ?_;walk_nrm;exact hgo _ _ ⟨true,true,true,true,true,false,s6,_,_,_,_,_,_,_,rfl,rfl,fun _=>rfl,i1,i2,fun _=>⟨rfl,rfl,rfl⟩,fun _=>⟨rfl,rfl,rfl⟩,(fun h=>by cases h),i6,rfl⟩
   . simp at hq0;subst hq0
     obtain rfl:s4=true:=by
       simp at ho;subst ho;simp [Region.binds] at jc;exact jc
     obtain⟨rfl,rfl,rfl⟩:=i4 rfl;obtain⟨rfl,rfl,rfl⟩:=i3 rfl;refine qdx hrow (nsh _ (by show m0<=m0+2;omega) (by show m0+2≠m0+1;omega)) rfl rfl (by decide) (fun w h=>by go_simp) (fun w h=>by simp [go_sem,h]) ?_;walk_nrm;exact hgo _ _ ⟨true,true,true,true,true,true,s6,_,_,_,_,_,_,_,rfl,rfl,i0,i1,i2,fun _=>⟨rfl,rfl,rfl⟩,fun _=>⟨rfl,rfl,rfl⟩,fun _=>⟨rfl,rfl⟩,i6,rfl⟩
   . simp at hq0;subst hq0;refine qat (.int .i64 i) rfl rfl (by decide) (fun w=>by go_simp) (fun w=>by simp [go_sem]) ?_;walk_nrm;exact hgo _ _ ⟨s0,s1,s2,s3,s4,s5,true,_,_,_,_,_,_,_,rfl,rfl,i0,i1,i2,i3,i4,i5,fun _=>rfl,rfl⟩
   . clear hgo
     obtain⟨rfl,rfl⟩:s5=true/\s6=true:=by
       simp at ho;subst ho;simp [Region.binds] at jc;exact jc
     obtain⟨rfl,rfl⟩:=i5 rfl;obtain⟨rfl,rfl,rfl⟩:=i4 rfl;obtain⟨rfl,rfl,rfl⟩:=i3 rfl;obtain rfl:=i0 rfl;obtain rfl:=i1 rfl;obtain rfl:=i2 rfl;obtain rfl:=i6 rfl;obtain rfl:rest=[]:=hr (by rfl);clear i0 i1 i2 i3 i4 i5 i6 hr hq jc ho o hq0 hq8;obtain⟨s,hsj,hTj⟩:=R.work j hjN;obtain⟨κ,hκ⟩:=C.ch j hjN;obtain⟨κa,hκa⟩:=C.ac;obtain⟨eab,kab⟩:=C.ab;have hab:=(qia kab).1;have hCj:=hsj;obtain⟨y5,y6,y7,y8,y10,y11,y12,y13,y14,y15,y16,y17,rfl⟩:=hsj;subst hl;have qeY:z.heap[m0+7+2 * j]?=some (.chan 0 #[] false κ κ false):=(hb.vA ⟨_,gr.fresh ⟨m0+7+2 * j,0,none⟩ (by show gr.N0<=m0+7+2 * j;omega),rfl⟩ (hM.nc j hjN)).trans hκ;refine qte (k:=n0+j) (sh:=qkj m0 (qee m0 N fl chs.length i x csv ca (.slice (some ⟨m0+2,0,none⟩) N N) (.int .i64 x) (.int .i64 N) (.int .i64 j) (.pointer (some ⟨m0+2,j,none⟩)) (.chan (some (m0+7+2 * j))) (.int .i64 i) (.chan (some (m0+4))) v4 v5 v9 v12 v13 v14 v15 v16 v17 v18 v19 v20 v21 v22 v23 v24 v25 v26 v27 v28 v44 v45 v46 v47 v48 v49 v50 v51 v52 v53 v54) lp kk cs) (mh:=4) (v:=.int .i64 i) (z:=undef) rfl (by omega) (by omega) hTj (κ:=κ) hκ (qtf rfl rfl (by decide) (fun w=>by simp [go_sem,scase,qhy,undef]) (fun w=>by simp [go_sem])) ?_ (fun x hx=>?_) ⟨κa,hκa⟩ (by show m0+4≠m0+7+2 * j;omega) (fun i s' h1 h2 h3 h4=>?_) (fun l hl=>?_) ?_
     . rw [q4z];walk_nrm;refine Way.ctl rfl (fun _=>stepG_region_end) ?_;refine Way.ctl rfl (fun _=>stepG_region) ?_;simp only [List.size_toArray,List.length_cons,List.length_nil,Nat.reduceAdd,Nat.zero_add,List.range,List.range.loop];refine Way.load (ad:=⟨m0+5,0,none⟩) (v:=.chan (some (m0+4))) (by simp [qkj]) rfl rfl (by decide) (fun w h=>by go_simp) (fun w h=>by simp [go_sem,h]) ?_;walk_nrm;exact Way.here q2k rfl rfl
     . simp only [qkj,List.mem_cons,List.not_mem_nil,or_false] at hx;subst hx;exact hab
     . obtain⟨j',hj',rfl,hs'⟩:=R.seat h1 h4;rw [(qd7 hs').1];show m0+7+2 * j'≠m0+4;omega
     . obtain⟨x,hx,rfl⟩:=hl;simp only [qkj,List.mem_cons,List.not_mem_nil,or_false] at hx;subst hx;exact⟨.inr (.inr (.inl rfl)),nsh _ (by show m0<=m0+5;omega) (by show m0+5≠m0+1;omega)⟩
     . have hh1:=ql.chan (C:=gr.base.pen M1) (X:=fun r=>r=m0+7+2 * j) (w:=w') (c:=m0+7+2 * j) rfl 0 #[] false (κ+1) (κ+1) false
       have C1:ju m0 N N fl (w'.setChan (m0+7+2 * j) 0 #[] false (κ+1) (κ+1) false):=by
         refine C.held hM hh1 (fun r hr=>.inr ⟨j,hjN,hr⟩) ⟨κa,?_⟩ (fun q hq=>?_)
         . rw [qby,if_neg (by omega)];exact hκa
         . by_cases e:q=j
           . subst e;exact⟨κ+1,by rw [qby,if_pos rfl,if_pos (q5b hκ)]⟩
           . obtain⟨κq,hκq⟩:=C.ch q hq;exact⟨κq,by rw [qby,if_neg (by omega)];exact hκq⟩
       refine qw8 W H jw (hb.setChan (hM.nc j hjN) 0 #[] false (κ+1) (κ+1) false) (W.chan c z _ _ _ _ (by omega) hz qeY) C1 hM O lt1 hN0 hn0 R hjN hCj hTj (fun T' w2 z2 hb2 hz2 C2 R2 hh2=>?_);have hhh:=(hh1.mono (fun r hr=>by show m0<=r;rw [hr];omega)).trans hh2;have e:Go.Conc.served (G (qkj m0 (qee m0 N fl chs.length i x csv ca (.slice (some ⟨m0+2,0,none⟩) N N) (.int .i64 x) (.int .i64 N) (.int .i64 j) (.pointer (some ⟨m0+2,j,none⟩)) (.chan (some (m0+7+2 * j))) (.int .i64 i) (.chan (some (m0+4))) v4 v5 v9 v12 v13 v14 v15 v16 v17 v18 v19 v20 v21 v22 v23 v24 v25 v26 v27 v28 v44 v45 v46 v47 v48 v49 v50 v51 v52 v53 v54) lp kk cs).fr (qkj m0 (qee m0 N fl chs.length i x csv ca (.slice (some ⟨m0+2,0,none⟩) N N) (.int .i64 x) (.int .i64 N) (.int .i64 j) (.pointer (some ⟨m0+2,j,none⟩)) (.chan (some (m0+7+2 * j))) (.int .i64 i) (.chan (some (m0+4))) v4 v5 v9 v12 v13 v14 v15 v16 v17 v18 v19 v20 v21 v22 v23 v24 v25 v26 v27 v28 v44 v45 v46 v47 v48 v49 v50 v51 v52 v53 v54) lp kk cs).cs) (recvd false (.int .i64 i) true)=G ((base 43).at ⟨(qee m0 N fl chs.length i x csv ca (.slice (some ⟨m0+2,0,none⟩) N N) (.int .i64 x) (.int .i64 N) (.int .i64 j) (.pointer (some ⟨m0+2,j,none⟩)) (.chan (some (m0+7+2 * j))) (.int .i64 i) (.chan (some (m0+4))) v4 v5 v9 v12 v13 v14 v15 v16 v17 v18 v19 v20 v21 v22 v23 v24 v25 v26 v27 v28 v44 v45 v46 v47 v48 v49 v50 v51 v52 v53 v54).setIfInBounds 44 (.int .i64 i),[]⟩ (.inRegion quq []::.inBlock 3::.code q4y::.inLoop lp::.inBlock 2::kk)) cs:=rfl;rw [e];clear e;refine qan ?_;refine qk4 ?_;simp only [q4y,qcf,qgq,qhv,qg7,Tryz.f43,Option.getD_some,qee,List.setIfInBounds_toArray,List.set_cons_succ,List.set_cons_zero];refine qaz ?_;simp only [List.size_toArray,List.length_cons,List.length_nil,Nat.reduceAdd,Nat.zero_add,List.range,List.range.loop];refine qat (.int .i64 ((i+1:Nat):Int)) rfl rfl (by decide) (fun w=>by go_simp) (fun w=>by simp [go_sem]) ?_;walk_nrm;refine qat (.int .i64 ((i+1:Nat):Int)) rfl rfl (by decide) (fun w=>by go_simp) (fun w=>by simp [go_sem]) ?_;walk_nrm;refine qan ?_;exact next _ _ _ _ hb2 hz2 C2 R2 hhh ⟨rfl,rfl,rfl,rfl,rfl,rfl,rfl,rfl⟩ rfl rfl rfl
   . omega
 . rintro Sb a w' ⟨s0,s1,s2,s3,s4,s5,s6,x36,x37,x38,x39,x40,x41,x42,rfl,rfl,i0,i1,i2,i3,i4,i5,i6,rfl⟩ je
   have e0:s0=true:=by
     cases s0 with
     | true=>rfl
     | false=>exact absurd je (List.ne_nil_of_mem (mem_ready.2 ⟨rfl,_,rfl,fun e he=>by simp at he⟩:0∈_))
   subst e0
   have e1:s1=true:=by
     cases s1 with
     | true=>rfl
     | false=>exact absurd je (List.ne_nil_of_mem (mem_ready.2 ⟨rfl,_,rfl,fun e he=>by simp at he⟩:1∈_))
   subst e1
   have e2:s2=true:=by
     cases s2 with
     | true=>rfl
     | false=>exact absurd je (List.ne_nil_of_mem (mem_ready.2 ⟨rfl,_,rfl,fun e he=>by simp at he⟩:2∈_))
   subst e2
   have e6:s6=true:=by
     cases s6 with
     | true=>rfl
     | false=>exact absurd je (List.ne_nil_of_mem (mem_ready.2 ⟨rfl,_,rfl,fun e he=>by simp at he⟩:6∈_))
   subst e6
   have e3:s3=true:=by
     cases s3 with
     | true=>rfl
     | false=>exact absurd je (List.ne_nil_of_mem (mem_ready.2 ⟨rfl,_,rfl,fun e he _=>by
         simp at he;rcases he with rfl | rfl <;> rfl⟩:3∈_))
   subst e3
   have e4:s4=true:=by
     cases s4 with
     | true=>rfl
     | false=>exact absurd je (List.ne_nil_of_mem (mem_ready.2 ⟨rfl,_,rfl,fun e he _=>by
         simp at he;rcases he with rfl | rfl <;> rfl⟩:4∈_))
   subst e4
   have e5:s5=true:=by
     cases s5 with
     | true=>rfl
     | false=>exact absurd je (List.ne_nil_of_mem (mem_ready.2 ⟨rfl,_,rfl,fun e he _=>by
         simp at he;rcases he with rfl <;> rfl⟩:5∈_))
   subst e5
   exact absurd je (List.ne_nil_of_mem (mem_ready.2 ⟨rfl,_,rfl,fun e he _=>by
     simp at he;rcases he with rfl | rfl <;> rfl⟩:7∈_))
end
end
section
open Go.Conc Go.RowKit Go.Conc.Lib Go.ConcR.Gen
open Go.ConcR (KK WgAt stA smA Payload)
section
variable {gr:Grd}{M1:Mks gr.base}{S:List String}{Post:Value->World->Prop}{Sh:Nat->Prop}{Fz:Loc->Prop}{n0 m0 N fl:Nat}{csv:Value}{chs:List Nat}{α:Type}{step:α->Nat->α}{D L:α->World->Prop}{cs:List Frame}{kk:List Item}
def turns{α:Type}(step:α->Nat->α)(N:Nat)(c:α)(l:List Nat):α:=l.foldl (fun c x=>step c (x % N)) c
theorem qrk(W:Task gr m0 N fl csv chs step D L)(H:jo (gr.base.pen M1) S)(jw:qe0 (gr.base.pen M1) S (gr.X 71) qv)(hM:qQ m0 N M1)(O:jB (gr.base.pen M1) Sh Fz)
   (lt1:∀ r,Sh r->r < m0) (hN0:gr.N0<=m0) (hn0:0 < n0) (hN1:1<=N) (hlen:chs.length < 1000000) {c0:α} {w0:World}
   (next:∀ tm T w z,Both (gr.base.pen M1) w z->D (turns step N c0 chs) z->ju m0 N N fl w->qR m0 N n0 N T->ql (gr.base.pen M1) (fun r=>m0<=r) w0 w->qN m0 N fl csv tm->qd Tryz.prog Post (qcb m0 Sh) (qco m0 N Fz) T (n0+N) 0 0 (G ((base 43).at ⟨tm,[]⟩ kk) cs) w) :
   ∀ r i tm T w z c,i+r=chs.length->turns step N c (chs.drop i)=turns step N c0 chs->Both (gr.base.pen M1) w z->D c z->ju m0 N N fl w->qR m0 N n0 N T->ql (gr.base.pen M1) (fun r=>m0<=r) w0 w->qN m0 N fl csv tm->tm[29]?=some csv->tm[30]?=some (.int .i64 (chs.length:Nat))->tm[31]?=some (.int .i64 i) ->
     qd Tryz.prog Post (qcb m0 Sh) (qco m0 N Fz) T (n0+N) 0 0 (G ((base 43).at ⟨tm,[]⟩ (.code qcf::.inLoop qcf::.inBlock 2::kk)) cs) w:=by
 intro r
 induction r with
 | zero=>
   intro i tm T w z c hi hc hb hz C R hh hs h29 h30 h31;obtain rfl:i=chs.length:=by omega
   rw [List.drop_length] at hc;have hz':D (turns step N c0 chs) z:=by rw [<-hc];exact hz
   obtain⟨v0,v1,v2,v3,v4,v5,v6,v7,v8,v9,v10,v11,v12,v13,v14,v15,v16,v17,v18,v19,v20,v21,v22,v23,v24,v25,v26,v27,v28,v29,v30,v31,v32,v33,v34,v35,v36,v37,v38,v39,v40,v41,v42,v43,v44,v45,v46,v47,v48,v49,v50,v51,v52,v53,v54,rfl⟩:=qhz tm hs.size;have s0:=hs.s0;have s1:=hs.s1;have s2:=hs.s2;have s3:=hs.s3;have s6:=hs.s6;have s7:=hs.s7;have s8:=hs.s8;simp only [List.getElem?_toArray,List.getElem?_cons_zero,List.getElem?_cons_succ,Option.some.injEq] at s0 s1 s2 s3 s6 s7 s8 h29 h30 h31;replace s2:=s2.symm;subst s0 s1 s2 s3 s6 s7 s8 h30 h31;replace h29:=h29.symm;subst h29;clear hs;have ye:decide (((chs.length:Nat):Int) < ((chs.length:Nat):Int))=false:=by simp
   generalize hl:qcf=lp;simp only [<-hl,qcf,qgq,qhv,qg7,Tryz.f43,Option.getD_some];refine qau ?_;refine qaz ?_;simp only [List.size_toArray,List.length_cons,List.length_nil,Nat.zero_add,List.range,List.range.loop];refine qat (.bool false) rfl rfl (by decide) (fun w=>by go_simp) (fun w=>by simp [go_sem]) ?_;walk_nrm;refine qan ?_;refine qau ?_;refine qhc (t:=false) rfl ?_;simp only [Bool.false_eq_true,if_false];refine qss rfl ?_;exact next _ _ _ _ hb hz' C R hh ⟨rfl,rfl,rfl,rfl,rfl,rfl,rfl,rfl⟩
 | succ r ih=>
   intro i tm T w z c hi hc hb hz C R hh hs h29 h30 h31;have hil:i < chs.length:=by omega
   refine qza W H jw hb hz C hM O lt1 hN0 hn0 hN1 R hs h29 h30 h31 hil hlen (fun tm' T' w' z' hb' hz' C' R' hh' hs' qeZ qfA qfB=>?_);refine qni ?_;refine ih (i+1) tm' T' w' z' _ (by omega) ?_ hb' hz' C' R' (hh.trans hh') hs' qeZ qfA qfB;rw [<-hc,List.drop_eq_getElem_cons hil];rfl
theorem qw9(W:Task gr m0 N fl csv chs step D L)(H:jo (gr.base.pen M1) S)(jw:qe0 (gr.base.pen M1) S (gr.X 71) qv)(hM:qQ m0 N M1)(O:jB (gr.base.pen M1) Sh Fz)
   (lt1:∀ r,Sh r->r < m0) (hN0:gr.N0<=m0) (hn0:0 < n0) (hN1:1<=N) (hlen:chs.length < 1000000) {c0:α} {w z:World} {T:Nat->q8} {tm:Array Value} (hb:Both (gr.base.pen M1) w z) (hz:D c0 z) (C:ju m0 N N fl w) (R:qR m0 N n0 N T) (hs:qN m0 N fl csv tm)
   (next:∀ tm T w' z,Both (gr.base.pen M1) w' z->D (turns step N c0 chs) z->ju m0 N N fl w'->qR m0 N n0 N T->ql (gr.base.pen M1) (fun r=>m0<=r) w w'->qN m0 N fl csv tm->qd Tryz.prog Post (qcb m0 Sh) (qco m0 N Fz) T (n0+N) 0 0 (G ((base 43).at ⟨tm,[]⟩ [.code qoy]) cs) w') :
   qd Tryz.prog Post (qcb m0 Sh) (qco m0 N Fz) T (n0+N) 0 0 (G ((base 43).at ⟨tm,[]⟩ [.code qgq]) cs) w:=by
 obtain⟨v0,v1,v2,v3,v4,v5,v6,v7,v8,v9,v10,v11,v12,v13,v14,v15,v16,v17,v18,v19,v20,v21,v22,v23,v24,v25,v26,v27,v28,v29,v30,v31,v32,v33,v34,v35,v36,v37,v38,v39,v40,v41,v42,v43,v44,v45,v46,v47,v48,v49,v50,v51,v52,v53,v54,rfl⟩:=qhz tm hs.size;have s0:=hs.s0;have s1:=hs.s1;have s2:=hs.s2;have s3:=hs.s3;have s6:=hs.s6;have s7:=hs.s7;have s8:=hs.s8;simp only [List.getElem?_toArray,List.getElem?_cons_zero,List.getElem?_cons_succ,Option.some.injEq] at s0 s1 s2 s3 s6 s7 s8;replace s2:=s2.symm;subst s0 s1 s2 s3 s6 s7 s8;clear hs
 have hk:∀ (tm':Array Value),qN m0 N fl csv tm'->tm'[29]?=some csv->tm'[30]?=some (.int .i64 (chs.length:Nat))->tm'[31]?=some (.int .i64 (0:Nat))->qd Tryz.prog Post (qcb m0 Sh) (qco m0 N Fz) T (n0+N) 0 0 (G ((base 43).at ⟨tm',[]⟩ [.code qcf,.inLoop qcf,.inBlock 2,.code qoy]) cs) w:=fun tm' h1 h2 h3 h4=>
   qrk W H jw hM O lt1 hN0 hn0 hN1 hlen next chs.length 0 tm' T w z c0 (by omega) rfl hb hz C R (.refl _ _ _) h1 h2 h3 h4
 have e0:qgq=.seq (.seq (match qgq with | .seq (.seq x _) _=>x | _=>.skip) (.block 2 (.loop qcf))) qoy:=rfl;rw [e0];clear e0;obtain⟨A,cap,yF⟩:=W.form;generalize qcf=lp at hk |-;generalize qoy=r3 at hk |-;simp only [qgq,qhv,qg7,Tryz.f43,Option.getD_some];refine qau ?_;refine qau ?_;refine qaz ?_;simp only [List.size_toArray,List.length_cons,List.length_nil,Nat.reduceAdd,Nat.zero_add,List.range,List.range.loop];refine qat csv rfl rfl (by decide) (fun w=>by go_simp) (fun w=>by simp [go_sem]) ?_;walk_nrm;refine qat (.int .i64 (chs.length:Nat)) rfl rfl (by decide) (fun w=>by rw [yF];go_simp) (fun w=>by rw [yF];simp [go_sem]) ?_;walk_nrm;refine qat (.int .i64 (0:Nat)) rfl rfl (by decide) (fun w=>by go_simp) (fun w=>by simp [go_sem]) ?_;walk_nrm;refine qan ?_;refine qe4 ?_;refine qmo ?_;exact hk _ ⟨rfl,rfl,rfl,rfl,rfl,rfl,rfl,rfl⟩ rfl rfl rfl
end
end
end Go.Proofs.YtacemdoejblgaaaGreatDoor
