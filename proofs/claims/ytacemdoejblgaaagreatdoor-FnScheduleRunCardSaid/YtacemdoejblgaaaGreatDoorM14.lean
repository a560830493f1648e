/- Part 14. Conditions: each statement's. -/
import Derived.Test.YtacemdoejblgaaaGreatDoorM13
import Derived.Conc.CompanyDraw
namespace Go.Proofs.YtacemdoejblgaaaGreatDoor
set_option maxHeartbeats 6400000
set_option maxRecDepth 100000
section
open Go.Conc Go.RowKit Go.Conc.Lib Go.ConcR.Gen
open Go.ConcR (KK WgAt stA smA Payload)
open Go.ConcN (upd upd_ne upd_same WgLive PayAt)
def ql9(m0 j N:Nat):List (Addr × Value):=qg0 (m0+3) (m0+6+2 * j) (m0+2) (m0+7+2 * j) j N
def zY(m0 j N:Nat)(s:jD):Prop:=xz (ql9 m0 j N) (m0+1) (m0+3) (m0+6+2 * j) m0 (m0+5) (m0+7+2 * j) s
structure ju(m0 N K fl:Nat)(w:World):Prop where
 fb:∃ e,w.heap[m0]?=some (.cells #[.pointer (some ⟨fl,0,none⟩)] e)
 wg:WgAt wgL.tWg (m0+1) w ((K:Int) * KK) 0
 row:∃ arr,w.heap[m0+2]?=some (.cells arr 107)/\arr.size=N/\∀ j,j < K->arr[j]?=some (.chan (some (m0+7+2 * j)))
 cb:∃ e,w.heap[m0+3]?=some (.cells #[.slice (some ⟨m0+2,0,none⟩) N N] e)
 ac:∃ κ,w.heap[m0+4]?=some (.chan 0 #[] false κ κ false)
 ab:∃ e,w.heap[m0+5]?=some (.cells #[.chan (some (m0+4))] e)
 bx:∀ j,j < K->w.heap[m0+6+2 * j]?=some (.cells #[.int .i64 j] 3)
 ch:∀ j,j < K->∃ κ,w.heap[m0+7+2 * j]?=some (.chan 0 #[] false κ κ false)
structure qQ{B:Base}(m0 K:Nat)(M:Mks B):Prop where
 z0:M.Z m0
 z1:M.Z (m0+1)
 z2:M.Z (m0+2)
 z3:M.Z (m0+3)
 c4:M.Ch (m0+4)
 z5:M.Z (m0+5)
 zb:∀ j,j < K->M.Z (m0+6+2 * j)
 cc:∀ j,j < K->M.Ch (m0+7+2 * j)
 n4:¬ M.Pt (m0+4)
 nc:∀ j,j < K->¬ M.Pt (m0+7+2 * j)
structure qR(m0 N n0 K:Nat)(T:Nat->q8):Prop where
 old:∀ i,i≠0->i < n0->T i=.left
 work:∀ j,j < K->∃ s,zY m0 j N s/\T (n0+j)=.seat s
 out:∀ i,n0+K<=i->T i=.left
def qcb(m0:Nat)(Sh:Nat->Prop)(r:Nat):Prop:=Sh r∨r=m0+1
def qco(m0 K:Nat)(Fz:Loc->Prop)(l:Loc):Prop:=Fz l∨l=.cell ⟨m0+3,0,none⟩∨l=.cell ⟨m0+5,0,none⟩∨∃ j,j < K/\(l=.cell ⟨m0+6+2 * j,0,none⟩∨l=.cell ⟨m0+2,j,none⟩)
structure jB(C:Pen)(Sh:Nat->Prop)(Fz:Loc->Prop):Prop where
 zW:∀ r,Sh r->¬ C.B r∨C.Z r
 still:∀ l,Fz l->∃ a:Addr,l=.cell a/\(¬ C.B a.block∨C.Z a.block)
theorem jB.le{B:Base}{M M':Mks B}{Sh:Nat->Prop}{Fz:Loc->Prop}(O:jB (B.pen M) Sh Fz)(k:M.Le M'):jB (B.pen M') Sh Fz:=
 ⟨fun r hr=>(O.zW r hr).imp id (k.z _),fun l hl=>by
   obtain⟨a,e,h1⟩:=O.still l hl;exact⟨a,e,h1.imp id (k.z _)⟩⟩
theorem jB.lt{B:Base}{M:Mks B}{Sh:Nat->Prop}{Fz:Loc->Prop}(O:jB (B.pen M) Sh Fz):(∀ r,Sh r->r < M.N)/\∀ a:Addr,Fz (.cell a)->a.block < M.N:=by
 have key:∀ r,(¬ (B.pen M).B r∨M.Z r)->r < M.N:=fun r hr=>by
   rcases hr with hr | hr
   . refine Nat.lt_of_not_le (fun hge=>hr ⟨⟨r,0,none⟩,B.fresh _ (Nat.le_trans M.ge hge),rfl⟩)
   . exact M.old r (.inl (M.zp r hr))
 refine⟨fun r hr=>key r (O.zW r hr),fun a ha=>?_⟩;obtain⟨a',e,h1⟩:=O.still _ ha;cases e;exact key _ h1
section
variable {B:Base}{M:Mks B}{m0 N n0 K fl:Nat}{T:Nat->q8}{Sh:Nat->Prop}{Fz:Loc->Prop}{w w':World}
theorem qd7{s:jD}{j:Nat}(h:zY m0 j N s):s.c=m0+7+2 * j/\s.L=ql9 m0 j N/\s.cs=[bot Tryz.prog]/\s.z=.int .i64 0/\s.ok=true:=by
 obtain⟨_,_,_,_,_,_,_,_,_,_,_,_,rfl⟩:=h;exact⟨rfl,rfl,rfl,rfl,rfl⟩
theorem qR.seat(R:qR m0 N n0 K T){i:Nat}{s:jD}(h0:i≠0)(hT:T i=.seat s):∃ j,j < K/\i=n0+j/\zY m0 j N s:=by
 by_cases h1:i < n0
 . rw [R.old i h0 h1] at hT;cases hT
 . by_cases h2:i < n0+K
   . obtain⟨s',h3,h4⟩:=R.work (i - n0) (by omega);rw [show n0+(i - n0)=i from by omega] at h4;rw [h4] at hT;cases hT;exact⟨i - n0,by omega,by omega,h3⟩
   . rw [R.out i (by omega)] at hT;cases hT
theorem qR.stw(R:qR m0 N n0 K T){r:Nat}(h:StW T (n0+K) 0 r):r=m0+2∨r=m0+3∨∃ j,j < K/\(r=m0+6+2 * j∨r=m0+7+2 * j):=by
 obtain⟨i,s,h1,h2,h3,h4⟩:=h;obtain⟨j,hj,rfl,hs⟩:=R.seat h1 h3;obtain⟨e1,e2,_⟩:=qd7 hs;rcases h4 with rfl | ⟨x,hx,rfl⟩
 . exact .inr (.inr ⟨j,hj,.inr e1⟩)
 . rw [e2] at hx;simp only [ql9,qg0,List.mem_cons,List.not_mem_nil,or_false] at hx;rcases hx with rfl | rfl | rfl
   . exact .inr (.inl rfl)
   . exact .inr (.inr ⟨j,hj,.inl rfl⟩)
   . exact .inl rfl
theorem ju.vP(C:ju m0 N K fl w){j:Nat}(hj:j < K):holds (ql9 m0 j N) w:=by
 intro x hx;simp only [ql9,qg0,List.mem_cons,List.not_mem_nil,or_false] at hx;rcases hx with rfl | rfl | rfl
 . obtain⟨e,h1⟩:=C.cb;simp [World.cell?,h1]
 . have h1:=C.bx j hj;simp [World.cell?,h1]
 . obtain⟨arr,h1,h2,h3⟩:=C.row;simp [World.cell?,h1,h3 j hj]
theorem ju.hold(C:ju m0 N K fl w)(R:qR m0 N n0 K T):qH T (n0+K) 0 w:=fun i s h1 _ h3=>by
 obtain⟨j,hj,rfl,hs⟩:=R.seat h1 h3;rw [(qd7 hs).2.1];exact C.vP hj
theorem qQ.out{m0:Nat}(C:qQ m0 K M)(R:qR m0 N n0 K T)(O:jB (B.pen M) Sh Fz):Outside (B.pen M) (qcb m0 Sh) (qco m0 K Fz) T (n0+K) 0:=by
 refine⟨fun i s h1 _ h3=>?_,fun r hr=>?_,fun l hl=>?_⟩
 . obtain⟨j,hj,rfl,hs⟩:=R.seat h1 h3;obtain⟨e1,e2,_⟩:=qd7 hs;refine⟨.inr (e1 ▸ C.cc j hj),fun x hx=>.inr ?_⟩;rw [e2] at hx;simp only [ql9,qg0,List.mem_cons,List.not_mem_nil,or_false] at hx;rcases hx with rfl | rfl | rfl
   . exact C.z3
   . exact C.zb j hj
   . exact C.z2
 . rcases hr with hr | rfl
   . exact O.zW r hr
   . exact .inr C.z1
 . rcases hl with hl | rfl | rfl | ⟨j,hj,rfl | rfl⟩
   . exact O.still l hl
   . exact⟨_,rfl,.inr C.z3⟩
   . exact⟨_,rfl,.inr C.z5⟩
   . exact⟨_,rfl,.inr (C.zb j hj)⟩
   . exact⟨_,rfl,.inr C.z2⟩
theorem ju.lt(C:ju m0 N K fl w):m0+5 < w.heap.size/\∀ j,j < K->m0+7+2 * j < w.heap.size:=by
 obtain⟨e,h1⟩:=C.ab;refine⟨(Array.getElem?_eq_some_iff.1 h1).1,fun j hj=>?_⟩;obtain⟨κ,h2⟩:=C.ch j hj;exact(Array.getElem?_eq_some_iff.1 h2).1
theorem ju.qcS(C:ju m0 N K fl w)(R:qR m0 N n0 K T):kM T (n0+K) 0 w:=fun r hr=>by
 obtain⟨h1,h2⟩:=C.lt;rcases R.stw hr with rfl | rfl | ⟨j,hj,rfl | rfl⟩
 . omega
 . omega
 . have:=h2 j hj;omega
 . exact h2 j hj
theorem ju.same(C:ju m0 N K fl w)(h:∀ r,m0<=r->r < m0+6+2 * K->w'.heap[r]?=w.heap[r]?):ju m0 N K fl w':=by
 obtain⟨h1,h2,h3,h4,h5,h6,h7,h8⟩:=C;refine⟨?_,(h (m0+1) (by omega) (by omega)).trans h2,?_,?_,?_,?_,fun j hj=>(h _ (by omega) (by omega)).trans (h7 j hj),fun j hj=>?_⟩
 . rw [h m0 (by omega) (by omega)];exact h1
 . rw [h (m0+2) (by omega) (by omega)];exact h3
 . rw [h (m0+3) (by omega) (by omega)];exact h4
 . rw [h (m0+4) (by omega) (by omega)];exact h5
 . rw [h (m0+5) (by omega) (by omega)];exact h6
 . rw [h (m0+7+2 * j) (by omega) (by omega)];exact h8 j hj
theorem ju.held(C:ju m0 N K fl w)(hM:qQ m0 K M){X:Nat->Prop}(hh:ql (B.pen M) X w w')(hX:∀ r,X r->r=m0+4∨∃ j,j < K/\r=m0+7+2 * j)
   (h4:∃ κ,w'.heap[m0+4]?=some (.chan 0 #[] false κ κ false)) (hc:∀ j,j < K->∃ κ,w'.heap[m0+7+2 * j]?=some (.chan 0 #[] false κ κ false)):ju m0 N K fl w':=by
 have nX:∀ r,r≠m0+4->(∀ j,j < K->r≠m0+7+2 * j)->¬ X r:=fun r h1 h2 hx=>by
   rcases hX r hx with e | ⟨j,hj,e⟩
   . exact h1 e
   . exact h2 j hj e
 have st:∀ r,M.Z r->r≠m0+4->(∀ j,j < K->r≠m0+7+2 * j)->w'.heap[r]?=w.heap[r]?:=fun r hz h1 h2=>hh.block r (nX r h1 h2) (.inr (.inl hz));have e0:=st m0 hM.z0 (by omega) (fun j _=>by omega);have e1:=st (m0+1) hM.z1 (by omega) (fun j _=>by omega);have e2:=st (m0+2) hM.z2 (by omega) (fun j _=>by omega);have e3:=st (m0+3) hM.z3 (by omega) (fun j _=>by omega);have e5:=st (m0+5) hM.z5 (by omega) (fun j _=>by omega);refine⟨?_,e1.trans C.wg,?_,?_,h4,?_,fun j hj=>?_,hc⟩
 . rw [e0];exact C.fb
 . rw [e2];exact C.row
 . rw [e3];exact C.cb
 . rw [e5];exact C.ab
 . rw [st _ (hM.zb j hj) (by omega) (fun i _=>by omega)];exact C.bx j hj
theorem qQ.le{M':Mks B}{m0:Nat}(C:qQ m0 K M)(k:M.Le M')(h4:¬ M'.Pt (m0+4))(hn:∀ j,j < K->¬ M'.Pt (m0+7+2 * j)):qQ m0 K M':=
 ⟨k.z _ C.z0,k.z _ C.z1,k.z _ C.z2,k.z _ C.z3,k.ch _ C.c4,k.z _ C.z5,fun j hj=>k.z _ (C.zb j hj),fun j hj=>k.ch _ (C.cc j hj),h4,hn⟩
end
end
section
theorem qhz(T:Array Value)(h:T.size=55):∃ v0 v1 v2 v3 v4 v5 v6 v7 v8 v9 v10 v11 v12 v13 v14 v15 v16 v17 v18 v19 v20 v21 v22 v23 v24 v25 v26 v27 v28 v29 v30 v31 v32 v33 v34 v35 v36 v37 v38 v39 v40 v41 v42 v43 v44 v45 v46 v47 v48 v49 v50 v51 v52 v53 v54:Value,T=#[v0,v1,v2,v3,v4,v5,v6,v7,v8,v9,v10,v11,v12,v13,v14,v15,v16,v17,v18,v19,v20,v21,v22,v23,v24,v25,v26,v27,v28,v29,v30,v31,v32,v33,v34,v35,v36,v37,v38,v39,v40,v41,v42,v43,v44,v45,v46,v47,v48,v49,v50,v51,v52,v53,v54]:=by
 obtain⟨l⟩:=T;simp only [List.size_toArray] at h;rcases l with _ | ⟨v0,l⟩
 . simp at h
 rcases l with _ | ⟨v1,l⟩
 . simp at h
 rcases l with _ | ⟨v2,l⟩
 . simp at h
 rcases l with _ | ⟨v3,l⟩
 . simp at h
 rcases l with _ | ⟨v4,l⟩
 . simp at h
 rcases l with _ | ⟨v5,l⟩
 . simp at h
 rcases l with _ | ⟨v6,l⟩
 . simp at h
 rcases l with _ | ⟨v7,l⟩
 . simp at h
 rcases l with _ | ⟨v8,l⟩
 . simp at h
 rcases l with _ | ⟨v9,l⟩
 . simp at h
 rcases l with _ | ⟨v10,l⟩
 . simp at h
 rcases l with _ | ⟨v11,l⟩
 . simp at h
 rcases l with _ | ⟨v12,l⟩
 . simp at h
 rcases l with _ | ⟨v13,l⟩
 . simp at h
 rcases l with _ | ⟨v14,l⟩
 . simp at h
 rcases l with _ | ⟨v15,l⟩
 . simp at h
 rcases l with _ | ⟨v16,l⟩
 . simp at h
 rcases l with _ | ⟨v17,l⟩
 . simp at h
 rcases l with _ | ⟨v18,l⟩
 . simp at h
 rcases l with _ | ⟨v19,l⟩
 . simp at h
 rcases l with _ | ⟨v20,l⟩
 . simp at h
 rcases l with _ | ⟨v21,l⟩
 . simp at h
 rcases l with _ | ⟨v22,l⟩
 . simp at h
 rcases l with _ | ⟨v23,l⟩
 . simp at h
 rcases l with _ | ⟨v24,l⟩
 . simp at h
 rcases l with _ | ⟨v25,l⟩
 . simp at h
 rcases l with _ | ⟨v26,l⟩
 . simp at h
 rcases l with _ | ⟨v27,l⟩
 . simp at h
 rcases l with _ | ⟨v28,l⟩
 . simp at h
 rcases l with _ | ⟨v29,l⟩
 . simp at h
 rcases l with _ | ⟨v30,l⟩
 . simp at h
 rcases l with _ | ⟨v31,l⟩
 . simp at h
 rcases l with _ | ⟨v32,l⟩
 . simp at h
 rcases l with _ | ⟨v33,l⟩
 . simp at h
 rcases l with _ | ⟨v34,l⟩
 . simp at h
 rcases l with _ | ⟨v35,l⟩
 . simp at h
 rcases l with _ | ⟨v36,l⟩
 . simp at h
 rcases l with _ | ⟨v37,l⟩
 . simp at h
 rcases l with _ | ⟨v38,l⟩
 . simp at h
 rcases l with _ | ⟨v39,l⟩
 . simp at h
 rcases l with _ | ⟨v40,l⟩
 . simp at h
 rcases l with _ | ⟨v41,l⟩
 . simp at h
 rcases l with _ | ⟨v42,l⟩
 . simp at h
 rcases l with _ | ⟨v43,l⟩
 . simp at h
 rcases l with _ | ⟨v44,l⟩
 . simp at h
 rcases l with _ | ⟨v45,l⟩
 . simp at h
 rcases l with _ | ⟨v46,l⟩
 . simp at h
 rcases l with _ | ⟨v47,l⟩
 . simp at h
 rcases l with _ | ⟨v48,l⟩
 . simp at h
 rcases l with _ | ⟨v49,l⟩
 . simp at h
 rcases l with _ | ⟨v50,l⟩
 . simp at h
 rcases l with _ | ⟨v51,l⟩
 . simp at h
 rcases l with _ | ⟨v52,l⟩
 . simp at h
 rcases l with _ | ⟨v53,l⟩
 . simp at h
 rcases l with _ | ⟨v54,l⟩
 . simp at h
 rcases l with _ | ⟨x,l⟩
 . exact⟨v0,v1,v2,v3,v4,v5,v6,v7,v8,v9,v10,v11,v12,v13,v14,v15,v16,v17,v18,v19,v20,v21,v22,v23,v24,v25,v26,v27,v28,v29,v30,v31,v32,v33,v34,v35,v36,v37,v38,v39,v40,v41,v42,v43,v44,v45,v46,v47,v48,v49,v50,v51,v52,v53,v54,rfl⟩
 . simp at h
structure qN(m0 N fl:Nat)(cs:Value)(T:Array Value):Prop where
 size:T.size=55
 s0:T[0]?=some (.pointer (some ⟨fl,0,none⟩))
 s1:T[1]?=some (.int .i64 N)
 s2:T[2]?=some cs
 s3:T[3]?=some (.pointer (some ⟨m0,0,none⟩))
 s6:T[6]?=some (.pointer (some ⟨m0+1,0,none⟩))
 s7:T[7]?=some (.pointer (some ⟨m0+3,0,none⟩))
 s8:T[8]?=some (.pointer (some ⟨m0+5,0,none⟩))
end
section
open Go.Conc Go.RowKit Go.Conc.Lib Go.ConcR.Gen
open Go.ConcR (KK WgAt stA smA Payload)
noncomputable def qg7:Code:=Tryz.f43.body.getD .skip
noncomputable def qhv:Code:=match qg7 with | .seq _ (.seq _ (.seq _ (.seq _ c)))=>c | _=>.skip
theorem qia{w:World}{r:Nat}{v:Value}{e:TypeId}(h:w.heap[r]?=some (.cells #[v] e)):w.cell? ⟨r,0,none⟩=some v/\w.frozen? ⟨r,0,none⟩=false:=by
 simp [World.cell?,World.frozen?,h]
theorem qaP{w:World}{r:Nat}{u v:Value}{e:TypeId}(h:w.heap[r]?=some (.cells #[u] e)):(w.setCell ⟨r,0,none⟩ v).heap[r]?=some (.cells #[v] e):=by
 rw [qdv w ⟨r,0,none⟩ v h];simp
theorem q79{P:Program}{t e:TypeId}{i:TypeInfo}(w:World)(ht:P.underlying t=some (.slice e))(hi:P.info? e=some i)(hb:i.bytes<=64)(N:Nat)(hN:N<=4):(Instr.makeSlice t (.int .i64 N) (.int .i64 N)).events P w #[]=#[]:=by
 have wc:IntKind.i64.wrap (N:Int)=N:=by rw [IntKind.wrap_i64];omega
 have h1:N * i.bytes<=4 * 64:=Nat.mul_le_mul hN hb;have n1:¬ ((N:Int) < 0):=by omega
 have n2:¬ (281474976710656 < (i.bytes:Int) * (N:Int)):=by
   have:((i.bytes * N:Nat):Int)<=256:=by rw [Nat.mul_comm];omega
   rw [Int.natCast_mul] at this;omega
 have n3:¬ (roomBytes < N * i.bytes):=by unfold roomBytes;omega
 by_cases hz:N * i.size=0
 . simp [Instr.makeSlice,run_underlying ht,asInt,asIntOf,typeInfo,hi,sizeOf,wc,n1,n2,n3,hz,newRow,askRoom]
 . cases hzero:i.zero <;> simp [Instr.makeSlice,run_underlying ht,asInt,asIntOf,typeInfo,hi,sizeOf,zeroValue,hzero,wc,n1,n2,n3,newRow,askRoom]
theorem qo4(w:World):(Instr.makeChan 107 (.int .i64 0)).run Tryz.prog w=.ok (.chan (some w.heap.size)) (w.alloc (.chan 0 #[] false 0 0 false))/\(Instr.makeChan 107 (.int .i64 0)).events Tryz.prog w #[]=#[]:=by
 have h:(Tryz.prog.info? 3).isSome=true:=by kernel_rfl
 obtain⟨i,hi⟩:=Option.isSome_iff_exists.1 h;have hb:(i.bytes:Int) * (0:Nat)<=281474976710544:=by omega
 exact⟨run_makeChan (P:=Tryz.prog) (w:=w) Tryz.underlying107 hi .i64 0 (by omega) hb,events_makeChan (P:=Tryz.prog) (w:=w) Tryz.underlying107 hi .i64 0 (by omega) hb #[]⟩
structure jv(gr:Grd)(M:Mks gr.base)(m0:Nat)(D:World->Prop)(w₀:World)(w z:World)(M1:Mks gr.base)(s:Nat):Prop where
 both:Both (gr.base.pen M1) w z
 data:D z
 le:M.Le M1
 size:w.heap.size=s
 ge:m0<=s
 held:ql (gr.base.pen M) (fun r=>m0<=r) w₀ w
section
variable {gr:Grd}{M M1:Mks gr.base}{m0 s:Nat}{D:World->Prop}{w₀ w z:World}
theorem jv.void(S:jv gr M m0 D w₀ w z M1 s)(hD:∀ x o,D x->D (x.alloc o))(c:Array Value)(e:TypeId) :
   ∃ z2 M2,jv gr M m0 D w₀ (w.alloc (.cells c e)) z2 M2 (s+1)/\M1.Le M2/\M2.Z s/\(∀ r,M2.Pt r->M1.Pt r∨r=s)/\(w.alloc (.cells c e)).heap[s]?=some (.cells c e)/\∀ r,r≠s->(w.alloc (.cells c e)).heap[r]?=w.heap[r]?:=by
 obtain⟨hb,hz,le,rfl,ge,hh⟩:=S;exact⟨_,_,⟨hb.void c e,hD _ _ hz,le.trans (M1.vw _ hb.rel.room),by simp,by omega,hh.trans (.new ge _)⟩,M1.vw _ hb.rel.room,.inr rfl,fun r h=>h,heap_alloc_new w _,fun r hr=>qb4 w _ hr⟩
theorem jv.chan(S:jv gr M m0 D w₀ w z M1 s)(hD:∀ x o,D x->D (x.alloc o))(o:Obj)(ho:o=.chan 0 #[] false 0 0 false) :
   ∃ z2 M2,jv gr M m0 D w₀ (w.alloc o) z2 M2 (s+1)/\M1.Le M2/\M2.Ch s/\¬ M2.Pt s/\(∀ r,M2.Pt r->M1.Pt r)/\(w.alloc o).heap[s]?=some o/\∀ r,r≠s->(w.alloc o).heap[r]?=w.heap[r]?:=by
 subst ho;obtain⟨hb,hz,le,rfl,ge,hh⟩:=S;exact⟨_,_,⟨hb.chan 0 #[] false 0 0 false,hD _ _ hz,le.trans (M1.vz _ hb.rel.room),by simp,by omega,hh.trans (.new ge _)⟩,M1.vz _ hb.rel.room,.inr rfl,(fun h=>Nat.lt_irrefl _ (Nat.lt_of_lt_of_le (M1.old _ (.inl h)) hb.rel.room)),fun r h=>h,heap_alloc_new w _,fun r hr=>qb4 w _ hr⟩
theorem jv.set(S:jv gr M m0 D w₀ w z M1 s){a:Addr}(hZ:M1.Z a.block)(ha:m0<=a.block)(v:Value):jv gr M m0 D w₀ (w.setCell a v) z M1 s:=
 ⟨S.both.qeR hZ v,S.data,S.le,by rw [<-S.size];simp,S.ge,S.held.trans (.set (X:=fun r=>m0<=r) ha v)⟩
end
section
variable {gr:Grd}{M:Mks gr.base}{Post:Value->World->Prop}{Sh:Nat->Prop}{Fz:Loc->Prop}{T:Nat->q8}{n0:Nat}{w z:World}{cs:List Frame}
theorem qy8(hb:Both (gr.base.pen M) w z)(O:jB (gr.base.pen M) Sh Fz)(hT:∀ i,i≠0->T i=.left){D:World->Prop}(hD:∀ x o,D x->D (x.alloc o))(hz:D z){fl N:Nat}{csv:Value}(hN1:1<=N)(hN:N<=4)
   (next:∀ tm w' z' (M':Mks gr.base),qN w.heap.size N fl csv tm->M.Le M'->Both (gr.base.pen M') w' z'->D z'->qQ w.heap.size 0 M'->ju w.heap.size N 0 fl w'->w'.heap.size=w.heap.size+6->ql (gr.base.pen M) (fun r=>w.heap.size<=r) w w' ->
     qd Tryz.prog Post (qcb w.heap.size Sh) (qco w.heap.size 0 Fz) T n0 0 0 (G ((base 43).at ⟨tm,[]⟩ [.code qhv]) cs) w') :
   qd Tryz.prog Post Sh Fz T n0 0 0 (G ((base 43).at ⟨#[.pointer (some ⟨fl,0,none⟩),.int .i64 N,csv,undef,undef,undef,undef,undef,undef,undef,undef,undef,undef,undef,undef,undef,undef,undef,undef,undef,undef,undef,undef,undef,undef,undef,undef,undef,undef,undef,undef,undef,undef,undef,undef,undef,undef,undef,undef,undef,undef,undef,undef,undef,undef,undef,undef,undef,undef,undef,undef,undef,undef,undef,undef],[]⟩ [.code qg7]) cs) w:=by
 have hst:∀ w:World,kM T n0 0 w:=fun w r hr=>by
   obtain⟨i,s,h1,_,h3,_⟩:=hr;rw [hT i h1] at h3;cases h3
 have hsw:∀ r,¬ StW T n0 0 r:=fun r hr=>by
   obtain⟨i,s,h1,_,h3,_⟩:=hr;rw [hT i h1] at h3;cases h3
 obtain⟨lt1,lt2⟩:=O.lt;have hroom:=hb.rel.room;have e0:qg7=.seq (match qg7 with | .seq x _=>x | _=>.skip) (.seq (match qg7 with | .seq _ (.seq x _)=>x | _=>.skip) (.seq (match qg7 with | .seq _ (.seq _ (.seq x _))=>x | _=>.skip) (.seq (match qg7 with | .seq _ (.seq _ (.seq _ (.seq x _)))=>x | _=>.skip) qhv))):=rfl;generalize qhv=rm at *;rw [e0];clear e0;obtain⟨m0,hm0⟩:∃ m0,m0=w.heap.size:=⟨_,rfl⟩;rw [<-hm0] at next;simp only [qg7,Tryz.f43,Option.getD_some];refine qau ?_;refine qaz ?_;simp only [List.size_toArray,List.length_cons,List.length_nil,Nat.zero_add,List.range,List.range.loop];refine qfm (ob:=.cells #[.pointer (some ⟨fl,0,none⟩)] 98) (v:=fun s=>.pointer (some ⟨s,0,none⟩)) (hst w) rfl rfl (by decide) (fun w=>by go_simp) (fun w=>by simp [go_sem]) ?_;walk_nrm;refine qan ?_;refine qau ?_;refine qaz ?_;simp only [List.size_toArray,List.length_cons,List.length_nil,Nat.zero_add,List.range,List.range.loop];have S0:jv gr M m0 D w w z M m0:=⟨hb,hz,.refl M,hm0.symm,Nat.le_refl _,.refl _ _ _⟩;obtain⟨z1,M1,S1,le1,zz0,p1,k0,-⟩:=S0.void hD #[.pointer (some ⟨fl,0,none⟩)] 98;rw [<-hm0];replace hroom:M.N<=m0:=by rw [hm0];exact hroom
 clear hm0;generalize w.alloc (.cells #[.pointer (some ⟨fl,0,none⟩)] 98)=w1 at S1 k0 |-;have hs1:=S1.size;refine qmp (Sh':=qcb m0 Sh) (Fz':=Fz) (fun r h=>.inl h) (fun r h=>h.imp id (fun e=>by omega)) (fun _ h=>h) ?_;refine qfm (ob:=Go.ConcR.wgBlock wgL.tWg 0 0) (v:=fun s=>.pointer (some ⟨s,0,none⟩)) (hst w1) rfl rfl (by decide) (fun w=>by go_simp;rfl) (fun w=>by simp [go_sem]) ?_;walk_nrm;refine qan ?_;refine qau ?_;refine qaz ?_;simp only [List.size_toArray,List.length_cons,List.length_nil,Nat.reduceAdd,Nat.zero_add,List.range,List.range.loop];rw [hs1];obtain⟨z2,M2,S2,le2,zz1,p2,k1,ks⟩:=S1.void hD #[.int .u64 0,.int .u32 0] wgL.tWg;replace k0:(w1.alloc (Go.ConcR.wgBlock wgL.tWg 0 0)).heap[m0]?=some (.cells #[.pointer (some ⟨fl,0,none⟩)] 98):=(ks m0 (by omega)).trans k0;clear ks;replace k1:WgAt wgL.tWg (m0+1) (w1.alloc (Go.ConcR.wgBlock wgL.tWg 0 0)) 0 0:=k1;change jv gr M m0 D w (w1.alloc (Go.ConcR.wgBlock wgL.tWg 0 0)) z2 M2 (m0+1+1) at S2;generalize w1.alloc (Go.ConcR.wgBlock wgL.tWg 0 0)=w2 at S2 k0 k1 |-;have hs2:=S2.size;refine qat (.int .i64 N) rfl rfl (by decide) (fun w=>by go_simp) (fun w=>by simp [go_sem]) ?_;walk_nrm
 obtain⟨i,hi,hi1,hi2,hi3⟩:∃ i,Tryz.prog.info? 107=some i/\i.zero=some (.chan none)/\i.size=1/\i.bytes<=64:=by
   have h:(Tryz.prog.info? 107).map (fun i=>(i.zero,i.size,decide (i.bytes<=64)))=some (some (.chan none),1,true):=by kernel_rfl
   obtain⟨i,h1,h2⟩:=Option.map_eq_some_iff.1 h;simp only [Prod.mk.injEq,decide_eq_true_eq] at h2;exact⟨i,h1,h2.1,h2.2.1,h2.2.2⟩
 have hi4:(i.bytes:Int) * (N:Int)<=281474976710656:=by
   have h1:i.bytes * N<=64 * 4:=Nat.mul_le_mul hi3 hN;have:((i.bytes * N:Nat):Int)<=256:=by omega
   rw [Int.natCast_mul] at this;omega
 refine qfm (ob:=.cells (Go.madeCells #[.chan none] N) 107) (v:=fun s=>.slice (some ⟨s,0,none⟩) N N) (hst w2) rfl rfl (by decide) (fun w=>?_) (fun w=>?_) ?_
 . have:=run_make (P:=Tryz.prog) w 106 107 i (.chan none) Tryz.underlying106 hi hi1 .i64 .i64 N N (by omega) (Int.le_refl _) hi4 (by omega);simp only [Int.toNat_natCast,hi2,Nat.mul_one] at this
   go_simp
 . have:=q79 (P:=Tryz.prog) w Tryz.underlying106 hi hi3 N hN;simp [go_sem,this]
 walk_nrm;rw [hs2];obtain⟨z3,M3,S3,le3,zz2,p3,k2,ks⟩:=S2.void hD (Go.madeCells #[.chan none] N) 107;replace k0:=(ks m0 (by omega)).trans k0;replace k1:WgAt wgL.tWg (m0+1) _ 0 0:=(ks (m0+1) (by omega)).trans k1;clear ks;generalize w2.alloc (.cells (Go.madeCells #[.chan none] N) 107)=w3 at S3 k0 k1 k2 |-;have hs3:=S3.size;refine qfm (ob:=.cells #[.slice none 0 0] 106) (v:=fun s=>.pointer (some ⟨s,0,none⟩)) (hst w3) rfl rfl (by decide) (fun w=>by go_simp) (fun w=>by simp [go_sem]) ?_;walk_nrm;rw [hs3];obtain⟨z4,M4,S4,le4,zz3,p4,k3,ks⟩:=S3.void hD #[.slice none 0 0] 106;replace k0:=(ks m0 (by omega)).trans k0;replace k1:WgAt wgL.tWg (m0+1) _ 0 0:=(ks (m0+1) (by omega)).trans k1;replace k2:=(ks (m0+1+1) (by omega)).trans k2;clear ks;generalize w3.alloc (.cells #[.slice none 0 0] 106)=w4 at S4 k0 k1 k2 k3 |-
 have nsh:∀ r,m0+1 < r->¬ qcb m0 Sh r:=fun r hr h=>by
   rcases h with h | h
   . have:=lt1 r h;omega
   . omega
 have nfz:∀ r,m0<=r->¬ Fz (.cell ⟨r,0,none⟩):=fun r hr h=>by
   have h1:r < M.N:=lt2 _ h;omega
 refine qrm (u:=.slice none 0 0) (v:=.slice (some ⟨m0+1+1,0,none⟩) N N) (qia k3).1 (qia k3).2 (hsw _) (nsh _ (by show m0+1 < m0+1+1+1;omega)) (nfz _ (by omega)) rfl rfl (by decide) (fun w h1 h2=>by go_simp) (fun w h1 h2=>by simp [go_sem,events_store _ _ _ _ (.slice (some ⟨m0+1+1,0,none⟩) N N) _ rfl,h1,h2]) ?_;walk_nrm;refine qan ?_;refine qau ?_;refine qaz ?_;simp only [List.size_toArray,List.length_cons,List.length_nil,Nat.reduceAdd,Nat.zero_add,List.range,List.range.loop];have S5:=S4.set (a:=⟨m0+1+1+1,0,none⟩) zz3 (by show m0<=m0+1+1+1;omega) (.slice (some ⟨m0+1+1,0,none⟩) N N);have ks:=qcw w4 ⟨m0+1+1+1,0,none⟩ (.slice (some ⟨m0+1+1,0,none⟩) N N);replace k0:=(ks m0 (by show m0≠m0+1+1+1;omega)).trans k0;replace k1:WgAt wgL.tWg (m0+1) _ 0 0:=(ks (m0+1) (by show m0+1≠m0+1+1+1;omega)).trans k1;replace k2:=(ks (m0+1+1) (by show m0+1+1≠m0+1+1+1;omega)).trans k2;replace k3:=qaP (v:=.slice (some ⟨m0+1+1,0,none⟩) N N) k3;clear ks;generalize w4.setCell ⟨m0+1+1+1,0,none⟩ (.slice (some ⟨m0+1+1,0,none⟩) N N)=w5 at S5 k0 k1 k2 k3 |-;have hs5:=S5.size;refine qfm (ob:=.chan 0 #[] false 0 0 false) (v:=fun s=>.chan (some s)) (hst w5) rfl rfl (by decide) (fun w=>?_) (fun w=>?_) ?_
 . have:=(qo4 w).1
   go_simp
 . have:=(qo4 w).2;simp [go_sem,this]
 walk_nrm;rw [hs5];obtain⟨z6,M6,S6,le6,cc4,n4,p6,k4,ks⟩:=S5.chan hD _ rfl;replace k0:=(ks m0 (by omega)).trans k0;replace k1:WgAt wgL.tWg (m0+1) _ 0 0:=(ks (m0+1) (by omega)).trans k1;replace k2:=(ks (m0+1+1) (by omega)).trans k2;replace k3:=(ks (m0+1+1+1) (by omega)).trans k3;clear ks;generalize w5.alloc (.chan 0 #[] false 0 0 false)=w6 at S6 k0 k1 k2 k3 k4 |-;have hs6:=S6.size;refine qfm (ob:=.cells #[.chan none] 107) (v:=fun s=>.pointer (some ⟨s,0,none⟩)) (hst w6) rfl rfl (by decide) (fun w=>by go_simp) (fun w=>by simp [go_sem]) ?_;walk_nrm;rw [hs6];obtain⟨z7,M7,S7,le7,zz5,p7,k5,ks⟩:=S6.void hD #[.chan none] 107;replace k0:=(ks m0 (by omega)).trans k0;replace k1:WgAt wgL.tWg (m0+1) _ 0 0:=(ks (m0+1) (by omega)).trans k1;replace k2:=(ks (m0+1+1) (by omega)).trans k2;replace k3:=(ks (m0+1+1+1) (by omega)).trans k3;replace k4:=(ks (m0+1+1+1+1) (by omega)).trans k4;clear ks;generalize w6.alloc (.cells #[.chan none] 107)=w7 at S7 k0 k1 k2 k3 k4 k5 |-;refine qrm (u:=.chan none) (v:=.chan (some (m0+1+1+1+1))) (qia k5).1 (qia k5).2 (hsw _) (nsh _ (by show m0+1 < m0+1+1+1+1+1;omega)) (nfz _ (by omega)) rfl rfl (by decide) (fun w h1 h2=>by go_simp) (fun w h1 h2=>by simp [go_sem,events_store _ _ _ _ (.chan (some (m0+1+1+1+1))) _ rfl,h1,h2]) ?_;walk_nrm;refine qan ?_;have S8:=S7.set (a:=⟨m0+1+1+1+1+1,0,none⟩) zz5 (by show m0<=m0+1+1+1+1+1;omega) (.chan (some (m0+1+1+1+1)));have ks:=qcw w7 ⟨m0+1+1+1+1+1,0,none⟩ (.chan (some (m0+1+1+1+1)));replace k0:=(ks m0 (by show m0≠m0+1+1+1+1+1;omega)).trans k0;replace k1:WgAt wgL.tWg (m0+1) _ 0 0:=(ks (m0+1) (by show m0+1≠m0+1+1+1+1+1;omega)).trans k1;replace k2:=(ks (m0+1+1) (by show m0+1+1≠m0+1+1+1+1+1;omega)).trans k2;replace k3:=(ks (m0+1+1+1) (by show m0+1+1+1≠m0+1+1+1+1+1;omega)).trans k3;replace k4:=(ks (m0+1+1+1+1) (by show m0+1+1+1+1≠m0+1+1+1+1+1;omega)).trans k4;replace k5:=qaP (v:=.chan (some (m0+1+1+1+1))) k5;clear ks;generalize w7.setCell ⟨m0+1+1+1+1+1,0,none⟩ (.chan (some (m0+1+1+1+1)))=w8 at S8 k0 k1 k2 k3 k4 k5 |-;have hC:ju m0 N 0 fl w8:=⟨⟨_,k0⟩,(by simpa using k1),⟨_,k2,by simp [Go.madeCells],fun j hj=>absurd hj (Nat.not_lt_zero j)⟩,⟨_,k3⟩,⟨0,k4⟩,⟨_,k5⟩,fun j hj=>absurd hj (Nat.not_lt_zero j),fun j hj=>absurd hj (Nat.not_lt_zero j)⟩
 have hM:qQ m0 0 M7:=⟨le7.z _ (le6.z _ (le4.z _ (le3.z _ (le2.z _ zz0)))),le7.z _ (le6.z _ (le4.z _ (le3.z _ zz1))),le7.z _ (le6.z _ (le4.z _ zz2)),le7.z _ (le6.z _ zz3),le7.ch _ cc4,zz5,fun j hj=>absurd hj (Nat.not_lt_zero j),fun j hj=>absurd hj (Nat.not_lt_zero j),
   fun h=>(p7 _ h).elim n4 (fun e=>by omega),fun j hj=>absurd hj (Nat.not_lt_zero j)⟩
 have hFz:∀ l,Fz l->qco m0 0 Fz l:=fun l h=>.inl h;refine qmp (Sh':=qcb m0 Sh) (Fz':=qco m0 0 Fz) (fun r h=>h) (fun r h=>.inl h) hFz ?_;exact next _ _ _ _ ⟨rfl,rfl,rfl,rfl,rfl,rfl,rfl,rfl⟩ S8.le S8.both S8.data hM hC S8.size S8.held
end
end
section
open Go.Conc
theorem count_set{S:Array Bool}{i:Nat}(h:S.getD i true=false):(S.setIfInBounds i true).toList.countP (!·)+1=S.toList.countP (!·):=by
 obtain⟨l⟩:=S
 have hi:i < l.length:=by
   refine Nat.lt_of_not_le (fun hge=>?_);rw [Array.getD_eq_getD_getElem?,Array.getElem?_eq_none (by simpa using hge)] at h;simp at h
 have hv:l[i]=false:=by
   rw [Array.getD_eq_getD_getElem?,Array.getElem?_eq_getElem (by simpa using hi)] at h;simpa using h
 have hpos:0 < l.countP (!·):=List.countP_pos_iff.2 ⟨false,by rw [<-hv];exact List.getElem_mem hi,rfl⟩;simp only [List.setIfInBounds_toArray];rw [List.countP_set (h:=hi),hv];simp;omega
section
variable {P:Program}{Post:Value->World->Prop}{Sh:Nat->Prop}{Fz:Loc->Prop}{T:Nat->q8}{n h dd:Nat}
 {b:Frame} {k:List Item} {cs:List Frame} {ops:Array Oper}
theorem qw7{I:Array Bool->Act->World->Prop}
   (step:∀ S a w i rest,I S a w->i∈Region.ready .any ops S->(Region.ready .any ops (S.setIfInBounds i true)=[]->rest=[])->(∀ a' w',I (S.setIfInBounds i true) a' w'->qd P Post Sh Fz T n h dd (G (b.at a' (.inRegion ops rest::k)) cs) w')->qd P Post Sh Fz T n h dd (G (b.at a (.inRegion ops (i::rest)::k)) cs) w)
   (stop:∀ S a w,I S a w->Region.ready .any ops S=[]->qd P Post Sh Fz T n h dd (G (b.at a (.inRegion ops []::k)) cs) w) :
   ∀ fuel t S a w,S.toList.countP (!·)<=fuel->I S a w->qd P Post Sh Fz T n h dd (G (b.at a (.inRegion ops (Region.linearise.go .any ops fuel t S [])::k)) cs) w:=by
 intro fuel
 induction fuel with
 | zero=>
   intro t S a w hf hI;refine stop S a w hI ?_;refine List.eq_nil_iff_forall_not_mem.2 (fun i hi=>?_);have:=count_set (mem_ready.1 hi).1;omega
 | succ fuel ih=>
   intro t S a w hf hI;simp only [Region.linearise.go]
   change qd P Post Sh Fz T n h dd (G (b.at a (.inRegion ops (match (Region.ready .any ops S)[t % (Region.ready .any ops S).length]? with
     | some i=>Region.linearise.go .any ops fuel (t / (Region.ready .any ops S).length) (S.setIfInBounds i true) [i]
     | none=>[].reverse)::k)) cs) w
   cases hi:(Region.ready .any ops S)[t % (Region.ready .any ops S).length]? with
   | none=>
     refine stop S a w hI ?_;cases hr:Region.ready .any ops S with
     | nil=>rfl
     | cons x xs=>
       rw [hr] at hi;have hlt:t % (x::xs).length < (x::xs).length:=Nat.mod_lt _ (by simp);rw [List.getElem?_eq_getElem hlt] at hi;cases hi
   | some i=>
     have him:i∈Region.ready .any ops S:=List.mem_of_getElem? hi;have hc:=count_set (mem_ready.1 him).1;simp only [];rw [linearise_go_acc,List.reverse_singleton,List.singleton_append];refine step S a w i _ hI him (fun hr=>?_) (fun a' w' hI'=>ih _ _ a' w' (by omega) hI');cases fuel with
     | zero=>rfl
     | succ f=>
       simp only [Region.linearise.go];have hr':(List.range ops.size).filter (fun j=>!(S.setIfInBounds i true).getD j true && ((ops[j]?).map (·.after.all fun e=>!Region.binds .any e || (S.setIfInBounds i true).getD e.on false)).getD false)=[]:=hr;rw [hr'];rfl
theorem qta{I:Array Bool->Act->World->Prop}{id:Nat}{a:Act}{w:World}(hm:P.follows .mixedOrders=true)(h0:I (Array.replicate ops.size false) a w)
   (step:∀ S a w i rest,I S a w->i∈Region.ready .any ops S->(Region.ready .any ops (S.setIfInBounds i true)=[]->rest=[])->(∀ a' w',I (S.setIfInBounds i true) a' w'->qd P Post Sh Fz T n h dd (G (b.at a' (.inRegion ops rest::k)) cs) w')->qd P Post Sh Fz T n h dd (G (b.at a (.inRegion ops (i::rest)::k)) cs) w)
   (stop:∀ S a w,I S a w->Region.ready .any ops S=[]->qd P Post Sh Fz T n h dd (G (b.at a (.inRegion ops []::k)) cs) w) :
   qd P Post Sh Fz T n h dd (G (b.at a (.code (.region id ops true)::k)) cs) w:=by
 refine qb5 rfl (fun d=>⟨_,_,_,stepG_region_draw,(q8s (w.at d)).1,?_⟩);have:=qw7 step stop ops.size ((w.at d).tape (w.at d).drawn (.order b.fn id)) (Array.replicate ops.size false) a w (Nat.le_trans List.countP_le_length (by simp)) h0
 have e:Region.schedule (P.follows .mixedOrders) ops ((w.at d).tape (w.at d).drawn (.order b.fn id))=Region.linearise.go .any ops ops.size ((w.at d).tape (w.at d).drawn (.order b.fn id)) (Array.replicate ops.size false) []:=by
   simp only [Region.schedule,hm,Bool.true_or,if_true];rfl
 rw [e];exact this (d+1)
end
end
section
open Go.Conc Go.RowKit Go.Conc.Lib Go.ConcR.Gen
open Go.ConcR (KK WgAt stA smA Payload)
open Go.ConcN (upd upd_ne upd_same)
theorem q6q{P:Program}{Post:Value->World->Prop}{Sh:Nat->Prop}{Fz:Loc->Prop}{T:Nat->q8}{n h:Nat}{g g' child:Goroutine}{w:World}(hs:g.status=.running)(step:∀ w,stepG P (h == 0) g w=.spawn g' child w #[])(hL:qH T n h w)
   {s:jD} {m κ:Nat} (h4:holds s.L w) (h5:w.heap[s.c]?=some (.chan 0 #[] false κ κ false)) (h6:∀ i s',i≠h->i < n->T i=.seat s'->s'.c≠s.c) (h7:Way P false s m child) (h8:∀ l,StL s.L l->Fz l/\¬ qim Sh l)
   (next:qd P Post Sh Fz (upd T n (.seat s)) (n+1) h 0 g' w):qd P Post Sh Fz T n h 0 g w:=
 fun e=>q7p hs (fun d=>⟨g',child,w.at d,#[],step _,⟨fun i s h1 h2 h3=>⟨hL i s h1 h2 h3,rfl⟩,fun e he=>by simp at he,Nat.le_refl _⟩,rfl,s,m,κ,h4,h5,h6,h7,h8,next d⟩)
theorem q2i{P:Program}{Post:Value->World->Prop}{Sh:Nat->Prop}{Fz:Loc->Prop}{T:Nat->q8}{n h:Nat}{w:World}{b:Frame}{a:Act}{k:List Item}{cs:List Frame}{ops:Array Oper}{i:Nat}{rest:List Nat}{o:Oper}{d:Deferred}{f:Fn}{c:Array Value}
   (ho:ops[i]?=some o) (hw:Region.wanted o (yielded ops a.tmps)=true) (hk:b.kind≠.early) (hr:∀ w,(execOp a.eval o).run P w=.ok (.spawn d) w) (he:∀ w,(execOp a.eval o).events P w #[]=#[]) (hd:d.target=.fn f c) (hL:qH T n h w)
   {s:jD} {m κ:Nat} (h4:holds s.L w) (h5:w.heap[s.c]?=some (.chan 0 #[] false κ κ false)) (h6:∀ i s',i≠h->i < n->T i=.seat s'->s'.c≠s.c) (h7:Way P false s m (born P d)) (h8:∀ l,StL s.L l->Fz l/\¬ qim Sh l)
   (next:qd P Post Sh Fz (upd T n (.seat s)) (n+1) h 0 (G (b.at (a.put o.dst undef) (.inRegion ops rest::k)) cs) w):qd P Post Sh Fz T n h 0 (G (b.at a (.inRegion ops (i::rest)::k)) cs) w:=
 q6q rfl (fun w=>by rw [stepG_spawn ho hw hk (hr w) hd];unfold listed;rw [he w,seen_none]) hL h4 h5 h6 h7 h8 next
theorem qR.next{m0 N n0 K:Nat}{T:Nat->q8}(R:qR m0 N n0 K T){s:jD}(hs:zY m0 K N s):qR m0 N n0 (K+1) (upd T (n0+K) (.seat s)):=
 ⟨fun i h1 h2=>by rw [upd_ne T _ (by omega)];exact R.old i h1 h2,fun j hj=>by
   by_cases e:j=K
   . subst e;exact⟨s,hs,upd_same ..⟩
   . rw [upd_ne T _ (by omega)];exact R.work j (by omega),fun i hi=>by rw [upd_ne T _ (by omega)];exact R.out i (by omega)⟩
theorem q6r{w:World}{r i:Nat}{c:Array Value}{v:Value}{e:TypeId}(h:w.heap[r]?=some (.cells c e)):(w.setCell ⟨r,i,none⟩ v).heap[r]?=some (.cells (c.setIfInBounds i v) e):=by
 rw [qdv w ⟨r,i,none⟩ v h];simp
noncomputable def qel:Code:=match qhv with | .seq (.seq _ (.block _ (.loop c))) _=>c | _=>.skip
noncomputable def qgq:Code:=match qhv with | .seq _ c=>c | _=>.skip
def qhw(m0 N fl K:Nat)(csv x22 x23 x24 x25 v4 v5 v10 v11 v12 v13 v14 v15 v16 v17 v26 v27 v28 v29 v30 v31 v32 v33 v34 v35 v36 v37 v38 v39 v40 v41 v42 v43 v44 v45 v46 v47 v48 v49 v50 v51 v52 v53 v54:Value):Array Value:=
 #[.pointer (some ⟨fl,0,none⟩),.int .i64 N,csv,.pointer (some ⟨m0,0,none⟩),v4,v5,.pointer (some ⟨m0+1,0,none⟩),.pointer (some ⟨m0+3,0,none⟩),.pointer (some ⟨m0+5,0,none⟩),.pointer (some ⟨m0+6+2 * K,0,none⟩),v10,v11,v12,v13,v14,v15,v16,v17,.int .i64 N,.int .i64 K,.bool true,.int .i64 K,x22,x23,x24,x25,v26,v27,v28,v29,v30,v31,v32,v33,v34,v35,v36,v37,v38,v39,v40,v41,v42,v43,v44,v45,v46,v47,v48,v49,v50,v51,v52,v53,v54]
section
variable {gr:Grd}{M M1:Mks gr.base}{Post:Value->World->Prop}{Sh:Nat->Prop}{Fz:Loc->Prop}{T:Nat->q8}{n0 m0 N fl:Nat}{csv:Value}{D:World->Prop}{w₀ w z:World}{cs:List Frame}{kk:List Item}
theorem q2j(hD:∀ x o,D x->D (x.alloc o))(O:jB (gr.base.pen M) Sh Fz)(hm0:M.N<=m0)(hN:N<=4){K:Nat}(hK:K < N){tm:Array Value}{lp:Code}(S:jv gr M m0 D w₀ w z M1 (m0+6+2 * K))(C:ju m0 N K fl w)(hM:qQ m0 K M1)(R:qR m0 N n0 K T)
   (hs:qN m0 N fl csv tm) (h18:tm[18]?=some (.int .i64 N)) (h19:tm[19]?=some (.int .i64 K))
   (next:∀ tm' T' w' z' M2,jv gr M m0 D w₀ w' z' M2 (m0+6+2 * (K+1))->ju m0 N (K+1) fl w'->qQ m0 (K+1) M2->qR m0 N n0 (K+1) T'->qN m0 N fl csv tm'->tm'[18]?=some (.int .i64 N)->tm'[19]?=some (.int .i64 ((K+1:Nat):Int)) ->
     qd Tryz.prog Post (qcb m0 Sh) (qco m0 (K+1) Fz) T' (n0+(K+1)) 0 0 (G ((base 43).at ⟨tm',[]⟩ (.inLoop lp::.inBlock 0::kk)) cs) w') :
   qd Tryz.prog Post (qcb m0 Sh) (qco m0 K Fz) T (n0+K) 0 0 (G ((base 43).at ⟨tm,[]⟩ (.code qel::.inLoop lp::.inBlock 0::kk)) cs) w:=by
 obtain⟨v0,v1,v2,v3,v4,v5,v6,v7,v8,v9,v10,v11,v12,v13,v14,v15,v16,v17,v18,v19,v20,v21,v22,v23,v24,v25,v26,v27,v28,v29,v30,v31,v32,v33,v34,v35,v36,v37,v38,v39,v40,v41,v42,v43,v44,v45,v46,v47,v48,v49,v50,v51,v52,v53,v54,rfl⟩:=qhz tm hs.size;have s0:=hs.s0;have s1:=hs.s1;have s2:=hs.s2;have s3:=hs.s3;have s6:=hs.s6;have s7:=hs.s7;have s8:=hs.s8;simp only [List.getElem?_toArray,List.getElem?_cons_zero,List.getElem?_cons_succ,Option.some.injEq] at s0 s1 s2 s3 s6 s7 s8 h18 h19;replace s2:=s2.symm;subst s0 s1 s2 s3 s6 s7 s8 h18 h19;clear hs;obtain⟨lt1,lt2⟩:=O.lt
 have nsh:∀ r,m0<=r->r≠m0+1->¬ qcb m0 Sh r:=fun r hr hne h=>by
   rcases h with h | h
   . have:=lt1 r h;omega
   . exact hne h
 have nfz:∀ a:Addr,m0<=a.block->¬ Fz (.cell a):=fun a hr h=>by
   have h1:a.block < M.N:=lt2 _ h;omega
 have ye:decide ((K:Int) < (N:Int))=true:=by simp;omega
 have hK0:(0:Int)<=(K:Int):=by omega
 have hK1:(K:Int) < (N:Int):=by omega
 have hadd:IntKind.i64.wrap ((K:Int)+1)=((K+1:Nat):Int):=by rw [IntKind.wrap_i64];omega
 simp only [qel,qhv,qg7,Tryz.f43,Option.getD_some];refine qau ?_;refine qaz ?_;simp only [List.size_toArray,List.length_cons,List.length_nil,Nat.zero_add,List.range,List.range.loop];refine qat (.bool true) rfl rfl (by decide) (fun w=>by go_simp) (fun w=>by simp [go_sem]) ?_;walk_nrm;refine qan ?_;refine qau ?_;refine qhc (t:=true) rfl ?_;simp only [if_true];refine qmn ?_;refine qau ?_;refine qe4 ?_;refine qau ?_;refine qaz ?_;simp only [List.size_toArray,List.length_cons,List.length_nil,Nat.reduceAdd,Nat.zero_add,List.range,List.range.loop];refine qat (.int .i64 K) rfl rfl (by decide) (fun w=>by go_simp) (fun w=>by simp [go_sem]) ?_;walk_nrm;refine qfm (ob:=.cells #[.int .i64 0] 3) (v:=fun s=>.pointer (some ⟨s,0,none⟩)) (C.qcS R) rfl rfl (by decide) (fun w=>by go_simp) (fun w=>by simp [go_sem]) ?_;walk_nrm;rw [S.size];have Ssz:=S.size;obtain⟨z1,M2,S1,le1,zb1,p1,kb,ks⟩:=S.void hD #[.int .i64 0] 3;have C1:ju m0 N K fl _:=C.same (fun r h1 h2=>ks r (by omega));have hM1:qQ m0 K M2:=hM.le le1 (fun h=>(p1 _ h).elim hM.n4 (fun e=>by omega)) (fun j hj h=>(p1 _ h).elim (hM.nc j hj) (fun e=>by omega));clear ks;generalize w.alloc (.cells #[.int .i64 0] 3)=w1 at S1 C1 kb |-;clear Ssz S C hM
 have nst:∀ r,m0+6+2 * K<=r->¬ StW T (n0+K) 0 r:=fun r hr h=>by
   rcases R.stw h with e | e | ⟨j,hj,e | e⟩ <;> omega
 refine qrm (u:=.int .i64 0) (v:=.int .i64 K) (qia kb).1 (qia kb).2 (nst _ (Nat.le_refl _)) (nsh _ (by show m0<=m0+6+2 * K;omega) (by show m0+6+2 * K≠m0+1;omega)) (fun h=>?_) rfl rfl (by decide) (fun w h1 h2=>by go_simp) (fun w h1 h2=>by simp [go_sem,h1,h2]) ?_
 . rcases h with h | h | h | ⟨j,hj,h | h⟩
   . exact nfz _ (by show m0<=m0+6+2 * K;omega) h
   . simp only [Loc.cell.injEq,Addr.mk.injEq] at h;omega
   . simp only [Loc.cell.injEq,Addr.mk.injEq] at h;omega
   . simp only [Loc.cell.injEq,Addr.mk.injEq] at h;omega
   . simp only [Loc.cell.injEq,Addr.mk.injEq] at h;omega
 walk_nrm;refine qan ?_;refine qau ?_;have S2:=S1.set (a:=⟨m0+6+2 * K,0,none⟩) zb1 (by show m0<=m0+6+2 * K;omega) (.int .i64 K);have C2:ju m0 N K fl _:=C1.same (fun r h1 h2=>qcw w1 ⟨m0+6+2 * K,0,none⟩ (.int .i64 K) r (by show r≠m0+6+2 * K;omega));replace kb:=qaP (v:=.int .i64 K) kb;generalize w1.setCell ⟨m0+6+2 * K,0,none⟩ (.int .i64 K)=w2 at S2 C2 kb |-;clear S1 C1;obtain⟨z3,M3,S3,le3,cc3,n3,p3,kc,ks⟩:=S2.chan hD (.chan 0 #[] false 0 0 false) rfl;obtain⟨arr,ra1,ra2,ra3⟩:=C2.row;obtain⟨ecb,kcb⟩:=C2.cb;have hrow:∃ u,w2.cell? ⟨m0+2,K,none⟩=some u/\w2.frozen? ⟨m0+2,K,none⟩=false:=⟨arr[K]'(by omega),by simp [World.cell?,ra1,show K < arr.size by omega],by simp [World.frozen?,ra1]⟩;obtain⟨u,hu1,hu2⟩:=hrow;have ks':∀ r,r < m0+6+2 * K+1->(w2.alloc (.chan 0 #[] false 0 0 false)).heap[r]?=w2.heap[r]?:=fun r hr=>ks r (by omega)
 have vB:∀ a:Addr,a.block < m0+6+2 * K+1->(w2.alloc (.chan 0 #[] false 0 0 false)).cell? a=w2.cell? a/\(w2.alloc (.chan 0 #[] false 0 0 false)).frozen? a=w2.frozen? a:=fun a ha=>by
   unfold World.cell? World.frozen?;rw [ks' _ ha];exact⟨rfl,rfl⟩
 refine qta (I:=fun Sb a w'=>∃ s0 s1 s2 s3 s4 x22 x23 x24 x25,Sb=#[s0,s1,s2,s3,s4]/\a=⟨qhw m0 N fl K csv x22 x23 x24 x25 v4 v5 v10 v11 v12 v13 v14 v15 v16 v17 v26 v27 v28 v29 v30 v31 v32 v33 v34 v35 v36 v37 v38 v39 v40 v41 v42 v43 v44 v45 v46 v47 v48 v49 v50 v51 v52 v53 v54,[]⟩/\(s0=true->x22=.slice (some ⟨m0+2,0,none⟩) N N)/\(s1=true->x23=.int .i64 K)/\(s2=true->x24=.chan (some (m0+6+2 * K+1))) /\
     (s3=true->s0=true/\s1=true/\s2=true/\x25=.pointer (some ⟨m0+2,K,none⟩))/\(s4=true->s3=true)/\w'=if s4=true then (w2.alloc (.chan 0 #[] false 0 0 false)).setCell ⟨m0+2,K,none⟩ (.chan (some (m0+6+2 * K+1))) else if s2=true then w2.alloc (.chan 0 #[] false 0 0 false) else w2)
   (by kernel_rfl) ⟨false,false,false,false,false,_,_,_,_,rfl,rfl,(fun h=>by cases h),(fun h=>by cases h),(fun h=>by cases h),(fun h=>by cases h),(fun h=>by cases h),rfl⟩ ?_ ?_
 . rintro Sb a w' i rest ⟨s0,s1,s2,s3,s4,x22,x23,x24,x25,rfl,rfl,i0,i1,i2,i3,i4,rfl⟩ hi - hgo;obtain⟨hi0,o,ho,jc⟩:=mem_ready.1 hi
   have hi5:i < 5:=by
     have:=(Array.getElem?_eq_some_iff.1 ho).1;simpa using this
   rcases i with _ | _ | _ | _ | _ | i
   ·
     simp at hi0;subst hi0;obtain rfl:s3=false:=by cases s3 with | false=>rfl | true=>exact absurd (i3 rfl).1 (by simp)
     obtain rfl:s4=false:=by cases s4 with | false=>rfl | true=>exact absurd (i4 rfl) (by simp)
     have hc:(if s2=true then w2.alloc (.chan 0 #[] false 0 0 false) else w2).cell? ⟨m0+3,0,none⟩=some (.slice (some ⟨m0+2,0,none⟩) N N):=by
       split
       . rw [(vB ⟨m0+3,0,none⟩ (by show m0+3 < m0+6+2 * K+1;omega)).1];exact(qia kcb).1
       . exact(qia kcb).1
     simp only [Bool.false_eq_true,if_false,qhw] at hgo |-;refine qdx hc (nsh _ (by show m0<=m0+3;omega) (by show m0+3≠m0+1;omega)) rfl rfl (by decide) (fun w h=>by go_simp) (fun w h=>by simp [go_sem,h]) ?_;walk_nrm;exact hgo _ _ ⟨true,s1,s2,false,false,_,_,_,_,rfl,rfl,fun _=>rfl,i1,i2,(fun h=>by cases h),(fun h=>by cases h),rfl⟩
   . simp at hi0;subst hi0;obtain rfl:s3=false:=by cases s3 with | false=>rfl | true=>exact absurd (i3 rfl).2.1 (by simp)
     obtain rfl:s4=false:=by cases s4 with | false=>rfl | true=>exact absurd (i4 rfl) (by simp)
     have hc:(if s2=true then w2.alloc (.chan 0 #[] false 0 0 false) else w2).cell? ⟨m0+6+2 * K,0,none⟩=some (.int .i64 K):=by
       split
       . rw [(vB ⟨m0+6+2 * K,0,none⟩ (by show m0+6+2 * K < m0+6+2 * K+1;omega)).1];exact(qia kb).1
       . exact(qia kb).1
     simp only [Bool.false_eq_true,if_false,qhw] at hgo |-;refine qdx hc (nsh _ (by show m0<=m0+6+2 * K;omega) (by show m0+6+2 * K≠m0+1;omega)) rfl rfl (by decide) (fun w h=>by go_simp) (fun w h=>by simp [go_sem,h]) ?_;walk_nrm;exact hgo _ _ ⟨s0,true,s2,false,false,_,_,_,_,rfl,rfl,i0,fun _=>rfl,i2,(fun h=>by cases h),(fun h=>by cases h),rfl⟩
   . simp at hi0;subst hi0;obtain rfl:s3=false:=by cases s3 with | false=>rfl | true=>exact absurd (i3 rfl).2.2.1 (by simp)
     obtain rfl:s4=false:=by cases s4 with | false=>rfl | true=>exact absurd (i4 rfl) (by simp)
     simp only [Bool.false_eq_true,if_false,qhw] at hgo |-;refine qfm (ob:=.chan 0 #[] false 0 0 false) (v:=fun s=>.chan (some s)) (C2.qcS R) rfl rfl (by decide) (fun w=>?_) (fun w=>?_) ?_
     . have:=(qo4 w).1
       go_simp
     . have:=(qo4 w).2;simp [go_sem,this]
     walk_nrm;rw [S2.size];exact hgo _ _ ⟨s0,s1,true,false,false,_,_,_,_,rfl,rfl,i0,i1,fun _=>rfl,(fun h=>by cases h),(fun h=>by cases h),rfl⟩
   . simp at hi0;subst hi0;obtain rfl:s4=false:=by cases s4 with | false=>rfl | true=>exact absurd (i4 rfl) (by simp)
     have hd:s0=true/\s1=true/\s2=true:=by
       simp at ho;subst ho;simp [Region.binds] at jc;exact⟨jc.1,jc.2.1,jc.2.2.2.2⟩
     obtain⟨rfl,rfl,rfl⟩:=hd;obtain rfl:=i0 rfl;obtain rfl:=i1 rfl;simp only [Bool.false_eq_true,if_false,if_true,qhw] at hgo |-;refine qat (.pointer (some ⟨m0+2,K,none⟩)) rfl rfl (by decide) (fun w=>by go_simp) (fun w=>by simp [go_sem,*]) ?_;walk_nrm;exact hgo _ _ ⟨true,true,true,true,false,_,_,_,_,rfl,rfl,fun _=>rfl,fun _=>rfl,i2,fun _=>⟨rfl,rfl,rfl,rfl⟩,(fun h=>by cases h),rfl⟩
   . simp at hi0;subst hi0
     have hd:s3=true:=by
       simp at ho;subst ho;simp [Region.binds] at jc;exact jc.1
     subst hd;obtain⟨rfl,rfl,rfl,rfl⟩:=i3 rfl;obtain rfl:=i2 rfl;simp only [Bool.false_eq_true,if_false,if_true,qhw] at hgo |-;have h1:=(vB ⟨m0+2,K,none⟩ (by show m0+2 < m0+6+2 * K+1;omega)).1.trans hu1;have h2:=(vB ⟨m0+2,K,none⟩ (by show m0+2 < m0+6+2 * K+1;omega)).2.trans hu2;refine qtd (w':=(w2.alloc (.chan 0 #[] false 0 0 false)).setCell ⟨m0+2,K,none⟩ (.chan (some (m0+6+2 * K+1)))) rfl rfl (by decide) (fun d=>?_) (fun d=>?_) (qZ.spot h1 (fun i s e1 e2 e3=>?_) (nsh _ (by show m0<=m0+2;omega) (by show m0+2≠m0+1;omega)) (fun h=>?_)) qm3 ?_
     . replace h1:((w2.alloc (.chan 0 #[] false 0 0 false)).at d).cell? ⟨m0+2,K,none⟩=some u:=h1;replace h2:((w2.alloc (.chan 0 #[] false 0 0 false)).at d).frozen? ⟨m0+2,K,none⟩=false:=h2;generalize w2.alloc (.chan 0 #[] false 0 0 false)=wx at h1 h2 |-
       go_simp
       rfl
     . replace h1:((w2.alloc (.chan 0 #[] false 0 0 false)).at d).cell? ⟨m0+2,K,none⟩=some u:=h1;replace h2:((w2.alloc (.chan 0 #[] false 0 0 false)).at d).frozen? ⟨m0+2,K,none⟩=false:=h2;generalize w2.alloc (.chan 0 #[] false 0 0 false)=wx at h1 h2 |-;simp [go_sem,events_store _ _ _ _ (.chan (some (m0+6+2 * K+1))) _ rfl,h1,h2]
     . obtain⟨j,hj,rfl,hsj⟩:=R.seat e1 e3;obtain⟨q1,q2,_⟩:=qd7 hsj;refine⟨by rw [q1];show m0+7+2 * j≠m0+2;omega,fun x hx e=>?_⟩;rw [q2] at hx;simp only [ql9,qg0,List.mem_cons,List.not_mem_nil,or_false] at hx;rcases hx with rfl | rfl | rfl
       . simp only [Addr.mk.injEq] at e;omega
       . simp only [Addr.mk.injEq] at e;omega
       . simp only [Addr.mk.injEq] at e;omega
     . rcases h with h | h | h | ⟨j,hj,h | h⟩
       . exact nfz _ (by show m0<=m0+2;omega) h
       . simp only [Loc.cell.injEq,Addr.mk.injEq] at h;omega
       . simp only [Loc.cell.injEq,Addr.mk.injEq] at h;omega
       . simp only [Loc.cell.injEq,Addr.mk.injEq] at h;omega
       . simp only [Loc.cell.injEq,Addr.mk.injEq] at h;omega
     walk_nrm;exact hgo _ _ ⟨true,true,true,true,true,_,_,_,_,rfl,rfl,i0,i1,fun _=>rfl,fun _=>⟨rfl,rfl,rfl,rfl⟩,fun _=>rfl,rfl⟩
   . omega
 . rintro Sb a w' ⟨s0,s1,s2,s3,s4,x22,x23,x24,x25,rfl,rfl,i0,i1,i2,i3,i4,rfl⟩ je
   have e0:s0=true:=by
     cases s0 with
     | true=>rfl
     | false=>exact absurd je (List.ne_nil_of_mem (mem_ready.2 ⟨rfl,_,rfl,fun e he=>by simp at he⟩:0∈_))
   have e1:s1=true:=by
     cases s1 with
     | true=>rfl
     | false=>exact absurd je (List.ne_nil_of_mem (mem_ready.2 ⟨rfl,_,rfl,fun e he=>by simp at he⟩:1∈_))
   have e2:s2=true:=by
     cases s2 with
     | true=>rfl
     | false=>exact absurd je (List.ne_nil_of_mem (mem_ready.2 ⟨rfl,_,rfl,fun e he=>by simp at he⟩:2∈_))
   subst e0 e1 e2
   have e3:s3=true:=by
     cases s3 with
     | true=>rfl
     | false=>exact absurd je (List.ne_nil_of_mem (mem_ready.2 ⟨rfl,_,rfl,fun e he _=>by
         simp at he;rcases he with rfl | rfl | rfl | rfl | rfl <;> rfl⟩:3∈_))
   subst e3
   have e4:s4=true:=by
     cases s4 with
     | true=>rfl
     | false=>exact absurd je (List.ne_nil_of_mem (mem_ready.2 ⟨rfl,_,rfl,fun e he _=>by
         simp at he;rcases he with rfl | rfl | rfl | rfl | rfl <;> rfl⟩:4∈_))
   subst e4;obtain rfl:=i0 rfl;obtain rfl:=i1 rfl;obtain rfl:=i2 rfl;obtain⟨-,-,-,rfl⟩:=i3 rfl;clear i0 i1 i2 i3 i4 je vB hu1 hu2 u ks' nst;simp only [if_true,qhw];have C3:ju m0 N K fl (w2.alloc (.chan 0 #[] false 0 0 false)):=C2.same (fun r h1 h2=>ks r (by omega));have kb3:=(ks (m0+6+2 * K) (by omega)).trans kb;have qaQ:=(ks (m0+2) (by omega)).trans ra1;have hM3:qQ m0 K M3:=hM1.le le3 (fun h=>hM1.n4 (p3 _ h)) (fun j hj h=>hM1.nc j hj (p3 _ h));have zb3:=le3.z _ zb1;clear ks hM1;generalize w2.alloc (.chan 0 #[] false 0 0 false)=w3 at S3 C3 kb3 qaQ kc |-;have S4:=S3.set (a:=⟨m0+2,K,none⟩) hM3.z2 (by show m0<=m0+2;omega) (.chan (some (m0+6+2 * K+1)));have kso:=qcw w3 ⟨m0+2,K,none⟩ (.chan (some (m0+6+2 * K+1)));have ra4:=q6r (v:=.chan (some (m0+6+2 * K+1))) (i:=K) qaQ;have kb4:=(kso (m0+6+2 * K) (by show m0+6+2 * K≠m0+2;omega)).trans kb3;have kc4:=(kso (m0+6+2 * K+1) (by show m0+6+2 * K+1≠m0+2;omega)).trans kc
   have C4:ju m0 N K fl (w3.setCell ⟨m0+2,K,none⟩ (.chan (some (m0+6+2 * K+1)))):=by
     obtain⟨h1,h2,h3,h4,h5,h6,h7,h8⟩:=C3;refine⟨?_,(kso (m0+1) (by show m0+1≠m0+2;omega)).trans h2,⟨_,ra4,by simpa using ra2,fun j hj=>?_⟩,?_,?_,?_,fun j hj=>(kso _ (by show m0+6+2 * j≠m0+2;omega)).trans (h7 j hj),fun j hj=>?_⟩
     . rw [kso m0 (by show m0≠m0+2;omega)];exact h1
     . rw [Array.getElem?_setIfInBounds_ne (by omega)];exact ra3 j hj
     . rw [kso (m0+3) (by show m0+3≠m0+2;omega)];exact h4
     . rw [kso (m0+4) (by show m0+4≠m0+2;omega)];exact h5
     . rw [kso (m0+5) (by show m0+5≠m0+2;omega)];exact h6
     . rw [kso (m0+7+2 * j) (by show m0+7+2 * j≠m0+2;omega)];exact h8 j hj
   have raK:(arr.setIfInBounds K (.chan (some (m0+6+2 * K+1))))[K]?=some (.chan (some (m0+6+2 * K+1))):=by rw [Array.getElem?_setIfInBounds_self_of_lt (by omega)]
   clear kso kb3 kc C3 qaQ S3;generalize w3.setCell ⟨m0+2,K,none⟩ (.chan (some (m0+6+2 * K+1)))=w4 at S4 C4 ra4 kb4 kc4 |-;refine qan ?_;refine qau ?_;refine qaz ?_;simp only [List.size_toArray,List.length_cons,List.length_nil,Nat.zero_add,List.range,List.range.loop];refine qhh (fn:=addFn wgL) (c:=body_add wgL) rfl rfl (by decide) rfl zX.f_add (nm_add wgL) rfl ?_;walk_nrmf addFn;refine q4t zX (fun h=>?_) (fun b hb h=>?_) (v:=K) (by omega) C4.wg ?_
   . rcases R.stw h with e | e | ⟨j,hj,e | e⟩ <;> omega
   . rcases h with h | h | h | ⟨j,hj,h | h⟩
     . exact nfz _ (by rw [hb];omega) h
     . simp only [Loc.cell.injEq] at h;subst h;simp at hb
     . simp only [Loc.cell.injEq] at h;subst h;simp at hb
     . simp only [Loc.cell.injEq] at h;subst h;simp only at hb;omega
     . simp only [Loc.cell.injEq] at h;subst h;simp at hb
   walk_nrm;refine qan ?_;refine qaz ?_;simp only [List.size_toArray,List.length_cons,List.length_nil,Nat.reduceAdd,Nat.zero_add,List.range,List.range.loop];have S5:=S4.set (a:=stA (m0+1)) hM3.z1 (by show m0<=m0+1;omega) (.int .u64 (((K:Int)+1) * KK));have wg5:=C4.wg.setSt (((K:Int)+1) * KK);have kso:=qcw w4 (stA (m0+1)) (.int .u64 (((K:Int)+1) * KK));have e7:m0+6+2 * K+1=m0+7+2 * K:=by omega
   have eK:((K+1:Nat):Int)=(K:Int)+1:=by omega
   have C5:ju m0 N (K+1) fl (w4.setCell (stA (m0+1)) (.int .u64 (((K:Int)+1) * KK))):=by
     obtain⟨h1,h2,h3,h4,h5,h6,h7,h8⟩:=C4;refine⟨?_,by rw [eK];exact wg5,⟨_,(kso (m0+2) (by show m0+2≠m0+1;omega)).trans ra4,by simpa using ra2,fun j hj=>?_⟩,?_,?_,?_,fun j hj=>?_,fun j hj=>?_⟩
     . rw [kso m0 (by show m0≠m0+1;omega)];exact h1
     . by_cases e:j=K
       . subst e;rw [<-e7];exact raK
       . rw [Array.getElem?_setIfInBounds_ne (fun x=>e x.symm)];exact ra3 j (by omega)
     . rw [kso (m0+3) (by show m0+3≠m0+1;omega)];exact h4
     . rw [kso (m0+4) (by show m0+4≠m0+1;omega)];exact h5
     . rw [kso (m0+5) (by show m0+5≠m0+1;omega)];exact h6
     . rw [kso (m0+6+2 * j) (by show m0+6+2 * j≠m0+1;omega)];by_cases e:j=K
       . subst e;exact kb4
       . exact h7 j (by omega)
     . rw [kso (m0+7+2 * j) (by show m0+7+2 * j≠m0+1;omega)];by_cases e:j=K
       . subst e;rw [<-e7];exact⟨0,kc4⟩
       . exact h8 j (by omega)
   have hM5:qQ m0 (K+1) M3:=⟨hM3.z0,hM3.z1,hM3.z2,hM3.z3,hM3.c4,hM3.z5,fun j hj=>by
     by_cases e:j=K
     . subst e;exact zb3
     . exact hM3.zb j (by omega),fun j hj=>by
     by_cases e:j=K
     . subst e;rw [<-e7];exact cc3
     . exact hM3.cc j (by omega),hM3.n4,fun j hj=>by
     by_cases e:j=K
     . subst e;rw [<-e7];exact n3
     . exact hM3.nc j (by omega)⟩
   clear kso wg5 C4 S4 hM3 ra4 kb4 kc4 raK zb3 cc3 n3;generalize w4.setCell (stA (m0+1)) (.int .u64 (((K:Int)+1) * KK))=w5 at S5 C5 |-;refine qat (.func (.func 69) #[] (qaN (m0+1) (m0+3) (m0+6+2 * K) m0 (m0+5))) rfl rfl (by decide) (fun w=>by go_simp;rfl) (fun w=>by simp [go_sem]) ?_;walk_nrm
   have hL5:qH T (n0+K) 0 w5:=fun i s h1 _ h3=>by
     obtain⟨j,hj,rfl,hsj⟩:=R.seat h1 h3;rw [(qd7 hsj).2.1];exact C5.vP (by omega)
   have hch:=C5.ch K (by omega);obtain⟨κ,hκ⟩:=hch;refine qmp (Sh':=qcb m0 Sh) (Fz':=qco m0 (K+1) Fz) (fun r h=>h) (fun r h=>.inl h) (fun l h=>?_) ?_
   . rcases h with h | h | h | ⟨j,hj,h⟩
     . exact .inl h
     . exact .inr (.inl h)
     . exact .inr (.inr (.inl h))
     . exact .inr (.inr (.inr ⟨j,by omega,h⟩))
   refine q2i (d:=q47 (m0+1) (m0+3) (m0+6+2 * K) m0 (m0+5)) rfl rfl (by decide) (fun w=>?_) (fun w=>?_) rfl hL5 (C5.vP (j:=K) (by omega)) hκ (fun i s' h1 _ h3=>?_) (q6x (ch:=m0+7+2 * K) hK) (fun l hl=>?_) ?_
   . simp [go_sem,execOp,q47,resolve,Deferred.ofValue]
   . simp [go_sem,execOp,resolve,Deferred.ofValue]
   . obtain⟨j,hj,rfl,hsj⟩:=R.seat h1 h3;rw [(qd7 hsj).1];show m0+7+2 * j≠m0+7+2 * K;omega
   . obtain⟨x,hx,rfl⟩:=hl;change x∈ql9 m0 K N at hx;simp only [ql9,qg0,List.mem_cons,List.not_mem_nil,or_false] at hx;rcases hx with rfl | rfl | rfl
     . exact⟨.inr (.inl rfl),nsh _ (by show m0<=m0+3;omega) (by show m0+3≠m0+1;omega)⟩
     . exact⟨.inr (.inr (.inr ⟨K,by omega,.inl rfl⟩)),nsh _ (by show m0<=m0+6+2 * K;omega) (by show m0+6+2 * K≠m0+1;omega)⟩
     . exact⟨.inr (.inr (.inr ⟨K,by omega,.inr rfl⟩)),nsh _ (by show m0<=m0+2;omega) (by show m0+2≠m0+1;omega)⟩
   walk_nrm;have R':=R.next (s:=qhy (ql9 m0 K N) (m0+1) (m0+3) (m0+6+2 * K) m0 (m0+5) (m0+7+2 * K) undef (.slice (some ⟨m0+2,0,none⟩) N N) (.int .i64 K) (.pointer (some ⟨m0+2,K,none⟩)) undef undef undef undef undef undef undef undef) ⟨_,_,_,_,_,_,_,_,_,_,_,_,rfl⟩;refine qan ?_;refine qk4 ?_;refine qaz ?_;simp only [List.size_toArray,List.length_cons,List.length_nil,Nat.reduceAdd,Nat.zero_add,List.range,List.range.loop];refine qat (.int .i64 ((K+1:Nat):Int)) rfl rfl (by decide) (fun w=>by go_simp) (fun w=>by simp [go_sem]) ?_;walk_nrm;refine qat (.int .i64 ((K+1:Nat):Int)) rfl rfl (by decide) (fun w=>by go_simp) (fun w=>by simp [go_sem]) ?_;walk_nrm;refine qan ?_
   have S6:jv gr M m0 D w₀ w5 z3 M3 (m0+6+2 * (K+1)):=by
     rw [show m0+6+2 * (K+1)=m0+6+2 * K+1+1 from by omega];exact S5
   exact next _ _ _ _ _ S6 C5 hM5 R' ⟨rfl,rfl,rfl,rfl,rfl,rfl,rfl,rfl⟩ rfl rfl
end
end
end Go.Proofs.YtacemdoejblgaaaGreatDoor
