/- Walks through code that communicates, in one goroutine: the walk's own rules, stated for frames of an ordinary call. Conditions: none. · Words for memory: channels' blocks that hold entries. -/
import Derived.Calls
import Derived.Conc.LoneCalls
import Derived.Test.YtjlnhijabdkagaaS10Copy
namespace Go.Proofs.Ytjlnhijabdkagaa
open Go.Conc

/-- Like the code's walk, of frames that may communicate. -/
def WpN (P : Program) (c : Code) (Q : Exit → Act → World → Prop) (a : Act) (w : World) : Prop :=
  ∀ (b : Frame) (k : List Item) (cs : List Frame), b.kind ≠ .early → ∃ e a' w', Q e a' w' ∧ Arrives P (lone (b.at a (.code c :: k)) cs w) b k cs e a' w'
def OpsN (P : Program) (ops : Array Oper) (Q : Exit → Act → World → Prop) (l : List Nat) (a : Act) (w : World) : Prop :=
  ∀ (b : Frame) (k : List Item) (cs : List Frame), b.kind ≠ .early → ∃ e a' w', Q e a' w' ∧ Arrives P (lone (b.at a (.inRegion ops l :: k)) cs w) b k cs e a' w'
section
variable {P : Program} {Q : Exit → Act → World → Prop} {a : Act} {w : World}
theorem WpN.of {c : Code} (h : c.wp P Q a w) : WpN P c Q a w := fun b k cs _ => h b k cs
theorem WpN.seq {x y : Code} (h : WpN P x (Exit.then (WpN P y Q) Q) a w) : WpN P (.seq x y) Q a w := by
  intro b k cs hk
  obtain ⟨e, a', w', hq, harr⟩ := h b (.code y :: k) cs hk
  cases e with
  | normal =>
    obtain ⟨e2, a2, w2, hq2, harr2⟩ := hq b k cs hk
    exact ⟨e2, a2, w2, hq2, .of_steps (.head step_seq harr) harr2⟩
  | exit id => exact ⟨_, a', w', hq, .of_steps (.one step_seq) (.pass (x := .code y) rfl (fun _ _ => .inl (by simp)) harr)⟩
  | goto l => exact ⟨_, a', w', hq, .of_steps (.one step_seq) (.pass (x := .code y) rfl (fun _ _ => .inl (by simp)) harr)⟩
  | ret => exact ⟨_, a', w', hq, .of_steps (.one step_seq) (.pass (x := .code y) rfl (fun _ _ => .inl (by simp)) harr)⟩
  | panic ch => exact ⟨_, a', w', hq, .of_steps (.one step_seq) (.pass (x := .code y) rfl (fun _ _ => .inl (by simp)) harr)⟩
  | outgrown => exact ⟨_, a', w', hq, .of_steps (b := b) (k := k) (cs := cs) (e := .outgrown) (.one step_seq) (.pass (x := .code y) rfl (fun _ _ => .inl (by simp)) harr)⟩
theorem WpN.cond {c : Operand} {x y : Code} {t : Bool} (hc : a.eval c = .bool t) (h : WpN P (if t then x else y) Q a w) : WpN P (.cond c x y) Q a w := by
  intro b k cs hk
  obtain ⟨e, a', w', hq, harr⟩ := h b k cs hk
  exact ⟨e, a', w', hq, .of_steps (.one (step_cond hc)) harr⟩
theorem WpN.block {id : Nat} {c : Code} (h : WpN P c (Exit.inBlock id Q) a w) : WpN P (.block id c) Q a w := by
  intro b k cs hk
  obtain ⟨e, a', w', hq, harr⟩ := h b (.inBlock id :: k) cs hk
  cases e with
  | normal => exact ⟨.normal, a', w', hq, .head step_block (Steps.trans harr (.one step_inBlock))⟩
  | exit id' =>
    by_cases hid : id' = id
    · simp only [Exit.inBlock, hid, if_true] at hq
      exact ⟨.normal, a', w', hq, .head step_block (harr k (by simp [exitTo, hid]))⟩
    · simp only [Exit.inBlock, hid, if_false] at hq
      refine ⟨.exit id', a', w', hq, fun k' hk' => .head step_block (harr k' ?_)⟩
      have : (id == id') = false := by simp; exact fun h => hid h.symm
      simp [exitTo, this, hk']
  | goto l => exact ⟨_, a', w', hq, fun k' hk' => .head step_block (harr k' (by simp [gotoIn, hk']))⟩
  | ret => exact ⟨_, a', w', hq, .of_steps (.one step_block) harr⟩
  | panic ch => exact ⟨_, a', w', hq, .of_steps (.one step_block) harr⟩
  | outgrown => exact ⟨_, a', w', hq, .of_steps (b := b) (k := k) (cs := cs) (e := .outgrown) (.one step_block) harr⟩
/-- A loop, by a number that falls. -/
theorem WpN.loop {c : Code} (I : Nat → Act → World → Prop) (n : Nat) (h0 : I n a w)
    (hr : ∀ n a w, I n a w → WpN P c (Exit.then (fun a' w' => ∃ m, m < n ∧ I m a' w') Q) a w) : WpN P (.loop c) Q a w := by
  intro b k cs hk
  have key : ∀ n a w, I n a w → ∃ e a' w', Q e a' w' ∧ Arrives P (lone (b.at a (.code c :: .inLoop c :: k)) cs w) b k cs e a' w' := by
    intro n
    induction n using Nat.strongRecOn with
    | _ n ih =>
      intro a w hI
      obtain ⟨e, a1, w1, hq, harr⟩ := hr n a w hI b (.inLoop c :: k) cs hk
      cases e with
      | normal =>
        obtain ⟨m, hm, hI1⟩ := hq
        obtain ⟨e2, a2, w2, hq2, harr2⟩ := ih m hm a1 w1 hI1
        exact ⟨e2, a2, w2, hq2, .of_steps (Steps.trans harr (.one step_inLoop)) harr2⟩
      | exit id => exact ⟨_, a1, w1, hq, .pass (x := .inLoop c) rfl (fun _ _ => .inl (by simp)) harr⟩
      | goto l => exact ⟨_, a1, w1, hq, .pass (x := .inLoop c) rfl (fun _ _ => .inl (by simp)) harr⟩
      | ret => exact ⟨_, a1, w1, hq, .pass (x := .inLoop c) rfl (fun _ _ => .inl (by simp)) harr⟩
      | panic ch => exact ⟨_, a1, w1, hq, .pass (x := .inLoop c) rfl (fun _ _ => .inl (by simp)) harr⟩
      | outgrown => exact ⟨_, a1, w1, hq, .pass (x := .inLoop c) rfl (fun _ _ => .inl (by simp)) harr⟩
  obtain ⟨e, a', w', hq, harr⟩ := key n a w h0
  exact ⟨e, a', w', hq, .of_steps (.one step_loop) harr⟩
theorem WpN.region {id : Nat} {ops : Array Oper} (h : OpsN P ops Q (List.range ops.size) a w) : WpN P (.region id ops false) Q a w := by
  intro b k cs hk
  obtain ⟨e, a', w', hq, harr⟩ := h b k cs hk
  exact ⟨e, a', w', hq, .of_steps (.one step_region) harr⟩
theorem OpsN.nil {ops : Array Oper} (h : Q .normal a w) : OpsN P ops Q [] a w := fun _ _ _ _ => ⟨.normal, a, w, h, .one step_region_end⟩
/-- The rest of a region, none of which communicates. -/
theorem OpsN.of {ops : Array Oper} {l : List Nat} (h : wpOps P ops Q l a w) : OpsN P ops Q l a w := fun b k cs _ => wp_ops l a w h b k cs
theorem OpsN.value {ops : Array Oper} {i : Nat} {rest : List Nat} {o : Oper} {v : Value} {w1 : World} (ho : ops[i]? = some o) (hw : Region.wanted o (yielded ops a.tmps) = true)
    (hr : (execOp a.eval o).run P w = .ok (.value v) w1) (h : OpsN P ops Q rest (a.put o.dst v) w1) : OpsN P ops Q (i :: rest) a w := by
  intro b k cs hk
  obtain ⟨e, a', w', hq, harr⟩ := h b k cs hk
  refine ⟨e, a', w', hq, .of_steps (.one (step_lone_go ?_)) harr⟩
  have hfin : (b.at a (.inRegion ops (i :: rest) :: k)).finish v = b.at (a.put o.dst v) (.inRegion ops rest :: k) := by rw [Frame.finish_at, ho]; rfl
  rw [stepG_op ho hw, ← hfin]
  simp [stepG.apply, hr]
theorem OpsN.skip {ops : Array Oper} {i : Nat} {rest : List Nat} {o : Oper} {w1 : World} (ho : ops[i]? = some o) (hw : Region.wanted o (yielded ops a.tmps) = true)
    (hr : (execOp a.eval o).run P w = .ok .skip w1) (h : OpsN P ops Q rest (a.put o.dst undef) w1) : OpsN P ops Q (i :: rest) a w := by
  intro b k cs hk
  obtain ⟨e, a', w', hq, harr⟩ := h b k cs hk
  refine ⟨e, a', w', hq, .of_steps (.one (step_lone_go ?_)) harr⟩
  have hfin : (b.at a (.inRegion ops (i :: rest) :: k)).finish undef = b.at (a.put o.dst undef) (.inRegion ops rest :: k) := by rw [Frame.finish_at, ho]; rfl
  rw [stepG_op ho hw, ← hfin]
  simp [stepG.apply, hr]
/-- A call by its contract, all of whose endings return. -/
theorem OpsN.call {ops : Array Oper} {i : Nat} {rest : List Nat} {o : Oper} {f : FuncId} {args : Array Value} {w1 : World} {R : Ending → World → Prop} (ho : ops[i]? = some o) (hw : Region.wanted o (yielded ops a.tmps) = true)
    (hr : (execOp a.eval o).run P w = .ok (.enter f args) w1) (hc : Calls P f args w1 R) (h : ∀ e w2, R e w2 → ∃ v, e = .returned v ∧ OpsN P ops Q rest (a.put o.dst v) w2) : OpsN P ops Q (i :: rest) a w := by
  intro b k cs hk
  obtain ⟨e, w2, fr, hR, hsteps, _, hleave⟩ := hc (b.at a (.inRegion ops (i :: rest) :: k) :: cs)
  obtain ⟨v, rfl, h2⟩ := h e w2 hR
  obtain ⟨e, a', w', hq, harr⟩ := h2 b k cs hk
  have henter : step P (lone (b.at a (.inRegion ops (i :: rest) :: k)) cs w) = .next (lone (Frame.enter P f args .normal) (b.at a (.inRegion ops (i :: rest) :: k) :: cs) w1) :=
    step_lone_go (by rw [stepG_op ho hw]; simp [stepG.apply, hr, Frame.at])
  have hfin : (b.at a (.inRegion ops (i :: rest) :: k)).finish v = b.at (a.put o.dst v) (.inRegion ops rest :: k) := by rw [Frame.finish_at, ho]; rfl
  refine ⟨e, a', w', hq, .of_steps (.head henter (Steps.trans hsteps (.one ?_))) harr⟩
  rw [← hfin]
  exact step_leave_returned hleave
/-- A send into a buffer with room. -/
theorem OpsN.send {ops : Array Oper} {i : Nat} {rest : List Nat} {o : Oper} {w1 : World} {c cap s r : Nat} {buf : Array Value} {v z : Value} {tm : Bool} (ho : ops[i]? = some o) (hw : Region.wanted o (yielded ops a.tmps) = true)
    (hr : (execOp a.eval o).run P w = .ok (.comm #[scase c v z] true .send) w1) (hc : w1.heap[c]? = some (.chan cap buf false s r tm)) (hroom : buf.size < cap)
    (h : OpsN P ops Q rest (a.put o.dst undef) (w1.setChan c cap (buf.push v) false (s + 1) r tm)) : OpsN P ops Q (i :: rest) a w := by
  intro b k cs hk
  obtain ⟨e, a', w', hq, harr⟩ := h b k cs hk
  refine ⟨e, a', w', hq, .of_steps (.one ?_) harr⟩
  have hfin : (b.at a (.inRegion ops (i :: rest) :: k)).finish undef = b.at (a.put o.dst undef) (.inRegion ops rest :: k) := by rw [Frame.finish_at, ho]; rfl
  rw [← hfin]
  exact step_lone_send_room (stepG_comm ho hw hk hr) hc hroom
/-- A receive from a buffer that holds something. -/
theorem OpsN.recv_buf {ops : Array Oper} {i : Nat} {rest : List Nat} {o : Oper} {w1 : World} {c cap s r : Nat} {buf : Array Value} {z : Value} {tm closed : Bool} (ok : Bool) (ho : ops[i]? = some o) (hw : Region.wanted o (yielded ops a.tmps) = true)
    (hr : (execOp a.eval o).run P w = .ok (.comm #[rcase c z] true (.recv ok)) w1) (hc : w1.heap[c]? = some (.chan cap buf closed s r tm)) (hsome : 0 < buf.size)
    (h : OpsN P ops Q rest (a.put o.dst (got ok (buf.getD 0 undef) true)) (w1.setChan c cap (buf.extract 1 buf.size) closed s (r + 1) tm)) : OpsN P ops Q (i :: rest) a w := by
  intro b k cs hk
  obtain ⟨e, a', w', hq, harr⟩ := h b k cs hk
  refine ⟨e, a', w', hq, .of_steps (.one ?_) harr⟩
  have hfin : (b.at a (.inRegion ops (i :: rest) :: k)).finish (got ok (buf.getD 0 undef) true) = b.at (a.put o.dst (got ok (buf.getD 0 undef) true)) (.inRegion ops rest :: k) := by rw [Frame.finish_at, ho]; rfl
  rw [← hfin]
  exact step_lone_recv_buf ok (stepG_comm ho hw hk hr) hc hsome
/-- A receive from a closed channel whose buffer is empty. -/
theorem OpsN.recv_shut {ops : Array Oper} {i : Nat} {rest : List Nat} {o : Oper} {w1 : World} {c cap s r : Nat} {z : Value} {tm : Bool} (ok : Bool) (ho : ops[i]? = some o) (hw : Region.wanted o (yielded ops a.tmps) = true)
    (hr : (execOp a.eval o).run P w = .ok (.comm #[rcase c z] true (.recv ok)) w1) (hc : w1.heap[c]? = some (.chan cap #[] true s r tm))
    (h : OpsN P ops Q rest (a.put o.dst (got ok z false)) w1) : OpsN P ops Q (i :: rest) a w := by
  intro b k cs hk
  obtain ⟨e, a', w', hq, harr⟩ := h b k cs hk
  refine ⟨e, a', w', hq, .of_steps (.one ?_) harr⟩
  have hfin : (b.at a (.inRegion ops (i :: rest) :: k)).finish (got ok z false) = b.at (a.put o.dst (got ok z false)) (.inRegion ops rest :: k) := by rw [Frame.finish_at, ho]; rfl
  rw [← hfin]
  exact step_lone_recv_shut ok (stepG_comm ho hw hk hr) hc
end
/-- A call's contract from its body's walk. -/
theorem calls_of_wpN {P : Program} {f : FuncId} {fn : Func} {c : Code} {args : Array Value} {w : World} {R : Ending → World → Prop}
    (hf : P.funcs[f]? = some fn) (hb : fn.body = some c)
    (h : WpN P c (bodyPost P fn R) { tmps := args ++ Array.replicate (fn.ntmps - args.size) undef, defers := [] } w) : Calls P f args w R := by
  intro cs
  let b : Frame := { (default : Frame) with fn := f, kind := .normal }
  have henter : Frame.enter P f args .normal = b.at { tmps := args ++ Array.replicate (fn.ntmps - args.size) undef, defers := [] } [.code c] := by
    simp [Frame.enter, Frame.at, hf, hb, b]
  obtain ⟨e, a', w', hq, harr⟩ := h b [] cs (by simp [b])
  rw [← henter] at harr
  cases e with
  | normal =>
    obtain ⟨hd, v, hr, hR⟩ := hq
    exact ⟨.returned v, w', _, hR, Steps.trans harr (.one step_end), rfl, rfl, hd, rfl, fn, hf, hr⟩
  | ret =>
    obtain ⟨hd, v, hr, hR⟩ := hq
    obtain ⟨todo, hs⟩ := harr
    exact ⟨.returned v, w', _, hR, hs, rfl, rfl, hd, rfl, fn, hf, hr⟩
  | panic chain =>
    obtain ⟨hd, hR⟩ := hq
    obtain ⟨todo, hs⟩ := harr
    exact ⟨.panicked chain, w', _, hR, hs, rfl, rfl, hd, fn, hf⟩
  | exit id => exact hq.elim
  | goto l => exact hq.elim
  | outgrown => exact ⟨.outgrown, w', b, hq, harr.resolve_left (by simp [b]), rfl, trivial⟩
end Go.Proofs.Ytjlnhijabdkagaa
namespace Go.Proofs.Ytjlnhijabdkagaa
open Go.RowKit Go.Conc

theorem WpN.seq_k {P : Program} {Q : Exit → Act → World → Prop} {a : Act} {w : World} {x y : Code} (h : ∀ K : Act → World → Prop, (∀ a w, WpN P y Q a w → K a w) → WpN P x (Exit.then K Q) a w) : WpN P (.seq x y) Q a w := WpN.seq (h _ fun _ _ h => h)
theorem gb_setChan {a w : World} {row : Option Nat} (h : a.grownBy w row) {c : Nat} (hc : a.heap.size ≤ c ∨ row = some c) (cap : Nat) (buf : Array Value) (cl : Bool) (s r : Nat) (tm : Bool) : a.grownBy (w.setChan c cap buf cl s r tm) row :=
  gb_new (row' := some c) h ⟨rfl, rfl, rfl, by rw [size_setChan]; exact Nat.le_refl _, fun i _ hne => by
    show (w.heap.setIfInBounds c _)[i]? = _
    rw [Array.getElem?_setIfInBounds_ne (fun e => hne (by rw [e]))]⟩ (fun g e => by cases e; exact hc)
theorem NotE.chan {w : World} {E : TypeId} {c cap s r : Nat} {buf : Array Value} {cl tm : Bool} (h : w.heap[c]? = some (.chan cap buf cl s r tm)) : NotE w E (some c) := fun g e cur hb => by
  cases e
  unfold Blk at hb
  rw [h] at hb
  cases hb
def entOk (e : Ent) : Prop := e.rows.length ≤ 1000 ∧ e.out.length ≤ 1000 ∧ ∀ l ∈ e.rows, l.length ≤ 1000
/-- A channel's block, its buffer the values of entries, all of whose parts are the call's own. -/
def ChanX (w : World) (base c cap s r : Nat) (shut : Bool) (es : List Ent) (yss : List (List Value)) : Prop :=
  ∃ vs : List Value, base ≤ c ∧ w.heap[c]? = some (.chan cap vs.toArray shut s r false) ∧ vs.length = es.length ∧ yss.length = es.length ∧ ∀ (i : Nat) (e : Ent), es[i]? = some e → ∃ rv ov ys, vs[i]? = some (.agg #[.int .i64 e.kind, rv, ov]) ∧ yss[i]? = some ys ∧ EX w base rv ov e ys
def ChanE (w : World) (base c cap s r : Nat) (shut : Bool) (es : List Ent) : Prop := ∃ yss, ChanX w base c cap s r shut es yss ∧ Apart yss.flatten
section
variable {w w' : World} {base c cap s r : Nat} {shut : Bool} {es : List Ent} {e : Ent} {row : Option Nat} {yss : List (List Value)}
theorem ChanX.lt (h : ChanX w base c cap s r shut es yss) : c < w.heap.size := let ⟨_, _, h, _⟩ := h; (Array.getElem?_eq_some_iff.1 h).1
theorem ChanX.ge (h : ChanX w base c cap s r shut es yss) : base ≤ c := let ⟨_, h, _⟩ := h; h
theorem ChanX.chan (h : ChanX w base c cap s r shut es yss) : ∃ buf, w.heap[c]? = some (.chan cap buf shut s r false) := let ⟨_, _, h, _⟩ := h; ⟨_, h⟩
theorem ChanX.grown (h : ChanX w base c cap s r shut es yss) (hg : w.grownBy w' row) (hr : NotE w 3 row) (hr' : NotE w 27 row) (hc : row ≠ some c) : ChanX w' base c cap s r shut es yss := by
  have hlt := h.lt
  obtain ⟨vs, h1, h2, h3, h0, h4⟩ := h
  refine ⟨vs, h1, (hg.block c hlt (fun e => hc e.symm)).trans h2, h3, h0, fun i e hi => ?_⟩
  obtain ⟨rv, ov, ys, k1, k2, k3⟩ := h4 i e hi
  exact ⟨rv, ov, ys, k1, k2, k3.grown hg hr hr'⟩
theorem ChanX.new (h : ChanX w base c cap s r shut es yss) (hg : w.grownBy w' none) : ChanX w' base c cap s r shut es yss := h.grown hg (NotE.none _ _) (NotE.none _ _) (by simp)
theorem ChanX.low {b : Nat} (h : ChanX w base c cap s r shut es yss) (hb : b ≤ base) : ChanX w b c cap s r shut es yss := by
  obtain ⟨vs, h1, h2, h3, h0, h4⟩ := h
  refine ⟨vs, Nat.le_trans hb h1, h2, h3, h0, fun i e hi => ?_⟩
  obtain ⟨rv, ov, ys, k1, k2, k3⟩ := h4 i e hi
  exact ⟨rv, ov, ys, k1, k2, k3.low hb⟩
theorem ChanX.lts (h : ChanX w base c cap s r shut es yss) : ∀ u ∈ yss.flatten, ∀ g, u.ownBlock = some g → base ≤ g ∧ g < w.heap.size := by
  obtain ⟨vs, h1, h2, h3, h0, h4⟩ := h
  intro u hu g hg
  obtain ⟨ys, hys, hu⟩ := List.mem_flatten.1 hu
  obtain ⟨i, hi, rfl⟩ := List.getElem_of_mem hys
  obtain ⟨rv, ov, ys, k1, k4, k5⟩ := h4 i _ (List.getElem?_eq_getElem (by omega))
  rw [List.getElem?_eq_getElem hi] at k4
  cases k4
  exact k5.lts u hu g hg
theorem ChanE.new (h : ChanE w base c cap s r shut es) (hg : w.grownBy w' none) : ChanE w' base c cap s r shut es := let ⟨yss, h1, h2⟩ := h; ⟨yss, h1.new hg, h2⟩
theorem ChanE.low {b : Nat} (h : ChanE w base c cap s r shut es) (hb : b ≤ base) : ChanE w b c cap s r shut es := let ⟨yss, h1, h2⟩ := h; ⟨yss, h1.low hb, h2⟩
theorem ChanE.start {b : Nat} (hb : base ≤ c) (h : w.heap[c]? = some (.chan b #[] false 0 0 false)) : ChanE w base c b 0 0 false [] := ⟨[], ⟨[], hb, h, rfl, rfl, fun i e hi => by simp at hi⟩, .nil⟩
/-- An entry made behind the others is sent. -/
theorem ChanE.push {a : World} {rv ov : Value} {ys : List Value} (h : ChanE a base c cap s r false es) (hag : a.grownBy w none) (hb : base ≤ a.heap.size) (hx : EX w a.heap.size rv ov e ys) (hap : Apart ys) :
    ∃ buf : Array Value, w.heap[c]? = some (.chan cap buf false s r false) ∧ buf.size = es.length ∧ ChanE (w.setChan c cap (buf.push (.agg #[.int .i64 e.kind, rv, ov])) false (s + 1) r false) base c cap (s + 1) r false (es ++ [e]) := by
  obtain ⟨yss, ha, hap0⟩ := h
  have hlts := ha.lts
  have h := ha.new hag
  have hlt := h.lt
  obtain ⟨vs, k1, k2, k3, k0, k4⟩ := h
  have hg : w.grownBy (w.setChan c cap (vs.toArray.push (.agg #[.int .i64 e.kind, rv, ov])) false (s + 1) r false) (some c) := gb_setChan (gb_refl _ _) (.inr rfl) _ _ _ _ _ _
  refine ⟨vs.toArray, k2, by simpa using k3, yss ++ [ys], ⟨vs ++ [.agg #[.int .i64 e.kind, rv, ov]], k1, ?_, by simp [k3], by simp [k0], fun i x hi => ?_⟩, ?_⟩
  · rw [heap_setChan _ _ _ _ _ _ _ _ hlt]
    simp
  · by_cases hl : i < es.length
    · rw [List.getElem?_append_left hl] at hi
      obtain ⟨rv', ov', ys', q1, q2, q3⟩ := k4 i x hi
      exact ⟨rv', ov', ys', by rw [List.getElem?_append_left (by omega)]; exact q1, by rw [List.getElem?_append_left (by omega)]; exact q2, q3.grown hg (NotE.chan k2) (NotE.chan k2)⟩
    · have hil := (List.getElem?_eq_some_iff.1 hi).1
      rw [List.length_append, List.length_singleton] at hil
      obtain rfl : i = es.length := by omega
      rw [List.getElem?_append_right (Nat.le_refl _), Nat.sub_self] at hi
      obtain rfl : e = x := by simpa using hi
      exact ⟨rv, ov, ys, by rw [← k3, List.getElem?_append_right (Nat.le_refl _), Nat.sub_self]; rfl, by rw [← k0, List.getElem?_append_right (Nat.le_refl _), Nat.sub_self]; rfl, (hx.low hb).grown hg (NotE.chan k2) (NotE.chan k2)⟩
  · rw [List.flatten_append, List.flatten_singleton]
    exact hap0.join hap (fun u hu g hg => (hlts u hu g hg).2) (fun u hu g hg => (hx.lts u hu g hg).1)
theorem ChanX.pop (h : ChanX w base c cap s r shut (e :: es) yss) :
    ∃ (buf : Array Value) (rv ov : Value) (ys : List Value) (rest : List (List Value)), yss = ys :: rest ∧ w.heap[c]? = some (.chan cap buf shut s r false) ∧ 0 < buf.size ∧ buf.getD 0 undef = .agg #[.int .i64 e.kind, rv, ov] ∧ EX (w.setChan c cap (buf.extract 1 buf.size) shut s (r + 1) false) base rv ov e ys ∧ ChanX (w.setChan c cap (buf.extract 1 buf.size) shut s (r + 1) false) base c cap s (r + 1) shut es rest := by
  have hlt := h.lt
  obtain ⟨vs, k1, k2, k3, k0, k4⟩ := h
  obtain ⟨rv, ov, ys, q1, q2, q3⟩ := k4 0 e rfl
  have hg : w.grownBy (w.setChan c cap (vs.toArray.extract 1 vs.toArray.size) shut s (r + 1) false) (some c) := gb_setChan (gb_refl _ _) (.inr rfl) _ _ _ _ _ _
  obtain ⟨y, rest, rfl⟩ : ∃ y rest, yss = y :: rest := by
    cases yss with
    | nil => cases q2
    | cons y rest => exact ⟨y, rest, rfl⟩
  obtain rfl : y = ys := by simpa using q2
  refine ⟨vs.toArray, rv, ov, y, rest, rfl, k2, by simp [k3], ?_, q3.grown hg (NotE.chan k2) (NotE.chan k2), vs.drop 1, k1, ?_, by simp [k3], by simpa using k0, fun i x hi => ?_⟩
  · cases vs with
    | nil => cases q1
    | cons x xs =>
      obtain rfl : x = _ := by simpa using q1
      rfl
  · rw [heap_setChan _ _ _ _ _ _ _ _ hlt]
    simp only [List.extract_toArray, List.size_toArray, List.extract_eq_take_drop, List.drop_one]
    rw [List.take_of_length_le (by simp)]
  · obtain ⟨rv', ov', ys', p1, p2, p3⟩ := k4 (i + 1) x (by simpa using hi)
    exact ⟨rv', ov', ys', by rw [List.getElem?_drop, Nat.add_comm]; exact p1, by simpa using p2, p3.grown hg (NotE.chan k2) (NotE.chan k2)⟩
theorem ChanX.none (h : ChanX w base c cap s r shut [] yss) : w.heap[c]? = some (.chan cap #[] shut s r false) := by
  obtain ⟨vs, k1, k2, k3, _⟩ := h
  obtain rfl : vs = [] := List.eq_nil_of_length_eq_zero k3
  exact k2
theorem ChanE.close (h : ChanE w base c cap s r false es) : ∃ buf : Array Value, w.heap[c]? = some (.chan cap buf false s r false) ∧ ChanE (w.setChan c cap buf true s r false) base c cap s r true es := by
  obtain ⟨yss, h, hap⟩ := h
  have hlt := h.lt
  obtain ⟨vs, k1, k2, k3, k0, k4⟩ := h
  have hg : w.grownBy (w.setChan c cap vs.toArray true s r false) (some c) := gb_setChan (gb_refl _ _) (.inr rfl) _ _ _ _ _ _
  refine ⟨vs.toArray, k2, yss, ⟨vs, k1, heap_setChan _ _ _ _ _ _ _ _ hlt, k3, k0, fun i x hi => ?_⟩, hap⟩
  obtain ⟨rv', ov', ys', p1, p2, p3⟩ := k4 i x hi
  exact ⟨rv', ov', ys', p1, p2, p3.grown hg (NotE.chan k2) (NotE.chan k2)⟩
end
def SendOut (w : World) (es : List Ent) (e : Ending) (w' : World) : Prop := ∃ c cap s, e = .returned (.chan (some c)) ∧ ChanE w' w.heap.size c cap s 0 true es ∧ w.grownBy w' none
end Go.Proofs.Ytjlnhijabdkagaa
