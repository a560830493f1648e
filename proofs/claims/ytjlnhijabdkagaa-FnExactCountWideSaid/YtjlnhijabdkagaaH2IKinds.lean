/- Walks: impl.CountKinds. -/
import Derived.Test.YtjlnhijabdkagaaD2Count
import Derived.Test.YtjlnhijabdkagaaH1SKinds
namespace Go.Proofs.Ytjlnhijabdkagaa
open Go.RowKit Go.Shelf
attribute [local go_sem] Oper.semAt_some

/-- 'make([]T, n)' inside a fence. -/
theorem wpListIn_make_full {F : Fence} {n : Nat} {P : Program} (w : World) {ops : Array Oper} {rest : List Oper} {o : Oper} {a : Act} {Q : Exit → Act → World → Prop}
    (hg : o.guard = none) (l c : Operand) (t : TypeId) (hop : o.op = Op.makeSlice t l c)
    (base : Nat) (e : TypeId) (i : TypeInfo) (z : Value) (size : Nat) (h1 : P.underlying t = some (.slice e)) (h2 : P.info? e = some i) (h3 : i.zero = some z) (h4 : i.size = size)
    (kl kc : IntKind) (L C : Int) (m : Nat) (hl : a.eval l = .int kl L) (hc : a.eval c = .int kc C) (hL : L = (m : Int)) (hC : C = (m : Int)) (b2 : i.bytes * m ≤ 281474976710656) (b3 : m ≤ maxLen) (b4 : base ≤ w.heap.size)
    (hK : ∀ w', w'.ownsRow base e size (.slice (some ⟨w.heap.size, 0, none⟩) m m) m (madeCells z.cells (m * size)).toList → w.grownBy w' none → wpListIn F n P ops Q rest (a.put o.dst (.slice (some ⟨w.heap.size, 0, none⟩) m m)) w') :
    wpListIn F n P ops Q (o :: rest) a w := by
  refine wpListIn_plain hg fun K hK' => ?_
  obtain ⟨w', hrun, r1, r2⟩ := run_make_full (P := P) w base t e i z size h1 h2 h3 h4 kl kc m b2 b3 b4
  subst hL
  subst hC
  unfold Oper.wpIn
  refine ⟨?_, ?_⟩
  · simp [Oper.about, hop]
  · rw [Oper.semAt_plain F _ _ (by rw [hop]; intro c hc'; cases hc')]
    simp [execOp, hop, hl, hc, hrun, Result.andThen]
    exact hK' _ _ (hK w' r1 r2)
theorem notE_walk {W : World} {B : Nat} {row : Option Nat} {E : TypeId} (hr : ∀ r, row = some r → B ≤ r ∧ ∃ o : Obj, W.heap[r]? = some o ∧ o.isCells = false) : NotE W E row := by
  rintro g rfl cur hb
  obtain ⟨_, o, ho, hc⟩ := hr g rfl
  unfold Blk at hb
  rw [hb] at ho
  cases ho
  cases hc
theorem ownI_own (B base : Nat) (v : Value) (l : List Int) : OwnFrom B (fun (_ : Unit) W => OwnI W base v l) := fun _ _ _ _ h hg hr => h.grown hg (notE_walk hr)

theorem kinds_fin {plan : List Node} {n : Nat} (hn : n = plan.length) : (List.finRange n).map (fun i => (plan.getD i.1 ⟨0, [], []⟩).kind) = plan.map (fun x => x.kind) := by
  subst hn
  apply List.ext_getElem
  · simp
  · intro i h1 h2
    simp

set_option maxRecDepth 100000 in
set_option maxHeartbeats 1000000 in
theorem implCountKinds_any (v : Value) (plan : List Node) (w : World) (h : RN w v plan) :
    Calls Try.prog 28 #[v] w (IntsPost' w (countKinds plan)) := by
  obtain ⟨A, n, c, rfl⟩ := h.val
  by_cases hv : planValid plan = true
  · have Hv := Lib.hid hv
    have Hr : Hid (countKinds plan = tally (plan.map (fun x => x.kind))) := by show countKinds plan = _; unfold countKinds; rw [if_pos hv]
    clear hv
    obtain ⟨i0, hi, hz0, hz1, hz2⟩ := info_parts info3
    refine (callsIn_wide (n := 3)).1 ?_
    refine callsIn_of_wp_marks Try.func28 rfl trivial ?_ rfl
    simp only [Try.ntmps28, List.size_toArray, List.length_cons, List.length_nil, Nat.reduceAdd, Nat.reduceSub, Array.replicate_succ, Array.replicate_zero, List.push_toArray, List.append_toArray, List.nil_append, List.cons_append]
    gi_wp2_with (first
      | (refine ⟨trivial, ?_⟩; gi_at_call 70; refine (callsIn_wide.2 (implPlanValid_b _ plan _ h Hv.out)).mono ?_; rintro e W2 ⟨rfl, hg2⟩)
      | (gi_at_make; go_must (refine wpListIn_make_full _ rfl _ _ 27 rfl W2.heap.size 3 i0 _ 1 Try.underlying27 hi hz0 hz1 _ _ _ _ 6 rfl rfl rfl rfl (by rw [hz2]; omega) (by unfold maxLen; omega) (Nat.le_refl _) ?_)))
    intro W3 hown3 hg3
    have hle : n ≤ 10 := by have := planValid_len Hv.out; rw [← h.len] at this; exact this
    have hn := Lib.hid h.len
    obtain ⟨V, hV⟩ := NodeVals.exists h
    have hsz : w.heap.size ≤ W2.heap.size := hg2.size
    have hsz3 : W2.heap.size < W3.heap.size := (hown3.lt W2.heap.size rfl).2
    have hO3 : OwnI W3 w.heap.size (.slice (some ⟨W2.heap.size, 0, none⟩) 6 6) (tally []) := by
      rw [tally_nil]
      have e : (madeCells #[Value.int .i64 0] 6).toList = ([0, 0, 0, 0, 0, 0] : List Int).map (.int .i64) := by simp [madeCells, Nat.mod_one]; rfl
      rw [e] at hown3
      exact OwnI.lower (a := W2.heap.size) hown3 hsz
    clear hown3
    have hb3 : Below w.heap.size w W3 := gb_below (gb_trans hg2 hg3)
    gi_wp2_with (refine ⟨trivial, ?_⟩; gi_at_call 71; refine (callsIn_wide.2 (nodesOf_any _ _ _ _)).mono ?_; rintro e W4 ⟨rfl, rfl⟩)
    have hbs : Blk ((W3.alloc (.cells #[.slice (some ⟨W2.heap.size, 0, none⟩) 6 6] 27)).alloc (.cells #[.slice A n c] 23)) W3.heap.size 27 #[.slice (some ⟨W2.heap.size, 0, none⟩) 6 6] := (Blk.new W3 _ _).alloc _
    have hbB : Blk ((W3.alloc (.cells #[.slice (some ⟨W2.heap.size, 0, none⟩) 6 6] 27)).alloc (.cells #[.slice A n c] 23)) (W3.heap.size + 1) 23 #[.slice A n c] := by
      have := Blk.new (W3.alloc (.cells #[.slice (some ⟨W2.heap.size, 0, none⟩) 6 6] 27)) 23 #[.slice A n c]
      rw [World.size_alloc] at this
      exact this
    have hO4 : OwnI ((W3.alloc (.cells #[.slice (some ⟨W2.heap.size, 0, none⟩) 6 6] 27)).alloc (.cells #[.slice A n c] 23)) w.heap.size (.slice (some ⟨W2.heap.size, 0, none⟩) 6 6) (tally []) := (hO3.alloc _).alloc _
    have hw4 : Below w.heap.size w ((W3.alloc (.cells #[.slice (some ⟨W2.heap.size, 0, none⟩) 6 6] 27)).alloc (.cells #[.slice A n c] 23)) := (hb3.alloc (by omega) _).alloc (by simp; omega) _
    have hws : ((W3.alloc (.cells #[.slice (some ⟨W2.heap.size, 0, none⟩) 6 6] 27)).alloc (.cells #[.slice A n c] 23)).heap.size = W3.heap.size + 2 := by simp
    generalize ((W3.alloc (.cells #[.slice (some ⟨W2.heap.size, 0, none⟩) 6 6] 27)).alloc (.cells #[.slice A n c] 23)) = w4 at *
    clear hO3 hb3 hg2 hg3
    refine wpIn_rangeFunc_ownH rfl (by omega) (gf := 106) (lb := #[.pointer (some ⟨W3.heap.size + 1, 0, none⟩)]) rfl trivial (enters_of Try.func106 (by kernel_rfl) rfl)
      (nodes_stops 2 (by omega) (W3.heap.size + 1) n c A plan V w w4 h hV Hv.out hw4 (by omega) (hbB.cell 0)) belowK_t (belowK_b (by omega)) (Below.refl _ _) (fun _ => rfl)
      (fun pre W => (OwnI W w.heap.size (.slice (some ⟨W2.heap.size, 0, none⟩) 6 6) (tally (pre.map (fun i : Fin n => (plan.getD i.1 ⟨0, [], []⟩).kind)))) ∧ Blk W W3.heap.size 27 #[.slice (some ⟨W2.heap.size, 0, none⟩) 6 6] ∧ Below w.heap.size w W)
      (fun _ _ _ => False)
      (OwnFrom.and (fun pre W W' row hs hg hr => ownI_own _ _ _ _ () W W' row hs hg hr) (OwnFrom.and (fun pre W W' row hs hg hr => blk_own _ _ _ _ () W W' row hs hg hr) (ownFrom_below (Nat.le_refl _) (by omega))))
      (fun _ _ _ _ _ hs _ _ => hs)
      ⟨hO4, hbs, hw4⟩
      (fun x a' W => ∃ (Bx : Nat) (Af : Option Addr) (nf cf : Nat) (Ar : Option Addr) (nr cr : Nat) (kd : Int), W3.heap.size < Bx ∧ Hid (kd = (plan.getD x.1 ⟨0, [], []⟩).kind) ∧ 0 ≤ kd ∧ kd ≤ 5 ∧ Blk W Bx 29 #[.int .i64 kd, .slice Af nf cf, .slice Ar nr cr] ∧
        a' = { tmps := #[.slice A n c, undef, .slice none 0 0, .pointer (some ⟨W3.heap.size, 0, none⟩), undef, .pointer (some ⟨Bx, 0, none⟩), .slice A n c, .bool true, .bool false, .slice (some ⟨W2.heap.size, 0, none⟩) 6 6, .slice A n c,
          .func (.func 106) #[] #[.pointer (some ⟨W3.heap.size + 1, 0, none⟩)], .int .i64 (x.1 : Nat), V x.1, undef, undef, undef, undef, undef, undef, undef, undef], defers := [] })
      (fun x a' s W W' row hs hg hr => by
        obtain ⟨Bx, Af, nf, cf, Ar, nr, cr, kd, h1, h2, h2a, h2b, h3, h4⟩ := hs
        exact ⟨Bx, Af, nf, cf, Ar, nr, cr, kd, h1, h2, h2a, h2b, blk_own _ _ _ _ () W W' row h3 hg hr, h4⟩)
      ?assign ?body ?done ?stop
    case assign =>
      rintro l pre x W K ⟨hO, hi, hB⟩ hK
      obtain ⟨nd, hx⟩ : ∃ nd, plan[x.1]? = some nd := ⟨_, List.getElem?_eq_getElem (by rw [← hn.out]; exact x.2)⟩
      obtain ⟨g, o, Af, nf, cf, Ar, nr, cr, -, hVk, -, -, -, hf, -⟩ := hV x.1 nd hx
      have hkd : nd.kind = (plan.getD x.1 ⟨0, [], []⟩).kind := by rw [List.getD_eq_getElem?_getD, hx]; rfl
      obtain ⟨hk0, hk5⟩ := planValid_kind Hv.out hx
      have hlt : W3.heap.size < W.heap.size := hi.lt
      have Hkd := Lib.hid hkd
      have Hlt := Lib.hid hlt
      have Hk := Lib.hid (And.intro hk0 hk5)
      rw [hVk]
      have K2 : K { tmps := #[.slice A n c, undef, .slice none 0 0, .pointer (some ⟨W3.heap.size, 0, none⟩), undef, .pointer (some ⟨W.heap.size, 0, none⟩), .slice A n c, .bool true, .bool false, .slice (some ⟨W2.heap.size, 0, none⟩) 6 6, .slice A n c,
          .func (.func 106) #[] #[.pointer (some ⟨W3.heap.size + 1, 0, none⟩)], .int .i64 (x.1 : Nat), .agg #[.int .i64 nd.kind, .slice Af nf cf, .slice Ar nr cr], undef, undef, undef, undef, undef, undef, undef, undef], defers := [] }
          (W.alloc (.cells #[.int .i64 nd.kind, .slice Af nf cf, .slice Ar nr cr] 29)) := by
        refine hK _ _ ((KeepsOthers.alloc _ _).from _) ((Below.refl _ W).alloc hB.size _) ⟨hO.alloc _, hi.alloc _, hB.alloc hB.size _⟩ ⟨W.heap.size, Af, nf, cf, Ar, nr, cr, nd.kind, Hlt.out, Hkd, Hk.out.1, Hk.out.2, Blk.new W _ _, ?_⟩
        rw [hVk]
      clear hK hx hVk hV hf hi hB hlt hkd hk0 hk5 hO
      gi_wp2
      exact K2
    case body =>
      rintro l pre x a' W hl ⟨r, hr⟩ ⟨hO, hs, hB⟩ ⟨Bx, Af, nf, cf, Ar, nr, cr, kd, hBx, Hkd, hk0, hk5, hbx, rfl⟩ hlen
      obtain ⟨q, rfl⟩ := Int.eq_ofNat_of_zero_le hk0
      have hq6 : q < 6 := by omega
      obtain ⟨y, hy⟩ : ∃ y, (tally (pre.map (fun i : Fin n => (plan.getD i.1 ⟨0, [], []⟩).kind)))[q]? = some y := ⟨_, List.getElem?_eq_getElem (by rw [tally_len]; omega)⟩
      have hb := tally_bound hy
      rw [List.length_map] at hb
      have hy0 := hb.1
      have hy1 : y ≤ 10 := by omega
      obtain ⟨g', cap', cur, he, _, _, hbk, hcs⟩ := hO.form (by rw [tally_len]; omega)
      obtain rfl : W2.heap.size = g' := slice_block he
      have d0 := hcs q y hy
      have f0 := hbk.frozen q
      have c0 : W.cell? ⟨W3.heap.size, 0, none⟩ = some (.slice (some ⟨W2.heap.size, 0, none⟩) 6 6) := hs.cell 0
      have c1 : W.cell? ⟨Bx, 0, none⟩ = some (.int .i64 (q : Nat)) := hbx.cell 0
      have hO' : Hid (OwnI (W.setCell ⟨W2.heap.size, q, none⟩ (.int .i64 (y + 1))) w.heap.size (.slice (some ⟨W2.heap.size, 0, none⟩) 6 6) (tally ((pre ++ [x]).map (fun i : Fin n => (plan.getD i.1 ⟨0, [], []⟩).kind)))) := by
        show OwnI _ _ _ _
        rw [List.map_append, List.map_singleton, ← Hkd.out, tally_snoc _ hq6 hy]
        exact hO.set_ (by rw [tally_len]) q (y + 1)
      have hB' := hB.setCell (p := ⟨W2.heap.size, q, none⟩) hsz (.int .i64 (y + 1))
      have hs' := hs.far (p := ⟨W2.heap.size, q, none⟩) (by show W3.heap.size ≠ W2.heap.size; omega) (.int .i64 (y + 1))
      have HS := Lib.hid hs'
      have HB := Lib.hid hB'
      clear hs' hB' hs hbx hr hV hy hb he hbk hcs hO hk0
      gi_wp2
      exact ⟨(KeepsOthers.setCell _ _ _).from _, (Below.refl w.heap.size W).setCell (p := ⟨W2.heap.size, q, none⟩) hsz _, hO'.out, HS.out, HB.out⟩
    case done =>
      rintro D ys W hD rfl ⟨hO, hs, hB⟩ hK
      rw [kinds_fin hn.out, ← Hr.out] at hO
      have c0 : W.cell? ⟨W3.heap.size, 0, none⟩ = some (.slice (some ⟨W2.heap.size, 0, none⟩) 6 6) := hs.cell 0
      have HO := Lib.hid hO
      clear hO
      gi_wp2
      refine ⟨by simp, .inl ⟨_, _, rfl, run_takeDeferred hK, ?_⟩⟩
      have hgD := belowK_b (w := w) (Nat.le_refl _) W D _ (.deferred none) (by omega) hK rfl rfl
      have hgg : W.grownBy (W.putObj D (.deferred none)) (some D) := grownBy_putObj' W D _
      exact ⟨.slice (some ⟨W2.heap.size, 0, none⟩) 6 6, by simp [results, Try.results28, go_sem], ⟨_, rfl, HO.out.grown hgg (notE_walk (B := 0) (fun r e => by cases e; exact ⟨Nat.zero_le _, _, hK, rfl⟩)), gb_of_below (hB.trans hgD) none⟩⟩
    case stop =>
      rintro D c pre W _ _ h _
      exact h.elim
  · have hv' : planValid plan = false := by simpa using hv
    have Hv := Lib.hid hv'
    have Hr : Hid (countKinds plan = []) := by show countKinds plan = _; unfold countKinds; rw [if_neg hv]
    clear hv hv'
    go_enter Try.func28, Try.ntmps28
    go_wp2_with fail
    refine (implPlanValid_b _ plan _ h Hv.out).mono ?_
    rintro e w' ⟨rfl, hg⟩
    go_wp2_with fail
    go_ret
    exact ⟨_, rfl, by rw [Hr.out]; exact OwnI.nil _ _, hg⟩
end Go.Proofs.Ytjlnhijabdkagaa
