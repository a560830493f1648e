/- Walks: impl.CountNeeds. -/
import Derived.Test.YtjlnhijabdkagaaD1Iter
namespace Go.Proofs.Ytjlnhijabdkagaa
open Go.RowKit Go.Shelf
attribute [local go_sem] Oper.semAt_some

theorem blk_own (B Bx : Nat) (t : TypeId) (cs : Array Value) : OwnFrom B (fun (_ : Unit) W => Blk W Bx t cs) := fun _ W W' row h hg hr =>
  h.grown hg (fun e => by
    obtain ⟨_, o, ho, hc⟩ := hr _ e.symm
    unfold Blk at h
    rw [h] at ho
    cases ho
    cases hc)

set_option maxRecDepth 100000 in
set_option maxHeartbeats 1000000 in
theorem implCountNeeds_any (v : Value) (plan : List Node) (w : World) (h : RN w v plan) :
    Calls Try.prog 24 #[v] w fun e w' => e = .returned (.int .i64 (countNeeds plan)) ∧ w.grownBy w' none := by
  obtain ⟨A, n, c, rfl⟩ := h.val
  by_cases hv : planValid plan = true
  · have Hv := Lib.hid hv
    have Hr : Hid (countNeeds plan = (plan.map (fun x => (x.frm.length : Int))).sum) := by show countNeeds plan = _; unfold countNeeds; rw [if_pos hv]
    clear hv
    refine (callsIn_wide (n := 3)).1 ?_
    refine callsIn_of_wp_marks Try.func24 rfl trivial ?_ rfl
    simp only [Try.ntmps24, List.size_toArray, List.length_cons, List.length_nil, Nat.reduceAdd, Nat.reduceSub, Array.replicate_succ, Array.replicate_zero, List.push_toArray, List.append_toArray, List.nil_append, List.cons_append]
    gi_wp2_with (first
      | (refine ⟨trivial, ?_⟩; gi_at_call 70; refine (callsIn_wide.2 (implPlanValid_b _ plan _ h Hv.out)).mono ?_; rintro e W2 ⟨rfl, hg2⟩)
      | (refine ⟨trivial, ?_⟩; gi_at_call 71; refine (callsIn_wide.2 (nodesOf_any _ _ _ _)).mono ?_; rintro e W3 ⟨rfl, rfl⟩))
    have hle : n ≤ 10 := by have := planValid_len Hv.out; rw [← h.len] at this; exact this
    have hn := Lib.hid h.len
    obtain ⟨V, hV⟩ := NodeVals.exists h
    have hsz : w.heap.size ≤ W2.heap.size := hg2.size
    have hb2 : Below w.heap.size w W2 := gb_below hg2
    have hw3 : Below w.heap.size w ((W2.alloc (.cells #[.int .i64 0] 3)).alloc (.cells #[.slice A n c] 23)) := (hb2.alloc hsz _).alloc (by simp; omega) _
    have hbs : Blk ((W2.alloc (.cells #[.int .i64 0] 3)).alloc (.cells #[.slice A n c] 23)) W2.heap.size 3 #[.int .i64 0] := (Blk.new W2 _ _).alloc _
    have hbB : Blk ((W2.alloc (.cells #[.int .i64 0] 3)).alloc (.cells #[.slice A n c] 23)) (W2.heap.size + 1) 23 #[.slice A n c] := by
      have := Blk.new (W2.alloc (.cells #[.int .i64 0] 3)) 23 #[.slice A n c]
      rw [World.size_alloc] at this
      exact this
    have hws : ((W2.alloc (.cells #[.int .i64 0] 3)).alloc (.cells #[.slice A n c] 23)).heap.size = W2.heap.size + 2 := by simp
    generalize ((W2.alloc (.cells #[.int .i64 0] 3)).alloc (.cells #[.slice A n c] 23)) = w3 at *
    refine wpIn_rangeFunc_ownH rfl (by omega) (gf := 106) (lb := #[.pointer (some ⟨W2.heap.size + 1, 0, none⟩)]) rfl trivial (enters_of Try.func106 (by kernel_rfl) rfl)
      (nodes_stops 2 (by omega) (W2.heap.size + 1) n c A plan V w w3 h hV Hv.out hw3 (by omega) (hbB.cell 0)) belowK_t (belowK_b (by omega)) (Below.refl _ _) (fun _ => rfl)
      (fun pre W => (Blk W W2.heap.size 3 #[.int .i64 (pre.map (fun i : Fin n => fl plan i.1)).sum]) ∧ Below w.heap.size w W)
      (fun _ _ _ => False)
      (OwnFrom.and (fun pre W W' row hs hg hr => blk_own _ _ _ _ () W W' row hs hg hr) (ownFrom_below (Nat.le_refl _) (by omega)))
      (fun _ _ _ _ _ hs _ _ => hs)
      ⟨hbs, hw3⟩
      (fun x a' W => ∃ (Bx : Nat) (Af : Option Addr) (nf cf : Nat) (Ar : Option Addr) (nr cr : Nat) (kd : Int), W2.heap.size < Bx ∧ (nf : Int) = fl plan x.1 ∧ Blk W Bx 29 #[.int .i64 kd, .slice Af nf cf, .slice Ar nr cr] ∧
        a' = { tmps := #[.slice A n c, undef, .int .i64 0, .pointer (some ⟨W2.heap.size, 0, none⟩), undef, .pointer (some ⟨Bx, 0, none⟩), .slice A n c, .bool true, .bool false, .slice A n c,
          .func (.func 106) #[] #[.pointer (some ⟨W2.heap.size + 1, 0, none⟩)], .int .i64 (x.1 : Nat), V x.1, undef, undef, undef, undef, undef, undef], defers := [] })
      (fun x a' s W W' row hs hg hr => by
        obtain ⟨Bx, Af, nf, cf, Ar, nr, cr, kd, h1, h2, h3, h4⟩ := hs
        exact ⟨Bx, Af, nf, cf, Ar, nr, cr, kd, h1, h2, blk_own _ _ _ _ () W W' row h3 hg hr, h4⟩)
      ?assign ?body ?done ?stop
    case assign =>
      rintro l pre x W K ⟨hi, hB⟩ hK
      obtain ⟨nd, hx⟩ : ∃ nd, plan[x.1]? = some nd := ⟨_, List.getElem?_eq_getElem (by rw [← hn.out]; exact x.2)⟩
      obtain ⟨g, o, Af, nf, cf, Ar, nr, cr, -, hVk, -, -, -, hf, -⟩ := hV x.1 nd hx
      have hfl : (nf : Int) = fl plan x.1 := by
        unfold fl
        rw [hx]
        show (nf : Int) = nd.frm.length
        rw [← hf.len]
      have hlt : W2.heap.size < W.heap.size := hi.lt
      have Hfl := Lib.hid hfl
      have Hlt := Lib.hid hlt
      rw [hVk]
      have K2 : K { tmps := #[.slice A n c, undef, .int .i64 0, .pointer (some ⟨W2.heap.size, 0, none⟩), undef, .pointer (some ⟨W.heap.size, 0, none⟩), .slice A n c, .bool true, .bool false, .slice A n c,
          .func (.func 106) #[] #[.pointer (some ⟨W2.heap.size + 1, 0, none⟩)], .int .i64 (x.1 : Nat), .agg #[.int .i64 nd.kind, .slice Af nf cf, .slice Ar nr cr], undef, undef, undef, undef, undef, undef], defers := [] }
          (W.alloc (.cells #[.int .i64 nd.kind, .slice Af nf cf, .slice Ar nr cr] 29)) := by
        refine hK _ _ ((KeepsOthers.alloc _ _).from _) ((Below.refl _ W).alloc hB.size _) ⟨hi.alloc _, hB.alloc hB.size _⟩ ⟨W.heap.size, Af, nf, cf, Ar, nr, cr, nd.kind, Hlt.out, Hfl.out, Blk.new W _ _, ?_⟩
        rw [hVk]
      clear hK hx hVk hV hf hi hB hfl hlt
      gi_wp2
      exact K2
    case body =>
      rintro l pre x a' W hl ⟨r, hr⟩ ⟨hs, hB⟩ ⟨Bx, Af, nf, cf, Ar, nr, cr, kd, hBx, hnf, hbx, rfl⟩ hlen
      have hsum := fl_sum Hv.out pre
      have hfb := fl_bound Hv.out x.1
      have c0 : W.cell? ⟨W2.heap.size, 0, none⟩ = some (.int .i64 (pre.map (fun i : Fin n => fl plan i.1)).sum) := hs.cell 0
      have f0 := hs.frozen 0
      have c1 : W.cell? ⟨Bx, 1, none⟩ = some (.slice Af nf cf) := hbx.cell 1
      have hs' : Blk (W.setCell ⟨W2.heap.size, 0, none⟩ (.int .i64 ((pre.map (fun i : Fin n => fl plan i.1)).sum + nf))) W2.heap.size 3 #[.int .i64 ((pre ++ [x]).map (fun i : Fin n => fl plan i.1)).sum] := by
        have := hs.set_ 0 (.int .i64 ((pre.map (fun i : Fin n => fl plan i.1)).sum + nf))
        rw [List.map_append, List.sum_append]
        simpa [hnf] using this
      have hB' := hB.setCell (p := ⟨W2.heap.size, 0, none⟩) hsz (.int .i64 ((pre.map (fun i : Fin n => fl plan i.1)).sum + nf))
      have HS := Lib.hid hs'
      have HB := Lib.hid hB'
      have hnf2 : 0 ≤ (nf : Int) ∧ (nf : Int) ≤ 2 := by omega
      clear hnf hfb hs hbx hs' hB' hr hV
      generalize (pre.map (fun i : Fin n => fl plan i.1)).sum = s0 at *
      gi_wp2
      exact ⟨(KeepsOthers.setCell _ _ _).from _, (Below.refl w.heap.size W).setCell (p := ⟨W2.heap.size, 0, none⟩) hsz _, HS.out, HB.out⟩
    case done =>
      rintro D ys W hD rfl ⟨hs, hB⟩ hK
      have hc := hs.cell 0
      rw [fl_all hn.out, ← Hr.out] at hs
      have c0 : W.cell? ⟨W2.heap.size, 0, none⟩ = some (.int .i64 (countNeeds plan)) := hs.cell 0
      clear hc
      gi_wp2
      refine ⟨by simp, .inl ⟨_, _, rfl, run_takeDeferred hK, ?_⟩⟩
      exact ⟨_, results_tmp rfl _ _ _, rfl, gb_of_below (hB.trans (belowK_b (w := w) (Nat.le_refl _) W D _ _ (by omega) hK rfl rfl)) none⟩
    case stop =>
      rintro D c pre W _ _ h _
      exact h.elim
  · have hv' : planValid plan = false := by simpa using hv
    have Hv := Lib.hid hv'
    have Hr : Hid (countNeeds plan = -1) := by show countNeeds plan = _; unfold countNeeds; rw [if_neg hv]
    clear hv hv'
    go_enter Try.func24, Try.ntmps24
    go_wp2_with fail
    refine (implPlanValid_b _ plan _ h Hv.out).mono ?_
    rintro e w' ⟨rfl, hg⟩
    go_wp2_with fail
    go_ret
    exact ⟨by rw [Hr.out]; rfl, hg⟩
end Go.Proofs.Ytjlnhijabdkagaa
