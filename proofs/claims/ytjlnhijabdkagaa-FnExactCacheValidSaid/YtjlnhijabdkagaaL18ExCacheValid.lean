/- Walks: laws.FnExactCacheValid. -/
import Derived.Test.YtjlnhijabdkagaaE9Ents
import Derived.Test.YtjlnhijabdkagaaS7Cache
namespace Go.Proofs.Ytjlnhijabdkagaa
open Go.RowKit
set_option maxHeartbeats 800000 in
theorem fnExactCacheValid_any (w : World) (v : Value) (es : List Ent) (h : ArgE w.heap.size w v es) :
    Calls Try.prog 14 #[v] w fun e w' => e = .returned (.bool true) ∧ w.grownBy w' none := by
  obtain ⟨A, n, c, rfl, -, -, -⟩ := h.form
  go_enter Try.func14, Try.ntmps14
  go_wp2_with fail
  refine (szEntryS_any w.heap.size _ es 1048576 _ (by exact h) (Nat.le_refl _) (by omega) (by omega)).mono ?_
  rintro e w1 ⟨⟨z, rfl, hz1, hz2, hz3⟩, hg1⟩
  by_cases hz : 0 ≤ z
  · have Hf := Lib.hid (hz3 hz)
    obtain ⟨b, hb⟩ : ∃ b, cacheValid es = b := ⟨_, rfl⟩
    have Hb := Lib.hid hb
    clear hz3 hb
    go_wp2_with fail
    refine (toEntryS_any w.heap.size _ es w1 (h.new hg1 (Nat.le_refl _)) hg1.size Hf.out).mono ?_
    rintro e w2 ⟨v2, y2, rfl, hd2, hg2⟩
    have g2 := gb_trans hg1 hg2
    have hr2 := hd2.re
    obtain ⟨A2, n2, c2, rfl⟩ := hr2.val
    clear hd2
    go_wp2_with fail
    refine (specCacheValid_b _ es w2 hr2 Hb.out).mono ?_
    rintro e w3 ⟨rfl, hg3⟩
    have g3 := gb_trans g2 hg3
    clear hg1 hg2 hg3 g2 hr2
    go_wp2_with fail
    refine (toEntryS_any w.heap.size _ es w3 (h.new g3 (Nat.le_refl _)) g3.size Hf.out).mono ?_
    rintro e w4 ⟨v4, y4, rfl, hd4, hg4⟩
    have g4 := gb_trans g3 hg4
    have hr4 := hd4.re
    obtain ⟨A4, n4, c4, rfl⟩ := hr4.val
    clear hd4
    go_wp2_with fail
    refine (implCacheValid_b _ es w4 hr4 Hb.out).mono ?_
    rintro e w5 ⟨rfl, hg5⟩
    have g5 := gb_trans g4 hg5
    have hr5 := hr4.new hg5
    clear hg4 g3 g4 hr4
    go_wp2_with fail
    refine (toEntryS_any w.heap.size _ es w5 (h.new g5 (Nat.le_refl _)) g5.size Hf.out).mono ?_
    rintro e w6 ⟨v6, y6, rfl, hd6, hg6⟩
    have hr6 := hd6.re
    obtain ⟨A6, n6, c6, rfl⟩ := hr6.val
    go_wp2_with fail
    refine (eqEntryS_any _ _ es w6 (hr5.new hg6) hr6).mono ?_
    rintro e w7 ⟨rfl, hg7⟩
    go_wp2_with fail
    go_ret
    exact ⟨rfl, gb_trans (gb_trans g5 hg6) hg7⟩
  · clear hz3
    go_wp2_with fail
    go_ret
    exact ⟨rfl, hg1⟩
end Go.Proofs.Ytjlnhijabdkagaa
