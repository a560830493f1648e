/- Walks: laws.FnCacheFind. -/
import Derived.Test.YtjlnhijabdkagaaT2Draw
namespace Go.Proofs.Ytjlnhijabdkagaa
open Go.RowKit

set_option maxHeartbeats 800000 in
set_option maxRecDepth 20000 in
theorem fnCacheFind_any (w : World) (v : Value) (n : Nat) (h : Bytes w w.heap.size v n) (hn : n ≤ 9223372036854775807) :
    Calls Try.prog 13 #[v] w fun e w' => e = .returned (.bool true) ∧ w.grownBy w' none := by
  obtain ⟨A, c, rfl, h2⟩ := id h
  have H := Lib.hid h
  clear h h2
  by_cases hbig : 1048576 < n
  · go_enter Try.func13, Try.ntmps13
    go_wp2_with fail
    go_ret
    exact ⟨rfl, gb_refl _ _⟩
  · go_enter Try.func13, Try.ntmps13
    go_wp2_with fail
    refine (drawCacheFind_any _ _ n H.out (by omega)).mono ?_
    rintro e w1 ⟨lv, rv, kind, es, rows, rfl, hre, hl4, hrl, hg1⟩
    have hre1 := hre
    have hrl1 := hrl
    obtain ⟨A2, n2, c2, rfl⟩ := hre.val
    obtain ⟨A3, n3, c3, rfl⟩ := hrl.val
    clear hre hrl
    go_wp2_with fail
    refine (implCacheFind_any _ _ es kind rows _ hre1 hrl1).mono ?_
    rintro e w2 ⟨v2, rfl, ho2, hg2⟩
    have hre2 := hre1.new hg2
    have hrl2 := hrl1.new hg2
    have hg12 := gb_trans hg1 hg2
    have hi2 := ho2.ri
    obtain ⟨A4, n4, c4, rfl⟩ := hi2.val
    clear ho2 hre1 hrl1 hg1 hg2
    cases hf : cacheFind es kind rows with
    | none =>
      have Hf := Lib.hid hf
      rw [hf] at hi2
      clear hf
      go_wp2_with fail
      refine (specCacheFind_any _ _ es kind rows _ hre2 hrl2).mono ?_
      rw [Hf.out]
      rintro e w3 ⟨v3, rfl, ho3, hg3⟩
      have hi3 := ho3.ri
      have hi23 := hi2.new hg3
      have hg13 := gb_trans hg12 hg3
      obtain ⟨A5, n5, c5, rfl⟩ := hi3.val
      go_wp2_with fail
      refine (sameRow_b _ _ _ _ _ hi23 hi3 (c := true) (by simp)).mono ?_
      rintro e w4 ⟨rfl, hg4⟩
      go_wp2_with fail
      refine (sameRow_b _ _ _ _ _ (hi23.new hg4) (hi3.new hg4) (c := true) (by simp)).mono ?_
      rintro e w5 ⟨rfl, hg5⟩
      go_wp2_with fail
      go_ret
      exact ⟨rfl, gb_trans (gb_trans hg13 hg4) hg5⟩
    | some out =>
      have Hf := Lib.hid hf
      have hfr := find_right hf
      have Hv := Lib.hid hfr.1
      have Hk := Lib.hid hfr.2
      rw [hf] at hi2
      have hi2 : RI w2 (.slice A4 n4 c4) out := hi2
      clear hf hfr
      go_wp2_with fail
      refine (specCacheFind_any _ _ es kind rows _ hre2 hrl2).mono ?_
      rw [Hf.out]
      rintro e w3 ⟨v3, rfl, ho3, hg3⟩
      have hi3 : RI w3 v3 out := ho3.ri
      have hi23 := hi2.new hg3
      have hg13 := gb_trans hg12 hg3
      obtain ⟨A5, n5, c5, rfl⟩ := hi3.val
      go_wp2_with fail
      refine (sameRow_b _ _ _ _ _ hi23 hi3 (c := true) (by simp)).mono ?_
      rintro e w4 ⟨rfl, hg4⟩
      have hi24 := hi23.new hg4
      have hre4 := (hre2.new hg3).new hg4
      have hrl4 := (hrl2.new hg3).new hg4
      have hg14 := gb_trans hg13 hg4
      go_wp2_with fail
      refine (implKindRun_any _ _ rows _ hrl4).mono ?_
      rw [Hk.out]
      rintro e w5 ⟨v5, rfl, ho5, hg5⟩
      have hi5 : RI w5 v5 out := ho5.ri
      have hi25 := hi24.new hg5
      have hre5 := hre4.new hg5
      have hg15 := gb_trans hg14 hg5
      obtain ⟨A6, n6, c6, rfl⟩ := hi5.val
      go_wp2_with fail
      refine (sameRow_b _ _ _ _ _ hi5 hi25 (c := true) (by simp)).mono ?_
      rintro e w6 ⟨rfl, hg6⟩
      go_wp2_with fail
      refine (implCacheValid_b _ es _ (hre5.new hg6) Hv.out).mono ?_
      rintro e w7 ⟨rfl, hg7⟩
      go_wp2_with fail
      go_ret
      exact ⟨rfl, gb_trans (gb_trans hg15 hg6) hg7⟩
end Go.Proofs.Ytjlnhijabdkagaa
