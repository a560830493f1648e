/- Walks: laws.FnCacheSize. -/
import Derived.Test.YtjlnhijabdkagaaS13Same
import Derived.Test.YtjlnhijabdkagaaT2Draw
namespace Go.Proofs.Ytjlnhijabdkagaa
open Go.RowKit

set_option maxHeartbeats 1600000 in
set_option maxRecDepth 20000 in
theorem fnCacheSize_any (w : World) (v : Value) (n : Nat) (h : Bytes w w.heap.size v n) (hn : n ≤ 9223372036854775807) :
    Calls Try.prog 19 #[v] w fun e w' => e = .returned (.bool true) ∧ w.grownBy w' none := by
  obtain ⟨A, c, rfl, h2⟩ := id h
  have H := Lib.hid h
  clear h h2
  by_cases hbig : 1048576 < n
  · go_enter Try.func19, Try.ntmps19
    go_wp2_with fail
    go_ret
    exact ⟨rfl, gb_refl _ _⟩
  · go_enter Try.func19, Try.ntmps19
    go_wp2_with fail
    refine (drawCacheRun_any _ _ n H.out (by omega)).mono ?_
    rintro e w1 ⟨lv, rv, kind, es, rows, rfl, hre, hl4, hrl, hg1⟩
    have hre1 := hre
    have hrl1 := hrl
    obtain ⟨A2, n2, c2, rfl⟩ := hre.val
    obtain ⟨A3, n3, c3, rfl⟩ := hrl.val
    clear hre hrl
    go_wp2_with fail
    refine (implCacheRun_any _ _ es kind rows _ hre1 hrl1).mono ?_
    rintro e w2 ⟨v2, u2, rfl, ho2, hu2, hg2⟩
    have hre2 := hre1.new hg2
    have hrl2 := hrl1.new hg2
    have hg12 := gb_trans hg1 hg2
    have hi2 := ho2.re
    have hj2 := hu2.ri
    obtain ⟨A4, n4, c4, rfl⟩ := hi2.val
    obtain ⟨A5, n5, c5, rfl⟩ := hj2.val
    clear ho2 hu2 hre1 hrl1 hg1 hg2
    cases hf : cacheRun es kind rows with
    | none =>
      have Hf := Lib.hid hf
      rw [hf] at hi2 hj2
      clear hf
      go_wp2_with fail
      refine (specCacheRun_any _ _ es kind rows _ hre2 hrl2).mono ?_
      rw [Hf.out]
      rintro e w3 ⟨v3, u3, rfl, ho3, hu3, hg3⟩
      have hi3 := ho3.re
      have hj3 := hu3.ri
      have hi23 := hi2.new hg3
      have hj23 := hj2.new hg3
      have hg13 := gb_trans hg12 hg3
      obtain ⟨A6, n6, c6, rfl⟩ := hi3.val
      obtain ⟨A7, n7, c7, rfl⟩ := hj3.val
      go_wp2_with fail
      refine (sameRow_b _ _ _ _ _ hj23 hj3 (c := true) (by simp)).mono ?_
      rintro e w4 ⟨rfl, hg4⟩
      go_wp2_with fail
      refine (sameCache_b _ _ _ _ _ (hi23.new hg4) (hi3.new hg4) (c := true) (by simp)).mono ?_
      rintro e w5 ⟨rfl, hg5⟩
      have hg45 := gb_trans hg4 hg5
      go_wp2_with fail
      refine (sameRow_b _ _ _ _ _ (hj23.new hg45) (hj3.new hg45) (c := true) (by simp)).mono ?_
      rintro e w6 ⟨rfl, hg6⟩
      have hg46 := gb_trans hg45 hg6
      go_wp2_with fail
      refine (sameCache_b _ _ _ _ _ (hi23.new hg46) (hi3.new hg46) (c := true) (by simp)).mono ?_
      rintro e w7 ⟨rfl, hg7⟩
      go_wp2_with fail
      go_ret
      exact ⟨rfl, gb_trans (gb_trans hg13 hg46) hg7⟩
    | some r =>
      obtain ⟨nx, out, hit⟩ := r
      have Hf := Lib.hid hf
      obtain ⟨f1, f2, f3, f4, f5⟩ := run_some hf
      have Hv := Lib.hid f1
      have Hk : Hid (kindRun kind rows = some out) := f2
      have Hnx : Hid (nx = cacheNext es kind rows out) := f3
      have Hhit : Hid (hit = es.any (entIs kind rows)) := f4
      have Hv5 : Hid (cacheValid nx = true) := f5
      clear f1 f2 f3 f4 f5
      rw [hf] at hi2 hj2
      have hi2 : RE w2 (.slice A4 n4 c4) nx := hi2
      have hj2 : RI w2 (.slice A5 n5 c5) out := hj2
      clear hf
      go_wp2_with fail
      refine (specCacheRun_any _ _ es kind rows _ hre2 hrl2).mono ?_
      rw [Hf.out]
      rintro e w3 ⟨v3, u3, rfl, ho3, hu3, hg3⟩
      have hi3 : RE w3 v3 nx := ho3.re
      have hj3 : RI w3 u3 out := hu3.ri
      have hi23 := hi2.new hg3
      have hj23 := hj2.new hg3
      have hg13 := gb_trans hg12 hg3
      obtain ⟨A6, n6, c6, rfl⟩ := hi3.val
      obtain ⟨A7, n7, c7, rfl⟩ := hj3.val
      go_wp2_with fail
      refine (sameRow_b _ _ _ _ _ hj23 hj3 (c := true) (by simp)).mono ?_
      rintro e w4 ⟨rfl, hg4⟩
      go_wp2_with fail
      refine (sameCache_b _ _ _ _ _ (hi23.new hg4) (hi3.new hg4) (c := true) (by simp)).mono ?_
      rintro e w5 ⟨rfl, hg5⟩
      have hg45 := gb_trans hg4 hg5
      have hi5 := hi23.new hg45
      have hj5 := hj23.new hg45
      have hre5 := (hre2.new hg3).new hg45
      have hrl5 := (hrl2.new hg3).new hg45
      have hg15 := gb_trans hg13 hg45
      clear hi2 hj2 hi3 hj3 hi23 hj23 hre2 hrl2 hg3 hg4 hg5 hg45 hg12 hg13 ho3 hu3
      have hn4 : n4 = nx.length := hi5.len
      have hn2 : n2 = es.length := hre5.len
      have hl := next_len (k := kind) (rows := rows) (out := out) Hv.out
      rw [← Hnx.out, ← hn4, ← hn2, ← Hhit.out] at hl
      have hn2b : n2 ≤ 4 := by omega
      replace hl := Lib.hid hl
      clear hn4 hn2 Hhit Hnx Hf Hk
      cases hit with
      | true =>
        have hb : (((n4 : Nat) : Int) == ((n2 : Nat) : Int)) = true := by have := hl.out; simp at this ⊢; omega
        clear hl
        go_wp2_with fail
        go_ret
        exact ⟨rfl, hg15⟩
      | false =>
        by_cases h3 : n2 ≤ 3
        · have hb : (((n4 : Nat) : Int) == ((n2 : Nat) : Int) + 1) = true := by have := hl.out; simp at this ⊢; omega
          clear hl
          go_wp2_with fail
          go_ret
          exact ⟨rfl, hg15⟩
        · have hb : (((n4 : Nat) : Int) == 4) = true := by have := hl.out; simp at this ⊢; omega
          clear hl
          go_wp2_with fail
          go_ret
          exact ⟨rfl, hg15⟩
end Go.Proofs.Ytjlnhijabdkagaa
