/- Walks: spec.l6Dec. -/
import Derived.Test.YthampfkicnakgaaGreatDoorB3Open
import Derived.Test.YthampfkicnakgaaGreatDoorA20Text
import Derived.Test.YthampfkicnakgaaGreatDoorA3Mem
import Derived.Deep.RegionHeld3
import Derived.Laws.BytesArg
import Derived.Lib.ItoaLen
import Derived.Deep.RegionLaw
namespace Go.Proofs.YthampfkicnakgaaGreatDoor
open Go.RowKit

/-- 'string([]byte{x})'. -/
theorem conv_one (w : World) (g c : Nat) (x : Int) (hc : w.cell? ⟨g, 0, none⟩ = some (.int .u8 x)) : (convert 22 9 (.slice (some ⟨g, 0, none⟩) 1 c)).run Tryz.prog w = .ok (.string (bstr [UInt8.ofNat x.toNat])) w := by
  have h := run_convert_bytes_arg (P := Tryz.prog) w 22 5 Tryz.underlying22 Tryz.underlying5 g 0 1 c [x] rfl (fun i hi => by
    obtain rfl : i = 0 := by omega
    exact hc) 9 Tryz.underlying9
  exact h
attribute [go_sem] conv_one
theorem dec_len {n : Nat} (h : n ≤ 1000000000) : (Lib.decDigits n).length ≤ 20 := by
  rw [Lib.decDigits_length]
  exact Lib.nDigits_le20 n (by omega)
theorem no_long {a b : List UInt8} (h : a.length + b.length ≤ 9223372036854775807) : ¬ (9223372036854775807 < (bstr a).size + (bstr b).size) := by
  rw [bstr_size, bstr_size]
  omega
def StrOut (w : World) (l : List UInt8) (e : Ending) (w' : World) : Prop := e = .returned (.string (bstr l)) ∧ w.grownBy w' none
set_option maxRecDepth 20000 in
set_option maxHeartbeats 400000 in
theorem l6Dec_any (n : Nat) : ∀ (w : World) (z : Int), z = n → n ≤ 1000000 → Calls Tryz.prog 42 #[.int .i64 z] w (StrOut w (Lib.decDigits n)) := by
  induction n using Nat.strongRecOn with
  | _ n ih =>
    intro w z hz hn
    have hz0 : 0 ≤ z := by omega
    have hz1 : z ≤ 1000000 := by omega
    have Hz := Lib.hid hz
    by_cases h : z < 10
    · have hd : Hid (Lib.decDigits n = [UInt8.ofNat (48 + n)]) := dec_small (by omega)
      clear ih hz hn
      go_enter Tryz.func42, Tryz.ntmps42
      go_wp2_with fail
      go_ret
      refine ⟨?_, gb_alloc (gb_refl w none) _⟩
      rw [hd.out, show 48 + n = (48 + z).toNat by have := Hz.out; omega]
      rfl
    · have hd : Hid (Lib.decDigits n = Lib.decDigits (n / 10) ++ [UInt8.ofNat (48 + n % 10)]) := dec_big (by omega)
      have IH := Lib.hid (ih (n / 10) (by omega))
      obtain ⟨q, hq⟩ : ∃ q, Int.tdiv z 10 = q := ⟨_, rfl⟩
      obtain ⟨r, hr⟩ : ∃ r, Int.tmod z 10 = r := ⟨_, rfl⟩
      have hqn : q = ((n / 10 : Nat) : Int) := by rw [← hq, hz]; exact (Int.ofNat_tdiv n 10).symm
      have hrn : r = ((n % 10 : Nat) : Int) := by rw [← hr, hz]; exact (Int.ofNat_tmod n 10).symm
      have hq0 : 0 ≤ q := by omega
      have hq1 : q ≤ 1000000 := by omega
      have hr0 : 0 ≤ r := by omega
      have hr1 : r ≤ 9 := by omega
      have e1 : IntKind.i64.wrap q = q := IntWalk.i64_in _ (by omega)
      have e2 : IntKind.i64.wrap r = r := IntWalk.i64_in _ (by omega)
      have e3 : IntKind.i64.wrap (48 + r) = 48 + r := IntWalk.i64_in _ (by omega)
      have e4 : IntKind.u8.wrap (48 + r) = 48 + r := IntWalk.u8_in _ (by omega)
      have hsz : ¬ (9223372036854775807 < (bstr (Lib.decDigits (n / 10))).size + (bstr [UInt8.ofNat (48 + r).toNat]).size) := no_long (by
        have := dec_len (n := n / 10) (by omega)
        simp
        omega)
      have Hq := Lib.hid hqn
      have Hr := Lib.hid hrn
      have Hn := Lib.hid hn
      clear ih hz hn hqn hrn
      go_enter Tryz.func42, Tryz.ntmps42
      go_wp2_with fail
      have hgd := gb_drew (gb_refl w none)
      have B0 : Blk (w.alloc (.cells #[.int .u8 (48 + r)] 5)).drew w.heap.size 5 #[.int .u8 (48 + r)] := Blk.new w _ _
      have hga : w.grownBy (w.alloc (.cells #[.int .u8 (48 + r)] 5)).drew none := gb_drew (gb_alloc (gb_refl w none) _)
      go_region_law (first
        | (go_simp; go_at_call 42; refine (IH.out _ _ Hq.out (by have := Hn.out; omega)).mono ?_; rintro e' w3 ⟨rfl, hg3⟩; try (have k0 := (B0.grown hg3 (by simp)).cell 0)))
      all_goals
        go_wp2_with fail
        go_ret
        refine ⟨?_, by first | exact gb_alloc (gb_trans hgd hg3) _ | exact gb_trans hga hg3⟩
        rw [hd.out, ← bstr_append, show 48 + n % 10 = (48 + r).toNat by have := Hr.out; omega]
        rfl
end Go.Proofs.YthampfkicnakgaaGreatDoor
