/- Walks: the drawn reader: spec.l6Open, (*l6Rd).pick. · Walks: spec.l6Open. -/
import Derived.Test.YthampfkicnakgaaGreatDoorA1Base
import Derived.Test.YthampfkicnakgaaGreatDoorA2Pure
namespace Go.Proofs.YthampfkicnakgaaGreatDoor
open Go.RowKit

/-- A slice of n bytes that lies below block B0. -/
def Bytes (w : World) (B0 : Nat) (v : Value) (n : Nat) : Prop :=
  ∃ A c, v = .slice A n c ∧ n ≤ c ∧ (0 < n → ∃ ad, A = some ad ∧ ad.block < B0 ∧ ∀ j, j < n → ∃ b : Int, 0 ≤ b ∧ b ≤ 255 ∧ w.cell? (ad.add j) = some (.int .u8 b))
/-- The reader at block rb: its bytes lie below B0, it has been asked p times. -/
def Rdr (B0 : Nat) (w : World) (rb : Nat) (p : Int) : Prop :=
  ∃ bv n, n ≤ 2000 ∧ Blk w rb 81 #[bv, .int .i64 p] ∧ B0 ≤ rb ∧ B0 ≤ w.heap.size ∧ Bytes w B0 bv n
theorem Bytes.kept {w w' : World} {B0 n : Nat} {v : Value} {row : Option Nat} (h : Bytes w B0 v n) (hg : w.grownBy w' row) (hB : B0 ≤ w.heap.size) (hr : ∀ g, row = some g → B0 ≤ g) : Bytes w' B0 v n := by
  obtain ⟨A, c, h1, h2, h3⟩ := h
  refine ⟨A, c, h1, h2, fun hn => ?_⟩
  obtain ⟨ad, hA, hb, hc⟩ := h3 hn
  refine ⟨ad, hA, hb, fun j hj => ?_⟩
  obtain ⟨b, h4, h5, h6⟩ := hc j hj
  have hbl := block_add ad j
  exact ⟨b, h4, h5, (gb_cell hg (by omega) (fun e => by have := hr _ e; omega)).trans h6⟩
theorem Rdr.kept {B0 rb : Nat} {w w' : World} {p : Int} {row : Option Nat} (h : Rdr B0 w rb p) (hg : w.grownBy w' row) (hr : ∀ g, row = some g → B0 ≤ g ∧ g ≠ rb) : Rdr B0 w' rb p := by
  obtain ⟨bv, n, h1, h2, h3, h4, h5⟩ := h
  exact ⟨bv, n, h1, h2.grown hg (fun e => (hr _ e.symm).2 rfl), h3, Nat.le_trans h4 hg.size, h5.kept hg h4 (fun g e => (hr g e).1)⟩
theorem Rdr.new {B0 rb : Nat} {w w' : World} {p : Int} (h : Rdr B0 w rb p) (hg : w.grownBy w' none) : Rdr B0 w' rb p := h.kept hg (fun _ e => by cases e)
theorem Rdr.blk {B0 rb : Nat} {w : World} {p : Int} (h : Rdr B0 w rb p) : ∃ bv, Blk w rb 81 #[bv, .int .i64 p] := let ⟨bv, _, _, h2, _⟩ := h; ⟨bv, h2⟩
theorem Rdr.notE {B0 rb : Nat} {w : World} {p : Int} {E : TypeId} (h : Rdr B0 w rb p) (hE : E ≠ 81) : NotE w E (some rb) := by
  obtain ⟨bv, hb⟩ := h.blk
  exact NotE.blk hb hE
theorem Rdr.lt {B0 rb : Nat} {w : World} {p : Int} (h : Rdr B0 w rb p) : rb < w.heap.size := by
  obtain ⟨bv, hb⟩ := h.blk
  exact hb.lt
theorem Rdr.le {B0 rb : Nat} {w : World} {p : Int} (h : Rdr B0 w rb p) : B0 ≤ rb := by
  obtain ⟨_, _, _, _, h3, _⟩ := h
  exact h3
theorem Rdr.own {B0 rb base size n : Nat} {w w' : World} {p : Int} {E : TypeId} {v : Value} {xs : List Value} (h : Rdr B0 w rb p) (ho : w.ownsRow base E size v n xs) (hE : E ≠ 81) (hb : B0 ≤ base) (hg : w.grownBy w' v.ownBlock) : Rdr B0 w' rb p := by
  refine h.kept hg (fun g e => ⟨Nat.le_trans hb (ho.lt g e).1, fun hgr => ?_⟩)
  obtain ⟨bv, hbk⟩ := h.blk
  exact NotE.own ho (Ne.symm hE) g e _ (hgr ▸ hbk)
theorem Rdr.drewN {B0 rb : Nat} {w : World} {p : Int} (h : Rdr B0 w rb p) (k : Nat) : Rdr B0 (w.drewN k) rb p := h
theorem xor_nonneg (x y : Int) (hx : 0 ≤ x) (hx' : x < 9223372036854775808) (hy : 0 ≤ y) (hy' : y < 9223372036854775808) : 0 ≤ bits .xor .i64 x y := by
  obtain ⟨a, rfl⟩ := Int.eq_ofNat_of_zero_le hx
  obtain ⟨b, rfl⟩ := Int.eq_ofNat_of_zero_le hy
  have ofInt_i64 : ∀ a : Nat, a < 9223372036854775808 → (BitVec.ofInt 64 (a : Int)).toNat = a := fun a ha => by
    rw [BitVec.ofInt_natCast, BitVec.toNat_ofNat]; exact Nat.mod_eq_of_lt (by omega)
  have hx : a ^^^ b < 2 ^ 63 := Nat.xor_lt_two_pow (by omega) (by omega)
  show 0 ≤ IntKind.i64.wrap ((BitVec.ofInt 64 (a : Int) ^^^ BitVec.ofInt 64 (b : Int)).toNat : Int)
  rw [BitVec.toNat_xor, ofInt_i64 a (by omega), ofInt_i64 b (by omega), IntKind.wrap_i64]
  omega
/-- What a call of pick(n) leaves. -/
def PickPost (B0 rb : Nat) (w : World) (p n : Int) (e : Ending) (w' : World) : Prop :=
  ∃ r : Int, e = .returned (.int .i64 r) ∧ (1 ≤ n → 0 ≤ r ∧ r < n) ∧ (n < 1 → r = 0) ∧ Rdr B0 w' rb (p + 1) ∧ w.grownBy w' (some rb)

set_option maxHeartbeats 400000 in
theorem pick_any (B0 rb : Nat) (p n : Int) (w : World) (h : Rdr B0 w rb p) (hp0 : 0 ≤ p) (hp : p ≤ 1000000) :
    Calls Tryz.prog 23 #[.pointer (some ⟨rb, 0, none⟩), .int .i64 n] w (PickPost B0 rb w p n) := by
  obtain ⟨bv, m, hm, hb, hB, hBs, hby⟩ := h
  have hby' : Bytes (w.setCell ⟨rb, 1, none⟩ (.int .i64 (p + 1))) B0 bv m := hby.kept (gb_set (gb_refl w (some rb)) (.inr rfl) _) hBs (fun g e => by cases e; exact hB)
  have hb' : Blk (w.setCell ⟨rb, 1, none⟩ (.int .i64 (p + 1))) rb 81 #[bv, .int .i64 (p + 1)] := hb.set_ 1 _
  have hR : Hid (Rdr B0 (w.setCell ⟨rb, 1, none⟩ (.int .i64 (p + 1))) rb (p + 1)) := ⟨bv, m, hm, hb', hB, by simpa using hBs, hby'⟩
  have hG : Hid (w.grownBy (w.setCell ⟨rb, 1, none⟩ (.int .i64 (p + 1))) (some rb)) := gb_set (gb_refl w (some rb)) (.inr rfl) _
  have c0 : w.cell? ⟨rb, 0, none⟩ = some bv := hb.cell 0
  have c1 : w.cell? ⟨rb, 1, none⟩ = some (.int .i64 p) := hb.cell 1
  have f1 : w.frozen? ⟨rb, 1, none⟩ = false := hb.frozen 1
  obtain ⟨A, c, rfl, hmc, hcells⟩ := hby'
  clear hby hb hb'
  by_cases hn : n < 1
  · go_enter Tryz.func23, Tryz.ntmps23
    go_wp2_with fail
    go_ret
    exact ⟨0, rfl, by omega, fun _ => rfl, hR.out, hG.out⟩
  · by_cases hm0 : m = 0
    · subst hm0
      go_enter Tryz.func23, Tryz.ntmps23
      go_wp2_with fail
      go_ret
      exact ⟨0, rfl, fun _ => by omega, fun _ => rfl, hR.out, hG.out⟩
    · obtain ⟨ad, rfl, hadB, hc⟩ := hcells (by omega)
      by_cases hk : p < m
      · obtain ⟨q, rfl⟩ := Int.eq_ofNat_of_zero_le hp0
        obtain ⟨b, hb0, hb1, hcell⟩ := hc q (by omega)
        go_enter Tryz.func23, Tryz.ntmps23
        go_wp2_with fail
        go_ret
        refine ⟨_, rfl, fun _ => ?_, fun _ => by omega, hR.out, hG.out⟩
        exact ⟨Int.emod_nonneg _ (by omega), Int.emod_lt_of_pos _ (by omega)⟩
      · obtain ⟨q, rfl⟩ := Int.eq_ofNat_of_zero_le hp0
        obtain ⟨b, hb0, hb1, hcell⟩ := hc (q % m) (Nat.mod_lt _ (by omega))
        obtain ⟨b', hb0', hb1', hcell'⟩ := hc ((q * 7 + 3) % m) (Nat.mod_lt _ (by omega))
        have a1 : (0 : Int) ≤ (q : Int) % (m : Int) := Int.emod_nonneg _ (by omega)
        have a2 : (q : Int) % (m : Int) < (m : Int) := Int.emod_lt_of_pos _ (by omega)
        have a3 : (0 : Int) ≤ ((q : Int) * 7 + 3) % (m : Int) := Int.emod_nonneg _ (by omega)
        have a4 : ((q : Int) * 7 + 3) % (m : Int) < (m : Int) := Int.emod_lt_of_pos _ (by omega)
        have a5 : (0 : Int) ≤ (q : Int) / (m : Int) := Int.ediv_nonneg (by omega) (by omega)
        have a6 : (q : Int) / (m : Int) ≤ (q : Int) := Int.ediv_le_self _ (by omega)
        go_enter Tryz.func23, Tryz.ntmps23
        go_wp2_with fail
        go_quiet (fail)
        go_wp2_with fail
        go_ret
        refine ⟨_, rfl, fun _ => ?_, fun _ => by omega, hR.out.drewN _, gb_drewN hG.out _⟩
        have hx := xor_nonneg (b * 131 + b' * 1117 + (q : Int) * 29 + (q : Int) / (m : Int) * 53) ((b * 131 + b' * 1117 + (q : Int) * 29 + (q : Int) / (m : Int) * 53) / 64) (by omega) (by omega) (by omega) (by omega)
        exact ⟨Int.tmod_nonneg _ hx, Int.tmod_lt_of_pos _ (by omega)⟩
end Go.Proofs.YthampfkicnakgaaGreatDoor
namespace Go.Proofs.YthampfkicnakgaaGreatDoor
open Go.RowKit

def OpenPost (w : World) (e : Ending) (w' : World) : Prop :=
  ∃ rb : Nat, e = .returned (.pointer (some ⟨rb, 0, none⟩)) ∧ Rdr w.heap.size w' rb 0 ∧ w.grownBy w' none

theorem l6Open_any (w : World) (v : Value) (n : Nat) (h : Bytes w w.heap.size v n) (hn : n ≤ 1048576) :
    Calls Tryz.prog 20 #[v] w (OpenPost w) := by
  obtain ⟨A, c, rfl, hnc, hcells⟩ := h
  have key : ∀ k : Nat, k ≤ n → k ≤ 2000 → ∀ A' c', A' = A → k ≤ c' → OpenPost w (.returned (.pointer (some ⟨w.heap.size, 0, none⟩))) (w.alloc (.cells #[.slice A' k c', .int .i64 0] 81)) := by
    intro k hk hk2 A' c' hA hc'
    subst hA
    refine ⟨_, rfl, ⟨_, k, hk2, Blk.new w _ _, Nat.le_refl _, by simp, A', c', rfl, hc', fun hk0 => ?_⟩, gb_alloc (gb_refl w none) _⟩
    obtain ⟨ad, hA, hb, hc⟩ := hcells (by omega)
    refine ⟨ad, hA, hb, fun j hj => ?_⟩
    obtain ⟨b, h1, h2, h3⟩ := hc j (by omega)
    exact ⟨b, h1, h2, (World.cell?_alloc_lt _ _ _ (by rw [block_add]; exact hb)).trans h3⟩
  have Key := Lib.hid key
  clear key
  by_cases hlt : (2000 : Int) < n
  · go_enter Tryz.func20, Tryz.ntmps20
    go_wp2_with fail
    go_ret
    exact Key.out 2000 (by omega) (by omega) A c rfl (by omega)
  · go_enter Tryz.func20, Tryz.ntmps20
    go_wp2_with fail
    go_ret
    exact Key.out n (Nat.le_refl _) (by omega) A c rfl hnc
end Go.Proofs.YthampfkicnakgaaGreatDoor
