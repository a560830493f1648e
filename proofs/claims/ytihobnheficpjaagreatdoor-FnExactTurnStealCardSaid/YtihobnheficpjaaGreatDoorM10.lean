/- Walks: the drawn reader: spec.l6Open, (*l6Rd).pick. · Walks: spec.l6Open. · Walks: spec.l91Row. · Walks: spec.l91Node. -/
import Derived.Test.YtihobnheficpjaaGreatDoorM05
import Derived.Test.YtihobnheficpjaaGreatDoorM01
import Derived.Test.YtihobnheficpjaaGreatDoorM08
import Derived.Deep.RegionHeld3
import Derived.Deep.AppendLies
import Derived.Deep.RegionLaw
import Derived.Deep.DeepCutAuto
namespace Go.Proofs.YtihobnheficpjaaGreatDoor
open Go.RowKit

/-- A slice of n bytes that lies below block B0. -/
def Bytes (w : World) (B0 : Nat) (v : Value) (n : Nat) : Prop :=
  ∃ A c, v = .slice A n c ∧ n ≤ c ∧ (0 < n → ∃ ad, A = some ad ∧ ad.block < B0 ∧ ∀ j, j < n → ∃ b : Int, 0 ≤ b ∧ b ≤ 255 ∧ w.cell? (ad.add j) = some (.int .u8 b))
/-- The reader at block rb: its bytes lie below B0, it has been asked p times. -/
def Rdr (B0 : Nat) (w : World) (rb : Nat) (p : Int) : Prop :=
  ∃ bv n, n ≤ 2000 ∧ Blk w rb 106 #[bv, .int .i64 p] ∧ B0 ≤ rb ∧ B0 ≤ w.heap.size ∧ Bytes w B0 bv n
theorem Bytes.kept {w w' : World} {B0 n : Nat} {v : Value} {row : Option Nat} (h : Bytes w B0 v n) (hg : w.grownBy w' row) (hB : B0 ≤ w.heap.size) (hr : ∀ g, row = some g → B0 ≤ g) : Bytes w' B0 v n := by
  obtain ⟨A, c, h1, h2, h3⟩ := h
  refine ⟨A, c, h1, h2, fun hn => ?_⟩
  obtain ⟨ad, hA, hb, hc⟩ := h3 hn
  refine ⟨ad, hA, hb, fun j hj => ?_⟩
  obtain ⟨b, h4, h5, h6⟩ := hc j hj
  have hbl := block_add ad j
  exact ⟨b, h4, h5, (gb_cell hg (by omega) (fun e => by have := hr _ e; omega)).trans h6⟩
theorem Rdr.kept {B0 rb : Nat} {w w' : World} {p : Int} {row : Option Nat} (h : Rdr B0 w rb p) (hg : w.grownBy w' row) (hr : ∀ g, row = some g → B0 ≤ g ∧ g ≠ rb) : Rdr B0 w' rb p := by
  obtain ⟨bv, n, h1, h2, h3, h4, h5⟩ := h
  exact ⟨bv, n, h1, h2.grown hg (fun e => (hr _ e.symm).2 rfl), h3, Nat.le_trans h4 hg.size, h5.kept hg h4 (fun g e => (hr g e).1)⟩
theorem Rdr.new {B0 rb : Nat} {w w' : World} {p : Int} (h : Rdr B0 w rb p) (hg : w.grownBy w' none) : Rdr B0 w' rb p := h.kept hg (fun _ e => by cases e)
theorem Rdr.blk {B0 rb : Nat} {w : World} {p : Int} (h : Rdr B0 w rb p) : ∃ bv, Blk w rb 106 #[bv, .int .i64 p] := let ⟨bv, _, _, h2, _⟩ := h; ⟨bv, h2⟩
theorem Rdr.notE {B0 rb : Nat} {w : World} {p : Int} {E : TypeId} (h : Rdr B0 w rb p) (hE : E ≠ 106) : NotE w E (some rb) := by
  obtain ⟨bv, hb⟩ := h.blk
  exact NotE.blk hb hE
theorem Rdr.lt {B0 rb : Nat} {w : World} {p : Int} (h : Rdr B0 w rb p) : rb < w.heap.size := by
  obtain ⟨bv, hb⟩ := h.blk
  exact hb.lt
theorem Rdr.le {B0 rb : Nat} {w : World} {p : Int} (h : Rdr B0 w rb p) : B0 ≤ rb := by
  obtain ⟨_, _, _, _, h3, _⟩ := h
  exact h3
theorem Rdr.own {B0 rb base size n : Nat} {w w' : World} {p : Int} {E : TypeId} {v : Value} {xs : List Value} (h : Rdr B0 w rb p) (ho : w.ownsRow base E size v n xs) (hE : E ≠ 106) (hb : B0 ≤ base) (hg : w.grownBy w' v.ownBlock) : Rdr B0 w' rb p := by
  refine h.kept hg (fun g e => ⟨Nat.le_trans hb (ho.lt g e).1, fun hgr => ?_⟩)
  obtain ⟨bv, hbk⟩ := h.blk
  exact NotE.own ho (Ne.symm hE) g e _ (hgr ▸ hbk)
theorem Rdr.drewN {B0 rb : Nat} {w : World} {p : Int} (h : Rdr B0 w rb p) (k : Nat) : Rdr B0 (w.drewN k) rb p := h
theorem xor_nonneg (x y : Int) (hx : 0 ≤ x) (hx' : x < 9223372036854775808) (hy : 0 ≤ y) (hy' : y < 9223372036854775808) : 0 ≤ bits .xor .i64 x y := by
  obtain ⟨a, rfl⟩ := Int.eq_ofNat_of_zero_le hx
  obtain ⟨b, rfl⟩ := Int.eq_ofNat_of_zero_le hy
  have ofInt_i64 : ∀ a : Nat, a < 9223372036854775808 → (BitVec.ofInt 64 (a : Int)).toNat = a := fun a ha => by
    rw [BitVec.ofInt_natCast, BitVec.toNat_ofNat]; exact Nat.mod_eq_of_lt (by omega)
  have hx : a ^^^ b < 2 ^ 63 := Nat.xor_lt_two_pow (by omega) (by omega)
  show 0 ≤ IntKind.i64.wrap ((BitVec.ofInt 64 (a : Int) ^^^ BitVec.ofInt 64 (b : Int)).toNat : Int)
  rw [BitVec.toNat_xor, ofInt_i64 a (by omega), ofInt_i64 b (by omega), IntKind.wrap_i64]
  omega
/-- What a call of pick(n) leaves. -/
def PickPost (B0 rb : Nat) (w : World) (p n : Int) (e : Ending) (w' : World) : Prop :=
  ∃ r : Int, e = .returned (.int .i64 r) ∧ (1 ≤ n → 0 ≤ r ∧ r < n) ∧ (n < 1 → r = 0) ∧ Rdr B0 w' rb (p + 1) ∧ w.grownBy w' (some rb)

set_option maxHeartbeats 400000 in
theorem pick_any (B0 rb : Nat) (p n : Int) (w : World) (h : Rdr B0 w rb p) (hp0 : 0 ≤ p) (hp : p ≤ 1000000) :
    Calls Tryz.prog 48 #[.pointer (some ⟨rb, 0, none⟩), .int .i64 n] w (PickPost B0 rb w p n) := by
  obtain ⟨bv, m, hm, hb, hB, hBs, hby⟩ := h
  have hby' : Bytes (w.setCell ⟨rb, 1, none⟩ (.int .i64 (p + 1))) B0 bv m := hby.kept (gb_set (gb_refl w (some rb)) (.inr rfl) _) hBs (fun g e => by cases e; exact hB)
  have hb' : Blk (w.setCell ⟨rb, 1, none⟩ (.int .i64 (p + 1))) rb 106 #[bv, .int .i64 (p + 1)] := hb.set_ 1 _
  have hR : Hid (Rdr B0 (w.setCell ⟨rb, 1, none⟩ (.int .i64 (p + 1))) rb (p + 1)) := ⟨bv, m, hm, hb', hB, by simpa using hBs, hby'⟩
  have hG : Hid (w.grownBy (w.setCell ⟨rb, 1, none⟩ (.int .i64 (p + 1))) (some rb)) := gb_set (gb_refl w (some rb)) (.inr rfl) _
  have c0 : w.cell? ⟨rb, 0, none⟩ = some bv := hb.cell 0
  have c1 : w.cell? ⟨rb, 1, none⟩ = some (.int .i64 p) := hb.cell 1
  have f1 : w.frozen? ⟨rb, 1, none⟩ = false := hb.frozen 1
  obtain ⟨A, c, rfl, hmc, hcells⟩ := hby'
  clear hby hb hb'
  by_cases hn : n < 1
  · go_enter Tryz.func48, Tryz.ntmps48
    go_wp2_with fail
    go_ret
    exact ⟨0, rfl, by omega, fun _ => rfl, hR.out, hG.out⟩
  · by_cases hm0 : m = 0
    · subst hm0
      go_enter Tryz.func48, Tryz.ntmps48
      go_wp2_with fail
      go_ret
      exact ⟨0, rfl, fun _ => by omega, fun _ => rfl, hR.out, hG.out⟩
    · obtain ⟨ad, rfl, hadB, hc⟩ := hcells (by omega)
      by_cases hk : p < m
      · obtain ⟨q, rfl⟩ := Int.eq_ofNat_of_zero_le hp0
        obtain ⟨b, hb0, hb1, hcell⟩ := hc q (by omega)
        go_enter Tryz.func48, Tryz.ntmps48
        go_wp2_with fail
        go_ret
        refine ⟨_, rfl, fun _ => ?_, fun _ => by omega, hR.out, hG.out⟩
        exact ⟨Int.emod_nonneg _ (by omega), Int.emod_lt_of_pos _ (by omega)⟩
      · obtain ⟨q, rfl⟩ := Int.eq_ofNat_of_zero_le hp0
        obtain ⟨b, hb0, hb1, hcell⟩ := hc (q % m) (Nat.mod_lt _ (by omega))
        obtain ⟨b', hb0', hb1', hcell'⟩ := hc ((q * 7 + 3) % m) (Nat.mod_lt _ (by omega))
        have a1 : (0 : Int) ≤ (q : Int) % (m : Int) := Int.emod_nonneg _ (by omega)
        have a2 : (q : Int) % (m : Int) < (m : Int) := Int.emod_lt_of_pos _ (by omega)
        have a3 : (0 : Int) ≤ ((q : Int) * 7 + 3) % (m : Int) := Int.emod_nonneg _ (by omega)
        have a4 : ((q : Int) * 7 + 3) % (m : Int) < (m : Int) := Int.emod_lt_of_pos _ (by omega)
        have a5 : (0 : Int) ≤ (q : Int) / (m : Int) := Int.ediv_nonneg (by omega) (by omega)
        have a6 : (q : Int) / (m : Int) ≤ (q : Int) := Int.ediv_le_self _ (by omega)
        go_enter Tryz.func48, Tryz.ntmps48
        go_wp2_with fail
        go_quiet (fail)
        go_wp2_with fail
        go_ret
        refine ⟨_, rfl, fun _ => ?_, fun _ => by omega, hR.out.drewN _, gb_drewN hG.out _⟩
        have hx := xor_nonneg (b * 131 + b' * 1117 + (q : Int) * 29 + (q : Int) / (m : Int) * 53) ((b * 131 + b' * 1117 + (q : Int) * 29 + (q : Int) / (m : Int) * 53) / 64) (by omega) (by omega) (by omega) (by omega)
        exact ⟨Int.tmod_nonneg _ hx, Int.tmod_lt_of_pos _ (by omega)⟩
end Go.Proofs.YtihobnheficpjaaGreatDoor
namespace Go.Proofs.YtihobnheficpjaaGreatDoor
open Go.RowKit

def OpenPost (w : World) (e : Ending) (w' : World) : Prop :=
  ∃ rb : Nat, e = .returned (.pointer (some ⟨rb, 0, none⟩)) ∧ Rdr w.heap.size w' rb 0 ∧ w.grownBy w' none

theorem l6Open_any (w : World) (v : Value) (n : Nat) (h : Bytes w w.heap.size v n) (hn : n ≤ 1048576) :
    Calls Tryz.prog 46 #[v] w (OpenPost w) := by
  obtain ⟨A, c, rfl, hnc, hcells⟩ := h
  have key : ∀ k : Nat, k ≤ n → k ≤ 2000 → ∀ A' c', A' = A → k ≤ c' → OpenPost w (.returned (.pointer (some ⟨w.heap.size, 0, none⟩))) (w.alloc (.cells #[.slice A' k c', .int .i64 0] 106)) := by
    intro k hk hk2 A' c' hA hc'
    subst hA
    refine ⟨_, rfl, ⟨_, k, hk2, Blk.new w _ _, Nat.le_refl _, by simp, A', c', rfl, hc', fun hk0 => ?_⟩, gb_alloc (gb_refl w none) _⟩
    obtain ⟨ad, hA, hb, hc⟩ := hcells (by omega)
    refine ⟨ad, hA, hb, fun j hj => ?_⟩
    obtain ⟨b, h1, h2, h3⟩ := hc j (by omega)
    exact ⟨b, h1, h2, (World.cell?_alloc_lt _ _ _ (by rw [block_add]; exact hb)).trans h3⟩
  have Key := Lib.hid key
  clear key
  by_cases hlt : (2000 : Int) < n
  · go_enter Tryz.func46, Tryz.ntmps46
    go_wp2_with fail
    go_ret
    exact Key.out 2000 (by omega) (by omega) A c rfl (by omega)
  · go_enter Tryz.func46, Tryz.ntmps46
    go_wp2_with fail
    go_ret
    exact Key.out n (Nat.le_refl _) (by omega) A c rfl hnc
end Go.Proofs.YtihobnheficpjaaGreatDoor
namespace Go.Proofs.YtihobnheficpjaaGreatDoor
open Go.RowKit

def RowPost (B0 rb : Nat) (w : World) (p : Int) (n : Nat) (e : Ending) (w' : World) : Prop :=
  ∃ v l, e = .returned v ∧ RI w' v l ∧ l.length = n ∧ (∀ x ∈ l, -1 ≤ x ∧ x ≤ 1009) ∧ ∃ p', p ≤ p' ∧ p' ≤ p + 3 * n + 3 ∧ Rdr B0 w' rb p' ∧ w.grownBy w' (some rb)

set_option maxHeartbeats 400000 in
theorem l91Row_any (B0 rb : Nat) (p : Int) (n : Nat) (w : World) (h : Rdr B0 w rb p) (hp0 : 0 ≤ p) (hp : p ≤ 900000) (hn : n ≤ 20) :
    Calls Tryz.prog 144 #[.pointer (some ⟨rb, 0, none⟩), .int .i64 n] w (RowPost B0 rb w p n) := by
  have hB : B0 ≤ w.heap.size := by obtain ⟨_, _, _, _, _, h4, _⟩ := h; exact h4
  go_enter Tryz.func144, Tryz.ntmps144
  go_wp2_with fail
  go_loopw [5, 6] (fun v i wr => ∃ (k : Nat) (l : List Int) (q : Int), k ≤ n ∧ i = .int .i64 k ∧ OwnI wr w.heap.size v l ∧ l.length = k ∧ (∀ x ∈ l, -1 ≤ x ∧ x ≤ 1009) ∧
     p ≤ q ∧ q ≤ p + 3 * k ∧ Rdr B0 wr rb q ∧ w.grownBy wr (some rb)) (fun _ i _ => n - (intOf i).toNat)
  case atStart => exact ⟨0, [], p, by omega, rfl, OwnI.empty w (Nat.le_refl _), rfl, by simp, by omega, by omega, h.new (World.grownBy_alloc _ _ _), gb_alloc (gb_refl w _) _⟩
  case round =>
    obtain ⟨k, l, q, hk, rfl, hown, hl, hin, hq1, hq2, hrd, hg⟩ := hrel
    have hl20 : l.length ≤ 20 := by omega
    have Hl := Lib.hid hl
    have Hin := Lib.hid hin
    clear hl hin
    by_cases hlt : k < n
    · go_wp2_with fail
      refine (pick_any B0 rb q _ _ hrd (by omega) (by omega)).mono ?_
      rintro e w1 ⟨r1, rfl, hr1, _, hrd1, hg1⟩
      go_wp2_with fail
      refine (pick_any B0 rb (q + 1) _ _ hrd1 (by omega) (by omega)).mono ?_
      rintro e w2 ⟨r2, rfl, hr2, _, hrd2, hg2⟩
      go_wp2_with fail
      refine (pick_any B0 rb _ _ _ (hrd2.new (World.grownBy_alloc _ _ _)) (by omega) (by omega)).mono ?_
      rintro e w3 ⟨r3, rfl, hr3, _, hrd3, hg3⟩
      have hb3 : Blk w3 w2.heap.size 3 #[.int .i64 r1, .int .i64 r2] := (Blk.new w2 _ _).grown hg3 (by
        have := hrd2.lt
        intro e
        cases e
        omega)
      have h3 := hr3 (by omega)
      have h1 := hr1 (by omega)
      have h2 := hr2 (by omega)
      obtain ⟨x, hx1, hx2, hcell⟩ : ∃ x : Int, -1 ≤ x ∧ x ≤ 1009 ∧ w3.cell? ⟨w2.heap.size, r3.toNat, none⟩ = some (.int .i64 x) := by
        rcases (show r3 = 0 ∨ r3 = 1 by omega) with rfl | rfl
        · exact ⟨r1, by omega, by omega, hb3.cell 0⟩
        · exact ⟨r2, by omega, by omega, hb3.cell 1⟩
      have hg03 : wr.grownBy w3 (some rb) := gb_trans (gb_trans hg1 (gb_trans hg2 (gb_alloc (gb_refl w2 _) _))) hg3
      have hown3 := hown.grown hg03 (hrd.notE (by decide))
      have hsz := (gb_trans hg hg03).size
      clear hb3 hg1 hg2 hg3 hrd1 hrd2 hown hr1 hr2 hr3
      go_wp2_with (at_builtin; go_must (refine wp_push_int (.tmp 13) (.tmp 23) rfl rfl hown3 (by omega) hsz rfl rfl ?_))
      intro v' w4 hown4 hg4
      go_wp2_with fail
      go_roundw
      case rel => 
        refine ⟨k + 1, l ++ [x], q + 1 + 1 + 1, by omega, by go_num, hown4, by simp [Hl.out], ?_, by omega, by omega, ?_, ?_⟩
        · intro y hy
          rcases List.mem_append.1 hy with hy | hy
          · exact Hin.out y hy
          · simp at hy; omega
        · exact hrd3.own hown3 (by decide) hB hg4
        · exact hown3.gb (gb_trans hg hg03) hg4 (Nat.le_refl _)
      case measure => simp [intOf]; omega
    · have hkn : k = n := by omega
      subst hkn
      by_cases hn0 : (0 : Int) < k
      · go_wp2_with fail
        refine (pick_any B0 rb q _ _ hrd (by omega) (by omega)).mono ?_
        rintro e w1 ⟨r1, rfl, hr1, _, hrd1, hg1⟩
        have hown1 := hown.grown hg1 (hrd.notE (by decide))
        by_cases hr0 : r1 = 0
        · subst hr0
          go_wp2_with fail
          refine (pick_any B0 rb _ _ _ hrd1 (by omega) (by omega)).mono ?_
          rintro e w2 ⟨r2, rfl, hr2, _, hrd2, hg2⟩
          go_wp2_with fail
          refine (pick_any B0 rb _ _ _ (hrd2.new (World.grownBy_alloc _ _ _)) (by omega) (by omega)).mono ?_
          rintro e w3 ⟨r3, rfl, hr3, _, hrd3, hg3⟩
          have hb3 : Blk w3 w2.heap.size 3 #[.int .i64 (-1), .int .i64 1008, .int .i64 1009] := (Blk.new w2 _ _).grown hg3 (by
            have := hrd2.lt
            intro e
            cases e
            omega)
          have h3 := hr3 (by omega)
          have h2 := hr2 (by omega)
          obtain ⟨x, hx1, hx2, hcell⟩ : ∃ x : Int, -1 ≤ x ∧ x ≤ 1009 ∧ w3.cell? ⟨w2.heap.size, r3.toNat, none⟩ = some (.int .i64 x) := by
            rcases (show r3 = 0 ∨ r3 = 1 ∨ r3 = 2 by omega) with rfl | rfl | rfl
            · exact ⟨_, by omega, by omega, hb3.cell 0⟩
            · exact ⟨_, by omega, by omega, hb3.cell 1⟩
            · exact ⟨_, by omega, by omega, hb3.cell 2⟩
          have hg13 : w1.grownBy w3 (some rb) := gb_trans (gb_trans hg2 (gb_alloc (gb_refl w2 _) _)) hg3
          have hown3 := hown1.grown hg13 (hrd1.notE (by decide))
          have hl' := Hl.out
          obtain ⟨g, cap, cur, rfl, hcap, hgb, hblk, hcs⟩ := hown3.form (by omega)
          have hlr : r2.toNat < l.length := by omega
          have hc2 := hcs r2.toNat l[r2.toNat] (List.getElem?_eq_getElem hlr)
          have hf2 := hblk.frozen r2.toNat
          have hgw : w.grownBy (w3.setCell ⟨g, r2.toNat, none⟩ (.int .i64 x)) (some rb) := gb_set (gb_trans (gb_trans hg hg1) hg13) (.inl hgb) _
          have hrd' : Rdr B0 (w3.setCell ⟨g, r2.toNat, none⟩ (.int .i64 x)) rb (q + 1 + 1 + 1) := hrd3.kept (gb_set (gb_refl w3 (some g)) (.inr rfl) _) (fun g' e => by
            cases e
            obtain ⟨bv, hbb⟩ := hrd3.blk
            exact ⟨by omega, hblk.ne_ hbb (by decide)⟩)
          have Hfin : Hid (RowPost B0 rb w p k (.returned (.slice (some ⟨g, 0, none⟩) l.length cap)) (w3.setCell ⟨g, r2.toNat, none⟩ (.int .i64 x))) := by
            refine ⟨_, l.set r2.toNat x, rfl, (hown3.set_ rfl r2.toNat x).ri, by simpa using hl', ?_, _, by omega, by omega, hrd', hgw⟩
            intro y hy
            rcases List.mem_or_eq_of_mem_set hy with hy | rfl
            · exact Hin.out y hy
            · exact ⟨hx1, hx2⟩
          clear hb3 hown3 hblk hcs hgw hrd' hl' hown1 hown
          go_wp2_with fail
          go_ret
          exact Hfin.out
        · go_wp2_with fail
          go_ret
          exact ⟨_, l, rfl, hown1.ri, Hl.out, Hin.out, _, by omega, by omega, hrd1, gb_trans hg hg1⟩
      · go_wp2_with fail
        go_ret
        exact ⟨_, l, rfl, hown.ri, Hl.out, Hin.out, _, by omega, by omega, hrd, hg⟩
end Go.Proofs.YtihobnheficpjaaGreatDoor
namespace Go.Proofs.YtihobnheficpjaaGreatDoor
open Go.RowKit

def NodePost (B0 rb : Nat) (w : World) (p : Int) (e : Ending) (w' : World) : Prop :=
  ∃ v nd, e = .returned v ∧ NV w' v nd ∧ nd.frm.length ≤ 2 ∧ nd.row.length ≤ 20 ∧ ∃ p', p ≤ p' ∧ p' ≤ p + 100 ∧ Rdr B0 w' rb p' ∧ w.grownBy w' (some rb)

/-- The node in the making lies in block xb, the result's cell in block R. -/
structure NodeMid (B0 rb xb R : Nat) (w wx : World) (kind : Int) (fv rv : Value) (frm row : List Int) (q : Int) : Prop where
  x : Blk wx xb 94 #[.int .i64 kind, fv, rv]
  f : OwnI wx w.heap.size fv frm
  r : RI wx rv row
  res : Blk wx R 94 #[.int .i64 0, .slice none 0 0, .slice none 0 0]
  ne : R ≠ xb
  rd : Rdr B0 wx rb q
  g : w.grownBy wx (some rb)
  xb : w.heap.size ≤ xb
  rbl : w.heap.size ≤ R
  hB : B0 ≤ w.heap.size

/-- A store into the node in the making. -/
theorem NodeMid.store {B0 rb xb R : Nat} {w wx : World} {kind kind' : Int} {fv rv fv' rv' : Value} {frm row frm' row' : List Int} {q : Int} (M : NodeMid B0 rb xb R w wx kind fv rv frm row q) (j : Nat) (u : Value)
    (hc : (#[.int .i64 kind, fv, rv] : Array Value).setIfInBounds j u = #[.int .i64 kind', fv', rv']) (hf : OwnI wx w.heap.size fv' frm') (hr : RI wx rv' row') :
    NodeMid B0 rb xb R w (wx.setCell ⟨xb, j, none⟩ u) kind' fv' rv' frm' row' q := by
  have hg : wx.grownBy (wx.setCell ⟨xb, j, none⟩ u) (some xb) := gb_set (gb_refl wx (some xb)) (.inr rfl) u
  have hn : NotE wx 3 (some xb) := NotE.blk M.x (by decide)
  refine ⟨by rw [← hc]; exact M.x.set_ j u, hf.grown hg hn, hr.grown hg hn, M.res.far M.ne u, M.ne, M.rd.kept hg ?_, gb_set M.g (.inl M.xb) u, M.xb, M.rbl, M.hB⟩
  intro g e
  cases e
  obtain ⟨bv, hb⟩ := M.rd.blk
  exact ⟨Nat.le_trans M.hB M.xb, M.x.ne_ hb (by decide)⟩

/-- A call that may turn the reader's block alone. -/
theorem NodeMid.call {B0 rb xb R : Nat} {w wx wy : World} {kind : Int} {fv rv : Value} {frm row : List Int} {q q' : Int} (M : NodeMid B0 rb xb R w wx kind fv rv frm row q) (hg : wx.grownBy wy (some rb)) (hrd : Rdr B0 wy rb q') :
    NodeMid B0 rb xb R w wy kind fv rv frm row q' := by
  have ne : ∀ {g : Nat} {cs : Array Value}, Blk wx g 94 cs → some g ≠ some rb := fun hb e => by
    obtain ⟨bv, hbb⟩ := M.rd.blk
    cases e
    exact hb.ne_ hbb (by decide) rfl
  exact ⟨M.x.grown hg (ne M.x), M.f.grown hg (M.rd.notE (by decide)), M.r.grown hg (M.rd.notE (by decide)), M.res.grown hg (ne M.res), M.ne, hrd, gb_trans M.g hg, M.xb, M.rbl, M.hB⟩

theorem NodeMid.drew {B0 rb xb R : Nat} {w wx : World} {kind : Int} {fv rv : Value} {frm row : List Int} {q : Int} (M : NodeMid B0 rb xb R w wx kind fv rv frm row q) : NodeMid B0 rb xb R w wx.drew kind fv rv frm row q :=
  ⟨M.x, M.f, M.r, M.res, M.ne, M.rd, gb_drew M.g, M.xb, M.rbl, M.hB⟩

theorem NodeMid.alloc {B0 rb xb R : Nat} {w wx : World} {kind : Int} {fv rv : Value} {frm row : List Int} {q : Int} (M : NodeMid B0 rb xb R w wx kind fv rv frm row q) (o : Obj) : NodeMid B0 rb xb R w (wx.alloc o) kind fv rv frm row q :=
  M.call (gb_alloc (gb_refl wx _) o) (M.rd.new (World.grownBy_alloc _ _ _))
/-- Behind an append onto the node's From, and its store. -/
theorem NodeMid.push {B0 rb xb R : Nat} {w wx wy : World} {kind : Int} {fv rv : Value} {frm frm' : List Int} {q : Int} (M : NodeMid B0 rb xb R w wx kind fv rv frm [] q) (hg : wx.grownBy wy fv.ownBlock) {v' : Value} (ho : OwnI wy w.heap.size v' frm') :
    wy.cell? ⟨xb, 1, none⟩ = some fv ∧ wy.frozen? ⟨xb, 1, none⟩ = false ∧ NodeMid B0 rb xb R w (wy.setCell ⟨xb, 1, none⟩ v') kind v' rv frm' [] q := by
  have hne : ∀ {g : Nat} {cs : Array Value}, Blk wx g 94 cs → some g ≠ fv.ownBlock := fun hb e => M.f.notE (by decide) _ e.symm _ hb
  have hrd : Rdr B0 wy rb q := M.rd.own M.f (by decide) M.hB hg
  have hx := M.x.grown hg (hne M.x)
  have hst : wy.grownBy (wy.setCell ⟨xb, 1, none⟩ v') (some xb) := gb_set (gb_refl wy (some xb)) (.inr rfl) _
  refine ⟨hx.cell 1, hx.frozen 1, hx.set_ 1 v', ho.grown hst (NotE.blk hx (by decide)), M.r.empty _, (M.res.grown hg (hne M.res)).far M.ne _, M.ne, ?_, gb_set (M.f.gb M.g hg (Nat.le_refl _)) (.inl M.xb) _, M.xb, M.rbl, M.hB⟩
  refine hrd.kept hst ?_
  intro g e
  cases e
  obtain ⟨bv, hb⟩ := hrd.blk
  exact ⟨Nat.le_trans M.hB M.xb, hx.ne_ hb (by decide)⟩

set_option maxHeartbeats 400000 in
set_option maxRecDepth 20000 in
theorem l91Node_any (B0 rb : Nat) (p : Int) (at_ : Int) (n : Nat) (w : World) (h : Rdr B0 w rb p) (hp0 : 0 ≤ p) (hp : p ≤ 800000) (hn : n ≤ 20) :
    Calls Tryz.prog 143 #[.pointer (some ⟨rb, 0, none⟩), .int .i64 at_, .int .i64 n] w (NodePost B0 rb w p) := by
  have hB : B0 ≤ w.heap.size := by obtain ⟨_, _, _, _, _, h4, _⟩ := h; exact h4
  go_enter Tryz.func143, Tryz.ntmps143
  go_wp2_with fail
  refine (pick_any B0 rb p _ _ (h.new (World.grownBy_alloc _ _ _)) (by omega) (by omega)).mono ?_
  rintro e w1 ⟨r1, rfl, hr1, _, hrd1, hg1⟩
  have h1 := hr1 (by omega)
  have hres := (Blk.new w 94 #[.int .i64 0, .slice none 0 0, .slice none 0 0]).grown hg1 (by have := h.lt; intro e; cases e; omega)
  have hsz := hg1.size
  simp only [World.size_alloc] at hsz
  have hg01 : w.grownBy w1 (some rb) := gb_trans (gb_alloc (gb_refl w _) _) hg1
  have M : NodeMid B0 rb (w1.heap.size + 1 + 1) w.heap.size w (((w1.alloc (.cells #[] 3)).alloc (.cells #[] 3)).alloc (.cells #[.int .i64 r1, .slice (some ⟨w1.heap.size, 0, none⟩) 0 0, .slice (some ⟨w1.heap.size + 1, 0, none⟩) 0 0] 94)) r1
      (.slice (some ⟨w1.heap.size, 0, none⟩) 0 0) (.slice (some ⟨w1.heap.size + 1, 0, none⟩) 0 0) [] [] (p + 1) := by
    refine ⟨?_, ?_, ?_, ?_, by omega, ?_, ?_, by omega, by omega, hB⟩
    · have := Blk.new ((w1.alloc (.cells #[] 3)).alloc (.cells #[] 3)) 94 #[.int .i64 r1, .slice (some ⟨w1.heap.size, 0, none⟩) 0 0, .slice (some ⟨w1.heap.size + 1, 0, none⟩) 0 0]
      simpa using this
    · exact ((OwnI.empty w1 (by omega)).alloc _).alloc _
    · have := ((OwnI.empty (base := 0) (w1.alloc (.cells #[] 3)) (by omega)).alloc (.cells #[.int .i64 r1, .slice (some ⟨w1.heap.size, 0, none⟩) 0 0, .slice (some ⟨w1.heap.size + 1, 0, none⟩) 0 0] 94)).ri
      simpa using this
    · exact ((hres.alloc _).alloc _).alloc _
    · exact ((hrd1.new (World.grownBy_alloc _ _ _)).new (World.grownBy_alloc _ _ _)).new (World.grownBy_alloc _ _ _)
    · exact gb_alloc (gb_alloc (gb_alloc hg01 _) _) _
  clear hres hr1
  go_upto_if 15 with fail
  generalize (((w1.alloc (.cells #[] 3)).alloc (.cells #[] 3)).alloc (.cells #[.int .i64 r1, .slice (some ⟨w1.heap.size, 0, none⟩) 0 0, .slice (some ⟨w1.heap.size + 1, 0, none⟩) 0 0] 94)) = wa at M ⊢
  go_cut [] (fun wx => ∃ (kind : Int) (fv rv : Value), 0 ≤ kind ∧ kind ≤ 5 ∧ NodeMid B0 rb (w1.heap.size + 1 + 1) w.heap.size w wx kind fv rv [] [] (p + 1))
  case first =>
    by_cases hat : at_ = 0
    · have c0 := M.x.cell 0
      have f0 := M.x.frozen 0
      have M0 := M.store 0 (.int .i64 0) rfl M.f M.r
      go_wp2_with fail
      go_meet
      exact ⟨0, _, _, by omega, by omega, M0⟩
    · go_wp2_with fail
      go_meet
      exact ⟨r1, _, _, by omega, by omega, M⟩
  case rest =>
    obtain ⟨kind, fv, rv, hk0, hk5, M⟩ := hcut
    generalize w1.heap.size + 1 + 1 = xb at M ⊢
    have c0 : wc.cell? ⟨xb, 0, none⟩ = some (.int .i64 kind) := M.x.cell 0
    go_upto_if 19 with fail
    clear c0
    go_cut [] (fun wx => ∃ (rv : Value) (row : List Int) (q : Int), row.length ≤ 20 ∧ (kind ≠ 0 → row = []) ∧ p + 1 ≤ q ∧ q ≤ p + 70 ∧ NodeMid B0 rb xb w.heap.size w wx kind fv rv [] row q)
    case first =>
      by_cases hk : kind = 0
      · go_wp2_with fail
        refine (l91Row_any B0 rb _ n _ M.rd (by omega) (by omega) hn).mono ?_
        rintro e w2 ⟨v, row, rfl, hri, hl, _, q, hq1, hq2, hrd2, hg2⟩
        have hl20 : row.length ≤ 20 := by omega
        clear hl
        obtain ⟨A, m, c, rfl⟩ := hri.val
        have M2 := M.call hg2 hrd2
        have c2 := M2.x.cell 2
        have f2 := M2.x.frozen 2
        have M3 := M2.store 2 _ rfl M2.f hri
        clear M M2
        go_wp2_with fail
        go_meet
        exact ⟨_, row, q, hl20, by omega, by omega, by omega, M3⟩
      · go_wp2_with fail
        go_meet
        exact ⟨_, _, _, by simp, fun _ => rfl, by omega, by omega, M⟩
    case rest =>
      clear M
      obtain ⟨rv, row, q, hrow, hkr, hq1, hq2, M⟩ := hcut
      have Hkr := Lib.hid hkr
      clear hkr
      have hkn := kindNeeds_le kind
      have hkn0 : 0 ≤ kindNeeds kind := kindNeeds_nonneg hk0 hk5
      go_wp2_with fail
      go_loopw [8] (fun i wr => ∃ (k : Nat) (fv : Value) (frm : List Int) (q' : Int), (k : Int) ≤ kindNeeds kind ∧ i = .int .i64 k ∧ frm.length = k ∧ q ≤ q' ∧ q' ≤ q + k ∧ NodeMid B0 rb xb w.heap.size w wr kind fv rv frm row q') (fun i _ => (kindNeeds kind - intOf i).toNat)
      case atStart => exact ⟨0, fv, [], q, by omega, rfl, rfl, by omega, by omega, M⟩
      case round =>
        clear M
        obtain ⟨k, fv, frm, q', hk, rfl, hl, hq3, hq4, M⟩ := hrel
        have hl2 : frm.length ≤ 2 := by omega
        have Hl := Lib.hid hl
        clear hl
        have c0 : wr.cell? ⟨xb, 0, none⟩ = some (.int .i64 kind) := M.x.cell 0
        by_cases hlt : (k : Int) < kindNeeds kind
        · have hrow0 : row = [] := Hkr.out (by rintro rfl; simp [kindNeeds] at hlt; omega)
          subst hrow0
          go_wp2_with fail
          refine (specKindNeeds_any _ _).mono ?_
          rintro e w2 ⟨rfl, rfl⟩
          go_wp2_with fail
          have c1 : wr.cell? ⟨xb, 1, none⟩ = some fv := M.x.cell 1
          have MD : NodeMid B0 rb xb w.heap.size w wr.drew kind fv rv frm [] q' := M.drew
          have k1 : wr.drew.cell? ⟨xb, 1, none⟩ = some fv := M.x.cell 1
          go_region_law (first
            | (refine step_push_int (.tmp 32) (.tmp 36) rfl rfl M2.f (by omega) M2.g.size rfl rfl ?_; intro v' w4 hown4 hg4; obtain ⟨A4, n4, c4, rfl⟩ := hown4.ri.val; obtain ⟨k2, k3, M4⟩ := M2.push hg4 hown4)
            | (go_simp; go_at_call 48; refine (pick_any B0 rb _ _ _ MD.rd (by omega) (by omega)).mono ?_; rintro e w2 ⟨r2, rfl, hr2, _, hrd2, hg2⟩; have M2 := MD.call hg2 hrd2; have k1 : w2.cell? ⟨xb, 1, none⟩ = some fv := M2.x.cell 1; have k1b : (w2.alloc (.cells #[.int .i64 r2] 3)).cell? ⟨xb, 1, none⟩ = some fv := (M2.alloc _).x.cell 1))
          all_goals
            go_wp2_with fail
            go_roundw
            case rel => exact ⟨k + 1, _, frm ++ [r2], q' + 1, by omega, by go_num, by simp [Hl.out], by omega, by omega, M4⟩
            case measure => simp [intOf]; omega
        · have hfri := M.f.ri
          have hrri := M.r
          obtain ⟨Af, nf, cf, rfl⟩ := hfri.val
          obtain ⟨Ar, nr, cr, rfl⟩ := hrri.val
          go_wp2_with fail
          refine (specKindNeeds_any _ _).mono ?_
          rintro e w2 ⟨rfl, rfl⟩
          have c1 : wr.cell? ⟨xb, 1, none⟩ = some (.slice Af nf cf) := M.x.cell 1
          have c2 : wr.cell? ⟨xb, 2, none⟩ = some (.slice Ar nr cr) := M.x.cell 2
          have d0 := M.res.cell 0
          have d1 := M.res.cell 1
          have d2 := M.res.cell 2
          have f0 := M.res.frozen 0
          have f1 := M.res.frozen 1
          have f2 := M.res.frozen 2
          go_wp2_with fail
          refine bodyPost_ret (v := .agg #[.int .i64 kind, .slice Af nf cf, .slice Ar nr cr]) (by simp [results, Tryz.results143, go_sem, d0, d1, d2]) rfl ?_
          have hst := gb_set3 wr w.heap.size (.int .i64 kind) (.slice Af nf cf) (.slice Ar nr cr)
          have hne : NotE wr 3 (some w.heap.size) := NotE.blk M.res (by decide)
          refine ⟨_, ⟨kind, frm, row⟩, rfl, ⟨_, _, rfl, hfri.grown hst hne, hrri.grown hst hne⟩, hl2, hrow, q', by omega, by omega, M.rd.kept hst ?_, gb_new M.g hst (fun g e => by cases e; exact .inl (Nat.le_refl _))⟩
          intro g e
          cases e
          obtain ⟨bv, hb⟩ := M.rd.blk
          exact ⟨hB, M.res.ne_ hb (by decide)⟩
end Go.Proofs.YtihobnheficpjaaGreatDoor
