/- Walks: the graph of a plan: needsAlready, link. -/
import Derived.Test.YthampfkicnakgaaGreatDoorA3Mem
import Derived.LaidEqlPtr
namespace Go.Proofs.YthampfkicnakgaaGreatDoor
open Go.RowKit

def ptrs (B : Nat → Nat) (l : List Nat) : List Value := l.map (fun j => Value.pointer (some ⟨B j, 0, none⟩))

/-- Rows of pointers to nodes, no two in one block. -/
structure Rws (w : World) (base m : Nat) (B : Nat → Nat) (R : Nat → Value × List Nat) : Prop where
  rows : ∀ a, a < m → w.ownsRow base 154 1 (R a).1 (R a).2.length (ptrs B (R a).2)
  apart : ∀ a b, a < m → b < m → a ≠ b → (R a).1.ownBlock = none ∨ (R a).1.ownBlock ≠ (R b).1.ownBlock
theorem Rws.grown {w w' : World} {base m : Nat} {B : Nat → Nat} {R : Nat → Value × List Nat} {row : Option Nat} (h : Rws w base m B R) (hg : w.grownBy w' row) (hr : NotE w 154 row) : Rws w' base m B R :=
  ⟨fun a ha => own_grown (h.rows a ha) hg hr, h.apart⟩
theorem Rws.push {w w' : World} {base m N a j : Nat} {B : Nat → Nat} {R : Nat → Value × List Nat} {v' : Value} (h : Rws w base m B R) (ha : a < m) (hg : w.grownBy w' (R a).1.ownBlock)
    (ho : w'.ownsRow base 154 1 v' ((R a).2.length + 1) (ptrs B (R a).2 ++ [.pointer (some ⟨B j, 0, none⟩)])) (hN : w.heap.size ≤ N) (hob : v'.ownBlock = (R a).1.ownBlock ∨ v'.ownBlock = some N) :
    Rws w' base m B (upd R a (v', (R a).2 ++ [j])) := by
  constructor
  · intro b hb
    by_cases hba : b = a
    · subst hba
      rw [upd_same]
      simpa [ptrs] using ho
    · rw [upd_other _ _ hba]
      refine (h.rows b hb).kept hg ?_
      rcases h.apart b a hb ha hba with h1 | h1
      · exact .inl h1
      · exact .inr h1
  · intro b c hb hc hbc
    have old : ∀ d, d < m → d ≠ a → (R d).1.ownBlock = none ∨ ((R d).1.ownBlock ≠ v'.ownBlock ∧ (v'.ownBlock = none ∨ v'.ownBlock ≠ (R d).1.ownBlock)) := by
      intro d hd hda
      rcases h.apart d a hd ha hda with h1 | h1
      · exact .inl h1
      · right
        rcases hob with h2 | h2
        · rw [h2]; exact ⟨h1, .inr (fun e => h1 e.symm)⟩
        · have hlt := (h.rows d hd).lt
          have : (R d).1.ownBlock ≠ some N := fun e => by have := (hlt N e).2; omega
          rw [h2]
          exact ⟨this, .inr (fun e => this e.symm)⟩
    by_cases hba : b = a
    · subst hba
      rw [upd_same, upd_other _ _ (fun e => hbc e.symm)]
      show v'.ownBlock = none ∨ v'.ownBlock ≠ (R c).1.ownBlock
      rcases old c hc (fun e => hbc e.symm) with h1 | h1
      · rw [h1]
        cases h2 : v'.ownBlock
        · exact .inl rfl
        · exact .inr (by simp)
      · exact h1.2
    · rw [upd_other _ _ hba]
      by_cases hca : c = a
      · subst hca
        rw [upd_same]
        rcases old b hb hba with h1 | h1
        · exact .inl h1
        · exact .inr h1.1
      · rw [upd_other _ _ hca]
        exact h.apart b c hb hc hbc

/-- The nodes 0 .. k-1 lie in blocks B 0 .., node i's needs are row 2i+1, its users row 2i+2; row 0 is the graph's own list. -/
structure Gr (w : World) (base k : Nat) (B : Nat → Nat) (R : Nat → Value × List Nat) : Prop where
  blk : ∀ i, i < k → Blk w (B i) 156 #[.int .i64 (i : Nat), (R (2 * i + 1)).1, (R (2 * i + 2)).1]
  inj : ∀ i j, i < k → j < k → B i = B j → i = j
  low : ∀ i, i < k → base ≤ B i
  rw_ : Rws w base (2 * k + 1) B R
  mem : ∀ a, a < 2 * k + 1 → ∀ j ∈ (R a).2, j < k
  len : ∀ a, (R a).2.length ≤ 1000
  rest : ∀ a, 2 * k + 1 ≤ a → R a = (.slice none 0 0, [])
  base_le : base ≤ w.heap.size
theorem Gr.grown {w w' : World} {base k : Nat} {B : Nat → Nat} {R : Nat → Value × List Nat} {row : Option Nat} (h : Gr w base k B R) (hg : w.grownBy w' row) (h1 : NotE w 154 row) (h2 : NotE w 156 row) : Gr w' base k B R :=
  ⟨fun i hi => (h.blk i hi).grown hg (fun e => h2 _ e.symm _ (h.blk i hi)), h.inj, h.low, h.rw_.grown hg h1, h.mem, h.len, h.rest, Nat.le_trans h.base_le hg.size⟩
theorem Gr.new {w w' : World} {base k : Nat} {B : Nat → Nat} {R : Nat → Value × List Nat} (h : Gr w base k B R) (hg : w.grownBy w' none) : Gr w' base k B R := h.grown hg (NotE.none _ _) (NotE.none _ _)
theorem Gr.alloc {w : World} {base k : Nat} {B : Nat → Nat} {R : Nat → Value × List Nat} (h : Gr w base k B R) (o : Obj) : Gr (w.alloc o) base k B R := h.new (World.grownBy_alloc w o none)
theorem Gr.rowLt {w : World} {base k a : Nat} {B : Nat → Nat} {R : Nat → Value × List Nat} (h : Gr w base k B R) (ha : a < 2 * k + 1) : ∀ g, (R a).1.ownBlock = some g → base ≤ g ∧ g < w.heap.size := (h.rw_.rows a ha).lt
theorem Gr.form {w : World} {base k a : Nat} {B : Nat → Nat} {R : Nat → Value × List Nat} (h : Gr w base k B R) (ha : a < 2 * k + 1) : ∃ A c, (R a).1 = .slice A (R a).2.length c ∧
    (0 < (R a).2.length → ∃ g, A = some ⟨g, 0, none⟩ ∧ ∀ j f, (R a).2[j]? = some f → w.cell? ⟨g, j, none⟩ = some (.pointer (some ⟨B f, 0, none⟩))) := by
  have hr := h.rw_.rows a ha
  rcases hr.2 with ⟨h1, h2⟩ | ⟨g, cap, cur, h1, _, hh, _, _, _, ht⟩
  · refine ⟨none, 0, by rw [h1, h2], fun h0 => ?_⟩
    omega
  · refine ⟨some ⟨g, 0, none⟩, cap, h1, fun _ => ⟨g, rfl, fun j f hj => ?_⟩⟩
    have hlt := (List.getElem?_eq_some_iff.1 hj).1
    rw [h1] at hr
    rw [World.ownsRow.cellAt hr j (by omega)]
    simp [ptrs, hj]
/-- A node's row is appended to, and stored in its cell. -/
theorem Gr.pushN {w w' : World} {base k i c N j : Nat} {B : Nat → Nat} {R : Nat → Value × List Nat} {v' : Value} (h : Gr w base k B R) (hi : i < k) (hc : c = 1 ∨ c = 2) (hj : j < k) (hl : (R (2 * i + c)).2.length < 1000) (hg : w.grownBy w' (R (2 * i + c)).1.ownBlock)
    (ho : w'.ownsRow base 154 1 v' ((R (2 * i + c)).2.length + 1) (ptrs B (R (2 * i + c)).2 ++ [.pointer (some ⟨B j, 0, none⟩)])) (hN : w.heap.size ≤ N) (hob : v'.ownBlock = (R (2 * i + c)).1.ownBlock ∨ v'.ownBlock = some N) :
    Blk w' (B i) 156 #[.int .i64 (i : Nat), (R (2 * i + 1)).1, (R (2 * i + 2)).1] ∧ Gr (w'.setCell ⟨B i, c, none⟩ v') base k B (upd R (2 * i + c) (v', (R (2 * i + c)).2 ++ [j])) := by
  have ha : 2 * i + c < 2 * k + 1 := by omega
  have hbn : ∀ i', i' < k → some (B i') ≠ (R (2 * i + c)).1.ownBlock := fun i' hi' e => NotE.own (h.rw_.rows _ ha) (show 156 ≠ 154 by decide) _ e.symm _ (h.blk i' hi')
  have hb' : ∀ i', i' < k → Blk w' (B i') 156 #[.int .i64 (i' : Nat), (R (2 * i' + 1)).1, (R (2 * i' + 2)).1] := fun i' hi' => (h.blk i' hi').grown hg (hbn i' hi')
  have hst : w'.grownBy (w'.setCell ⟨B i, c, none⟩ v') (some (B i)) := gb_set (p := ⟨B i, c, none⟩) (gb_refl w' (some (B i))) (.inr rfl) v'
  refine ⟨hb' i hi, ?_, h.inj, h.low, (h.rw_.push ha hg ho hN hob).grown hst (NotE.blk (hb' i hi) (by decide)), ?_, ?_, ?_, ?_⟩
  · intro i' hi'
    by_cases hii : i' = i
    · subst hii
      have := (hb' i' hi).set_ c v'
      rcases hc with rfl | rfl
      · rw [upd_same, upd_other _ _ (by omega)]; exact this
      · rw [upd_same, upd_other _ _ (by omega)]; exact this
    · rw [upd_other _ _ (by omega), upd_other _ _ (by omega)]
      exact (hb' i' hi').far (fun e => hii (h.inj _ _ hi' hi e)) _
  · intro a haa x hx
    by_cases hae : a = 2 * i + c
    · subst hae
      rw [upd_same] at hx
      rcases List.mem_append.1 hx with hx | hx
      · exact h.mem _ ha x hx
      · simp at hx; omega
    · rw [upd_other _ _ hae] at hx
      exact h.mem a haa x hx
  · intro a
    by_cases hae : a = 2 * i + c
    · subst hae
      rw [upd_same, List.length_append]
      simp
      omega
    · rw [upd_other _ _ hae]
      exact h.len a
  · intro a haa
    rw [upd_other _ _ (by omega)]
    exact h.rest a haa
  · rw [World.size_setCell]
    exact Nat.le_trans h.base_le hg.size

theorem infoPtr : (Tryz.prog.info? 154).map (fun i => (i.zero, i.size, i.bytes)) = some (some (.pointer none), 1, 8) := by kernel_rfl
theorem infoPN : (Tryz.prog.info? 156).map (fun i => (i.zero, i.size, i.bytes)) = some (some (.agg #[.int .i64 0, .slice none 0 0, .slice none 0 0]), 3, 56) := by kernel_rfl
theorem eqPtr {w : World} {base k i j : Nat} {B : Nat → Nat} {R : Nat → Value × List Nat} (h : Gr w base k B R) (hi : i < k) (hj : j < k) :
    (binOp .eql 154 (.pointer (some ⟨B i, 0, none⟩)) (.pointer (some ⟨B j, 0, none⟩))).run Tryz.prog w = .ok (.bool (decide (i = j))) w := by
  obtain ⟨i0, hi0, _, hz1, _⟩ := info_parts infoPN
  by_cases hij : i = j
  · subst hij
    rw [decide_eq_true rfl]
    exact run_eql_ptr_same w _ Tryz.underlying154 hi0
  · rw [decide_eq_false hij]
    exact run_eql_ptr_other w Tryz.underlying154 hi0 (by rw [hz1]; decide) (fun e => hij (h.inj i j hi hj (by injection e))) (h.blk i hi) (h.blk j hj)

theorem needsAlready_any {w : World} {base k n f : Nat} {B : Nat → Nat} {R : Nat → Value × List Nat} (h : Gr w base k B R) (hn : n < k) (hf : f < k) {b : Bool} (hb : decide (f ∈ (R (2 * n + 1)).2) = b) :
    Calls Tryz.prog 123 #[.pointer (some ⟨B n, 0, none⟩), .pointer (some ⟨B f, 0, none⟩)] w fun e w' => e = .returned (.bool b) ∧ w = w' := by
  obtain ⟨A, c, hA, hc⟩ := h.form (a := 2 * n + 1) (by omega)
  have hlen := h.len (2 * n + 1)
  have c1 : w.cell? ⟨B n, 1, none⟩ = some (R (2 * n + 1)).1 := (h.blk n hn).cell 1
  rw [hA] at c1
  have hmem := h.mem (2 * n + 1) (by omega)
  generalize (R (2 * n + 1)).2 = l at *
  have Hb := Lib.hid hb
  have Hmem := Lib.hid hmem
  clear hb hA hmem
  go_enter Tryz.func123, Tryz.ntmps123
  go_wp2_with fail
  go_loop [12] (fun i => ∃ k' : Nat, k' ≤ l.length ∧ i = .int .i64 k' ∧ (l.take k').all (fun x => decide (x ≠ f)) = true) (fun i => l.length - (intOf i).toNat)
  case atStart => exact ⟨0, Nat.zero_le _, rfl, rfl⟩
  case round =>
    obtain ⟨k', hk, rfl, hall⟩ := hrel
    have Hall := Lib.hid hall
    clear hall
    by_cases hlt : k' < l.length
    · obtain ⟨g, rfl, hcs⟩ := hc (by omega)
      have hx := List.getElem?_eq_getElem hlt
      have hcell := hcs k' _ hx
      have Hx := Lib.hid hx
      have hxk := Hmem.out _ (List.getElem_mem hlt)
      generalize l[k'] = x at *
      have he := eqPtr h hxk hf
      clear hcs hx
      by_cases hxf : x = f
      · have Hr : Hid (b = true) := by
          show b = true
          rw [← Hb.out, decide_eq_true_eq, ← hxf]
          exact List.mem_of_getElem? Hx.out
        rw [decide_eq_true hxf] at he
        clear hxf
        go_wp2_with fail
        go_ret
        exact ⟨by rw [Hr.out]; rfl, rfl⟩
      · have Hxf := Lib.hid hxf
        rw [decide_eq_false hxf] at he
        clear hxf
        go_wp2_with fail
        go_round
        case rel => exact ⟨k' + 1, by omega, by go_num, by rw [all_snoc _ Hx.out, Hall.out]; simp [Hxf.out]⟩
        case measure => simp [intOf]; omega
    · have Hr : Hid (b = false) := by
        show b = false
        rw [← Hb.out, decide_eq_false_iff_not]
        have h1 := Hall.out
        rw [List.take_of_length_le (by omega)] at h1
        intro hm
        simpa using List.all_eq_true.1 h1 f hm
      go_wp2_with fail
      go_ret
      exact ⟨by rw [Hr.out]; rfl, rfl⟩
end Go.Proofs.YthampfkicnakgaaGreatDoor
