/- Walks: the graph of a plan: needsAlready, link. · Walks: link. · Walks: graphOf, PlanValid. -/
import Derived.Test.YtihobnheficpjaaGreatDoorM05
import Derived.LaidEqlPtr
import Derived.Test.YtihobnheficpjaaGreatDoorM08
namespace Go.Proofs.YtihobnheficpjaaGreatDoor
open Go.RowKit

def ptrs (B : Nat → Nat) (l : List Nat) : List Value := l.map (fun j => Value.pointer (some ⟨B j, 0, none⟩))

/-- Rows of pointers to nodes, no two in one block. -/
structure Rws (w : World) (base m : Nat) (B : Nat → Nat) (R : Nat → Value × List Nat) : Prop where
  rows : ∀ a, a < m → w.ownsRow base 136 1 (R a).1 (R a).2.length (ptrs B (R a).2)
  apart : ∀ a b, a < m → b < m → a ≠ b → (R a).1.ownBlock = none ∨ (R a).1.ownBlock ≠ (R b).1.ownBlock
theorem Rws.grown {w w' : World} {base m : Nat} {B : Nat → Nat} {R : Nat → Value × List Nat} {row : Option Nat} (h : Rws w base m B R) (hg : w.grownBy w' row) (hr : NotE w 136 row) : Rws w' base m B R :=
  ⟨fun a ha => own_grown (h.rows a ha) hg hr, h.apart⟩
theorem Rws.push {w w' : World} {base m N a j : Nat} {B : Nat → Nat} {R : Nat → Value × List Nat} {v' : Value} (h : Rws w base m B R) (ha : a < m) (hg : w.grownBy w' (R a).1.ownBlock)
    (ho : w'.ownsRow base 136 1 v' ((R a).2.length + 1) (ptrs B (R a).2 ++ [.pointer (some ⟨B j, 0, none⟩)])) (hN : w.heap.size ≤ N) (hob : v'.ownBlock = (R a).1.ownBlock ∨ v'.ownBlock = some N) :
    Rws w' base m B (upd R a (v', (R a).2 ++ [j])) := by
  constructor
  · intro b hb
    by_cases hba : b = a
    · subst hba
      rw [upd_same]
      simpa [ptrs] using ho
    · rw [upd_other _ _ hba]
      refine (h.rows b hb).kept hg ?_
      rcases h.apart b a hb ha hba with h1 | h1
      · exact .inl h1
      · exact .inr h1
  · intro b c hb hc hbc
    have old : ∀ d, d < m → d ≠ a → (R d).1.ownBlock = none ∨ ((R d).1.ownBlock ≠ v'.ownBlock ∧ (v'.ownBlock = none ∨ v'.ownBlock ≠ (R d).1.ownBlock)) := by
      intro d hd hda
      rcases h.apart d a hd ha hda with h1 | h1
      · exact .inl h1
      · right
        rcases hob with h2 | h2
        · rw [h2]; exact ⟨h1, .inr (fun e => h1 e.symm)⟩
        · have hlt := (h.rows d hd).lt
          have : (R d).1.ownBlock ≠ some N := fun e => by have := (hlt N e).2; omega
          rw [h2]
          exact ⟨this, .inr (fun e => this e.symm)⟩
    by_cases hba : b = a
    · subst hba
      rw [upd_same, upd_other _ _ (fun e => hbc e.symm)]
      show v'.ownBlock = none ∨ v'.ownBlock ≠ (R c).1.ownBlock
      rcases old c hc (fun e => hbc e.symm) with h1 | h1
      · rw [h1]
        cases h2 : v'.ownBlock
        · exact .inl rfl
        · exact .inr (by simp)
      · exact h1.2
    · rw [upd_other _ _ hba]
      by_cases hca : c = a
      · subst hca
        rw [upd_same]
        rcases old b hb hba with h1 | h1
        · exact .inl h1
        · exact .inr h1.1
      · rw [upd_other _ _ hca]
        exact h.apart b c hb hc hbc

/-- The nodes 0 .. k-1 lie in blocks B 0 .., node i's needs are row 2i+1, its users row 2i+2; row 0 is the graph's own list. -/
structure Gr (w : World) (base k : Nat) (B : Nat → Nat) (R : Nat → Value × List Nat) : Prop where
  blk : ∀ i, i < k → Blk w (B i) 135 #[.int .i64 (i : Nat), (R (2 * i + 1)).1, (R (2 * i + 2)).1]
  inj : ∀ i j, i < k → j < k → B i = B j → i = j
  low : ∀ i, i < k → base ≤ B i
  rw_ : Rws w base (2 * k + 1) B R
  mem : ∀ a, a < 2 * k + 1 → ∀ j ∈ (R a).2, j < k
  len : ∀ a, (R a).2.length ≤ 1000
  rest : ∀ a, 2 * k + 1 ≤ a → R a = (.slice none 0 0, [])
  base_le : base ≤ w.heap.size
theorem Gr.grown {w w' : World} {base k : Nat} {B : Nat → Nat} {R : Nat → Value × List Nat} {row : Option Nat} (h : Gr w base k B R) (hg : w.grownBy w' row) (h1 : NotE w 136 row) (h2 : NotE w 135 row) : Gr w' base k B R :=
  ⟨fun i hi => (h.blk i hi).grown hg (fun e => h2 _ e.symm _ (h.blk i hi)), h.inj, h.low, h.rw_.grown hg h1, h.mem, h.len, h.rest, Nat.le_trans h.base_le hg.size⟩
theorem Gr.new {w w' : World} {base k : Nat} {B : Nat → Nat} {R : Nat → Value × List Nat} (h : Gr w base k B R) (hg : w.grownBy w' none) : Gr w' base k B R := h.grown hg (NotE.none _ _) (NotE.none _ _)
theorem Gr.alloc {w : World} {base k : Nat} {B : Nat → Nat} {R : Nat → Value × List Nat} (h : Gr w base k B R) (o : Obj) : Gr (w.alloc o) base k B R := h.new (World.grownBy_alloc w o none)
theorem Gr.rowLt {w : World} {base k a : Nat} {B : Nat → Nat} {R : Nat → Value × List Nat} (h : Gr w base k B R) (ha : a < 2 * k + 1) : ∀ g, (R a).1.ownBlock = some g → base ≤ g ∧ g < w.heap.size := (h.rw_.rows a ha).lt
theorem Gr.form {w : World} {base k a : Nat} {B : Nat → Nat} {R : Nat → Value × List Nat} (h : Gr w base k B R) (ha : a < 2 * k + 1) : ∃ A c, (R a).1 = .slice A (R a).2.length c ∧
    (0 < (R a).2.length → ∃ g, A = some ⟨g, 0, none⟩ ∧ ∀ j f, (R a).2[j]? = some f → w.cell? ⟨g, j, none⟩ = some (.pointer (some ⟨B f, 0, none⟩))) := by
  have hr := h.rw_.rows a ha
  rcases hr.2 with ⟨h1, h2⟩ | ⟨g, cap, cur, h1, _, hh, _, _, _, ht⟩
  · refine ⟨none, 0, by rw [h1, h2], fun h0 => ?_⟩
    omega
  · refine ⟨some ⟨g, 0, none⟩, cap, h1, fun _ => ⟨g, rfl, fun j f hj => ?_⟩⟩
    have hlt := (List.getElem?_eq_some_iff.1 hj).1
    rw [h1] at hr
    rw [World.ownsRow.cellAt hr j (by omega)]
    simp [ptrs, hj]
/-- A node's row is appended to, and stored in its cell. -/
theorem Gr.pushN {w w' : World} {base k i c N j : Nat} {B : Nat → Nat} {R : Nat → Value × List Nat} {v' : Value} (h : Gr w base k B R) (hi : i < k) (hc : c = 1 ∨ c = 2) (hj : j < k) (hl : (R (2 * i + c)).2.length < 1000) (hg : w.grownBy w' (R (2 * i + c)).1.ownBlock)
    (ho : w'.ownsRow base 136 1 v' ((R (2 * i + c)).2.length + 1) (ptrs B (R (2 * i + c)).2 ++ [.pointer (some ⟨B j, 0, none⟩)])) (hN : w.heap.size ≤ N) (hob : v'.ownBlock = (R (2 * i + c)).1.ownBlock ∨ v'.ownBlock = some N) :
    Blk w' (B i) 135 #[.int .i64 (i : Nat), (R (2 * i + 1)).1, (R (2 * i + 2)).1] ∧ Gr (w'.setCell ⟨B i, c, none⟩ v') base k B (upd R (2 * i + c) (v', (R (2 * i + c)).2 ++ [j])) := by
  have ha : 2 * i + c < 2 * k + 1 := by omega
  have hbn : ∀ i', i' < k → some (B i') ≠ (R (2 * i + c)).1.ownBlock := fun i' hi' e => NotE.own (h.rw_.rows _ ha) (show 135 ≠ 136 by decide) _ e.symm _ (h.blk i' hi')
  have hb' : ∀ i', i' < k → Blk w' (B i') 135 #[.int .i64 (i' : Nat), (R (2 * i' + 1)).1, (R (2 * i' + 2)).1] := fun i' hi' => (h.blk i' hi').grown hg (hbn i' hi')
  have hst : w'.grownBy (w'.setCell ⟨B i, c, none⟩ v') (some (B i)) := gb_set (p := ⟨B i, c, none⟩) (gb_refl w' (some (B i))) (.inr rfl) v'
  refine ⟨hb' i hi, ?_, h.inj, h.low, (h.rw_.push ha hg ho hN hob).grown hst (NotE.blk (hb' i hi) (by decide)), ?_, ?_, ?_, ?_⟩
  · intro i' hi'
    by_cases hii : i' = i
    · subst hii
      have := (hb' i' hi).set_ c v'
      rcases hc with rfl | rfl
      · rw [upd_same, upd_other _ _ (by omega)]; exact this
      · rw [upd_same, upd_other _ _ (by omega)]; exact this
    · rw [upd_other _ _ (by omega), upd_other _ _ (by omega)]
      exact (hb' i' hi').far (fun e => hii (h.inj _ _ hi' hi e)) _
  · intro a haa x hx
    by_cases hae : a = 2 * i + c
    · subst hae
      rw [upd_same] at hx
      rcases List.mem_append.1 hx with hx | hx
      · exact h.mem _ ha x hx
      · simp at hx; omega
    · rw [upd_other _ _ hae] at hx
      exact h.mem a haa x hx
  · intro a
    by_cases hae : a = 2 * i + c
    · subst hae
      rw [upd_same, List.length_append]
      simp
      omega
    · rw [upd_other _ _ hae]
      exact h.len a
  · intro a haa
    rw [upd_other _ _ (by omega)]
    exact h.rest a haa
  · rw [World.size_setCell]
    exact Nat.le_trans h.base_le hg.size

theorem infoPtr : (Tryz.prog.info? 136).map (fun i => (i.zero, i.size, i.bytes)) = some (some (.pointer none), 1, 8) := by kernel_rfl
theorem infoPN : (Tryz.prog.info? 135).map (fun i => (i.zero, i.size, i.bytes)) = some (some (.agg #[.int .i64 0, .slice none 0 0, .slice none 0 0]), 3, 56) := by kernel_rfl
theorem eqPtr {w : World} {base k i j : Nat} {B : Nat → Nat} {R : Nat → Value × List Nat} (h : Gr w base k B R) (hi : i < k) (hj : j < k) :
    (binOp .eql 136 (.pointer (some ⟨B i, 0, none⟩)) (.pointer (some ⟨B j, 0, none⟩))).run Tryz.prog w = .ok (.bool (decide (i = j))) w := by
  obtain ⟨i0, hi0, _, hz1, _⟩ := info_parts infoPN
  by_cases hij : i = j
  · subst hij
    rw [decide_eq_true rfl]
    exact run_eql_ptr_same w _ Tryz.underlying136 hi0
  · rw [decide_eq_false hij]
    exact run_eql_ptr_other w Tryz.underlying136 hi0 (by rw [hz1]; decide) (fun e => hij (h.inj i j hi hj (by injection e))) (h.blk i hi) (h.blk j hj)

theorem needsAlready_any {w : World} {base k n f : Nat} {B : Nat → Nat} {R : Nat → Value × List Nat} (h : Gr w base k B R) (hn : n < k) (hf : f < k) {b : Bool} (hb : decide (f ∈ (R (2 * n + 1)).2) = b) :
    Calls Tryz.prog 169 #[.pointer (some ⟨B n, 0, none⟩), .pointer (some ⟨B f, 0, none⟩)] w fun e w' => e = .returned (.bool b) ∧ w = w' := by
  obtain ⟨A, c, hA, hc⟩ := h.form (a := 2 * n + 1) (by omega)
  have hlen := h.len (2 * n + 1)
  have c1 : w.cell? ⟨B n, 1, none⟩ = some (R (2 * n + 1)).1 := (h.blk n hn).cell 1
  rw [hA] at c1
  have hmem := h.mem (2 * n + 1) (by omega)
  generalize (R (2 * n + 1)).2 = l at *
  have Hb := Lib.hid hb
  have Hmem := Lib.hid hmem
  clear hb hA hmem
  go_enter Tryz.func169, Tryz.ntmps169
  go_wp2_with fail
  go_loop [12] (fun i => ∃ k' : Nat, k' ≤ l.length ∧ i = .int .i64 k' ∧ (l.take k').all (fun x => decide (x ≠ f)) = true) (fun i => l.length - (intOf i).toNat)
  case atStart => exact ⟨0, Nat.zero_le _, rfl, rfl⟩
  case round =>
    obtain ⟨k', hk, rfl, hall⟩ := hrel
    have Hall := Lib.hid hall
    clear hall
    by_cases hlt : k' < l.length
    · obtain ⟨g, rfl, hcs⟩ := hc (by omega)
      have hx := List.getElem?_eq_getElem hlt
      have hcell := hcs k' _ hx
      have Hx := Lib.hid hx
      have hxk := Hmem.out _ (List.getElem_mem hlt)
      generalize l[k'] = x at *
      have he := eqPtr h hxk hf
      clear hcs hx
      by_cases hxf : x = f
      · have Hr : Hid (b = true) := by
          show b = true
          rw [← Hb.out, decide_eq_true_eq, ← hxf]
          exact List.mem_of_getElem? Hx.out
        rw [decide_eq_true hxf] at he
        clear hxf
        go_wp2_with fail
        go_ret
        exact ⟨by rw [Hr.out]; rfl, rfl⟩
      · have Hxf := Lib.hid hxf
        rw [decide_eq_false hxf] at he
        clear hxf
        go_wp2_with fail
        go_round
        case rel => exact ⟨k' + 1, by omega, by go_num, by rw [all_snoc _ Hx.out, Hall.out]; simp [Hxf.out]⟩
        case measure => simp [intOf]; omega
    · have Hr : Hid (b = false) := by
        show b = false
        rw [← Hb.out, decide_eq_false_iff_not]
        have h1 := Hall.out
        rw [List.take_of_length_le (by omega)] at h1
        intro hm
        simpa using List.all_eq_true.1 h1 f hm
      go_wp2_with fail
      go_ret
      exact ⟨by rw [Hr.out]; rfl, rfl⟩
end Go.Proofs.YtihobnheficpjaaGreatDoor
namespace Go.Proofs.YtihobnheficpjaaGreatDoor
open Go.RowKit

theorem Gr.row {w : World} {base k a : Nat} {B : Nat → Nat} {R : Nat → Value × List Nat} (h : Gr w base k B R) (ha : a < 2 * k + 1) : w.ownsRow base 136 1 (R a).1 (R a).2.length (ptrs B (R a).2) := h.rw_.rows a ha
/-- An append onto a node's row. -/
theorem wp_push_row {ops : Array Oper} {rest : List Oper} {o : Oper} {a : Act} {Q : Exit → Act → World → Prop} {w : World} {base k i c j : Nat} {B : Nat → Nat} {R : Nat → Value × List Nat} (G : Gr w base k B R) (hi : i < k) (hc : c = 1 ∨ c = 2) (hj : j < k)
    (hl : (R (2 * i + c)).2.length < 1000) (s x : Operand) (hgd : o.guard = none) (ho : o.op = .call { callee := .builtin .append, args := #[s, x], argTypes := #[128, 128] })
    {v : Value} (hv : (R (2 * i + c)).1 = v) (hs : a.eval s = v) {N : Nat} (hx : a.eval x = .slice (some ⟨N, 0, none⟩) 1 1) (hN : N = w.heap.size)
    (h : ∀ A n cc w', w'.cell? ⟨B i, c, none⟩ = some v → w'.frozen? ⟨B i, c, none⟩ = false → Gr (w'.setCell ⟨B i, c, none⟩ (.slice A n cc)) base k B (upd R (2 * i + c) (.slice A n cc, (R (2 * i + c)).2 ++ [j])) →
      Below base w (w'.setCell ⟨B i, c, none⟩ (.slice A n cc)) → wpList Tryz.prog ops Q rest (a.put o.dst (.slice A n cc)) w') :
    wpList Tryz.prog ops Q (o :: rest) a (w.alloc (.cells #[.pointer (some ⟨B j, 0, none⟩)] 136)) := by
  subst hv
  subst hN
  have hrow := G.row (a := 2 * i + c) (by omega)
  refine wp_push_fresh s x 128 _ 1 8 Tryz.underlying128 infoPtr rfl (by decide) (by decide) hgd ho hrow (by omega) G.base_le rfl (by simp [Value.oneCell']) hs hx ?_
  intro v' w' h1 h2 h3
  obtain ⟨A, cc, hv'⟩ : ∃ A cc, v' = .slice A ((R (2 * i + c)).2.length + 1) cc := by
    rcases h1.2 with ⟨hv, h0⟩ | ⟨g, cap, cur, hv, _⟩
    · omega
    · exact ⟨_, _, hv⟩
  subst hv'
  obtain ⟨hb, hG⟩ := G.pushN hi hc hj hl h2 h1 (Nat.le_succ _) h3
  refine h A _ cc w' ?_ (hb.frozen c) hG ?_
  · rcases hc with rfl | rfl
    · exact hb.cell 1
    · exact hb.cell 2
  · refine ((gb_of_base h2 ?_ G.base_le).setCell (p := ⟨B i, c, none⟩) (G.low i hi) _)
    intro g e
    exact (hrow.lt g e).1

def LinkPost (w : World) (base k n f : Nat) (B : Nat → Nat) (R : Nat → Value × List Nat) (e : Ending) (w' : World) : Prop :=
  e = .returned (.tuple #[]) ∧ ∃ R', Gr w' base k B R' ∧ Below base w w' ∧ (∀ a, (R' a).2 = linkL n f (fun a => (R a).2) a) ∧ R' 0 = R 0

theorem link_any {w : World} {base k n f : Nat} {B : Nat → Nat} {R : Nat → Value × List Nat} (h : Gr w base k B R) (hn : n < k) (hf : f < k) (hl1 : (R (2 * n + 1)).2.length < 1000) (hl2 : (R (2 * f + 2)).2.length < 1000) :
    Calls Tryz.prog 136 #[.pointer (some ⟨B n, 0, none⟩), .pointer (some ⟨B f, 0, none⟩)] w (LinkPost w base k n f B R) := by
  by_cases hm : f ∈ (R (2 * n + 1)).2
  · have Hm := Lib.hid hm
    clear hm
    go_enter Tryz.func136, Tryz.ntmps136
    go_wp2_with fail
    refine (needsAlready_any h hn hf (b := true) (by simpa using Hm.out)).mono ?_
    rintro e w' ⟨rfl, rfl⟩
    go_wp2_with fail
    refine bodyPost_ret (results_none rfl _ _ _) rfl ⟨rfl, R, h, Below.refl _ _, fun a => ?_, rfl⟩
    unfold linkL
    rw [if_pos Hm.out]
  · have Hm := Lib.hid hm
    clear hm
    go_enter Tryz.func136, Tryz.ntmps136
    go_wp2_with fail
    refine (needsAlready_any h hn hf (b := false) (by simpa using Hm.out)).mono ?_
    rintro e w' ⟨rfl, rfl⟩
    have c1 : w.cell? ⟨B n, 1, none⟩ = some (R (2 * n + 1)).1 := (h.blk n hn).cell 1
    obtain ⟨v1, hv1⟩ : ∃ v1, (R (2 * n + 1)).1 = v1 := ⟨_, rfl⟩
    rw [hv1] at c1
    have Hv1 := Lib.hid hv1
    clear hv1
    go_wp2_with (at_builtin; go_must (refine wp_push_row h hn (.inl rfl) hf hl1 (.tmp 11) (.tmp 13) rfl rfl Hv1.out rfl rfl rfl ?_))
    intro A1 n1 cc1 w1 d1 d2 G1 hbel1
    have d3 : (w1.setCell ⟨B n, 1, none⟩ (.slice A1 n1 cc1)).cell? ⟨B f, 2, none⟩ = some (R (2 * f + 2)).1 := by
      rw [(G1.blk f hf).cell 2]
      show some (upd R (2 * n + 1) (.slice A1 n1 cc1, (R (2 * n + 1)).2 ++ [f]) (2 * f + 2)).1 = _
      rw [upd_other _ _ (show 2 * f + 2 ≠ 2 * n + 1 by omega)]
    obtain ⟨v2, hv2⟩ : ∃ v2, (R (2 * f + 2)).1 = v2 := ⟨_, rfl⟩
    rw [hv2] at d3
    have Hv2 : Hid ((upd R (2 * n + 1) (.slice A1 n1 cc1, (R (2 * n + 1)).2 ++ [f]) (2 * f + 2)).1 = v2) := by
      show (upd R (2 * n + 1) (.slice A1 n1 cc1, (R (2 * n + 1)).2 ++ [f]) (2 * f + 2)).1 = v2
      rw [upd_other _ _ (show 2 * f + 2 ≠ 2 * n + 1 by omega)]
      exact hv2
    clear hv2
    go_wp2_with (at_builtin; go_must (refine wp_push_row (i := f) (c := 2) (j := n) G1 hf (.inr rfl) hn ?_ (.tmp 21) (.tmp 23) rfl rfl Hv2.out rfl rfl (World.size_setCell _ _ _).symm ?_))
    · rw [upd_other _ _ (show 2 * f + 2 ≠ 2 * n + 1 by omega)]
      exact hl2
    · intro A2 n2 cc2 w2 d4 d5 G2 hbel2
      go_wp2_with fail
      refine bodyPost_ret (results_none rfl _ _ _) rfl ⟨rfl, _, G2, hbel1.trans hbel2, fun a => ?_, by rw [upd_other _ _ (by omega), upd_other _ _ (by omega)]⟩
      unfold linkL
      rw [if_neg Hm.out]
      unfold upd
      by_cases h1 : a = 2 * f + 2
      · rw [if_pos h1, if_pos h1, if_neg (show 2 * f + 2 ≠ 2 * n + 1 by omega)]
      · rw [if_neg h1, if_neg h1]
        by_cases h2 : a = 2 * n + 1
        · rw [if_pos h2, if_pos h2]
        · rw [if_neg h2, if_neg h2]
end Go.Proofs.YtihobnheficpjaaGreatDoor
namespace Go.Proofs.YtihobnheficpjaaGreatDoor
open Go.RowKit

/-- A new node. -/
theorem Gr.node {w : World} {base k : Nat} {B : Nat → Nat} {R : Nat → Value × List Nat} (h : Gr w base k B R) :
    Gr (w.alloc (.cells #[.int .i64 (k : Nat), .slice none 0 0, .slice none 0 0] 135)) base (k + 1) (upd B k w.heap.size) R := by
  have hB : ∀ a, a < 2 * k + 1 → ptrs (upd B k w.heap.size) (R a).2 = ptrs B (R a).2 := by
    intro a ha
    unfold ptrs
    apply List.map_congr_left
    intro j hj
    rw [upd_other _ _ (by have := h.mem a ha j hj; omega)]
  have r1 := h.rest (2 * k + 1) (by omega)
  have r2 := h.rest (2 * k + 2) (by omega)
  refine ⟨?_, ?_, ?_, ⟨?_, ?_⟩, ?_, h.len, fun a ha => h.rest a (by omega), by simp; have := h.base_le; omega⟩
  · intro i hi
    by_cases hik : i = k
    · subst hik
      rw [upd_same, r1, r2]
      exact Blk.new w _ _
    · rw [upd_other _ _ hik]
      exact (h.blk i (by omega)).alloc _
  · intro i j hi hj
    by_cases hik : i = k
    · subst hik
      by_cases hjk : j = i
      · exact fun _ => hjk.symm
      · rw [upd_same, upd_other _ _ hjk]
        intro e
        have := (h.blk j (by omega)).lt
        omega
    · by_cases hjk : j = k
      · subst hjk
        rw [upd_same, upd_other _ _ hik]
        intro e
        have := (h.blk i (by omega)).lt
        omega
      · rw [upd_other _ _ hik, upd_other _ _ hjk]
        exact h.inj i j (by omega) (by omega)
  · intro i hi
    by_cases hik : i = k
    · subst hik
      rw [upd_same]
      exact h.base_le
    · rw [upd_other _ _ hik]
      exact h.low i (by omega)
  · intro a ha
    by_cases hak : a < 2 * k + 1
    · rw [hB a hak]
      exact (h.rw_.rows a hak).alloc _
    · rw [h.rest a (by omega)]
      exact World.ownsRow_nil _ _ _ _
  · intro a b ha hb hab
    by_cases hak : a < 2 * k + 1
    · by_cases hbk : b < 2 * k + 1
      · exact h.rw_.apart a b hak hbk hab
      · rw [h.rest b (by omega)]
        cases hx : (R a).1.ownBlock
        · exact .inl rfl
        · exact .inr (by simp [Value.ownBlock])
    · rw [h.rest a (by omega)]
      exact .inl rfl
  · intro a ha j hj
    by_cases hak : a < 2 * k + 1
    · have := h.mem a hak j hj
      omega
    · rw [h.rest a (by omega)] at hj
      simp at hj
/-- A node's pointer is put into the graph's own list. -/
theorem Gr.push0 {w w' : World} {base k N j : Nat} {B : Nat → Nat} {R : Nat → Value × List Nat} {v' : Value} (h : Gr w base k B R) (hj : j < k) (hl : (R 0).2.length < 1000) (hg : w.grownBy w' (R 0).1.ownBlock)
    (ho : w'.ownsRow base 136 1 v' ((R 0).2.length + 1) (ptrs B (R 0).2 ++ [.pointer (some ⟨B j, 0, none⟩)])) (hN : w.heap.size ≤ N) (hob : v'.ownBlock = (R 0).1.ownBlock ∨ v'.ownBlock = some N) :
    Gr w' base k B (upd R 0 (v', (R 0).2 ++ [j])) := by
  have hbn : ∀ i', i' < k → some (B i') ≠ (R 0).1.ownBlock := fun i' hi' e => NotE.own (h.rw_.rows 0 (by omega)) (show 135 ≠ 136 by decide) _ e.symm _ (h.blk i' hi')
  refine ⟨?_, h.inj, h.low, h.rw_.push (by omega) hg ho hN hob, ?_, ?_, ?_, Nat.le_trans h.base_le hg.size⟩
  · intro i' hi'
    rw [upd_other _ _ (by omega), upd_other _ _ (by omega)]
    exact (h.blk i' hi').grown hg (hbn i' hi')
  · intro a haa x hx
    by_cases hae : a = 0
    · subst hae
      rw [upd_same] at hx
      rcases List.mem_append.1 hx with hx | hx
      · exact h.mem _ haa x hx
      · simp at hx; omega
    · rw [upd_other _ _ hae] at hx
      exact h.mem a haa x hx
  · intro a
    by_cases hae : a = 0
    · subst hae
      rw [upd_same, List.length_append]
      simp
      omega
    · rw [upd_other _ _ hae]
      exact h.len a
  · intro a haa
    rw [upd_other _ _ (by omega)]
    exact h.rest a haa

/-- What graphOf leaves. -/
def GraphPost (w : World) (plan : List Node) (e : Ending) (w' : World) : Prop :=
  ∃ gv, e = .returned (.tuple #[gv, .bool (planValid plan)]) ∧ w.grownBy w' none ∧ (planValid plan = true → ∃ B R, Gr w' w.heap.size plan.length B R ∧ (R 0).1 = gv ∧ ∀ a, (R a).2 = graphL plan a)

theorem Gr.at0 {w : World} {base k n c f : Nat} {A : Option Addr} {B : Nat → Nat} {R : Nat → Value × List Nat} (h : Gr w base k B R) (hv : (R 0).1 = .slice A n c) (hr : (R 0).2 = List.range n) (hf : f < n) :
    ∃ g, A = some ⟨g, 0, none⟩ ∧ w.cell? ⟨g, f, none⟩ = some (.pointer (some ⟨B f, 0, none⟩)) := by
  obtain ⟨A', c', h1, h2⟩ := h.form (a := 0) (by omega)
  rw [hv] at h1
  injection h1 with h1 _ _
  subst h1
  rw [hr, List.length_range] at h2
  obtain ⟨g, hg, hc⟩ := h2 (by omega)
  exact ⟨g, hg, hc f f (by simp [hf])⟩

theorem graphOf_long (v : Value) (plan : List Node) (w : World) (h : RN w v plan) (hl : 10 < plan.length) : Calls Tryz.prog 114 #[v] w (GraphPost w plan) := by
  have Hv : Hid (planValid plan = false) := by
    show planValid plan = false
    unfold planValid
    simp
    omega
  obtain ⟨A, n, c, rfl, _, hn, hle⟩ := h.form'
  have hl' : (10 : Int) < n := by omega
  clear hl
  have Hn := Lib.hid hn
  clear hn
  go_enter Tryz.func114, Tryz.ntmps114
  go_wp2_with fail
  go_ret2
  exact ⟨_, by rw [Hv.out]; rfl, gb_refl _ _, fun h => by rw [Hv.out] at h; cases h⟩

set_option maxHeartbeats 400000 in
set_option maxRecDepth 4000 in
theorem graphOf_any (v : Value) (plan : List Node) (w : World) (h : RN w v plan) (hl : plan.length ≤ 10) : Calls Tryz.prog 114 #[v] w (GraphPost w plan) := by
  obtain ⟨A, n, c, rfl, _, hn, hle⟩ := h.form'
  have hl' : n ≤ 10 := by omega
  clear hl
  have Hn := Lib.hid hn
  clear hn
  obtain ⟨i0, hi, hz0, hz1, hz2⟩ := info_parts infoPtr
  go_enter Tryz.func114, Tryz.ntmps114
  go_wp2_with (at_make; go_must (refine wpList_make_own _ rfl _ _ 128 rfl w.heap.size 136 i0 _ 1 Tryz.underlying128 hi hz0 hz1 _ _ _ n rfl rfl rfl (by rw [hz2]; omega) (by unfold maxLen; omega) (Nat.le_refl _) ?_))
  intro w0 hown0 hg0
  go_wp2_with fail
  go_loopw [4, 5, 19] (fun gv wd i wr => ∃ (k : Nat) (B : Nat → Nat) (R : Nat → Value × List Nat), k ≤ n ∧ i = .int .i64 k ∧ wd = .int .i64 (widthTo plan k) ∧ (R 0).1 = gv ∧ Gr wr w.heap.size k B R ∧ (∀ a, (R a).2 = graphTo plan k a) ∧
      (plan.zipIdx.take k).all (fun x => nodeOk x.1 x.2 (wide plan)) = true ∧ (∀ a, (R a).2.length ≤ 3 * k) ∧ (R 0).2 = List.range k ∧ w.grownBy wr none) (fun _ _ i _ => n - (intOf i).toNat)
  case atStart =>
    refine ⟨0, fun _ => 0, upd (fun _ => (.slice none 0 0, [])) 0 (.slice (some ⟨w.heap.size, 0, none⟩) 0 n, []), Nat.zero_le _, rfl, rfl, by rw [upd_same], ?_, ?_, rfl, ?_, by rw [upd_same]; rfl, hg0⟩
    · refine ⟨fun i hi => by omega, fun i j hi => by omega, fun i hi => by omega, ⟨?_, fun a b ha hb hab => by omega⟩, ?_, ?_, ?_, hg0.size⟩
      · intro a ha
        obtain rfl : a = 0 := by omega
        rw [upd_same]
        exact hown0
      · intro a ha j hj
        obtain rfl : a = 0 := by omega
        rw [upd_same] at hj
        simp at hj
      · intro a
        unfold upd
        split <;> simp
      · intro a ha
        rw [upd_other _ _ (by omega)]
    · intro a
      unfold upd
      split <;> rfl
    · intro a
      unfold upd
      split <;> simp
  case round =>
    obtain ⟨k, B, R, hk, rfl, rfl, hR0, G, hL, hall, hlen, hrg, hg⟩ := hrel
    have HR0 := Lib.hid hR0
    have HL := Lib.hid hL
    have Hall := Lib.hid hall
    have Hlen := Lib.hid hlen
    have Hrg := Lib.hid hrg
    clear hR0 hL hall hlen hrg hown0 hg0
    by_cases hlt : k < n
    · have hwr := h.new hg
      obtain ⟨g, o, nd, f, r, rfl, hx, e0, e1, e2, hf, hr⟩ := h.at_ hlt
      have c0 := hg.cell e0 (by simp)
      have c1 := hg.cell e1 (by simp)
      have c2 := hg.cell e2 (by simp)
      have Hx := Lib.hid hx
      clear hx hwr e0 e1 e2
      obtain ⟨Af, nf, cf, rfl, _, hnf⟩ := hf.form'
      obtain ⟨Ar, nr, cr, rfl, _, hnr⟩ := hr.form'
      have Hnf := Lib.hid hnf
      have Hnr := Lib.hid hnr
      clear hnf hnr
      obtain ⟨Ag, cg, hAg, _⟩ := G.form (a := 0) (by omega)
      obtain rfl : u4 = .slice Ag k cg := by rw [← HR0.out, hAg, Hrg.out, List.length_range]
      clear hAg
      have hnv : NV (wr.alloc (.cells #[.int .i64 nd.kind, .slice Af nf cf, .slice Ar nr cr] 94)) (.agg #[.int .i64 nd.kind, .slice Af nf cf, .slice Ar nr cr]) nd := ⟨_, _, rfl, (hf.new hg).alloc _, (hr.new hg).alloc _⟩
      by_cases hfit : nodeFits nd k = true
      · have Hfit := Lib.hid hfit
        clear hfit
        have hnf2 : nf ≤ 2 := by have := nodeFits_len Hfit.out; rw [← Hnf.out] at this; exact this
        go_wp2_with fail
        refine (nodeFits_b _ nd k _ hnv Hfit.out).mono ?_
        rintro e w2 ⟨rfl, hg2⟩
        have hB2 := (Blk.new wr 94 #[.int .i64 nd.kind, .slice Af nf cf, .slice Ar nr cr]).grown hg2 (by simp)
        have d0 : w2.cell? ⟨wr.heap.size, 0, none⟩ = some (.int .i64 nd.kind) := hB2.cell 0
        have d1 : w2.cell? ⟨wr.heap.size, 1, none⟩ = some (.slice Af nf cf) := hB2.cell 1
        have d2 : w2.cell? ⟨wr.heap.size, 2, none⟩ = some (.slice Ar nr cr) := hB2.cell 2
        have hgr2 : wr.grownBy w2 none := gb_trans (World.grownBy_alloc _ _ _) hg2
        clear c0 c1 c2 hnv hg2
        go_upto_if 30 with fail
        go_cut [5] (fun wd wx => wx = w2 ∧ wd = .int .i64 (widthTo plan (k + 1)) ∧ Hid (nodeOk nd k (wide plan) = true))
        case first =>
          by_cases hk0 : nd.kind = 0
          · have hb0 : (nd.kind == 0) = true := by simpa using hk0
            have Hk0 := Lib.hid hk0
            clear hk0
            have Hok : ∀ {b : Bool}, decide (nr = wide plan) = b → Hid (nodeOk nd k (wide plan) = b) := by
              intro b hb
              show nodeOk nd k (wide plan) = b
              rw [nodeOk_eq, Hfit.out, if_pos Hk0.out, ← Hnr.out, hb, Bool.true_and]
            have Hw1 : Hid (widthTo plan (k + 1) = (wide plan : Int)) := widthTo_fixed Hx.out Hk0.out
            by_cases hany : (plan.take k).any (fun x => x.kind == 0) = true
            · rw [show widthTo plan k = (wide plan : Int) from if_pos hany]
              clear hany
              by_cases hwd : nr = wide plan
              · have Hok' := Hok (decide_eq_true hwd)
                have Hwd := Lib.hid hwd
                have hb1 : ((nr : Int) != (wide plan : Int)) = false := by rw [bne_eq_false_iff_eq]; omega
                clear hwd Hok
                go_wp2_with fail
                go_meet
                exact ⟨rfl, by rw [Hw1.out, Hwd.out], Hok'⟩
              · have Hok' := Hok (decide_eq_false hwd)
                have Hv : Hid (planValid plan = false) := planValid_bad Hx.out Hok'.out
                have hb1 : ((nr : Int) != (wide plan : Int)) = true := by rw [bne_iff_ne]; omega
                clear hwd Hok Hok'
                go_wp2_with fail
                go_ret2
                exact ⟨_, by rw [Hv.out]; rfl, gb_trans hg hgr2, fun h => by rw [Hv.out] at h; cases h⟩
            · have hany' : (plan.take k).any (fun x => x.kind == 0) = false := by simpa using hany
              have hwf := wide_first Hx.out Hk0.out hany'
              rw [← Hnr.out] at hwf
              have Hok' := Hok (decide_eq_true hwf.symm)
              have Hwd := Lib.hid hwf
              rw [show widthTo plan k = -1 from if_neg hany]
              clear hany hany' hwf Hok
              go_wp2_with fail
              go_meet
              exact ⟨rfl, by rw [Hw1.out, Hwd.out], Hok'⟩
          · have Hok : Hid (nodeOk nd k (wide plan) = true) := by
              show nodeOk nd k (wide plan) = true
              rw [nodeOk_eq, Hfit.out, if_neg hk0]
              rfl
            have Hw : Hid (widthTo plan (k + 1) = widthTo plan k) := widthTo_other Hx.out hk0
            have hb0 : (nd.kind == 0) = false := by simpa using hk0
            clear hk0
            go_wp2_with fail
            go_meet
            exact ⟨rfl, by rw [Hw.out], Hok⟩
        case rest =>
          obtain ⟨wo, rfl⟩ : ∃ wo : World, wo = wr := ⟨_, rfl⟩
          obtain ⟨hwc, rfl, Hok⟩ := hcut
          have hwc' := hwc.symm
          clear hwc
          subst hwc'
          clear d0 d2
          have G3 := (G.new hgr2).node
          have hB3 := hB2.alloc (.cells #[.int .i64 (k : Nat), .slice none 0 0, .slice none 0 0] 135)
          have hg3 : w.grownBy (w2.alloc (.cells #[.int .i64 (k : Nat), .slice none 0 0, .slice none 0 0] 135)) none := gb_alloc (gb_trans hg hgr2) _
          go_upto_region 15 with fail
          obtain ⟨B', hB'⟩ : ∃ B', B' = upd B k w2.heap.size := ⟨_, rfl⟩
          rw [← hB'] at G3
          rw [show w2.heap.size = B' k by rw [hB', upd_same]]
          clear hB' hB2 d1 hgr2
          generalize w2.alloc (.cells #[.int .i64 (k : Nat), .slice none 0 0, .slice none 0 0] 135) = w3 at *
          have d1 : w3.cell? ⟨wo.heap.size, 1, none⟩ = some (.slice Af nf cf) := hB3.cell 1
          go_wp2_with fail
          go_loopw [49] (fun i wy => ∃ (m : Nat) (R' : Nat → Value × List Nat), m ≤ nf ∧ i = .int .i64 m ∧ Gr wy w.heap.size (k + 1) B' R' ∧ (∀ a, (R' a).2 = linkAll k (nd.frm.take m) (graphTo plan k) a) ∧ (∀ a, (R' a).2.length ≤ 3 * k + m) ∧ R' 0 = R 0 ∧ Below w.heap.size w3 wy) (fun i _ => nf - (intOf i).toNat)
          case atStart => exact ⟨0, R, Nat.zero_le _, rfl, G3, fun a => HL.out a, fun a => by have := Hlen.out a; omega, rfl, Below.refl _ _⟩
          case round =>
            obtain ⟨m, R', hm, rfl, G', hL', hlen', hR', hbel⟩ := hrel
            have HL' := Lib.hid hL'
            have Hlen' := Lib.hid hlen'
            have HR' := Lib.hid hR'
            clear hL' hlen' hR'
            have hgy : w.grownBy wr none := gb_of_below ((gb_below hg3).trans hbel) none
            have hR1 : Hid ((R' 0).1 = .slice Ag k cg) := by show (R' 0).1 = _; rw [HR'.out, HR0.out]
            have hR2 : Hid ((R' 0).2 = List.range k) := by show (R' 0).2 = _; rw [HR'.out, Hrg.out]
            by_cases hmf : m < nf
            · obtain ⟨g1, o1, x, rfl, hx, hcell⟩ := (hf.new hgy).at_ hmf
              have Hxm := Lib.hid hx
              clear hx
              have hxb := nodeFits_mem Hfit.out (List.mem_of_getElem? Hxm.out)
              obtain ⟨x', rfl⟩ := Int.eq_ofNat_of_zero_le hxb.1
              have hxk : x' < k := by omega
              obtain ⟨gg, rfl, hgc⟩ := G'.at0 hR1.out hR2.out hxk
              clear hxb
              go_wp2_with fail
              refine (link_any G' (n := k) (f := x') (by omega) (by omega) (by have := Hlen'.out (2 * k + 1); omega) (by have := Hlen'.out (2 * x' + 2); omega)).mono ?_
              rintro e w5 ⟨rfl, R5, G5, hb5, hl5, hr5⟩
              have Hl5 := Lib.hid hl5
              have Hr5 := Lib.hid hr5
              clear hl5 hr5
              go_wp2_with fail
              go_roundw
              case rel =>
                refine ⟨m + 1, R5, by omega, by go_num, G5, fun a => ?_, fun a => ?_, by rw [Hr5.out, HR'.out], hbel.trans hb5⟩
                · rw [linkAll_snoc _ Hxm.out, Hl5.out a, show (fun a => (R' a).2) = linkAll k (nd.frm.take m) (graphTo plan k) from funext HL'.out]
                  rfl
                · rw [Hl5.out a]
                  have := linkL_len k x' (fun a => (R' a).2) a
                  have := Hlen'.out a
                  omega
              case measure => simp [intOf]; omega
            · have hmn : m = nf := by omega
              subst hmn
              have hrow := G'.row (a := 0) (by omega)
              have hpush := hrow
              rw [hR1.out, hR2.out] at hpush
              go_wp2_with (at_builtin; go_must (refine wp_push_fresh (.tmp 60) (.tmp 62) 128 _ 1 8 Tryz.underlying128 infoPtr rfl (by decide) (by decide) rfl rfl hpush (by simp; omega) G'.base_le rfl (by simp [Value.oneCell']) (by simp [Act.eval]) rfl ?_))
              intro v' w5 hown5 hg5 hob5
              have G5 : Gr w5 w.heap.size (k + 1) B' (upd R' 0 (v', (R' 0).2 ++ [k])) := by
                refine G'.push0 (j := k) (by omega) (by have := Hlen'.out 0; omega) (by rw [hR1.out]; exact hg5) (by rw [hR2.out]; simpa using hown5) (Nat.le_succ _) (by rw [hR1.out]; exact hob5)
              have hgf : w.grownBy w5 none := gb_new hgy hg5 (fun g e => .inl (by
                have := hrow.lt g (by rw [hR1.out]; exact e)
                exact this.1))
              have hfin : ∀ a, (upd R' 0 (v', (R' 0).2 ++ [k]) a).2 = graphTo plan (k + 1) a := by
                intro a
                rw [graphTo_succ Hx.out]
                unfold graphStep
                have hl0 : linkAll k nd.frm (graphTo plan k) = fun a => (R' a).2 := by
                  funext b
                  rw [HL'.out b, List.take_of_length_le (by rw [← Hnf.out]; omega)]
                show _ = upd (linkAll k nd.frm (graphTo plan k)) 0 (linkAll k nd.frm (graphTo plan k) 0 ++ [k]) a
                rw [hl0]
                unfold upd
                split <;> rfl
              have hlf : ∀ a, (upd R' 0 (v', (R' 0).2 ++ [k]) a).2.length ≤ 3 * (k + 1) := by
                intro a
                by_cases ha : a = 0
                · subst ha
                  rw [upd_same, hR2.out]
                  simp
                  omega
                · rw [upd_other _ _ ha]
                  have := Hlen'.out a
                  omega
              have Hfin := Lib.hid hfin
              have Hlf := Lib.hid hlf
              clear hfin hlf hown5 hg5 hob5
              go_wp2_with fail
              go_roundw
              case rel => exact ⟨k + 1, B', _, by omega, by go_num, rfl, by rw [upd_same], G5, Hfin.out, by rw [all_snoc _ (zipIdx_get Hx.out), Hall.out]; exact Hok.out, Hlf.out, by rw [upd_same, hR2.out, List.range_succ], hgf⟩
              case measure => simp [intOf]; omega
      · have hfit' : nodeFits nd k = false := by simpa using hfit
        have Hv : Hid (planValid plan = false) := planValid_bad Hx.out (by rw [nodeOk_eq, hfit']; rfl)
        have Hfit := Lib.hid hfit'
        clear hfit hfit'
        go_wp2_with fail
        refine (nodeFits_b _ nd k _ hnv Hfit.out).mono ?_
        rintro e w2 ⟨rfl, hg2⟩
        have hgf : w.grownBy w2 none := gb_trans (gb_alloc hg _) hg2
        go_wp2_with fail
        go_ret2
        exact ⟨_, by rw [Hv.out]; rfl, hgf, fun h => by rw [Hv.out] at h; cases h⟩
    · have hkn : k = n := by omega
      subst hkn
      have Hv : Hid (planValid plan = true) := by
        show planValid plan = true
        have h1 := Hall.out
        rw [List.take_of_length_le (by rw [List.length_zipIdx, ← Hn.out]; omega)] at h1
        unfold planValid
        rw [h1, ← Hn.out, Bool.true_and]
        exact decide_eq_true (by omega)
      go_wp2_with fail
      go_ret2
      refine ⟨_, by rw [Hv.out]; rfl, hg, fun _ => ⟨B, R, ?_, HR0.out, ?_⟩⟩
      · rw [← Hn.out]; exact G
      · intro a
        rw [HL.out a]
        unfold graphL
        rw [← Hn.out]
theorem graphOf_all (v : Value) (plan : List Node) (w : World) (h : RN w v plan) : Calls Tryz.prog 114 #[v] w (GraphPost w plan) := by
  by_cases hl : plan.length ≤ 10
  · exact graphOf_any v plan w h hl
  · exact graphOf_long v plan w h (by omega)

theorem implPlanValid_any (v : Value) (plan : List Node) (w : World) (h : RN w v plan) :
    Calls Tryz.prog 62 #[v] w fun e w' => e = .returned (.bool (planValid plan)) ∧ w.grownBy w' none := by
  obtain ⟨A, n, c, rfl⟩ := h.val
  go_enter Tryz.func62, Tryz.ntmps62
  go_wp2_with fail
  refine (graphOf_all _ plan _ h).mono ?_
  rintro e w' ⟨gv, rfl, hg, _⟩
  go_wp2_with fail
  go_ret
  exact ⟨rfl, hg⟩
theorem implPlanValid_b (v : Value) (plan : List Node) (w : World) (h : RN w v plan) {b : Bool} (hb : planValid plan = b) :
    Calls Tryz.prog 62 #[v] w fun e w' => e = .returned (.bool b) ∧ w.grownBy w' none := hb ▸ implPlanValid_any v plan w h
end Go.Proofs.YtihobnheficpjaaGreatDoor
