/- Walks: the graph of a plan: needsAlready, link. · Walks: (*nodeQueue).put, take. · Walks: impl.workOf, KindValid, KindNeeds. -/
import Derived.Test.YtihobnheficpjaaGreatM05
import Derived.LaidEqlPtr
import Derived.Test.YtihobnheficpjaaGreatM08
import Derived.Test.YtihobnheficpjaaGreatM07
namespace Go.Proofs.YtihobnheficpjaaGreat
open Go.RowKit

def ptrs (B : Nat → Nat) (l : List Nat) : List Value := l.map (fun j => Value.pointer (some ⟨B j, 0, none⟩))

/-- Rows of pointers to nodes, no two in one block. -/
structure Rws (w : World) (base m : Nat) (B : Nat → Nat) (R : Nat → Value × List Nat) : Prop where
  rows : ∀ a, a < m → w.ownsRow base 95 1 (R a).1 (R a).2.length (ptrs B (R a).2)
  apart : ∀ a b, a < m → b < m → a ≠ b → (R a).1.ownBlock = none ∨ (R a).1.ownBlock ≠ (R b).1.ownBlock
theorem Rws.grown {w w' : World} {base m : Nat} {B : Nat → Nat} {R : Nat → Value × List Nat} {row : Option Nat} (h : Rws w base m B R) (hg : w.grownBy w' row) (hr : NotE w 95 row) : Rws w' base m B R :=
  ⟨fun a ha => own_grown (h.rows a ha) hg hr, h.apart⟩
theorem Rws.push {w w' : World} {base m N a j : Nat} {B : Nat → Nat} {R : Nat → Value × List Nat} {v' : Value} (h : Rws w base m B R) (ha : a < m) (hg : w.grownBy w' (R a).1.ownBlock)
    (ho : w'.ownsRow base 95 1 v' ((R a).2.length + 1) (ptrs B (R a).2 ++ [.pointer (some ⟨B j, 0, none⟩)])) (hN : w.heap.size ≤ N) (hob : v'.ownBlock = (R a).1.ownBlock ∨ v'.ownBlock = some N) :
    Rws w' base m B (upd R a (v', (R a).2 ++ [j])) := by
  constructor
  · intro b hb
    by_cases hba : b = a
    · subst hba
      rw [upd_same]
      simpa [ptrs] using ho
    · rw [upd_other _ _ hba]
      refine (h.rows b hb).kept hg ?_
      rcases h.apart b a hb ha hba with h1 | h1
      · exact .inl h1
      · exact .inr h1
  · intro b c hb hc hbc
    have old : ∀ d, d < m → d ≠ a → (R d).1.ownBlock = none ∨ ((R d).1.ownBlock ≠ v'.ownBlock ∧ (v'.ownBlock = none ∨ v'.ownBlock ≠ (R d).1.ownBlock)) := by
      intro d hd hda
      rcases h.apart d a hd ha hda with h1 | h1
      · exact .inl h1
      · right
        rcases hob with h2 | h2
        · rw [h2]; exact ⟨h1, .inr (fun e => h1 e.symm)⟩
        · have hlt := (h.rows d hd).lt
          have : (R d).1.ownBlock ≠ some N := fun e => by have := (hlt N e).2; omega
          rw [h2]
          exact ⟨this, .inr (fun e => this e.symm)⟩
    by_cases hba : b = a
    · subst hba
      rw [upd_same, upd_other _ _ (fun e => hbc e.symm)]
      show v'.ownBlock = none ∨ v'.ownBlock ≠ (R c).1.ownBlock
      rcases old c hc (fun e => hbc e.symm) with h1 | h1
      · rw [h1]
        cases h2 : v'.ownBlock
        · exact .inl rfl
        · exact .inr (by simp)
      · exact h1.2
    · rw [upd_other _ _ hba]
      by_cases hca : c = a
      · subst hca
        rw [upd_same]
        rcases old b hb hba with h1 | h1
        · exact .inl h1
        · exact .inr h1.1
      · rw [upd_other _ _ hca]
        exact h.apart b c hb hc hbc

/-- The nodes 0 .. k-1 lie in blocks B 0 .., node i's needs are row 2i+1, its users row 2i+2; row 0 is the graph's own list. -/
structure Gr (w : World) (base k : Nat) (B : Nat → Nat) (R : Nat → Value × List Nat) : Prop where
  blk : ∀ i, i < k → Blk w (B i) 97 #[.int .i64 (i : Nat), (R (2 * i + 1)).1, (R (2 * i + 2)).1]
  inj : ∀ i j, i < k → j < k → B i = B j → i = j
  low : ∀ i, i < k → base ≤ B i
  rw_ : Rws w base (2 * k + 1) B R
  mem : ∀ a, a < 2 * k + 1 → ∀ j ∈ (R a).2, j < k
  len : ∀ a, (R a).2.length ≤ 1000
  rest : ∀ a, 2 * k + 1 ≤ a → R a = (.slice none 0 0, [])
  base_le : base ≤ w.heap.size
theorem Gr.grown {w w' : World} {base k : Nat} {B : Nat → Nat} {R : Nat → Value × List Nat} {row : Option Nat} (h : Gr w base k B R) (hg : w.grownBy w' row) (h1 : NotE w 95 row) (h2 : NotE w 97 row) : Gr w' base k B R :=
  ⟨fun i hi => (h.blk i hi).grown hg (fun e => h2 _ e.symm _ (h.blk i hi)), h.inj, h.low, h.rw_.grown hg h1, h.mem, h.len, h.rest, Nat.le_trans h.base_le hg.size⟩
theorem Gr.new {w w' : World} {base k : Nat} {B : Nat → Nat} {R : Nat → Value × List Nat} (h : Gr w base k B R) (hg : w.grownBy w' none) : Gr w' base k B R := h.grown hg (NotE.none _ _) (NotE.none _ _)
theorem Gr.alloc {w : World} {base k : Nat} {B : Nat → Nat} {R : Nat → Value × List Nat} (h : Gr w base k B R) (o : Obj) : Gr (w.alloc o) base k B R := h.new (World.grownBy_alloc w o none)
theorem Gr.rowLt {w : World} {base k a : Nat} {B : Nat → Nat} {R : Nat → Value × List Nat} (h : Gr w base k B R) (ha : a < 2 * k + 1) : ∀ g, (R a).1.ownBlock = some g → base ≤ g ∧ g < w.heap.size := (h.rw_.rows a ha).lt
theorem Gr.form {w : World} {base k a : Nat} {B : Nat → Nat} {R : Nat → Value × List Nat} (h : Gr w base k B R) (ha : a < 2 * k + 1) : ∃ A c, (R a).1 = .slice A (R a).2.length c ∧
    (0 < (R a).2.length → ∃ g, A = some ⟨g, 0, none⟩ ∧ ∀ j f, (R a).2[j]? = some f → w.cell? ⟨g, j, none⟩ = some (.pointer (some ⟨B f, 0, none⟩))) := by
  have hr := h.rw_.rows a ha
  rcases hr.2 with ⟨h1, h2⟩ | ⟨g, cap, cur, h1, _, hh, _, _, _, ht⟩
  · refine ⟨none, 0, by rw [h1, h2], fun h0 => ?_⟩
    omega
  · refine ⟨some ⟨g, 0, none⟩, cap, h1, fun _ => ⟨g, rfl, fun j f hj => ?_⟩⟩
    have hlt := (List.getElem?_eq_some_iff.1 hj).1
    rw [h1] at hr
    rw [World.ownsRow.cellAt hr j (by omega)]
    simp [ptrs, hj]
/-- A node's row is appended to, and stored in its cell. -/
theorem Gr.pushN {w w' : World} {base k i c N j : Nat} {B : Nat → Nat} {R : Nat → Value × List Nat} {v' : Value} (h : Gr w base k B R) (hi : i < k) (hc : c = 1 ∨ c = 2) (hj : j < k) (hl : (R (2 * i + c)).2.length < 1000) (hg : w.grownBy w' (R (2 * i + c)).1.ownBlock)
    (ho : w'.ownsRow base 95 1 v' ((R (2 * i + c)).2.length + 1) (ptrs B (R (2 * i + c)).2 ++ [.pointer (some ⟨B j, 0, none⟩)])) (hN : w.heap.size ≤ N) (hob : v'.ownBlock = (R (2 * i + c)).1.ownBlock ∨ v'.ownBlock = some N) :
    Blk w' (B i) 97 #[.int .i64 (i : Nat), (R (2 * i + 1)).1, (R (2 * i + 2)).1] ∧ Gr (w'.setCell ⟨B i, c, none⟩ v') base k B (upd R (2 * i + c) (v', (R (2 * i + c)).2 ++ [j])) := by
  have ha : 2 * i + c < 2 * k + 1 := by omega
  have hbn : ∀ i', i' < k → some (B i') ≠ (R (2 * i + c)).1.ownBlock := fun i' hi' e => NotE.own (h.rw_.rows _ ha) (show 97 ≠ 95 by decide) _ e.symm _ (h.blk i' hi')
  have hb' : ∀ i', i' < k → Blk w' (B i') 97 #[.int .i64 (i' : Nat), (R (2 * i' + 1)).1, (R (2 * i' + 2)).1] := fun i' hi' => (h.blk i' hi').grown hg (hbn i' hi')
  have hst : w'.grownBy (w'.setCell ⟨B i, c, none⟩ v') (some (B i)) := gb_set (p := ⟨B i, c, none⟩) (gb_refl w' (some (B i))) (.inr rfl) v'
  refine ⟨hb' i hi, ?_, h.inj, h.low, (h.rw_.push ha hg ho hN hob).grown hst (NotE.blk (hb' i hi) (by decide)), ?_, ?_, ?_, ?_⟩
  · intro i' hi'
    by_cases hii : i' = i
    · subst hii
      have := (hb' i' hi).set_ c v'
      rcases hc with rfl | rfl
      · rw [upd_same, upd_other _ _ (by omega)]; exact this
      · rw [upd_same, upd_other _ _ (by omega)]; exact this
    · rw [upd_other _ _ (by omega), upd_other _ _ (by omega)]
      exact (hb' i' hi').far (fun e => hii (h.inj _ _ hi' hi e)) _
  · intro a haa x hx
    by_cases hae : a = 2 * i + c
    · subst hae
      rw [upd_same] at hx
      rcases List.mem_append.1 hx with hx | hx
      · exact h.mem _ ha x hx
      · simp at hx; omega
    · rw [upd_other _ _ hae] at hx
      exact h.mem a haa x hx
  · intro a
    by_cases hae : a = 2 * i + c
    · subst hae
      rw [upd_same, List.length_append]
      simp
      omega
    · rw [upd_other _ _ hae]
      exact h.len a
  · intro a haa
    rw [upd_other _ _ (by omega)]
    exact h.rest a haa
  · rw [World.size_setCell]
    exact Nat.le_trans h.base_le hg.size

theorem infoPtr : (Tryz.prog.info? 95).map (fun i => (i.zero, i.size, i.bytes)) = some (some (.pointer none), 1, 8) := by kernel_rfl
theorem infoPN : (Tryz.prog.info? 97).map (fun i => (i.zero, i.size, i.bytes)) = some (some (.agg #[.int .i64 0, .slice none 0 0, .slice none 0 0]), 3, 56) := by kernel_rfl
theorem eqPtr {w : World} {base k i j : Nat} {B : Nat → Nat} {R : Nat → Value × List Nat} (h : Gr w base k B R) (hi : i < k) (hj : j < k) :
    (binOp .eql 95 (.pointer (some ⟨B i, 0, none⟩)) (.pointer (some ⟨B j, 0, none⟩))).run Tryz.prog w = .ok (.bool (decide (i = j))) w := by
  obtain ⟨i0, hi0, _, hz1, _⟩ := info_parts infoPN
  by_cases hij : i = j
  · subst hij
    rw [decide_eq_true rfl]
    exact run_eql_ptr_same w _ Tryz.underlying95 hi0
  · rw [decide_eq_false hij]
    exact run_eql_ptr_other w Tryz.underlying95 hi0 (by rw [hz1]; decide) (fun e => hij (h.inj i j hi hj (by injection e))) (h.blk i hi) (h.blk j hj)

theorem needsAlready_any {w : World} {base k n f : Nat} {B : Nat → Nat} {R : Nat → Value × List Nat} (h : Gr w base k B R) (hn : n < k) (hf : f < k) {b : Bool} (hb : decide (f ∈ (R (2 * n + 1)).2) = b) :
    Calls Tryz.prog 89 #[.pointer (some ⟨B n, 0, none⟩), .pointer (some ⟨B f, 0, none⟩)] w fun e w' => e = .returned (.bool b) ∧ w = w' := by
  obtain ⟨A, c, hA, hc⟩ := h.form (a := 2 * n + 1) (by omega)
  have hlen := h.len (2 * n + 1)
  have c1 : w.cell? ⟨B n, 1, none⟩ = some (R (2 * n + 1)).1 := (h.blk n hn).cell 1
  rw [hA] at c1
  have hmem := h.mem (2 * n + 1) (by omega)
  generalize (R (2 * n + 1)).2 = l at *
  have Hb := Lib.hid hb
  have Hmem := Lib.hid hmem
  clear hb hA hmem
  go_enter Tryz.func89, Tryz.ntmps89
  go_wp2_with fail
  go_loop [12] (fun i => ∃ k' : Nat, k' ≤ l.length ∧ i = .int .i64 k' ∧ (l.take k').all (fun x => decide (x ≠ f)) = true) (fun i => l.length - (intOf i).toNat)
  case atStart => exact ⟨0, Nat.zero_le _, rfl, rfl⟩
  case round =>
    obtain ⟨k', hk, rfl, hall⟩ := hrel
    have Hall := Lib.hid hall
    clear hall
    by_cases hlt : k' < l.length
    · obtain ⟨g, rfl, hcs⟩ := hc (by omega)
      have hx := List.getElem?_eq_getElem hlt
      have hcell := hcs k' _ hx
      have Hx := Lib.hid hx
      have hxk := Hmem.out _ (List.getElem_mem hlt)
      generalize l[k'] = x at *
      have he := eqPtr h hxk hf
      clear hcs hx
      by_cases hxf : x = f
      · have Hr : Hid (b = true) := by
          show b = true
          rw [← Hb.out, decide_eq_true_eq, ← hxf]
          exact List.mem_of_getElem? Hx.out
        rw [decide_eq_true hxf] at he
        clear hxf
        go_wp2_with fail
        go_ret
        exact ⟨by rw [Hr.out]; rfl, rfl⟩
      · have Hxf := Lib.hid hxf
        rw [decide_eq_false hxf] at he
        clear hxf
        go_wp2_with fail
        go_round
        case rel => exact ⟨k' + 1, by omega, by go_num, by rw [all_snoc _ Hx.out, Hall.out]; simp [Hxf.out]⟩
        case measure => simp [intOf]; omega
    · have Hr : Hid (b = false) := by
        show b = false
        rw [← Hb.out, decide_eq_false_iff_not]
        have h1 := Hall.out
        rw [List.take_of_length_le (by omega)] at h1
        intro hm
        simpa using List.all_eq_true.1 h1 f hm
      go_wp2_with fail
      go_ret
      exact ⟨by rw [Hr.out]; rfl, rfl⟩
end Go.Proofs.YtihobnheficpjaaGreat
namespace Go.Proofs.YtihobnheficpjaaGreat
open Go.RowKit

theorem wp_push_qs {P : Program} {ops : Array Oper} {rest : List Oper} {o : Oper} {a : Act} {Q : Exit → Act → World → Prop} {w : World} {E : TypeId} {u : Value}
    (s x : Operand) (t : TypeId) (z : Value) (bytes : Nat) (ht : P.underlying t = some (.slice E)) (hinf : (P.info? E).map (fun i => (i.zero, i.size, i.bytes)) = some (some z, 1, bytes))
    (hzs : z.cells.size = 1) (hby : bytes ≤ 128) (hgd : o.guard = none)
    (ho : o.op = .call { callee := .builtin .append, args := #[s, x], argTypes := #[t, t] })
    {base : Nat} {v : Value} {xs : List Value} (hown : QS w base E v xs) (hn : xs.length ≤ 1000000000) (hbase : base ≤ w.heap.size) (h1 : u.oneCell' = true)
    (hs : a.eval s = v) {N : Nat} (hx : a.eval x = .slice (some ⟨N, 0, none⟩) 1 1) (hN : N = w.heap.size)
    (h : ∀ v' w', QS w' base E v' (xs ++ [u]) → w.grownBy w' v.ownBlock → (v'.ownBlock = v.ownBlock ∨ v'.ownBlock = some (w.heap.size + 1)) → wpList P ops Q rest (a.put o.dst v') w') :
    wpList P ops Q (o :: rest) a (w.alloc (.cells #[u] E)) := by
  subst hN
  have hc : (w.alloc (.cells #[u] E)).cell? ⟨w.heap.size, 0, none⟩ = some u := by rw [World.cell?_alloc_new]; rfl
  have h0 : QS (w.alloc (.cells #[u] E)) base E v xs := hown.new (World.grownBy_alloc w _ none)
  obtain ⟨v', w', hr, h2, h3, h4⟩ := append_qs (P := P) (t := t) (ty := o.type) (c := 1) ht hinf hzs hby h0 hc h1 hn (by simp; omega)
  refine wpList_plain hgd fun K hK => ?_
  unfold Oper.wp execOp
  simp only [ho, resolve, invoke, builtin, Sem.run_bind, Sem.run_pure, Result.andThen_ok, List.map_toArray, List.map_cons, List.map_nil, hs, hx, hr]
  refine hK _ _ (h v' w' h2 ?_ (by simpa using h4))
  exact ⟨h3.os, h3.tape, h3.output, Nat.le_trans (by simp) h3.size, fun k hk hne => (h3.block k (by simp; omega) hne).trans (Below.heap_alloc w _ k hk)⟩
theorem own_blk {w w' : World} {base size n : Nat} {E : TypeId} {v : Value} {xs : List Value} (h : w.ownsRow base E size v n xs) (k : ∀ g cs, Blk w g E cs → Blk w' g E cs) : w'.ownsRow base E size v n xs := by
  refine ⟨h.1, ?_⟩
  rcases h.2 with h0 | ⟨g, cap, cur, h1, h2, h3, h4⟩
  · exact .inl h0
  · exact .inr ⟨g, cap, cur, h1, h2, k g cur h3, h4⟩

end Go.Proofs.YtihobnheficpjaaGreat
namespace Go.Proofs.YtihobnheficpjaaGreat
open Go.RowKit

/-- What a kind does, as an interface value. -/
def work (k : Int) : Value :=
  if k = 0 then .iface 126 (.agg #[])
  else if k = 1 then .iface 107 (.agg #[.func (.func 93) #[] #[]])
  else if k = 2 then .iface 107 (.agg #[.func (.func 94) #[] #[]])
  else if k = 3 then .iface 111 (.agg #[.func (.func 95) #[] #[]])
  else if k = 4 then .iface 111 (.agg #[.func (.func 96) #[] #[]])
  else if k = 5 then .iface 111 (.agg #[.func (.func 97) #[] #[]])
  else .nilIface

theorem workOf_any (k : Int) (w : World) :
    Calls Tryz.prog 72 #[.int .i64 k] w fun e w' => e = .returned (work k) ∧ w = w' := by
  by_cases hk : k < 0 ∨ 5 < k
  · have H : Hid (work k = .nilIface) := by
      show work k = .nilIface
      unfold work
      repeat rw [if_neg (by omega)]
    rcases hk with hk | hk
    all_goals
      go_enter Tryz.func72, Tryz.ntmps72
      go_wp2_with fail
      go_ret
      exact ⟨by rw [H.out]; rfl, rfl⟩
  · rcases (show k = 0 ∨ k = 1 ∨ k = 2 ∨ k = 3 ∨ k = 4 ∨ k = 5 by omega) with rfl | rfl | rfl | rfl | rfl | rfl
    all_goals
      clear hk
      go_enter Tryz.func72, Tryz.ntmps72
      go_wp2_with fail
      go_ret
      exact ⟨rfl, rfl⟩
theorem implKindValid_any (k : Int) (w : World) :
    Calls Tryz.prog 86 #[.int .i64 k] w fun e w' => e = .returned (.bool (kindValid k)) ∧ w = w' := by
  by_cases hk : k < 0 ∨ 5 < k
  · have H : Hid (work k = .nilIface) := by
      show work k = .nilIface
      unfold work
      repeat rw [if_neg (by omega)]
    have hv : kindValid k = false := by
      unfold kindValid
      simp only [Bool.and_eq_false_iff, decide_eq_false_iff_not]
      omega
    rw [hv]
    clear hv hk
    go_enter Tryz.func86, Tryz.ntmps86
    go_wp2_with fail
    refine (workOf_any _ _).mono ?_
    rw [H.out]
    rintro e w' ⟨rfl, rfl⟩
    go_wp2_with fail
    go_ret
    exact ⟨rfl, rfl⟩
  · rcases (show k = 0 ∨ k = 1 ∨ k = 2 ∨ k = 3 ∨ k = 4 ∨ k = 5 by omega) with rfl | rfl | rfl | rfl | rfl | rfl
    all_goals
      clear hk
      go_enter Tryz.func86, Tryz.ntmps86
      go_wp2_with fail
      refine (workOf_any _ _).mono ?_
      simp only [work, if_true]
      rintro e w' ⟨rfl, rfl⟩
      go_wp2_with fail
      go_ret
      exact ⟨rfl, rfl⟩
theorem implKindValid_b (k : Int) (w : World) {b : Bool} (hb : kindValid k = b) :
    Calls Tryz.prog 86 #[.int .i64 k] w fun e w' => e = .returned (.bool b) ∧ w = w' := hb ▸ implKindValid_any k w

theorem m_given (w : World) : (method 272 126 (.agg #[]) "loop.example/workplans/impl.needs").run Tryz.prog w = .ok (149, .agg #[]) w := by kernel_rfl
theorem m_pair (f : FuncId) (w : World) : (method 272 107 (.agg #[.func (.func f) #[] #[]]) "loop.example/workplans/impl.needs").run Tryz.prog w = .ok (73, .agg #[.func (.func f) #[] #[]]) w := by kernel_rfl
theorem m_lone (f : FuncId) (w : World) : (method 272 111 (.agg #[.func (.func f) #[] #[]]) "loop.example/workplans/impl.needs").run Tryz.prog w = .ok (74, .agg #[.func (.func f) #[] #[]]) w := by kernel_rfl
theorem givenNeeds_any (w : World) : Calls Tryz.prog 149 #[.agg #[]] w fun e w' => e = .returned (.int .i64 0) ∧ w.grownBy w' none := by
  go_enter Tryz.func149, Tryz.ntmps149
  go_wp2_with fail
  go_ret
  exact ⟨rfl, World.grownBy_alloc _ _ _⟩
theorem pairNeeds_any (f : FuncId) (w : World) : Calls Tryz.prog 73 #[.agg #[.func (.func f) #[] #[]]] w fun e w' => e = .returned (.int .i64 2) ∧ w.grownBy w' none := by
  go_enter Tryz.func73, Tryz.ntmps73
  go_wp2_with fail
  go_ret
  exact ⟨rfl, World.grownBy_alloc _ _ _⟩
theorem loneNeeds_any (f : FuncId) (w : World) : Calls Tryz.prog 74 #[.agg #[.func (.func f) #[] #[]]] w fun e w' => e = .returned (.int .i64 1) ∧ w.grownBy w' none := by
  go_enter Tryz.func74, Tryz.ntmps74
  go_wp2_with fail
  go_ret
  exact ⟨rfl, World.grownBy_alloc _ _ _⟩

set_option maxRecDepth 20000 in
theorem implKindNeeds_any (k : Int) (w : World) :
    Calls Tryz.prog 87 #[.int .i64 k] w fun e w' => e = .returned (.int .i64 (kindNeeds k)) ∧ w.grownBy w' none := by
  by_cases hk : k < 0 ∨ 5 < k
  · have H : Hid (work k = .nilIface) := by
      show work k = .nilIface
      unfold work
      repeat rw [if_neg (by omega)]
    rw [show kindNeeds k = -1 by unfold kindNeeds; rw [if_pos hk]]
    clear hk
    go_enter Tryz.func87, Tryz.ntmps87
    go_wp2_with fail
    refine (workOf_any _ _).mono ?_
    rw [H.out]
    rintro e w' ⟨rfl, rfl⟩
    go_wp2_with fail
    go_ret
    exact ⟨rfl, gb_refl _ _⟩
  · rcases (show k = 0 ∨ k = 1 ∨ k = 2 ∨ k = 3 ∨ k = 4 ∨ k = 5 by omega) with rfl | rfl | rfl | rfl | rfl | rfl
    all_goals
      clear hk
      go_enter Tryz.func87, Tryz.ntmps87
      go_wp2_with fail
      refine (workOf_any _ _).mono ?_
      simp only [work, if_true]
      rintro e w' ⟨rfl, rfl⟩
      have hm1 := m_given
      have hm2 := m_pair
      have hm3 := m_lone
      go_wp2_with (first
        | (go_at_call 149; refine (givenNeeds_any _).mono ?_; rintro e w' ⟨rfl, hg⟩)
        | (go_at_call 73; refine (pairNeeds_any _ _).mono ?_; rintro e w' ⟨rfl, hg⟩)
        | (go_at_call 74; refine (loneNeeds_any _ _).mono ?_; rintro e w' ⟨rfl, hg⟩))
      go_ret
      exact ⟨rfl, by assumption⟩
end Go.Proofs.YtihobnheficpjaaGreat
