/- Walks: impl.countTableOf and the table's methods. · Walks: the table's methods list, set, take. · Walks: the table's set and take. -/
import Derived.Test.YtihobnheficpjaaGreatM24
import Derived.Test.YtihobnheficpjaaGreatM07
import Derived.Test.YtihobnheficpjaaGreatM23
import Derived.Test.YtihobnheficpjaaGreatM15
import Derived.Laws.CopyOwn
import Derived.Test.YtihobnheficpjaaGreatM20
namespace Go.Proofs.YtihobnheficpjaaGreat
open Go.RowKit

/-- The table's cells: ten counts and their number. -/
def tabArr (f : Nat → Int) (n : Nat) : Array Value := #[.int .i64 (f 0), .int .i64 (f 1), .int .i64 (f 2), .int .i64 (f 3), .int .i64 (f 4), .int .i64 (f 5), .int .i64 (f 6), .int .i64 (f 7), .int .i64 (f 8), .int .i64 (f 9), .int .i64 n]
/-- The table stands in block tb. -/
def TT (w : World) (tb : Nat) (f : Nat → Int) (n : Nat) : Prop := Blk w tb 129 (tabArr f n)
theorem tabArr_get (f : Nat → Int) (n : Nat) {u : Nat} (hu : u < 10) : (tabArr f n)[u]? = some (.int .i64 (f u)) := by
  rcases (show u = 0 ∨ u = 1 ∨ u = 2 ∨ u = 3 ∨ u = 4 ∨ u = 5 ∨ u = 6 ∨ u = 7 ∨ u = 8 ∨ u = 9 by omega) with rfl | rfl | rfl | rfl | rfl | rfl | rfl | rfl | rfl | rfl <;> rfl
theorem tabArr_put (f : Nat → Int) (n : Nat) {u : Nat} (hu : u < 10) (x : Int) : (tabArr f n).setIfInBounds u (.int .i64 x) = tabArr (putN f u x) n := by
  rcases (show u = 0 ∨ u = 1 ∨ u = 2 ∨ u = 3 ∨ u = 4 ∨ u = 5 ∨ u = 6 ∨ u = 7 ∨ u = 8 ∨ u = 9 by omega) with rfl | rfl | rfl | rfl | rfl | rfl | rfl | rfl | rfl | rfl <;> rfl
section
variable {w w' : World} {tb n : Nat} {f : Nat → Int}
theorem TT.cell (h : TT w tb f n) {u : Nat} (hu : u < 10) : w.cell? ⟨tb, u, none⟩ = some (.int .i64 (f u)) := by
  rw [← tabArr_get f n hu]
  exact Blk.cell h u
theorem TT.size (h : TT w tb f n) : w.cell? ⟨tb, 10, none⟩ = some (.int .i64 n) := Blk.cell h 10
theorem TT.frozen (h : TT w tb f n) (u : Nat) : w.frozen? ⟨tb, u, none⟩ = false := Blk.frozen h u
theorem TT.new (h : TT w tb f n) (hg : w.grownBy w' none) : TT w' tb f n := Blk.grown h hg (by simp)
theorem TT.put (h : TT w tb f n) {u : Nat} (hu : u < 10) (x : Int) : TT (w.setCell ⟨tb, u, none⟩ (.int .i64 x)) tb (putN f u x) n := by
  have := Blk.set_ h u (.int .i64 x)
  rw [tabArr_put f n hu] at this
  exact this
theorem TT.ne (h : TT w tb f n) {E : TypeId} (hE : E ≠ 129) : NotE w E (some tb) := NotE.blk h hE
end
set_option maxHeartbeats 1600000 in
set_option maxRecDepth 20000 in
theorem countTableOf_any (v : Value) (plan : List Node) (w : World) (h : RN w v plan) (hv : planValid plan = true) :
    Calls Tryz.prog 75 #[v] w fun e w' => ∃ tb, e = .returned (.pointer (some ⟨tb, 0, none⟩)) ∧ TT w' tb (tabTo plan plan.length) plan.length ∧ w.heap.size ≤ tb ∧ w.grownBy w' none := by
  obtain ⟨A, n, c, rfl, -, hn, -⟩ := h.form'
  have hn10 : n ≤ 10 := by have := planValid_len hv; omega
  have Hn := Lib.hid hn
  have Hv := Lib.hid hv
  clear hn hv
  go_enter Tryz.func75, Tryz.ntmps75
  go_upto_region 2 with fail
  have T0 : TT (w.alloc (.cells #[.int .i64 0, .int .i64 0, .int .i64 0, .int .i64 0, .int .i64 0, .int .i64 0, .int .i64 0, .int .i64 0, .int .i64 0, .int .i64 0, .int .i64 n] 129)) w.heap.size (tabTo plan 0) n := by
    rw [tabTo_zero]
    exact Blk.new _ _ _
  have hg0 := World.grownBy_alloc w (.cells #[.int .i64 0, .int .i64 0, .int .i64 0, .int .i64 0, .int .i64 0, .int .i64 0, .int .i64 0, .int .i64 0, .int .i64 0, .int .i64 0, .int .i64 n] 129) none
  have h0 := h.new hg0
  generalize w.alloc (.cells #[.int .i64 0, .int .i64 0, .int .i64 0, .int .i64 0, .int .i64 0, .int .i64 0, .int .i64 0, .int .i64 0, .int .i64 0, .int .i64 0, .int .i64 n] 129) = wA at T0 hg0 h0 ⊢
  clear h
  go_wp2_with fail
  go_loopg [13] (n + 1) (fun mm i wr => ∃ k : Nat, k ≤ n ∧ mm = n + 1 - k ∧ i = .int .i64 k ∧ TT wr w.heap.size (tabTo plan k) n ∧ RN wr (.slice A n c) plan ∧ w.grownBy wr none)
  case atStart => exact ⟨0, Nat.zero_le _, rfl, rfl, T0, h0, hg0⟩
  case round =>
    clear T0 h0 hg0
    obtain ⟨k, hk, rfl, rfl, T, h, hg⟩ := hrel
    by_cases hlt : k < n
    · go_wp2_with fail
      refine (planUses_any _ plan k wr h Hv.out (by rw [← Hn.out]; exact hlt)).mono ?_
      rintro e w2 ⟨uv, rfl, hu, hg2⟩
      rw [graphL_users Hv.out] at hu
      have T2 := T.new hg2
      have h2 := h.new hg2
      have g2 := gb_trans hg hg2
      obtain ⟨Au, m, cu, rfl, -, hm⟩ := hu.ri.form'
      have hm' : m = (usersOf plan k).length := by rw [hm, List.length_map]
      have hm10 : m ≤ 10 := by have := usersOf_len plan k; have := Hn.out; omega
      have Hm := Lib.hid hm'
      have hu2 := hu.ri
      clear T h hg hg2 hu hm hm'
      go_wp2_with fail
      go_loopg [20] (m + 1) (fun mm i wx => ∃ t : Nat, t ≤ m ∧ mm = m + 1 - t ∧ i = .int .i64 t ∧ TT wx w.heap.size (tabMid plan k t) n ∧ RN wx (.slice A n c) plan ∧ RI wx (.slice Au m cu) ((usersOf plan k).map (fun j : Nat => (j : Int))) ∧ w.grownBy wx none)
      case atStart => exact ⟨0, Nat.zero_le _, rfl, rfl, by rw [tabMid_zero]; exact T2, h2, hu2, g2⟩
      case round =>
        clear T2 h2 g2 hu2
        obtain ⟨t, ht, rfl, rfl, T, h, hr, hg⟩ := hrel
        by_cases hlt2 : t < m
        · obtain ⟨gu, ou, x, rfl, hx, c0⟩ := hr.at_ hlt2
          rw [List.getElem?_map] at hx
          obtain ⟨u, hu, rfl⟩ := Option.map_eq_some_iff.1 hx
          have hun : u < 10 := by
            have := (mem_usersOf.1 (List.mem_of_getElem? hu)).1
            have := Hn.out
            omega
          have T3 := T.put hun (tabMid plan k t u + 1)
          rw [← tabMid_succ hu] at T3
          have hz := T.cell hun
          have hzf := T.frozen u
          have hb := tabMid_in Hv.out k t u
          have hst : wr.grownBy (wr.setCell ⟨w.heap.size, u, none⟩ (.int .i64 (tabMid plan k t u + 1))) (some w.heap.size) := gb_set (gb_refl _ _) (.inr rfl) _
          have h3 := h.grown hst (T.ne (by decide)) (T.ne (by decide))
          have hr3 := hr.grown hst (T.ne (by decide))
          have g3 := gb_new hg hst (fun g e => by cases e; exact .inl (Nat.le_refl _))
          generalize tabMid plan k t u = y at hz hb T3 h3 hr3 g3 hst
          clear T h hr hg hst hx hu
          go_wp2_with fail
          go_region
          all_goals
            go_wp2_with fail
            go_roundg (m + 1 - (t + 1))
            case measure => omega
            case rel => exact ⟨t + 1, by omega, rfl, by go_num, T3, h3, hr3, by first | exact g3 | exact gb_drew g3⟩
        · obtain rfl : m = t := by omega
          have T3 : TT wr w.heap.size (tabTo plan (k + 1)) n := by
            rw [← tabMid_all Hv.out (Nat.le_of_eq Hm.out.symm)]
            exact T
          clear T
          go_wp2_with fail
          go_roundg (n + 1 - (k + 1))
          case measure => omega
          case rel => exact ⟨k + 1, by omega, rfl, by go_num, T3, h, hg⟩
    · obtain rfl : n = k := by omega
      go_wp2_with fail
      go_ret
      exact ⟨_, rfl, by rw [← Hn.out]; exact T, Nat.le_refl _, hg⟩
end Go.Proofs.YtihobnheficpjaaGreat
namespace Go.Proofs.YtihobnheficpjaaGreat
open Go.RowKit

theorem TT.ts {w : World} {tb n : Nat} {f : Nat → Int} (h : TT w tb f n) (hn : n ≤ 10) : TS w 129 1 (.slice (some ⟨tb, 0, none⟩) n 10) n (((List.range n).map f).map (.int .i64)) := by
  refine ⟨by simp, some ⟨tb, 0, none⟩, 10, rfl, hn, by unfold maxLen; omega, fun e => (by cases e), .inr ⟨tb, 0, tabArr f n, rfl, h, fun j u hj => ?_⟩⟩
  have hjl := (List.getElem?_eq_some_iff.1 hj).1
  rw [List.length_map, List.length_map, List.length_range] at hjl
  rw [List.getElem?_map, List.getElem?_map, List.getElem?_range hjl] at hj
  rw [Nat.zero_add, tabArr_get f n (by omega)]
  exact hj
/-- 'append([]int(nil), xs...)' where xs lies in a block of whatever type. -/
theorem wp_copy_ts {ops : Array Oper} {rest : List Oper} {o : Oper} {a : Act} {Q : Exit → Act → World → Prop} {w : World} {E : TypeId}
    (s x : Operand) (t : TypeId) (ht : Tryz.prog.underlying t = some (.slice 3)) (hgd : o.guard = none) (ho : o.op = .call { callee := .builtin .append, args := #[s, x], argTypes := #[t, t] })
    {base : Nat} {xv : Value} {l : List Int} (hxv : TS w E 1 xv l.length (l.map (.int .i64))) (hn : l.length ≤ 1000000000) (hbase : base ≤ w.heap.size)
    (hs : a.eval s = .slice none 0 0) (hx : a.eval x = xv)
    (h : ∀ v' w', OwnI w' base v' l → w.grownBy w' none → wpList Tryz.prog ops Q rest (a.put o.dst v') w') :
    wpList Tryz.prog ops Q (o :: rest) a w := by
  obtain ⟨i, hi, hz0, hz1, hz2⟩ := info_parts info3
  obtain ⟨A, c, e, hc, hcm, hcn⟩ := TS.form hxv
  subst e
  match A, hcn with
  | none, hcn =>
    obtain rfl := hcn rfl
    have hl0 : l = [] := List.eq_nil_of_length_eq_zero (by omega)
    subst hl0
    refine wpList_append_own_none hgd s x t ho base 3 i 1 ht hi (.slice none 0 0) 0 [] hs (World.ownsRow_nil _ _ _ _) hx ?_
    exact h _ _ (OwnI.nil _ _) (gb_refl _ _)
  | some ad, hcn =>
    refine wpList_append_own _ hgd s x t ho base 3 i _ 1 8 ht hi hz0 hz1 hz2 rfl (by decide) (.slice none 0 0) 0 [] hs (World.ownsRow_nil _ _ _ _) ad l.length c (l.map (.int .i64)) hx (by rw [List.length_map, Nat.mul_one]) ?_ (ints_one l) ?_ ?_ hbase ?_
    · intro j u hj
      have hjl := (List.getElem?_eq_some_iff.1 hj).1
      rw [List.length_map] at hjl
      obtain ⟨g, o', cur, e, _, hcell⟩ := TS.at_ hxv (by omega)
      have e2 : ad = ⟨g, o', none⟩ := Option.some.inj e
      rw [e2, Addr.add_lit]
      exact hcell j u hj
    · unfold maxLen; omega
    · omega
    · intro v' w' h1 h2 _
      refine h v' w' ?_ h2
      unfold OwnI
      simpa using h1
theorem tabArr_laid (f : Nat → Int) (n : Nat) {cs : List Int} (hl : cs.length ≤ 10) : ((tabArr f n).toList.take 0 ++ (cs.map (Value.int .i64) ++ (tabArr f n).toList.drop (0 + (cs.map (Value.int .i64)).length))).toArray = tabArr (laidN f cs) n := by
  rcases cs with _ | ⟨a0, _ | ⟨a1, _ | ⟨a2, _ | ⟨a3, _ | ⟨a4, _ | ⟨a5, _ | ⟨a6, _ | ⟨a7, _ | ⟨a8, _ | ⟨a9, _ | ⟨a10, r⟩⟩⟩⟩⟩⟩⟩⟩⟩⟩⟩
  all_goals first | rfl | (simp only [List.length_cons] at hl; omega)
set_option maxRecDepth 20000 in
/-- 'copy(t.left[:], counts)'. -/
theorem wp_copy_tab {ops : Array Oper} {rest : List Oper} {o : Oper} {a : Act} {Q : Exit → Act → World → Prop} {w : World} (d s : Operand) (hgd : o.guard = none) (ho : o.op = .call { callee := .builtin .copy, args := #[d, s], argTypes := #[25, 25] })
    {tb n m c : Nat} {A : Option Addr} {f : Nat → Int} {cs : List Int} (hT : TT w tb f n) (hc : RI w (.slice A m c) cs) (hl : cs.length ≤ 10) (hd : a.eval d = .slice (some ⟨tb, 0, none⟩) 10 10) (hs : a.eval s = .slice A m c)
    (h : ∀ z w', TT w' tb (laidN f cs) n → w.grownBy w' (some tb) → wpList Tryz.prog ops Q rest (a.put o.dst z) w') :
    wpList Tryz.prog ops Q (o :: rest) a w := by
  obtain ⟨i, hi, hz0, hz1, hz2⟩ := info_parts info3
  have hsz : (Tryz.prog.info? 3).map (·.size) = some 1 := by rw [hi]; exact congrArg some (by assumption)
  have hm := hc.len
  by_cases h0 : m = 0
  · subst h0
    have e : cs = [] := List.eq_nil_of_length_eq_zero hm.symm
    subst e
    refine wpList_copy_nothing hgd d s _ _ ho 3 Tryz.underlying25 hsz _ _ 10 10 0 c hd hs (by simp) ?_
    refine h _ w ?_ (gb_refl _ _)
    have e2 : laidN f [] = f := by funext i; rfl
    rw [e2]
    exact hT
  · obtain ⟨gu, ou, x, rfl, -, -⟩ := hc.at_ (k := 0) (by omega)
    refine wpList_copy_own hgd d s _ _ ho 3 Tryz.underlying25 hsz tb 0 10 10 ⟨gu, ou, none⟩ m c hd hs (tabArr f n) 129 hT (cs.map (.int .i64)) ?_ ?_ ?_ (ints_one cs) ?_
    · rw [List.length_map, ← hm]
      exact (Nat.min_eq_left (by omega)).symm
    · intro j u hj
      have hjl := (List.getElem?_eq_some_iff.1 hj).1
      rw [List.length_map] at hjl
      obtain ⟨g', o', x', e, hx', hcell⟩ := hc.at_ (k := j) (by omega)
      injection e with e
      injection e with e1 e2
      subst e1 e2
      rw [List.getElem?_map, hx'] at hj
      rw [Addr.add_lit, hcell]
      exact hj
    · rw [List.length_map]
      show 0 + cs.length ≤ 11
      omega
    · rw [tabArr_laid f n hl]
      refine h _ _ ?_ ?_
      · exact setRow_heap w tb _ _ 129 _ hT
      · exact ⟨rfl, rfl, rfl, by simp [World.setRow], fun k hk hr => setRow_other w tb k _ (fun e => hr (by rw [e]))⟩
theorem copyTab_any (l : List Int) (E : TypeId) (v : Value) (w : World) (h : TS w E 1 v l.length (l.map (.int .i64))) (hl : l.length ≤ 1000000000) : Calls Tryz.prog 16 #[v] w (IntsOut w l) := by
  obtain ⟨A, c, rfl, -⟩ := h.form
  go_enter Tryz.func16, Tryz.ntmps16
  go_wp2_with (at_builtin; go_must (refine wp_copy_ts _ (.tmp 3) 25 Tryz.underlying25 rfl rfl h hl (Nat.le_refl _) rfl rfl ?_))
  intro v' w1 ho hg
  obtain ⟨A', n', c', rfl⟩ := ho.ri.val
  go_wp2_with fail
  go_ret
  exact ⟨_, rfl, ho, hg⟩
theorem tabList_any (tb n : Nat) (f : Nat → Int) (w : World) (h : TT w tb f n) (hn : n ≤ 10) : Calls Tryz.prog 76 #[.pointer (some ⟨tb, 0, none⟩)] w (IntsOut w ((List.range n).map f)) := by
  have hsz := h.size
  have hb10 : (n : Int) ≤ 10 := by omega
  have hb0 : (0 : Int) ≤ n := by omega
  go_enter Tryz.func76, Tryz.ntmps76
  go_wp2_with fail
  go_region_law (go_simp; go_at_call 16; refine (copyTab_any ((List.range n).map f) 129 _ _ (by simpa using (h.new (gb_drew (gb_refl w none))).ts hn) (by simp; omega)).mono ?_; rintro e w2 ⟨v2, rfl, ho, hg⟩; obtain ⟨A2, n2, c2, rfl⟩ := ho.ri.val)
  all_goals
    go_wp2_with fail
    go_ret
    exact ⟨_, rfl, ho, gb_trans (gb_drew (gb_refl w none)) hg⟩
end Go.Proofs.YtihobnheficpjaaGreat
namespace Go.Proofs.YtihobnheficpjaaGreat
open Go.RowKit

def tabFit (f : Nat → Int) (n : Nat) (cs : List Int) : Prop := cs.length = n ∧ ∀ i c, cs[i]? = some c → 0 ≤ c ∧ c ≤ f i
def SetOut (w : World) (tb : Nat) (f : Nat → Int) (n : Nat) (cs : List Int) (e : Ending) (w' : World) : Prop :=
  (tabFit f n cs ∧ e = .returned (.bool true) ∧ TT w' tb (laidN f cs) n ∧ w.grownBy w' (some tb)) ∨ (¬ tabFit f n cs ∧ e = .returned (.bool false) ∧ w.grownBy w' none)
set_option maxHeartbeats 1600000 in
set_option maxRecDepth 20000 in
theorem tabSet_any (tb n : Nat) (f : Nat → Int) (cv : Value) (cs : List Int) (w : World) (h : TT w tb f n) (hn : n ≤ 10) (hc : RI w cv cs) : Calls Tryz.prog 77 #[.pointer (some ⟨tb, 0, none⟩), cv] w (SetOut w tb f n cs) := by
  obtain ⟨A, m, c, rfl, hmc, hm⟩ := hc.form'
  have hsz := h.size
  have Hm := Lib.hid hm
  by_cases hmn : m = n
  · subst hmn
    clear hm
    go_enter Tryz.func77, Tryz.ntmps77
    go_wp2_with fail
    go_loopg [16] (m + 1) (fun mm i wr => ∃ k : Nat, k ≤ m ∧ mm = m + 1 - k ∧ i = .int .i64 k ∧ w.grownBy wr none ∧ Hid (∀ i c, i < k → cs[i]? = some c → 0 ≤ c ∧ c ≤ f i))
    case atStart => exact ⟨0, Nat.zero_le _, rfl, rfl, gb_refl _ _, fun i c hi => absurd hi (Nat.not_lt_zero _)⟩
    case round =>
      obtain ⟨k, hk, rfl, rfl, hg, Hk⟩ := hrel
      have T := h.new hg
      have hr := hc.new hg
      by_cases hlt : k < m
      · obtain ⟨gu, ou, x, rfl, hx, c0⟩ := hr.at_ hlt
        have hz := T.cell (u := k) (by omega)
        have Hx := Lib.hid hx
        clear hx
        obtain ⟨y, hy⟩ : ∃ y, y = f k := ⟨_, rfl⟩
        rw [← hy] at hz
        have Hy := Lib.hid hy
        clear hy hsz
        by_cases h1 : x < 0
        · have hno : Hid (¬ tabFit f m cs) := fun e => by have := (e.2 k x Hx.out).1; omega
          clear T hr h hc
          go_wp2_with fail
          go_ret
          exact .inr ⟨hno.out, rfl, hg⟩
        · by_cases h2 : y < x
          · have hno : Hid (¬ tabFit f m cs) := fun e => by have := (e.2 k x Hx.out).2; have := Hy.out; omega
            clear T hr h hc
            go_wp2_with fail
            go_ret
            exact .inr ⟨hno.out, rfl, hg⟩
          · go_wp2_with fail
            go_roundg (m + 1 - (k + 1))
            case measure => omega
            case rel => exact ⟨k + 1, by omega, rfl, by go_num, hg, fun i c hi hc' => by
              by_cases e : i = k
              · subst e
                rw [Hx.out] at hc'
                injection hc' with hc'
                subst hc'
                have := Hy.out
                omega
              · exact Hk.out i c (by omega) hc'⟩
      · obtain rfl : m = k := by omega
        have hfit : Hid (tabFit f m cs) := ⟨Hm.out.symm, fun i c hc' => Hk.out i c (by have := (List.getElem?_eq_some_iff.1 hc').1; have := Hm.out; omega) hc'⟩
        have hl : cs.length ≤ 10 := by have := Hm.out; omega
        clear hsz Hk hk
        go_wp2_with (with_reducible refine wp_copy_tab (.tmp 37) (.tmp 38) rfl rfl T hr hl rfl rfl ?_)
        intro z w2 T2 hg2
        go_wp2_with fail
        go_ret
        exact .inl ⟨hfit.out, rfl, T2, gb_trans (gb_some hg _) hg2⟩
  · have hb : ((m : Int) == (n : Int)) = false := by simp only [beq_eq_false_iff_ne, ne_eq]; omega
    have hno : Hid (¬ tabFit f n cs) := fun e => hmn (by rw [hm]; exact e.1)
    clear hm hmn
    go_enter Tryz.func77, Tryz.ntmps77
    go_wp2_with fail
    go_ret
    exact .inr ⟨hno.out, rfl, gb_refl _ _⟩
end Go.Proofs.YtihobnheficpjaaGreat
