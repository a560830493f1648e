/- Words for memory: slices of the call's own that may begin inside their block. Conditions: none. · Words for memory: an append of a whole slice; slices of rows of the call's own, no two in one block. Conditions: none. · Walks: spec.l5Levels, spec.LevelsOf, spec.CountWide. -/
import Derived.Test.YtihobnheficpjaaGreatDoorM05
import Derived.Laws.CopyRow
import Derived.Laws.AppendOwn
import Derived.Test.YtihobnheficpjaaGreatDoorM06
import Derived.Deep.Upon
import Derived.Test.YtihobnheficpjaaGreatDoorM11
import Derived.Test.YtihobnheficpjaaGreatDoorM02
namespace Go.Proofs.YtihobnheficpjaaGreatDoor
open Go.RowKit

theorem run_append_room_off {P : Program} (w : World) (t ty e : TypeId) (i : TypeInfo) (ht : P.underlying t = some (.slice e)) (hi : P.info? e = some i)
    (g o sLen sCap : Nat) (cur : Array Value) (hg : w.heap[g]? = some (.cells cur e (0, 0)))
    (a : Addr) (m c : Nat) (news : List Value) (hl : news.length = m * i.size) (hnews : ∀ j u, news[j]? = some u → w.cell? (a.add j) = some u) (h1 : ∀ u ∈ news, u.oneCell' = true)
    (hroom : sLen + m ≤ sCap) (hfit : o + sLen * i.size + news.length ≤ cur.size) :
    (Builtin.append_ #[t, t] ty #[.slice (some ⟨g, o, none⟩) sLen sCap, .slice (some a) m c]).run P w =
      .ok (.slice (some ⟨g, o, none⟩) (sLen + m) sCap) (w.setRow g (cur.toList.take (o + sLen * i.size) ++ news ++ cur.toList.drop (o + sLen * i.size + news.length)).toArray) := by
  have hf := run_firstCells_some (P := P) w i.size m a m c news hl hnews
  have hst := run_storeCells_at P g (o + sLen * i.size) e news 0 cur w hg (by simpa using hfit) h1
  simp only [Nat.add_zero] at hst
  simp [Builtin.append_, run_underlying ht, sizeOf, typeInfo, hi, Builtin.lenOf, hroom, hf, Addr.add_lit, hst]

/-- A slice with the one-cell elements xs, in a block of the call's own, from wherever in it. -/
def QS (w : World) (base : Nat) (E : TypeId) (v : Value) (xs : List Value) : Prop :=
  ∃ A c, v = .slice A xs.length c ∧ xs.length ≤ c ∧ c ≤ maxLen ∧ (∀ u ∈ xs, u.oneCell' = true) ∧
    ((A = none ∧ c = 0) ∨ ∃ g o cur, A = some ⟨g, o, none⟩ ∧ base ≤ g ∧ Blk w g E cur ∧ o + c ≤ cur.size ∧ ∀ j u, xs[j]? = some u → cur[o + j]? = some u)
section
variable {w w' : World} {base : Nat} {E : TypeId} {v : Value} {xs : List Value}
theorem QS.nil (w : World) (base : Nat) (E : TypeId) : QS w base E (.slice none 0 0) [] := ⟨none, 0, rfl, by simp, by simp, by simp, .inl ⟨rfl, rfl⟩⟩
theorem QS.form (h : QS w base E v xs) : ∃ A c, v = .slice A xs.length c ∧ xs.length ≤ c ∧ c ≤ maxLen := let ⟨A, c, h1, h2, h3, _⟩ := h; ⟨A, c, h1, h2, h3⟩
theorem QS.ts (h : QS w base E v xs) : TS w E 1 v xs.length xs := by
  obtain ⟨A, c, h1, h2, h3, _, h5⟩ := h
  rcases h5 with ⟨h4, h5⟩ | ⟨g, o, cur, k1, k2, k3, k4, k5⟩
  · exact ⟨by simp, A, c, h1, h2, h3, fun _ => h5, by left; omega⟩
  · subst k1
    exact ⟨by simp, _, c, h1, h2, h3, by simp, .inr ⟨g, o, cur, rfl, k3, k5⟩⟩
theorem QS.lt (h : QS w base E v xs) : ∀ g, v.ownBlock = some g → base ≤ g ∧ g < w.heap.size := by
  obtain ⟨A, c, rfl, h2, h3, _, h5⟩ := h
  intro g' hg'
  rcases h5 with ⟨rfl, h5⟩ | ⟨g, o, cur, rfl, k2, k3, k4, k5⟩
  · cases hg'
  · cases hg'
    exact ⟨k2, k3.lt⟩
theorem QS.notE {E' : TypeId} (h : QS w base E v xs) (hE : E' ≠ E) : NotE w E' v.ownBlock := by
  obtain ⟨A, c, rfl, h2, h3, _, h5⟩ := h
  rcases h5 with ⟨rfl, h5⟩ | ⟨g, o, cur, rfl, k2, k3, k4, k5⟩
  · exact NotE.none _ _
  · exact NotE.blk k3 hE
theorem QS.gb {a : World} {row : Option Nat} (h : QS w base E v xs) (hg : a.grownBy w row) (k : w.grownBy w' v.ownBlock) (hb : a.heap.size ≤ base) : a.grownBy w' row :=
  gb_new hg k (fun g e => .inl (Nat.le_trans hb (h.lt g e).1))
theorem QS.grown {row : Option Nat} (h : QS w base E v xs) (hg : w.grownBy w' row) (hr : NotE w E row) : QS w' base E v xs := by
  obtain ⟨A, c, h1, h2, h3, h6, h5⟩ := h
  refine ⟨A, c, h1, h2, h3, h6, ?_⟩
  rcases h5 with h5 | ⟨g, o, cur, k1, k2, k3, k4, k5⟩
  · exact .inl h5
  · exact .inr ⟨g, o, cur, k1, k2, k3.grown hg (fun e => hr g e.symm cur k3), k4, k5⟩
theorem QS.new (h : QS w base E v xs) (hg : w.grownBy w' none) : QS w' base E v xs := h.grown hg (NotE.none _ _)
/-- Its block stands if another one turns. -/
theorem QS.apart {row : Option Nat} (h : QS w base E v xs) (hg : w.grownBy w' row) (hr : v.ownBlock = none ∨ v.ownBlock ≠ row) : QS w' base E v xs := by
  obtain ⟨A, c, h1, h2, h3, h6, h5⟩ := h
  refine ⟨A, c, h1, h2, h3, h6, ?_⟩
  rcases h5 with h5 | ⟨g, o, cur, k1, k2, k3, k4, k5⟩
  · exact .inl h5
  · subst h1 k1
    refine .inr ⟨g, o, cur, rfl, k2, k3.grown hg (fun e => ?_), k4, k5⟩
    rcases hr with hr | hr
    · cases hr
    · exact hr e
theorem QS.at_ {A : Option Addr} {n c k : Nat} {u : Value} (h : QS w base E (.slice A n c) xs) (hk : xs[k]? = some u) : ∃ g o, A = some ⟨g, o, none⟩ ∧ w.cell? ⟨g, o + k, none⟩ = some u := by
  obtain ⟨A', c', h1, h2, h3, _, h5⟩ := h
  injection h1 with e1 e2 e3
  subst e1 e3
  have := (List.getElem?_eq_some_iff.1 hk).1
  rcases h5 with ⟨h4, h5⟩ | ⟨g, o, cur, k1, k2, k3, k4, k5⟩
  · omega
  · exact ⟨g, o, k1, (k3.cell _).trans (k5 k u hk)⟩
/-- Without the first element: 's[1:]'. -/
theorem QS.tail {A : Option Addr} {n c : Nat} {x : Value} (h : QS w base E (.slice A n c) (x :: xs)) :
    ∃ g o, A = some ⟨g, o, none⟩ ∧ n = xs.length + 1 ∧ 1 ≤ c ∧ QS w base E (.slice (some ⟨g, o + 1, none⟩) (n - 1) (c - 1)) xs ∧ (c = 1 → QS w base E (.slice (some ⟨g, o, none⟩) (n - 1) (c - 1)) xs) := by
  obtain ⟨A', c', h1, h2, h3, h6, h5⟩ := h
  injection h1 with e1 e2 e3
  subst e1 e3
  rw [List.length_cons] at h2 e2
  rcases h5 with ⟨h4, h5⟩ | ⟨g, o, cur, k1, k2, k3, k4, k5⟩
  · omega
  · have e : n - 1 = xs.length := by omega
    rw [e]
    refine ⟨g, o, k1, e2, by omega, ⟨_, _, rfl, by omega, by omega, fun u hu => h6 u (by simp [hu]), ?_⟩, fun hc => ⟨_, _, rfl, by omega, by omega, fun u hu => h6 u (by simp [hu]), ?_⟩⟩
    · refine .inr ⟨g, o + 1, cur, rfl, k2, k3, by omega, fun j u hu => ?_⟩
      have := k5 (j + 1) u (by simpa using hu)
      rw [show o + 1 + j = o + (j + 1) by omega]
      exact this
    · refine .inr ⟨g, o, cur, rfl, k2, k3, by omega, fun j u hu => ?_⟩
      have := (List.getElem?_eq_some_iff.1 hu).1
      omega
/-- .. without the last one: 's[:n-1]'. -/
theorem QS.init {A : Option Addr} {n c : Nat} {x : Value} (h : QS w base E (.slice A n c) (xs ++ [x])) : n = xs.length + 1 ∧ n ≤ c ∧ QS w base E (.slice A xs.length c) xs := by
  obtain ⟨A', c', h1, h2, h3, h6, h5⟩ := h
  injection h1 with e1 e2 e3
  subst e1 e3
  rw [List.length_append, List.length_singleton] at h2 e2
  refine ⟨e2, by omega, _, _, rfl, by omega, h3, fun u hu => h6 u (by simp [hu]), ?_⟩
  rcases h5 with h5 | ⟨g, o, cur, k1, k2, k3, k4, k5⟩
  · exact .inl h5
  · exact .inr ⟨g, o, cur, k1, k2, k3, k4, fun j u hu => k5 j u ((List.getElem?_append_left (List.getElem?_eq_some_iff.1 hu).1).trans hu)⟩
theorem QS.of_own {n : Nat} (h : w.ownsRow base E 1 v n xs) (h1 : ∀ u ∈ xs, u.oneCell' = true) : QS w base E v xs := by
  have hn : n = xs.length := by have := h.1; omega
  subst hn
  rcases h.2 with ⟨rfl, h0⟩ | ⟨g, cap, cur, rfl, hb, hg, hn, hm, hcs, ht⟩
  · have : xs = [] := List.eq_nil_of_length_eq_zero h0
    subst this
    exact QS.nil _ _ _
  · refine ⟨_, cap, rfl, hn, hm, h1, .inr ⟨g, 0, cur, rfl, hb, hg, by omega, fun j u hu => ?_⟩⟩
    rw [← ht, List.getElem?_take] at hu
    split at hu
    · simpa using hu
    · cases hu
end
theorem OwnI.low {w : World} {a b : Nat} {v : Value} {l : List Int} (h : OwnI w a v l) (hab : b ≤ a) : OwnI w b v l := by
  refine ⟨h.1, ?_⟩
  rcases h.2 with h0 | ⟨g, cap, cur, h1, h2, h3⟩
  · exact .inl h0
  · exact .inr ⟨g, cap, cur, h1, Nat.le_trans hab h2, h3⟩
theorem OwnI.qs {w : World} {base : Nat} {v : Value} {l : List Int} (h : OwnI w base v l) : QS w base 3 v (l.map (.int .i64)) := QS.of_own h (fun u hu => by
  obtain ⟨x, _, rfl⟩ := List.mem_map.1 hu
  rfl)
theorem QS.ri {w : World} {base : Nat} {v : Value} {l : List Int} (h : QS w base 3 v (l.map (.int .i64))) : RI w v l := by
  have := h.ts
  rw [List.length_map] at this
  exact this
theorem QS.ptr {w : World} {base : Nat} {E : TypeId} {v : Value} {l : List Nat} {f : Nat → Value} (h : QS w base E v (l.map f)) : ∃ A c, v = .slice A l.length c ∧ l.length ≤ c := by
  obtain ⟨A, c, h1, h2, _⟩ := h.form
  rw [List.length_map] at h1 h2
  exact ⟨A, c, h1, h2⟩

/-- 'append(s, x)' of one element, whatever room there is: the element lies in a block of its own. -/
theorem append_qs {P : Program} {w : World} {base : Nat} {t ty E : TypeId} {z : Value} {bytes : Nat} (ht : P.underlying t = some (.slice E)) (hinf : (P.info? E).map (fun i => (i.zero, i.size, i.bytes)) = some (some z, 1, bytes))
    (hzs : z.cells.size = 1) (hby : bytes ≤ 128) {v : Value} {xs : List Value} (h : QS w base E v xs) {ad : Addr} {c : Nat} {u : Value} (hnew : w.cell? ad = some u) (h1 : u.oneCell' = true) (hn : xs.length ≤ 1000000000) (hbase : base ≤ w.heap.size) :
    ∃ v' w', (Builtin.append_ #[t, t] ty #[v, .slice (some ad) 1 c]).run P w = .ok v' w' ∧ QS w' base E v' (xs ++ [u]) ∧ w.grownBy w' v.ownBlock ∧ (v'.ownBlock = v.ownBlock ∨ v'.ownBlock = some w.heap.size) := by
  obtain ⟨i, hi, hz0, hz1, hz2⟩ := info_parts hinf
  have hnews : ∀ (j : Nat) (u' : Value), [u][j]? = some u' → w.cell? (ad.add j) = some u' := by
    intro j u' hj
    match j, hj with
    | 0, hj =>
      simp at hj
      subst hj
      have : ad.add 0 = ad := by unfold Addr.add; split <;> simp_all
      rw [this]
      exact hnew
  have h1' : ∀ u' ∈ [u], u'.oneCell' = true := fun u' hu' => by simp at hu'; subst hu'; exact h1
  have hbb : (xs.length + 1) * bytes ≤ 140737488355328 := by
    calc (xs.length + 1) * bytes ≤ (xs.length + 1) * 128 := Nat.mul_le_mul_left _ hby
      _ ≤ 140737488355328 := by omega
  obtain ⟨A, cc, rfl, h2, h3, h6, h5⟩ := h
  have h1s : ∀ y ∈ xs ++ [u], y.oneCell' = true := fun y hy => by
    rcases List.mem_append.1 hy with hy | hy
    · exact h6 y hy
    · exact h1' y hy
  have h63 : xs.length + 1 ≤ maxLen := by unfold maxLen; omega
  -- a new block
  have grown : ∀ (b : Addr) (olds : List Value), olds = xs → A = some b → cc < xs.length + 1 → (∀ (j : Nat) (y : Value), xs[j]? = some y → w.cell? (b.add j) = some y) →
      ∃ v' w', (Builtin.append_ #[t, t] ty #[.slice A xs.length cc, .slice (some ad) 1 c]).run P w = .ok v' w' ∧ QS w' base E v' (xs ++ [u]) ∧ w.grownBy w' (Value.slice A xs.length cc).ownBlock ∧ (v'.ownBlock = (Value.slice A xs.length cc).ownBlock ∨ v'.ownBlock = some w.heap.size) := by
    rintro b olds rfl rfl hc holds
    have hr := run_append_grow (P := P) w t ty E i z ht hi hz0 b olds.length cc olds (by rw [hz1]; omega) holds ad 1 c [u] (by rw [hz1]; rfl) hnews (by omega) (by omega) (growslice_fits (by omega) (by rw [hz2]; exact hbb))
    have hge := grownCap_ge w (olds.length + 1) cc E
    have hcm := grownCap_le_maxLen w (olds.length + 1) cc E h63
    refine ⟨_, _, hr, ⟨_, _, by rw [List.length_append, List.length_singleton], by rw [List.length_append, List.length_singleton]; exact hge, hcm, h1s, .inr ⟨w.heap.size, 0, _, rfl, hbase, heap_alloc_new w.drew _, ?_, fun j y hj => ?_⟩⟩,
      ⟨rfl, rfl, rfl, by simp, fun k hk _ => Below.heap_alloc w.drew _ k hk⟩, .inr rfl⟩
    · rw [Array.size_append, Array.size_append, List.size_toArray, List.size_toArray, size_zeroCells, hzs]
      simp
      omega
    · rw [Nat.zero_add, Array.getElem?_append_left (by
        have := (List.getElem?_eq_some_iff.1 hj).1
        rw [Array.size_append, List.size_toArray, List.size_toArray]
        simpa using this)]
      rw [show olds.toArray ++ [u].toArray = (olds ++ [u]).toArray by simp, List.getElem?_toArray]
      exact hj
  rcases h5 with ⟨rfl, rfl⟩ | ⟨g, o, cur, rfl, k2, k3, k4, k5⟩
  · have hx0 : xs = [] := List.eq_nil_of_length_eq_zero (by omega)
    subst hx0
    have hr := run_append_nil (P := P) w t ty E i z ht hi hz0 ad 1 c [u] (by rw [hz1]; rfl) hnews (by omega) (by omega) (by rw [hz2]; omega)
    have hge := grownCap_ge w 1 0 E
    have hcm := grownCap_le_maxLen w 1 0 E (by unfold maxLen; omega)
    refine ⟨_, _, hr, ⟨_, _, rfl, hge, hcm, h1s, .inr ⟨w.heap.size, 0, _, rfl, hbase, heap_alloc_new w.drew _, ?_, fun j y hj => ?_⟩⟩,
      ⟨rfl, rfl, rfl, by simp, fun k hk _ => Below.heap_alloc w.drew _ k hk⟩, .inr rfl⟩
    · rw [Array.size_append, List.size_toArray, size_zeroCells, hzs]
      simp
      omega
    · rw [Nat.zero_add, Array.getElem?_append_left (by
        have := (List.getElem?_eq_some_iff.1 hj).1
        simpa using this), List.getElem?_toArray]
      exact hj
  · by_cases hroom : xs.length + 1 ≤ cc
    · have hr := run_append_room_off (P := P) w t ty E i ht hi g o xs.length cc cur k3 ad 1 c [u] (by rw [hz1]; rfl) hnews h1' hroom (by rw [hz1]; simp; omega)
      refine ⟨_, _, hr, ⟨_, _, by rw [List.length_append, List.length_singleton], by rw [List.length_append, List.length_singleton]; exact hroom, h3, h1s, .inr ⟨g, o, _, rfl, k2, setRow_heap w g cur _ E _ k3, ?_, fun j y hj => ?_⟩⟩,
        ⟨rfl, rfl, rfl, by simp, fun k _ hk => setRow_other w g k _ (fun e => hk (by simp [e, Value.ownBlock]))⟩, .inl rfl⟩
      · simp only [List.size_toArray, List.length_append, List.length_take, List.length_drop, Array.length_toList, List.length_singleton]
        rw [hz1]
        omega
      · rw [hz1, Nat.mul_one, List.getElem?_toArray, List.append_assoc]
        by_cases hj2 : j < xs.length
        · rw [List.getElem?_append_left (by simp; omega), List.getElem?_take, if_pos (by omega)]
          rw [List.getElem?_append_left hj2] at hj
          simpa using k5 j y hj
        · have hjl := (List.getElem?_eq_some_iff.1 hj).1
          rw [List.length_append, List.length_singleton] at hjl
          obtain rfl : j = xs.length := by omega
          rw [List.getElem?_append_right (by simp; omega)]
          rw [List.getElem?_append_right (by omega)] at hj
          simp only [Nat.sub_self] at hj
          rw [show o + xs.length - (cur.toList.take (o + xs.length)).length = 0 by simp; omega]
          simpa using hj
    · exact grown ⟨g, o, none⟩ xs rfl rfl (by omega) (fun j y hj => by
        rw [Addr.add_lit, k3.cell]
        exact k5 j y hj)
end Go.Proofs.YtihobnheficpjaaGreatDoor
namespace Go.Proofs.YtihobnheficpjaaGreatDoor
open Go.RowKit

/-- 'append(s, x...)' of a whole slice with elements of one cell. -/
theorem append_qts {P : Program} {w : World} {base : Nat} {t ty E : TypeId} {z : Value} {bytes : Nat} (ht : P.underlying t = some (.slice E)) (hinf : (P.info? E).map (fun i => (i.zero, i.size, i.bytes)) = some (some z, 1, bytes))
    (hzs : z.cells.size = 1) (hby : bytes ≤ 128) {v x : Value} {xs news : List Value} (h : QS w base E v xs) {m : Nat} (hx : TS w E 1 x m news) (h1 : ∀ u ∈ news, u.oneCell' = true) (hn : xs.length + m ≤ 1000000000) (hbase : base ≤ w.heap.size) :
    ∃ v' w', (Builtin.append_ #[t, t] ty #[v, x]).run P w = .ok v' w' ∧ QS w' base E v' (xs ++ news) ∧ w.grownBy w' v.ownBlock ∧ (v'.ownBlock = v.ownBlock ∨ v'.ownBlock = some w.heap.size) := by
  obtain ⟨i, hi, hz0, hz1, hz2⟩ := info_parts hinf
  obtain ⟨hm, Ax, cx, rfl, hmc, hcx, hcn, hxc⟩ := hx
  rw [Nat.mul_one] at hm
  subst hm
  have hbb : (xs.length + news.length) * bytes ≤ 140737488355328 := by
    calc (xs.length + news.length) * bytes ≤ (xs.length + news.length) * 128 := Nat.mul_le_mul_left _ hby
      _ ≤ 140737488355328 := by omega
  have h63 : xs.length + news.length ≤ maxLen := by unfold maxLen; omega
  by_cases hm0 : news.length = 0
  · obtain rfl : news = [] := List.eq_nil_of_length_eq_zero hm0
    obtain ⟨A, cc, e, h2, h3, h6, h5⟩ := id h
    subst e
    have hs : Src P i.size t (.slice Ax 0 cx) 0 [] w := by
      match Ax with
      | none => exact Src.ofNil w ht cx
      | some ad => exact Src.ofSlice w ht ad 0 cx [] (by simp) (fun j u hj => by simp at hj) (fun u hu => by simp at hu)
    exact ⟨_, w, run_append_nothing (P := P) w t t ty E i ht hi A xs.length cc h2 _ hs, by rw [List.append_nil]; exact h, gb_refl _ _, .inl rfl⟩
  · obtain ⟨gx, ox, curx, rfl, hbx, hcx'⟩ : ∃ g o cur, Ax = some ⟨g, o, none⟩ ∧ Blk w g E cur ∧ ∀ (j : Nat) (u : Value), news[j]? = some u → cur[o + j]? = some u := by
      rcases hxc with h0 | h0
      · exact absurd h0 hm0
      · exact h0
    have hnews : ∀ (j : Nat) (u : Value), news[j]? = some u → w.cell? ((⟨gx, ox, none⟩ : Addr).add j) = some u := by
      intro j u hj
      rw [Addr.add_lit, hbx.cell]
      exact hcx' j u hj
    obtain ⟨A, cc, rfl, h2, h3, h6, h5⟩ := h
    have h1s : ∀ y ∈ xs ++ news, y.oneCell' = true := fun y hy => by
      rcases List.mem_append.1 hy with hy | hy
      · exact h6 y hy
      · exact h1 y hy
    rcases h5 with ⟨rfl, rfl⟩ | ⟨g, o, cur, rfl, k2, k3, k4, k5⟩
    · have hx0 : xs = [] := List.eq_nil_of_length_eq_zero (by omega)
      subst hx0
      have hr := run_append_nil (P := P) w t ty E i z ht hi hz0 ⟨gx, ox, none⟩ news.length cx news (by rw [hz1, Nat.mul_one]) hnews (by omega) (by omega) (by
        rw [hz2]
        simp at hbb
        omega)
      have hge := grownCap_ge w news.length 0 E
      have hcm := grownCap_le_maxLen w news.length 0 E (by simpa using h63)
      refine ⟨_, _, hr, ⟨_, _, by rw [List.nil_append], by rw [List.nil_append]; exact hge, hcm, h1s, .inr ⟨w.heap.size, 0, _, rfl, hbase, heap_alloc_new w.drew _, ?_, fun j y hj => ?_⟩⟩,
        ⟨rfl, rfl, rfl, by simp, fun k hk _ => Below.heap_alloc w.drew _ k hk⟩, .inr rfl⟩
      · rw [Array.size_append, List.size_toArray, size_zeroCells, hzs]
        omega
      · rw [List.nil_append] at hj
        rw [Nat.zero_add, Array.getElem?_append_left (by
          have := (List.getElem?_eq_some_iff.1 hj).1
          simpa using this), List.getElem?_toArray]
        exact hj
    · by_cases hroom : xs.length + news.length ≤ cc
      · have hr := run_append_room_off (P := P) w t ty E i ht hi g o xs.length cc cur k3 ⟨gx, ox, none⟩ news.length cx news (by rw [hz1, Nat.mul_one]) hnews h1 hroom (by rw [hz1]; omega)
        refine ⟨_, _, hr, ⟨_, _, by rw [List.length_append], by rw [List.length_append]; exact hroom, h3, h1s, .inr ⟨g, o, _, rfl, k2, setRow_heap w g cur _ E _ k3, ?_, fun j y hj => ?_⟩⟩,
          ⟨rfl, rfl, rfl, by simp, fun k _ hk => setRow_other w g k _ (fun e => hk (by simp [e, Value.ownBlock]))⟩, .inl rfl⟩
        · simp only [List.size_toArray, List.length_append, List.length_take, List.length_drop, Array.length_toList]
          rw [hz1]
          omega
        · rw [hz1, Nat.mul_one, List.getElem?_toArray, List.append_assoc]
          by_cases hj2 : j < xs.length
          · rw [List.getElem?_append_left (by simp; omega), List.getElem?_take, if_pos (by omega)]
            rw [List.getElem?_append_left hj2] at hj
            simpa using k5 j y hj
          · have hjl := (List.getElem?_eq_some_iff.1 hj).1
            rw [List.length_append] at hjl
            rw [List.getElem?_append_right (by omega)] at hj
            rw [List.getElem?_append_right (by simp; omega), show o + j - (cur.toList.take (o + xs.length)).length = j - xs.length by simp; omega, List.getElem?_append_left (by omega)]
            exact hj
      · have hr := run_append_grow (P := P) w t ty E i z ht hi hz0 ⟨g, o, none⟩ xs.length cc xs (by rw [hz1]; omega) (fun j y hj => by
            rw [Addr.add_lit, k3.cell]
            exact k5 j y hj) ⟨gx, ox, none⟩ news.length cx news (by rw [hz1, Nat.mul_one]) hnews (by omega) (by omega) (growslice_fits (by omega) (by rw [hz2]; exact hbb))
        have hge := grownCap_ge w (xs.length + news.length) cc E
        have hcm := grownCap_le_maxLen w (xs.length + news.length) cc E h63
        refine ⟨_, _, hr, ⟨_, _, by rw [List.length_append], by rw [List.length_append]; exact hge, hcm, h1s, .inr ⟨w.heap.size, 0, _, rfl, hbase, heap_alloc_new w.drew _, ?_, fun j y hj => ?_⟩⟩,
          ⟨rfl, rfl, rfl, by simp, fun k hk _ => Below.heap_alloc w.drew _ k hk⟩, .inr rfl⟩
        · rw [Array.size_append, Array.size_append, List.size_toArray, List.size_toArray, size_zeroCells, hzs]
          omega
        · rw [Nat.zero_add, Array.getElem?_append_left (by
            have := (List.getElem?_eq_some_iff.1 hj).1
            rw [Array.size_append, List.size_toArray, List.size_toArray]
            simpa using this)]
          rw [show xs.toArray ++ news.toArray = (xs ++ news).toArray by simp, List.getElem?_toArray]
          exact hj
/-- Integers in a slice of the call's own, from wherever in its block. -/
def QI (w : World) (base : Nat) (v : Value) (l : List Int) : Prop := QS w base 3 v (l.map (.int .i64))
section
variable {w w' : World} {base : Nat} {v : Value} {l : List Int} {row : Option Nat}
theorem QI.ri (h : QI w base v l) : RI w v l := QS.ri h
theorem OwnI.qi (h : OwnI w base v l) : QI w base v l := h.qs
theorem QI.grown (h : QI w base v l) (hg : w.grownBy w' row) (hr : NotE w 3 row) : QI w' base v l := QS.grown h hg hr
theorem QI.new (h : QI w base v l) (hg : w.grownBy w' none) : QI w' base v l := QS.new h hg
theorem QI.lt (h : QI w base v l) : ∀ g, v.ownBlock = some g → base ≤ g ∧ g < w.heap.size := QS.lt h
theorem QI.notE {E : TypeId} (h : QI w base v l) (hE : E ≠ 3) : NotE w E v.ownBlock := QS.notE h hE
theorem QI.gb {a : World} (h : QI w base v l) (hg : a.grownBy w row) (k : w.grownBy w' v.ownBlock) (hb : a.heap.size ≤ base) : a.grownBy w' row := QS.gb h hg k hb
theorem QI.nil (w : World) (base : Nat) : QI w base (.slice none 0 0) [] := QS.nil _ _ _
theorem QI.slice (h : QI w base v l) : ∃ A n c, v = .slice A n c ∧ n = l.length ∧ n ≤ c := by
  obtain ⟨A, n, c, h1, h2, h3⟩ := h.ri.form'
  exact ⟨A, n, c, h1, h3, h2⟩
theorem QI.low {b : Nat} (h : QI w base v l) (hab : b ≤ base) : QI w b v l := by
  obtain ⟨A, c, h1, h2, h3, h6, h5⟩ := h
  refine ⟨A, c, h1, h2, h3, h6, ?_⟩
  rcases h5 with h5 | ⟨g, o, cur, k1, k2, k3⟩
  · exact .inl h5
  · exact .inr ⟨g, o, cur, k1, Nat.le_trans hab k2, k3⟩
end
theorem ints_one (l : List Int) : ∀ u ∈ l.map (Value.int .i64), u.oneCell' = true := fun u hu => by
  obtain ⟨x, _, rfl⟩ := List.mem_map.1 hu
  rfl
/-- 'append(s, x...)' of integers. -/
theorem wp_append_ints {ops : Array Oper} {rest : List Oper} {o : Oper} {a : Act} {Q : Exit → Act → World → Prop} {w : World}
    (s x : Operand) (hgd : o.guard = none) (ho : o.op = .call { callee := .builtin .append, args := #[s, x], argTypes := #[25, 25] })
    {base : Nat} {v xv : Value} {l l' : List Int} (hown : QI w base v l) (hxv : RI w xv l') (hn : l.length + l'.length ≤ 1000000000) (hbase : base ≤ w.heap.size)
    (hs : a.eval s = v) (hx : a.eval x = xv)
    (h : ∀ v' w', QI w' base v' (l ++ l') → w.grownBy w' v.ownBlock → (v'.ownBlock = v.ownBlock ∨ v'.ownBlock = some w.heap.size) → wpList Tryz.prog ops Q rest (a.put o.dst v') w') :
    wpList Tryz.prog ops Q (o :: rest) a w := by
  obtain ⟨v', w', hr, h2, h3, h4⟩ := append_qts (P := Tryz.prog) (t := 25) (ty := o.type) Tryz.underlying25 info3 rfl (by decide) hown (x := xv) (news := l'.map (.int .i64)) hxv (ints_one l') (by rw [List.length_map]; exact hn) hbase
  refine wpList_plain hgd fun K hK => ?_
  unfold Oper.wp execOp
  simp only [ho, resolve, invoke, builtin, Sem.run_bind, Sem.run_pure, Result.andThen_ok, List.map_toArray, List.map_cons, List.map_nil, hs, hx, hr]
  refine hK _ _ (h v' w' ?_ h3 h4)
  unfold QI
  rw [List.map_append]
  exact h2
/-- 'append(s, n)' of one integer that lies in a block of its own. -/
theorem wp_append_int {ops : Array Oper} {rest : List Oper} {o : Oper} {a : Act} {Q : Exit → Act → World → Prop} {w : World} {u : Int}
    (s x : Operand) (hgd : o.guard = none) (ho : o.op = .call { callee := .builtin .append, args := #[s, x], argTypes := #[25, 25] })
    {base : Nat} {v : Value} {l : List Int} (hown : QI w base v l) (hn : l.length ≤ 1000000) (hbase : base ≤ w.heap.size)
    (hs : a.eval s = v) {N : Nat} (hx : a.eval x = .slice (some ⟨N, 0, none⟩) 1 1) (hN : N = w.heap.size)
    (h : ∀ v' w', QI w' base v' (l ++ [u]) → w.grownBy w' v.ownBlock → (v'.ownBlock = v.ownBlock ∨ v'.ownBlock = some (w.heap.size + 1)) → wpList Tryz.prog ops Q rest (a.put o.dst v') w') :
    wpList Tryz.prog ops Q (o :: rest) a (w.alloc (.cells #[.int .i64 u] 3)) := by
  subst hN
  have hl : RI (w.alloc (.cells #[.int .i64 u] 3)) (.slice (some ⟨w.heap.size, 0, none⟩) 1 1) [u] := RI.lit w [u]
  refine wp_append_ints s x hgd ho (hown.new (World.grownBy_alloc w _ none)) hl (by simp; omega) (by simp; omega) hs hx fun v' w' h1 h2 h3 => h v' w' h1 ?_ (by simpa using h3)
  exact ⟨h2.os, h2.tape, h2.output, Nat.le_trans (by simp) h2.size, fun k hk hne => (h2.block k (by simp; omega) hne).trans (Below.heap_alloc w _ k hk)⟩

/-- 'append(out, x)' of one integer; the element's block by its number. -/
theorem wp_push_int_n {ops : Array Oper} {rest : List Oper} {o : Oper} {a : Act} {Q : Exit → Act → World → Prop} {w : World} {u : Int}
    (s x : Operand) (hgd : o.guard = none) (ho : o.op = .call { callee := .builtin .append, args := #[s, x], argTypes := #[25, 25] })
    {base : Nat} {v : Value} {l : List Int} (hown : OwnI w base v l) (hn : l.length ≤ 1000000000) (hbase : base ≤ w.heap.size)
    (hs : a.eval s = v) {N : Nat} (hx : a.eval x = .slice (some ⟨N, 0, none⟩) 1 1) (hN : N = w.heap.size)
    (h : ∀ v' w', OwnI w' base v' (l ++ [u]) → w.grownBy w' v.ownBlock → wpList Tryz.prog ops Q rest (a.put o.dst v') w') :
    wpList Tryz.prog ops Q (o :: rest) a (w.alloc (.cells #[.int .i64 u] 3)) := by
  subst hN
  exact wp_push_int s x hgd ho hown hn hbase hs hx h

/-- A slice of rows, all of the call's own, no two rows in one block. -/
def DL (w : World) (base : Nat) (v : Value) (ll : List (List Int)) : Prop :=
  ∃ vs, w.ownsRow base 25 1 v ll.length vs ∧ (∀ (i : Nat) (l : List Int), ll[i]? = some l → ∃ u, vs[i]? = some u ∧ QI w base u l) ∧
    ∀ (i j : Nat) (u u' : Value), i ≠ j → vs[i]? = some u → vs[j]? = some u' → u.ownBlock = none ∨ u.ownBlock ≠ u'.ownBlock
section
variable {w w' : World} {base : Nat} {v : Value} {ll : List (List Int)} {row : Option Nat}
theorem DL.new (h : DL w base v ll) (hg : w.grownBy w' none) : DL w' base v ll := by
  obtain ⟨vs, h1, h2, h3⟩ := h
  refine ⟨vs, own_grown h1 hg (NotE.none _ _), fun i l hi => ?_, h3⟩
  obtain ⟨u, k1, k2⟩ := h2 i l hi
  exact ⟨u, k1, k2.new hg⟩
theorem DL.rl (h : DL w base v ll) : RL w v ll := by
  obtain ⟨vs, h1, h2, _⟩ := h
  refine ⟨vs, TS.of_own h1, fun i l hi => ?_⟩
  obtain ⟨u, k1, k2⟩ := h2 i l hi
  exact ⟨u, k1, k2.ri⟩
theorem DL.own (h : DL w base v ll) : OwnL w base v ll := by
  obtain ⟨vs, h1, h2, _⟩ := h
  refine ⟨vs, h1, fun i l hi => ?_⟩
  obtain ⟨u, k1, k2⟩ := h2 i l hi
  exact ⟨u, k1, k2.ri⟩
theorem DL.nil (w : World) (base : Nat) : DL w base (.slice none 0 0) [] := ⟨[], World.ownsRow_nil _ _ _ _, fun i l h => by simp at h, fun i j u u' _ h => by simp at h⟩
theorem DL.low {b : Nat} (h : DL w base v ll) (hab : b ≤ base) : DL w b v ll := by
  obtain ⟨vs, h1, h2, h3⟩ := h
  refine ⟨vs, ⟨h1.1, ?_⟩, fun i l hi => ?_, h3⟩
  · rcases h1.2 with h0 | ⟨g, cap, cur, k1, k2, k3⟩
    · exact .inl h0
    · exact .inr ⟨g, cap, cur, k1, Nat.le_trans hab k2, k3⟩
  · obtain ⟨u, k1, k2⟩ := h2 i l hi
    exact ⟨u, k1, k2.low hab⟩
theorem DL.made {n : Nat} (h : w.ownsRow base 25 1 v n (madeCells (Value.slice none 0 0).cells n).toList) : DL w base v (List.replicate n []) := by
  have hc : (Value.slice none 0 0).cells = #[.slice none 0 0] := rfl
  rw [hc] at h
  refine ⟨_, by rw [List.length_replicate]; exact h, fun i l hi => ?_, fun i j u u' hij hu hu' => ?_⟩
  · obtain ⟨hin, rfl⟩ : i < n ∧ l = [] := by
      rw [List.getElem?_replicate] at hi
      split at hi
      · exact ⟨by assumption, by injection hi with e; exact e.symm⟩
      · cases hi
    exact ⟨.slice none 0 0, by simp [madeCells, hin, Nat.mod_one], QI.nil _ _⟩
  · left
    have : u = .slice none 0 0 := by
      have hi : i < n := by have := (List.getElem?_eq_some_iff.1 hu).1; simpa [madeCells] using this
      simp [madeCells, hi, Nat.mod_one] at hu
      exact hu.symm
    rw [this]
    rfl
theorem DL.at_ {g n cap k : Nat} {l : List Int} (h : DL w base (.slice (some ⟨g, 0, none⟩) n cap) ll) (hk : ll[k]? = some l) :
    ∃ u, w.cell? ⟨g, k, none⟩ = some u ∧ w.frozen? ⟨g, k, none⟩ = false ∧ base ≤ g ∧ (∃ cs, Blk w g 25 cs) ∧ QI w base u l ∧
      ∀ (w' : World) (u' : Value) (l' : List Int) (N : Nat) (row : Option Nat), w.grownBy w' row → (row = none ∨ row = u.ownBlock) → w.heap.size ≤ N → QI w' base u' l' → (u'.ownBlock = none ∨ u'.ownBlock = u.ownBlock ∨ u'.ownBlock = some N) → DL (w'.setCell ⟨g, k, none⟩ u') base (.slice (some ⟨g, 0, none⟩) n cap) (ll.set k l') := by
  obtain ⟨vs, h1, h2, h3⟩ := h
  obtain ⟨u, k1, k2⟩ := h2 k l hk
  have hkl := (List.getElem?_eq_some_iff.1 hk).1
  obtain rfl : n = ll.length := by
    rcases h1.2 with ⟨e, _⟩ | ⟨g', cap', cur, e, _⟩
    · cases e
    · injection e
  have hxl : vs.length = ll.length := by have := h1.1; omega
  have hrest := h1
  rcases h1.2 with ⟨e, _⟩ | ⟨g', cap', cur, e, hb, hh, _⟩
  · cases e
  obtain rfl : g = g' := slice_block e
  have hc := World.ownsRow.cellAt hrest k (by omega)
  refine ⟨u, hc.trans k1, Blk.frozen (cs := cur) hh k, hb, ⟨cur, hh⟩, k2, ?_⟩
  intro w' u' l' N row hg hr hN hq' hob
  have hE : NotE w 25 row := by
    rcases hr with rfl | rfl
    · exact NotE.none _ _
    · exact k2.notE (by decide)
  have s1 := World.ownsRow.stored (own_grown hrest hg hE) k u'
  have hbk : Blk w' g 25 cur := Blk.grown (cs := cur) hh hg (fun e => hE g e.symm cur hh)
  have hst : w'.grownBy (w'.setCell ⟨g, k, none⟩ u') (some g) := gb_set (p := ⟨g, k, none⟩) (gb_refl w' (some g)) (.inr rfl) _
  have hnI : NotE w' 3 (some g) := NotE.blk hbk (by decide)
  have hlt : ∀ (i : Nat) (l2 : List Int) (u2 : Value), ll[i]? = some l2 → vs[i]? = some u2 → ∀ b, u2.ownBlock = some b → b < w.heap.size := by
    intro i l2 u2 hi hu2 b hb2
    obtain ⟨u3, q1, q2⟩ := h2 i l2 hi
    rw [hu2] at q1
    cases q1
    exact (q2.lt b hb2).2
  have hsome : ∀ (i : Nat) (u2 : Value), vs[i]? = some u2 → ∃ l2, ll[i]? = some l2 := fun i u2 hu2 => ⟨_, List.getElem?_eq_getElem (by have := (List.getElem?_eq_some_iff.1 hu2).1; omega)⟩
  refine ⟨_, by rw [List.length_set]; exact s1.1, fun i l2 hi => ?_, fun i j a b hij ha hb2 => ?_⟩
  · by_cases hik : i = k
    · subst hik
      rw [List.getElem?_set_self hkl] at hi
      obtain rfl : l' = l2 := by simpa using hi
      exact ⟨u', by rw [List.getElem?_set_self (by omega)], hq'.grown hst hnI⟩
    · rw [List.getElem?_set_ne (fun e => hik e.symm)] at hi
      obtain ⟨u2, q1, q2⟩ := h2 i l2 hi
      refine ⟨u2, by rw [List.getElem?_set_ne (fun e => hik e.symm)]; exact q1, ?_⟩
      have q3 : QI w' base u2 l2 := by
        refine QS.apart q2 hg ?_
        rcases hr with rfl | rfl
        · cases hx : u2.ownBlock
          · exact .inl rfl
          · exact .inr (by simp)
        · exact h3 i k u2 u hik q1 k1
      exact q3.grown hst hnI
  · have key : ∀ (i : Nat) (u2 : Value), i ≠ k → vs[i]? = some u2 → u2.ownBlock = none ∨ (u2.ownBlock ≠ u'.ownBlock) := by
      intro i u2 hik hu2
      obtain ⟨l2, hl2⟩ := hsome i u2 hu2
      rcases hob with e | e | e
      · rw [e]
        cases hx : u2.ownBlock
        · exact .inl rfl
        · exact .inr (by simp)
      · rw [e]
        exact h3 i k u2 u hik hu2 k1
      · rw [e]
        cases hx : u2.ownBlock with
        | none => exact .inl rfl
        | some b =>
          have := hlt i l2 u2 hl2 hu2 b hx
          right
          intro e2
          injection e2 with e2
          omega
    by_cases hik : i = k
    · subst hik
      rw [List.getElem?_set_self (by omega)] at ha
      cases ha
      rw [List.getElem?_set_ne hij] at hb2
      rcases key j b (Ne.symm hij) hb2 with e | e
      · rw [e]
        cases hx : u'.ownBlock
        · exact .inl rfl
        · exact .inr (by simp)
      · exact .inr (Ne.symm e)
    · rw [List.getElem?_set_ne (fun e => hik e.symm)] at ha
      by_cases hjk : j = k
      · subst hjk
        rw [List.getElem?_set_self (by omega)] at hb2
        cases hb2
        exact key i a hik ha
      · rw [List.getElem?_set_ne (fun e => hjk e.symm)] at hb2
        exact h3 i j a b hij ha hb2
theorem DL.form (h : DL w base v ll) (h0 : 0 < ll.length) : ∃ g cap, v = .slice (some ⟨g, 0, none⟩) ll.length cap ∧ ll.length ≤ cap := by
  obtain ⟨vs, h1, _⟩ := h
  rcases h1.2 with ⟨_, hz⟩ | ⟨g, cap, cur, e, _, _, hn, _⟩
  · omega
  · exact ⟨g, cap, e, hn⟩
end
end Go.Proofs.YtihobnheficpjaaGreatDoor
namespace Go.Proofs.YtihobnheficpjaaGreatDoor
open Go.RowKit

def IntsOut (w : World) (l : List Int) (e : Ending) (w' : World) : Prop := ∃ v', e = .returned v' ∧ OwnI w' w.heap.size v' l ∧ w.grownBy w' none
theorem foldl_snoc_int (f : Int → Int → Int) (l : List Int) (k : Nat) (b x : Int) (h : l[k]? = some x) : (l.take (k + 1)).foldl f b = f ((l.take k).foldl f b) x := by
  obtain ⟨hk, rfl⟩ := List.getElem?_eq_some_iff.1 h
  rw [List.take_succ_eq_append_getElem hk, List.foldl_append]
  rfl
end Go.Proofs.YtihobnheficpjaaGreatDoor
