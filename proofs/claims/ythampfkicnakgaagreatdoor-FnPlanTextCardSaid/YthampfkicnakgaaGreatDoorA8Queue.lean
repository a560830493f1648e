/- Words for memory: slices of the call's own that may begin inside their block. Conditions: none. -/
import Derived.Test.YthampfkicnakgaaGreatDoorA3Mem
import Derived.Laws.CopyRow
import Derived.Laws.AppendOwn
namespace Go.Proofs.YthampfkicnakgaaGreatDoor
open Go.RowKit

theorem run_append_room_off {P : Program} (w : World) (t ty e : TypeId) (i : TypeInfo) (ht : P.underlying t = some (.slice e)) (hi : P.info? e = some i)
    (g o sLen sCap : Nat) (cur : Array Value) (hg : w.heap[g]? = some (.cells cur e (0, 0)))
    (a : Addr) (m c : Nat) (news : List Value) (hl : news.length = m * i.size) (hnews : ∀ j u, news[j]? = some u → w.cell? (a.add j) = some u) (h1 : ∀ u ∈ news, u.oneCell' = true)
    (hroom : sLen + m ≤ sCap) (hfit : o + sLen * i.size + news.length ≤ cur.size) :
    (Builtin.append_ #[t, t] ty #[.slice (some ⟨g, o, none⟩) sLen sCap, .slice (some a) m c]).run P w =
      .ok (.slice (some ⟨g, o, none⟩) (sLen + m) sCap) (w.setRow g (cur.toList.take (o + sLen * i.size) ++ news ++ cur.toList.drop (o + sLen * i.size + news.length)).toArray) := by
  have hf := run_firstCells_some (P := P) w i.size m a m c news hl hnews
  have hst := run_storeCells_at P g (o + sLen * i.size) e news 0 cur w hg (by simpa using hfit) h1
  simp only [Nat.add_zero] at hst
  simp [Builtin.append_, run_underlying ht, sizeOf, typeInfo, hi, Builtin.lenOf, hroom, hf, Addr.add_lit, hst]

/-- A slice with the one-cell elements xs, in a block of the call's own, from wherever in it. -/
def QS (w : World) (base : Nat) (E : TypeId) (v : Value) (xs : List Value) : Prop :=
  ∃ A c, v = .slice A xs.length c ∧ xs.length ≤ c ∧ c ≤ maxLen ∧ (∀ u ∈ xs, u.oneCell' = true) ∧
    ((A = none ∧ c = 0) ∨ ∃ g o cur, A = some ⟨g, o, none⟩ ∧ base ≤ g ∧ Blk w g E cur ∧ o + c ≤ cur.size ∧ ∀ j u, xs[j]? = some u → cur[o + j]? = some u)
section
variable {w w' : World} {base : Nat} {E : TypeId} {v : Value} {xs : List Value}
theorem QS.nil (w : World) (base : Nat) (E : TypeId) : QS w base E (.slice none 0 0) [] := ⟨none, 0, rfl, by simp, by simp, by simp, .inl ⟨rfl, rfl⟩⟩
theorem QS.form (h : QS w base E v xs) : ∃ A c, v = .slice A xs.length c ∧ xs.length ≤ c ∧ c ≤ maxLen := let ⟨A, c, h1, h2, h3, _⟩ := h; ⟨A, c, h1, h2, h3⟩
theorem QS.ts (h : QS w base E v xs) : TS w E 1 v xs.length xs := by
  obtain ⟨A, c, h1, h2, h3, _, h5⟩ := h
  rcases h5 with ⟨h4, h5⟩ | ⟨g, o, cur, k1, k2, k3, k4, k5⟩
  · exact ⟨by simp, A, c, h1, h2, h3, fun _ => h5, by left; omega⟩
  · subst k1
    exact ⟨by simp, _, c, h1, h2, h3, by simp, .inr ⟨g, o, cur, rfl, k3, k5⟩⟩
theorem QS.lt (h : QS w base E v xs) : ∀ g, v.ownBlock = some g → base ≤ g ∧ g < w.heap.size := by
  obtain ⟨A, c, rfl, h2, h3, _, h5⟩ := h
  intro g' hg'
  rcases h5 with ⟨rfl, h5⟩ | ⟨g, o, cur, rfl, k2, k3, k4, k5⟩
  · cases hg'
  · cases hg'
    exact ⟨k2, k3.lt⟩
theorem QS.notE {E' : TypeId} (h : QS w base E v xs) (hE : E' ≠ E) : NotE w E' v.ownBlock := by
  obtain ⟨A, c, rfl, h2, h3, _, h5⟩ := h
  rcases h5 with ⟨rfl, h5⟩ | ⟨g, o, cur, rfl, k2, k3, k4, k5⟩
  · exact NotE.none _ _
  · exact NotE.blk k3 hE
theorem QS.gb {a : World} {row : Option Nat} (h : QS w base E v xs) (hg : a.grownBy w row) (k : w.grownBy w' v.ownBlock) (hb : a.heap.size ≤ base) : a.grownBy w' row :=
  gb_new hg k (fun g e => .inl (Nat.le_trans hb (h.lt g e).1))
theorem QS.grown {row : Option Nat} (h : QS w base E v xs) (hg : w.grownBy w' row) (hr : NotE w E row) : QS w' base E v xs := by
  obtain ⟨A, c, h1, h2, h3, h6, h5⟩ := h
  refine ⟨A, c, h1, h2, h3, h6, ?_⟩
  rcases h5 with h5 | ⟨g, o, cur, k1, k2, k3, k4, k5⟩
  · exact .inl h5
  · exact .inr ⟨g, o, cur, k1, k2, k3.grown hg (fun e => hr g e.symm cur k3), k4, k5⟩
theorem QS.new (h : QS w base E v xs) (hg : w.grownBy w' none) : QS w' base E v xs := h.grown hg (NotE.none _ _)
/-- Its block stands if another one turns. -/
theorem QS.apart {row : Option Nat} (h : QS w base E v xs) (hg : w.grownBy w' row) (hr : v.ownBlock = none ∨ v.ownBlock ≠ row) : QS w' base E v xs := by
  obtain ⟨A, c, h1, h2, h3, h6, h5⟩ := h
  refine ⟨A, c, h1, h2, h3, h6, ?_⟩
  rcases h5 with h5 | ⟨g, o, cur, k1, k2, k3, k4, k5⟩
  · exact .inl h5
  · subst h1 k1
    refine .inr ⟨g, o, cur, rfl, k2, k3.grown hg (fun e => ?_), k4, k5⟩
    rcases hr with hr | hr
    · cases hr
    · exact hr e
theorem QS.at_ {A : Option Addr} {n c k : Nat} {u : Value} (h : QS w base E (.slice A n c) xs) (hk : xs[k]? = some u) : ∃ g o, A = some ⟨g, o, none⟩ ∧ w.cell? ⟨g, o + k, none⟩ = some u := by
  obtain ⟨A', c', h1, h2, h3, _, h5⟩ := h
  injection h1 with e1 e2 e3
  subst e1 e3
  have := (List.getElem?_eq_some_iff.1 hk).1
  rcases h5 with ⟨h4, h5⟩ | ⟨g, o, cur, k1, k2, k3, k4, k5⟩
  · omega
  · exact ⟨g, o, k1, (k3.cell _).trans (k5 k u hk)⟩
/-- Without the first element: 's[1:]'. -/
theorem QS.tail {A : Option Addr} {n c : Nat} {x : Value} (h : QS w base E (.slice A n c) (x :: xs)) :
    ∃ g o, A = some ⟨g, o, none⟩ ∧ n = xs.length + 1 ∧ 1 ≤ c ∧ QS w base E (.slice (some ⟨g, o + 1, none⟩) (n - 1) (c - 1)) xs ∧ (c = 1 → QS w base E (.slice (some ⟨g, o, none⟩) (n - 1) (c - 1)) xs) := by
  obtain ⟨A', c', h1, h2, h3, h6, h5⟩ := h
  injection h1 with e1 e2 e3
  subst e1 e3
  rw [List.length_cons] at h2 e2
  rcases h5 with ⟨h4, h5⟩ | ⟨g, o, cur, k1, k2, k3, k4, k5⟩
  · omega
  · have e : n - 1 = xs.length := by omega
    rw [e]
    refine ⟨g, o, k1, e2, by omega, ⟨_, _, rfl, by omega, by omega, fun u hu => h6 u (by simp [hu]), ?_⟩, fun hc => ⟨_, _, rfl, by omega, by omega, fun u hu => h6 u (by simp [hu]), ?_⟩⟩
    · refine .inr ⟨g, o + 1, cur, rfl, k2, k3, by omega, fun j u hu => ?_⟩
      have := k5 (j + 1) u (by simpa using hu)
      rw [show o + 1 + j = o + (j + 1) by omega]
      exact this
    · refine .inr ⟨g, o, cur, rfl, k2, k3, by omega, fun j u hu => ?_⟩
      have := (List.getElem?_eq_some_iff.1 hu).1
      omega
/-- .. without the last one: 's[:n-1]'. -/
theorem QS.init {A : Option Addr} {n c : Nat} {x : Value} (h : QS w base E (.slice A n c) (xs ++ [x])) : n = xs.length + 1 ∧ n ≤ c ∧ QS w base E (.slice A xs.length c) xs := by
  obtain ⟨A', c', h1, h2, h3, h6, h5⟩ := h
  injection h1 with e1 e2 e3
  subst e1 e3
  rw [List.length_append, List.length_singleton] at h2 e2
  refine ⟨e2, by omega, _, _, rfl, by omega, h3, fun u hu => h6 u (by simp [hu]), ?_⟩
  rcases h5 with h5 | ⟨g, o, cur, k1, k2, k3, k4, k5⟩
  · exact .inl h5
  · exact .inr ⟨g, o, cur, k1, k2, k3, k4, fun j u hu => k5 j u ((List.getElem?_append_left (List.getElem?_eq_some_iff.1 hu).1).trans hu)⟩
theorem QS.of_own {n : Nat} (h : w.ownsRow base E 1 v n xs) (h1 : ∀ u ∈ xs, u.oneCell' = true) : QS w base E v xs := by
  have hn : n = xs.length := by have := h.1; omega
  subst hn
  rcases h.2 with ⟨rfl, h0⟩ | ⟨g, cap, cur, rfl, hb, hg, hn, hm, hcs, ht⟩
  · have : xs = [] := List.eq_nil_of_length_eq_zero h0
    subst this
    exact QS.nil _ _ _
  · refine ⟨_, cap, rfl, hn, hm, h1, .inr ⟨g, 0, cur, rfl, hb, hg, by omega, fun j u hu => ?_⟩⟩
    rw [← ht, List.getElem?_take] at hu
    split at hu
    · simpa using hu
    · cases hu
end
theorem OwnI.low {w : World} {a b : Nat} {v : Value} {l : List Int} (h : OwnI w a v l) (hab : b ≤ a) : OwnI w b v l := by
  refine ⟨h.1, ?_⟩
  rcases h.2 with h0 | ⟨g, cap, cur, h1, h2, h3⟩
  · exact .inl h0
  · exact .inr ⟨g, cap, cur, h1, Nat.le_trans hab h2, h3⟩
theorem OwnI.qs {w : World} {base : Nat} {v : Value} {l : List Int} (h : OwnI w base v l) : QS w base 3 v (l.map (.int .i64)) := QS.of_own h (fun u hu => by
  obtain ⟨x, _, rfl⟩ := List.mem_map.1 hu
  rfl)
theorem QS.ri {w : World} {base : Nat} {v : Value} {l : List Int} (h : QS w base 3 v (l.map (.int .i64))) : RI w v l := by
  have := h.ts
  rw [List.length_map] at this
  exact this
theorem QS.ptr {w : World} {base : Nat} {E : TypeId} {v : Value} {l : List Nat} {f : Nat → Value} (h : QS w base E v (l.map f)) : ∃ A c, v = .slice A l.length c ∧ l.length ≤ c := by
  obtain ⟨A, c, h1, h2, _⟩ := h.form
  rw [List.length_map] at h1 h2
  exact ⟨A, c, h1, h2⟩

/-- 'append(s, x)' of one element, whatever room there is: the element lies in a block of its own. -/
theorem append_qs {P : Program} {w : World} {base : Nat} {t ty E : TypeId} {z : Value} {bytes : Nat} (ht : P.underlying t = some (.slice E)) (hinf : (P.info? E).map (fun i => (i.zero, i.size, i.bytes)) = some (some z, 1, bytes))
    (hzs : z.cells.size = 1) (hby : bytes ≤ 128) {v : Value} {xs : List Value} (h : QS w base E v xs) {ad : Addr} {c : Nat} {u : Value} (hnew : w.cell? ad = some u) (h1 : u.oneCell' = true) (hn : xs.length ≤ 1000000000) (hbase : base ≤ w.heap.size) :
    ∃ v' w', (Builtin.append_ #[t, t] ty #[v, .slice (some ad) 1 c]).run P w = .ok v' w' ∧ QS w' base E v' (xs ++ [u]) ∧ w.grownBy w' v.ownBlock ∧ (v'.ownBlock = v.ownBlock ∨ v'.ownBlock = some w.heap.size) := by
  obtain ⟨i, hi, hz0, hz1, hz2⟩ := info_parts hinf
  have hnews : ∀ (j : Nat) (u' : Value), [u][j]? = some u' → w.cell? (ad.add j) = some u' := by
    intro j u' hj
    match j, hj with
    | 0, hj =>
      simp at hj
      subst hj
      have : ad.add 0 = ad := by unfold Addr.add; split <;> simp_all
      rw [this]
      exact hnew
  have h1' : ∀ u' ∈ [u], u'.oneCell' = true := fun u' hu' => by simp at hu'; subst hu'; exact h1
  have hbb : (xs.length + 1) * bytes ≤ 140737488355328 := by
    calc (xs.length + 1) * bytes ≤ (xs.length + 1) * 128 := Nat.mul_le_mul_left _ hby
      _ ≤ 140737488355328 := by omega
  obtain ⟨A, cc, rfl, h2, h3, h6, h5⟩ := h
  have h1s : ∀ y ∈ xs ++ [u], y.oneCell' = true := fun y hy => by
    rcases List.mem_append.1 hy with hy | hy
    · exact h6 y hy
    · exact h1' y hy
  have h63 : xs.length + 1 ≤ maxLen := by unfold maxLen; omega
  -- a new block
  have grown : ∀ (b : Addr) (olds : List Value), olds = xs → A = some b → cc < xs.length + 1 → (∀ (j : Nat) (y : Value), xs[j]? = some y → w.cell? (b.add j) = some y) →
      ∃ v' w', (Builtin.append_ #[t, t] ty #[.slice A xs.length cc, .slice (some ad) 1 c]).run P w = .ok v' w' ∧ QS w' base E v' (xs ++ [u]) ∧ w.grownBy w' (Value.slice A xs.length cc).ownBlock ∧ (v'.ownBlock = (Value.slice A xs.length cc).ownBlock ∨ v'.ownBlock = some w.heap.size) := by
    rintro b olds rfl rfl hc holds
    have hr := run_append_grow (P := P) w t ty E i z ht hi hz0 b olds.length cc olds (by rw [hz1]; omega) holds ad 1 c [u] (by rw [hz1]; rfl) hnews (by omega) (by omega) (growslice_fits (by omega) (by rw [hz2]; exact hbb))
    have hge := grownCap_ge w (olds.length + 1) cc E
    have hcm := grownCap_le_maxLen w (olds.length + 1) cc E h63
    refine ⟨_, _, hr, ⟨_, _, by rw [List.length_append, List.length_singleton], by rw [List.length_append, List.length_singleton]; exact hge, hcm, h1s, .inr ⟨w.heap.size, 0, _, rfl, hbase, heap_alloc_new w.drew _, ?_, fun j y hj => ?_⟩⟩,
      ⟨rfl, rfl, rfl, by simp, fun k hk _ => Below.heap_alloc w.drew _ k hk⟩, .inr rfl⟩
    · rw [Array.size_append, Array.size_append, List.size_toArray, List.size_toArray, size_zeroCells, hzs]
      simp
      omega
    · rw [Nat.zero_add, Array.getElem?_append_left (by
        have := (List.getElem?_eq_some_iff.1 hj).1
        rw [Array.size_append, List.size_toArray, List.size_toArray]
        simpa using this)]
      rw [show olds.toArray ++ [u].toArray = (olds ++ [u]).toArray by simp, List.getElem?_toArray]
      exact hj
  rcases h5 with ⟨rfl, rfl⟩ | ⟨g, o, cur, rfl, k2, k3, k4, k5⟩
  · have hx0 : xs = [] := List.eq_nil_of_length_eq_zero (by omega)
    subst hx0
    have hr := run_append_nil (P := P) w t ty E i z ht hi hz0 ad 1 c [u] (by rw [hz1]; rfl) hnews (by omega) (by omega) (by rw [hz2]; omega)
    have hge := grownCap_ge w 1 0 E
    have hcm := grownCap_le_maxLen w 1 0 E (by unfold maxLen; omega)
    refine ⟨_, _, hr, ⟨_, _, rfl, hge, hcm, h1s, .inr ⟨w.heap.size, 0, _, rfl, hbase, heap_alloc_new w.drew _, ?_, fun j y hj => ?_⟩⟩,
      ⟨rfl, rfl, rfl, by simp, fun k hk _ => Below.heap_alloc w.drew _ k hk⟩, .inr rfl⟩
    · rw [Array.size_append, List.size_toArray, size_zeroCells, hzs]
      simp
      omega
    · rw [Nat.zero_add, Array.getElem?_append_left (by
        have := (List.getElem?_eq_some_iff.1 hj).1
        simpa using this), List.getElem?_toArray]
      exact hj
  · by_cases hroom : xs.length + 1 ≤ cc
    · have hr := run_append_room_off (P := P) w t ty E i ht hi g o xs.length cc cur k3 ad 1 c [u] (by rw [hz1]; rfl) hnews h1' hroom (by rw [hz1]; simp; omega)
      refine ⟨_, _, hr, ⟨_, _, by rw [List.length_append, List.length_singleton], by rw [List.length_append, List.length_singleton]; exact hroom, h3, h1s, .inr ⟨g, o, _, rfl, k2, setRow_heap w g cur _ E _ k3, ?_, fun j y hj => ?_⟩⟩,
        ⟨rfl, rfl, rfl, by simp, fun k _ hk => setRow_other w g k _ (fun e => hk (by simp [e, Value.ownBlock]))⟩, .inl rfl⟩
      · simp only [List.size_toArray, List.length_append, List.length_take, List.length_drop, Array.length_toList, List.length_singleton]
        rw [hz1]
        omega
      · rw [hz1, Nat.mul_one, List.getElem?_toArray, List.append_assoc]
        by_cases hj2 : j < xs.length
        · rw [List.getElem?_append_left (by simp; omega), List.getElem?_take, if_pos (by omega)]
          rw [List.getElem?_append_left hj2] at hj
          simpa using k5 j y hj
        · have hjl := (List.getElem?_eq_some_iff.1 hj).1
          rw [List.length_append, List.length_singleton] at hjl
          obtain rfl : j = xs.length := by omega
          rw [List.getElem?_append_right (by simp; omega)]
          rw [List.getElem?_append_right (by omega)] at hj
          simp only [Nat.sub_self] at hj
          rw [show o + xs.length - (cur.toList.take (o + xs.length)).length = 0 by simp; omega]
          simpa using hj
    · exact grown ⟨g, o, none⟩ xs rfl rfl (by omega) (fun j y hj => by
        rw [Addr.add_lit, k3.cell]
        exact k5 j y hj)
end Go.Proofs.YthampfkicnakgaaGreatDoor
