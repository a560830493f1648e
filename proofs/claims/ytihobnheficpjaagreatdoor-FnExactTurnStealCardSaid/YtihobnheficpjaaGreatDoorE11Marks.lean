/- Walks: the laws' marks in rows of rows and entries of the call's own, and that they are held: markIntSS, heldIntSS, markEntryS, heldEntryS. -/
import Derived.Test.YtihobnheficpjaaGreatDoorE10Zones
namespace Go.Proofs.YtihobnheficpjaaGreatDoor
open Go.RowKit

/-- Of what was there only the blocks of S may have turned. -/
structure GS (S : Nat → Prop) (w w' : World) : Prop where
  os : w'.os = w.os
  tape : w'.tape = w.tape
  output : w'.output = w.output
  size : w.heap.size ≤ w'.heap.size
  block : ∀ i, i < w.heap.size → ¬ S i → w'.heap[i]? = w.heap[i]?
theorem GS.refl (S : Nat → Prop) (w : World) : GS S w w := ⟨rfl, rfl, rfl, Nat.le_refl _, fun _ _ _ => rfl⟩
theorem GS.trans {S : Nat → Prop} {a b c : World} (h : GS S a b) (k : GS S b c) : GS S a c :=
  ⟨k.os.trans h.os, k.tape.trans h.tape, k.output.trans h.output, Nat.le_trans h.size k.size, fun i hi hr => (k.block i (Nat.lt_of_lt_of_le hi h.size) hr).trans (h.block i hi hr)⟩
theorem GS.of_gb {a b : World} {row : Option Nat} (h : a.grownBy b row) : GS (fun g => row = some g) a b := ⟨h.os, h.tape, h.output, h.size, fun i hi h' => h.block i hi (fun e => h' e.symm)⟩
theorem GS.mono {S T : Nat → Prop} {a b : World} (h : GS S a b) (hs : ∀ g, S g → T g) : GS T a b := ⟨h.os, h.tape, h.output, h.size, fun i hi h' => h.block i hi (fun e => h' (hs i e))⟩
theorem GS.zn {S : Nat → Prop} {lo hi : Nat} {a b : World} (h : GS S a b) (hs : ∀ g, S g → lo ≤ g ∧ g < hi) : Zn lo hi a b := ⟨h.os, h.tape, h.output, h.size, fun i hi' h' => h.block i hi' (fun e => by have := hs i e; omega)⟩
theorem own_gs {S : Nat → Prop} {base size n : Nat} {w w' : World} {E : TypeId} {v : Value} {xs : List Value} (h : w.ownsRow base E size v n xs) (k : GS S w w') (hb : ∀ g, v.ownBlock = some g → ¬ S g) : w'.ownsRow base E size v n xs := by
  refine ⟨h.1, ?_⟩
  have hlt := World.ownsRow.lt h
  rcases h.2 with h0 | ⟨g, cap, cur, rfl, h2, h3, h4⟩
  · exact .inl h0
  · exact .inr ⟨g, cap, cur, rfl, h2, (k.block g (hlt g rfl).2 (hb g rfl)).trans h3, h4⟩
theorem OwnI.gs {S : Nat → Prop} {base : Nat} {w w' : World} {v : Value} {l : List Int} (h : OwnI w base v l) (k : GS S w w') (hb : ∀ g, v.ownBlock = some g → ¬ S g) : OwnI w' base v l := own_gs h k hb
theorem OwnI.blk {base : Nat} {w : World} {v : Value} {l : List Int} (h : OwnI w base v l) {g : Nat} (hg : v.ownBlock = some g) : ∃ cur, Blk w g 3 cur := by
  rcases h.2 with ⟨rfl, _⟩ | ⟨g', cap, cur, rfl, _, hh, _⟩
  · cases hg
  · cases hg
    exact ⟨cur, hh⟩
def marksI (k n : Nat) : List Int := (List.range n).map (fun j : Nat => ((k + j : Nat) : Int))
def sizeL (ll : List (List Int)) : Nat := (ll.map List.length).sum
def marksL : Nat → List (List Int) → List (List Int)
  | _, [] => []
  | k, l :: ll => marksI k l.length :: marksL (k + l.length) ll
theorem marksI_len (k n : Nat) : (marksI k n).length = n := by simp [marksI]
theorem marksL_len (k : Nat) (ll : List (List Int)) : (marksL k ll).length = ll.length := by
  induction ll generalizing k with
  | nil => rfl
  | cons l ll ih => simp [marksL, ih]
theorem sizeL_cons (l : List Int) (ll : List (List Int)) : sizeL (l :: ll) = l.length + sizeL ll := by simp [sizeL]
theorem marksL_get (k : Nat) (ll : List (List Int)) (j : Nat) (l : List Int) (h : ll[j]? = some l) : (marksL k ll)[j]? = some (marksI (k + sizeL (ll.take j)) l.length) := by
  induction ll generalizing k j with
  | nil => simp at h
  | cons x ll ih =>
    cases j with
    | zero =>
      obtain rfl : x = l := by simpa using h
      simp [marksL, sizeL]
    | succ j =>
      have := ih (k + x.length) j (by simpa using h)
      simp only [marksL, List.getElem?_cons_succ, List.take_succ_cons, sizeL_cons]
      rw [this, Nat.add_assoc]
theorem sizeL_snoc {ll : List (List Int)} {j : Nat} {l : List Int} (h : ll[j]? = some l) : sizeL (ll.take (j + 1)) = sizeL (ll.take j) + l.length := by
  obtain ⟨hj, rfl⟩ := List.getElem?_eq_some_iff.1 h
  unfold sizeL
  rw [List.take_succ_eq_append_getElem hj, List.map_append, List.sum_append]
  simp
theorem sizeL_take (ll : List (List Int)) (j : Nat) : sizeL (ll.take j) ≤ sizeL ll := by
  have : sizeL ll = sizeL (ll.take j) + sizeL (ll.drop j) := by
    unfold sizeL
    rw [← List.sum_append, ← List.map_append, List.take_append_drop]
  omega
theorem mix_set {α : Type} {ms ll : List α} {j : Nat} {m : α} (hl : ms.length = ll.length) (hm : ms[j]? = some m) : (ms.take j ++ ll.drop j).set j m = ms.take (j + 1) ++ ll.drop (j + 1) := by
  obtain ⟨hj, rfl⟩ := List.getElem?_eq_some_iff.1 hm
  have hlt : (ms.take j).length = j := by rw [List.length_take]; omega
  rw [List.set_append_right _ _ (by omega), hlt, Nat.sub_self, List.drop_eq_getElem_cons (by omega : j < ll.length), List.set_cons_zero, List.take_succ_eq_append_getElem hj, List.append_assoc]
  rfl
theorem mix_get {α : Type} {ms ll : List α} {j : Nat} {l : α} (hl : ms.length = ll.length) (h : ll[j]? = some l) : (ms.take j ++ ll.drop j)[j]? = some l := by
  obtain ⟨hj, rfl⟩ := List.getElem?_eq_some_iff.1 h
  have hlt : (ms.take j).length = j := by rw [List.length_take]; omega
  rw [List.getElem?_append_right (by omega), hlt, Nat.sub_self, List.getElem?_drop]
  simp
section
variable {w w' : World} {v : Value} {ll : List (List Int)} {base : Nat} {xs : List Value}
theorem LX.ne (h : LX w base v ll xs) : ∀ u ∈ xs, ∀ g, u.ownBlock = some g → v.ownBlock ≠ some g := by
  intro u hu g hg hv
  obtain ⟨i, hi, rfl⟩ := List.getElem_of_mem hu
  have hl := h.len
  obtain ⟨u', k1, k2⟩ := h.2 i _ (List.getElem?_eq_getElem (by omega))
  rw [List.getElem?_eq_getElem hi] at k1
  cases k1
  obtain ⟨cur, hb⟩ := k2.blk hg
  exact NotE.own (E := 3) h.1 (by decide) g hv cur hb
theorem LX.gs {S : Nat → Prop} (h : LX w base v ll xs) (k : GS S w w') (hv : ∀ g, v.ownBlock = some g → ¬ S g) (hx : ∀ u ∈ xs, ∀ g, u.ownBlock = some g → ¬ S g) : LX w' base v ll xs := by
  refine ⟨own_gs h.1 k hv, fun i l hi => ?_⟩
  obtain ⟨u, k1, k2⟩ := h.2 i l hi
  exact ⟨u, k1, k2.gs k (hx u (List.mem_of_getElem? k1))⟩
/-- One of the rows is written anew. -/
theorem LX.upd {j : Nat} {u : Value} {l' : List Int} (h : LX w base v ll xs) (hap : Apart xs) (hu : xs[j]? = some u) (k : GS (fun g => u.ownBlock = some g) w w') (ho : OwnI w' base u l') : LX w' base v (ll.set j l') xs := by
  have hl := h.len
  have hne := h.ne
  have hj : j < xs.length := (List.getElem?_eq_some_iff.1 hu).1
  refine ⟨by rw [List.length_set]; exact own_gs h.1 k (fun g hg hg' => hne u (List.mem_of_getElem? hu) g hg' hg), fun i l hi => ?_⟩
  by_cases hij : i = j
  · subst hij
    rw [List.getElem?_set_self (by omega)] at hi
    obtain rfl : l' = l := by simpa using hi
    exact ⟨u, hu, ho⟩
  · rw [List.getElem?_set_ne (fun e => hij e.symm)] at hi
    obtain ⟨u', k1, k2⟩ := h.2 i l hi
    refine ⟨u', k1, k2.gs k (fun g hg hg' => ?_)⟩
    rw [Apart.iff] at hap
    rcases Nat.lt_or_ge i j with hlt | hge
    · exact hap i j u' u g hlt k1 hu hg hg'
    · exact hap j i u u' g (by omega) hu k1 hg' hg
end
def MarkLOwn (base : Nat) (w : World) (v : Value) (ll : List (List Int)) (xs : List Value) (k : Nat) (e : Ending) (w' : World) : Prop :=
  e = .returned (.int .i64 (k + sizeL ll : Nat)) ∧ LX w' base v (marksL k ll) xs ∧ GS (fun g => ∃ u ∈ xs, u.ownBlock = some g) w w'
set_option maxHeartbeats 400000 in
theorem markIntSS_own (base : Nat) (v : Value) (ll : List (List Int)) (xs : List Value) (k : Nat) (w : World) (h : LX w base v ll xs) (hap : Apart xs) (hs : sizeL ll ≤ 1000000000) (hk : k ≤ 4000000000000000000) (hll : ∀ l ∈ ll, l.length ≤ 1048576) (kz : Int) (hkz : kz = (k : Nat) := by omega) :
    Calls Tryz.prog 81 #[v, .int .i64 kz] w (MarkLOwn base w v ll xs k) := by
  subst hkz
  obtain ⟨A, n, c, rfl, hc, hn, hn9⟩ := h.rl.form'
  have Hn := Lib.hid hn
  have Hll := Lib.hid hll
  have HS := Lib.hid hs
  clear hn hll hs
  go_enter Tryz.func81, Tryz.ntmps81
  go_wp2_with fail
  go_loopw [1, 5] (fun s i wr => ∃ j y : Nat, j ≤ n ∧ i = .int .i64 j ∧ s = .int .i64 y ∧ Hid (y = k + sizeL (ll.take j)) ∧ LX wr base (.slice A n c) ((marksL k ll).take j ++ ll.drop j) xs ∧ GS (fun g => ∃ u ∈ xs, u.ownBlock = some g) w wr) (fun _ i _ => n - (intOf i).toNat)
  case atStart => exact ⟨0, k, Nat.zero_le _, rfl, rfl, by show _ = _; simp [sizeL], by simpa using h, GS.refl _ _⟩
  case round =>
    clear h
    obtain ⟨j, y, hj, rfl, rfl, Hy, h, hz⟩ := hrel
    by_cases hlt : j < n
    · obtain ⟨l, hl⟩ : ∃ l, ll[j]? = some l := ⟨_, List.getElem?_eq_getElem (by rw [← Hn.out]; exact hlt)⟩
      have hmg := mix_get (marksL_len k ll) hl
      obtain ⟨g, o, l2, B1, m1, e1, rfl, hl2, c0, -, hm1, -, -⟩ := h.rl.at_ hlt
      obtain rfl : l = l2 := Option.some.inj (hmg.symm.trans hl2)
      obtain ⟨u, hu, hou⟩ := h.2 j l hmg
      obtain rfl : u = .slice B1 m1 e1 := by
        obtain ⟨g2, o2, cur, e0, _, hcc⟩ := TS.at_ (by have := TS.of_own h.1; rw [List.length_append, List.length_take, List.length_drop, marksL_len, ← Hn.out, show min j n + (n - j) = n by omega] at this; exact this) (by omega : 0 < n)
        injection e0 with e0
        injection e0 with q1 q2 _
        subst q1 q2
        exact Option.some.inj ((hcc j u (by simpa using hu)).symm.trans c0)
      have hll1 := Hll.out l (List.mem_of_getElem? hl)
      have hob := hou.wi (lo := 0) (hi := wr.heap.size) (Nat.zero_le _) (Nat.le_refl _) hll1
      rw [← hm1] at hob hll1
      have hyb : y ≤ 5000000000000000000 := by
        have := Hy.out
        have := sizeL_take ll j
        have := HS.out
        omega
      have Hm1 := Lib.hid hm1
      have hHl := Lib.hid hl
      clear hm1 hl2 hmg hl
      go_wp2_with fail
      refine (markIntS_any 0 wr.heap.size _ m1 y _ (by exact hob) (by omega) _).mono ?_
      rintro e w1 ⟨rfl, hM1, hgr, hO⟩
      have hou2 := hO _ _ hou
      have hup := h.upd hap hu (GS.of_gb hgr) hou2
      have hset : Hid (((marksL k ll).take j ++ ll.drop j).set j ((List.range m1).map (fun i : Nat => ((y + i : Nat) : Int))) = (marksL k ll).take (j + 1) ++ ll.drop (j + 1)) := by
        refine mix_set (marksL_len k ll) ?_
        have := marksL_get k ll j l hHl.out
        rw [this, ← Hy.out, ← Hm1.out]
        rfl
      rw [hset.out] at hup
      have hz2 := hz.trans ((GS.of_gb hgr).mono (fun g hg => ⟨_, List.mem_of_getElem? hu, hg⟩))
      have Hy2 : Hid (y + m1 = k + sizeL (ll.take (j + 1))) := by
        show _ = _
        rw [sizeL_snoc hHl.out, Hy.out, Hm1.out]
        omega
      clear hM1 hgr hO hou hou2 h hz hob
      go_wp2_with fail
      go_roundw
      case rel => exact ⟨j + 1, y + m1, by omega, by go_num, by go_num, Hy2, hup, hz2⟩
      case measure => simp [intOf]; omega
    · obtain rfl : j = n := by omega
      have h2 : LX wr base (.slice A j c) (marksL k ll) xs := by
        have := h
        rw [List.take_of_length_le (by rw [marksL_len, ← Hn.out]; exact Nat.le_refl _), List.drop_eq_nil_of_le (by rw [← Hn.out]; exact Nat.le_refl _), List.append_nil] at this
        exact this
      have hy2 : y = k + sizeL ll := by
        have := Hy.out
        rw [List.take_of_length_le (by rw [← Hn.out]; exact Nat.le_refl _)] at this
        exact this
      have Hy2 := Lib.hid hy2
      clear hy2 Hy h
      go_wp2_with fail
      go_ret
      exact ⟨by have e0 := Hy2.out; subst e0; first | rfl | simp, h2, hz⟩
set_option maxHeartbeats 400000 in
theorem heldIntSS_any (v : Value) (ll : List (List Int)) (k : Nat) (w : World) (h : RL w v (marksL k ll)) (hs : sizeL ll ≤ 1000000000) (hk : k ≤ 4000000000000000000) (hll : ∀ l ∈ ll, l.length ≤ 1048576) (kz : Int) (hkz : kz = (k : Nat) := by omega) :
    Calls Tryz.prog 82 #[v, .int .i64 kz] w fun e w' => e = .returned (.int .i64 (k + sizeL ll : Nat)) ∧ w = w' := by
  subst hkz
  obtain ⟨A, n, c, rfl, hc, hn, hn9⟩ := h.form'
  rw [marksL_len] at hn
  have Hn := Lib.hid hn
  have Hll := Lib.hid hll
  have HS := Lib.hid hs
  clear hn hll hs
  go_enter Tryz.func82, Tryz.ntmps82
  go_wp2_with fail
  go_loop [1, 5] (fun s i => ∃ j y : Nat, j ≤ n ∧ i = .int .i64 j ∧ s = .int .i64 y ∧ Hid (y = k + sizeL (ll.take j))) (fun _ i => n - (intOf i).toNat)
  case atStart => exact ⟨0, k, Nat.zero_le _, rfl, rfl, by show _ = _; simp [sizeL]⟩
  case round =>
    obtain ⟨j, y, hj, rfl, rfl, Hy⟩ := hrel
    by_cases hlt : j < n
    · obtain ⟨l, hl⟩ : ∃ l, ll[j]? = some l := ⟨_, List.getElem?_eq_getElem (by rw [← Hn.out]; exact hlt)⟩
      obtain ⟨g, o, l2, B1, m1, e1, rfl, hl2, c0, hri, hm1, -, -⟩ := h.at_ hlt
      rw [marksL_get k ll j l hl, ← Hy.out] at hl2
      obtain rfl : marksI y l.length = l2 := Option.some.inj hl2
      rw [marksI_len] at hm1
      have hll1 := Hll.out l (List.mem_of_getElem? hl)
      have hyb : y ≤ 5000000000000000000 := by
        have := Hy.out
        have := sizeL_take ll j
        have := HS.out
        omega
      have Hy2 : Hid (y + l.length = k + sizeL (ll.take (j + 1))) := by
        show _ = _
        rw [sizeL_snoc hl, Hy.out]
        omega
      clear hl2 hl hm1
      obtain ⟨m, hm⟩ : ∃ m, m = l.length := ⟨_, rfl⟩
      rw [← hm] at hll1 hri Hy2
      clear hm
      go_wp2_with fail
      refine (heldIntS_any _ m y _ (by exact hri) (by omega) (by omega) _).mono ?_
      rintro e w1 ⟨rfl, rfl⟩
      go_wp2_with fail
      go_round
      case rel => exact ⟨j + 1, y + m, by omega, by go_num, by go_num, Hy2⟩
      case measure => simp [intOf]; omega
    · obtain rfl : j = n := by omega
      have hy2 : y = k + sizeL ll := by
        have := Hy.out
        rw [List.take_of_length_le (by rw [← Hn.out]; exact Nat.le_refl _)] at this
        exact this
      have Hy2 := Lib.hid hy2
      clear hy2 Hy
      go_wp2_with fail
      go_ret
      exact ⟨by have e0 := Hy2.out; subst e0; first | rfl | simp, rfl⟩
end Go.Proofs.YtihobnheficpjaaGreatDoor
