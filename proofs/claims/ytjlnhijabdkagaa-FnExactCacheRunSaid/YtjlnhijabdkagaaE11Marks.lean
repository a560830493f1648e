/- Walks: the laws' marks in rows of rows and entries of the call's own, and that they are held: markIntSS, heldIntSS, markEntryS, heldEntryS. -/
import Derived.Test.YtjlnhijabdkagaaE10Zones
namespace Go.Proofs.Ytjlnhijabdkagaa
open Go.RowKit

/-- Of what was there only the blocks of S may have turned. -/
structure GS (S : Nat → Prop) (w w' : World) : Prop where
  os : w'.os = w.os
  tape : w'.tape = w.tape
  output : w'.output = w.output
  size : w.heap.size ≤ w'.heap.size
  block : ∀ i, i < w.heap.size → ¬ S i → w'.heap[i]? = w.heap[i]?
theorem GS.refl (S : Nat → Prop) (w : World) : GS S w w := ⟨rfl, rfl, rfl, Nat.le_refl _, fun _ _ _ => rfl⟩
theorem GS.trans {S : Nat → Prop} {a b c : World} (h : GS S a b) (k : GS S b c) : GS S a c :=
  ⟨k.os.trans h.os, k.tape.trans h.tape, k.output.trans h.output, Nat.le_trans h.size k.size, fun i hi hr => (k.block i (Nat.lt_of_lt_of_le hi h.size) hr).trans (h.block i hi hr)⟩
theorem GS.of_gb {a b : World} {row : Option Nat} (h : a.grownBy b row) : GS (fun g => row = some g) a b := ⟨h.os, h.tape, h.output, h.size, fun i hi h' => h.block i hi (fun e => h' e.symm)⟩
theorem GS.mono {S T : Nat → Prop} {a b : World} (h : GS S a b) (hs : ∀ g, S g → T g) : GS T a b := ⟨h.os, h.tape, h.output, h.size, fun i hi h' => h.block i hi (fun e => h' (hs i e))⟩
theorem GS.zn {S : Nat → Prop} {lo hi : Nat} {a b : World} (h : GS S a b) (hs : ∀ g, S g → lo ≤ g ∧ g < hi) : Zn lo hi a b := ⟨h.os, h.tape, h.output, h.size, fun i hi' h' => h.block i hi' (fun e => by have := hs i e; omega)⟩
theorem own_gs {S : Nat → Prop} {base size n : Nat} {w w' : World} {E : TypeId} {v : Value} {xs : List Value} (h : w.ownsRow base E size v n xs) (k : GS S w w') (hb : ∀ g, v.ownBlock = some g → ¬ S g) : w'.ownsRow base E size v n xs := by
  refine ⟨h.1, ?_⟩
  have hlt := World.ownsRow.lt h
  rcases h.2 with h0 | ⟨g, cap, cur, rfl, h2, h3, h4⟩
  · exact .inl h0
  · exact .inr ⟨g, cap, cur, rfl, h2, (k.block g (hlt g rfl).2 (hb g rfl)).trans h3, h4⟩
theorem OwnI.gs {S : Nat → Prop} {base : Nat} {w w' : World} {v : Value} {l : List Int} (h : OwnI w base v l) (k : GS S w w') (hb : ∀ g, v.ownBlock = some g → ¬ S g) : OwnI w' base v l := own_gs h k hb
theorem OwnI.blk {base : Nat} {w : World} {v : Value} {l : List Int} (h : OwnI w base v l) {g : Nat} (hg : v.ownBlock = some g) : ∃ cur, Blk w g 3 cur := by
  rcases h.2 with ⟨rfl, _⟩ | ⟨g', cap, cur, rfl, _, hh, _⟩
  · cases hg
  · cases hg
    exact ⟨cur, hh⟩
def marksI (k n : Nat) : List Int := (List.range n).map (fun j : Nat => ((k + j : Nat) : Int))
def sizeL (ll : List (List Int)) : Nat := (ll.map List.length).sum
def marksL : Nat → List (List Int) → List (List Int)
  | _, [] => []
  | k, l :: ll => marksI k l.length :: marksL (k + l.length) ll
theorem marksI_len (k n : Nat) : (marksI k n).length = n := by simp [marksI]
theorem marksL_len (k : Nat) (ll : List (List Int)) : (marksL k ll).length = ll.length := by
  induction ll generalizing k with
  | nil => rfl
  | cons l ll ih => simp [marksL, ih]
theorem sizeL_cons (l : List Int) (ll : List (List Int)) : sizeL (l :: ll) = l.length + sizeL ll := by simp [sizeL]
theorem marksL_get (k : Nat) (ll : List (List Int)) (j : Nat) (l : List Int) (h : ll[j]? = some l) : (marksL k ll)[j]? = some (marksI (k + sizeL (ll.take j)) l.length) := by
  induction ll generalizing k j with
  | nil => simp at h
  | cons x ll ih =>
    cases j with
    | zero =>
      obtain rfl : x = l := by simpa using h
      simp [marksL, sizeL]
    | succ j =>
      have := ih (k + x.length) j (by simpa using h)
      simp only [marksL, List.getElem?_cons_succ, List.take_succ_cons, sizeL_cons]
      rw [this, Nat.add_assoc]
theorem sizeL_snoc {ll : List (List Int)} {j : Nat} {l : List Int} (h : ll[j]? = some l) : sizeL (ll.take (j + 1)) = sizeL (ll.take j) + l.length := by
  obtain ⟨hj, rfl⟩ := List.getElem?_eq_some_iff.1 h
  unfold sizeL
  rw [List.take_succ_eq_append_getElem hj, List.map_append, List.sum_append]
  simp
theorem sizeL_take (ll : List (List Int)) (j : Nat) : sizeL (ll.take j) ≤ sizeL ll := by
  have : sizeL ll = sizeL (ll.take j) + sizeL (ll.drop j) := by
    unfold sizeL
    rw [← List.sum_append, ← List.map_append, List.take_append_drop]
  omega
theorem mix_set {α : Type} {ms ll : List α} {j : Nat} {m : α} (hl : ms.length = ll.length) (hm : ms[j]? = some m) : (ms.take j ++ ll.drop j).set j m = ms.take (j + 1) ++ ll.drop (j + 1) := by
  obtain ⟨hj, rfl⟩ := List.getElem?_eq_some_iff.1 hm
  have hlt : (ms.take j).length = j := by rw [List.length_take]; omega
  rw [List.set_append_right _ _ (by omega), hlt, Nat.sub_self, List.drop_eq_getElem_cons (by omega : j < ll.length), List.set_cons_zero, List.take_succ_eq_append_getElem hj, List.append_assoc]
  rfl
theorem mix_get {α : Type} {ms ll : List α} {j : Nat} {l : α} (hl : ms.length = ll.length) (h : ll[j]? = some l) : (ms.take j ++ ll.drop j)[j]? = some l := by
  obtain ⟨hj, rfl⟩ := List.getElem?_eq_some_iff.1 h
  have hlt : (ms.take j).length = j := by rw [List.length_take]; omega
  rw [List.getElem?_append_right (by omega), hlt, Nat.sub_self, List.getElem?_drop]
  simp
section
variable {w w' : World} {v : Value} {ll : List (List Int)} {base : Nat} {xs : List Value}
theorem LX.ne (h : LX w base v ll xs) : ∀ u ∈ xs, ∀ g, u.ownBlock = some g → v.ownBlock ≠ some g := by
  intro u hu g hg hv
  obtain ⟨i, hi, rfl⟩ := List.getElem_of_mem hu
  have hl := h.len
  obtain ⟨u', k1, k2⟩ := h.2 i _ (List.getElem?_eq_getElem (by omega))
  rw [List.getElem?_eq_getElem hi] at k1
  cases k1
  obtain ⟨cur, hb⟩ := k2.blk hg
  exact NotE.own (E := 3) h.1 (by decide) g hv cur hb
theorem LX.gs {S : Nat → Prop} (h : LX w base v ll xs) (k : GS S w w') (hv : ∀ g, v.ownBlock = some g → ¬ S g) (hx : ∀ u ∈ xs, ∀ g, u.ownBlock = some g → ¬ S g) : LX w' base v ll xs := by
  refine ⟨own_gs h.1 k hv, fun i l hi => ?_⟩
  obtain ⟨u, k1, k2⟩ := h.2 i l hi
  exact ⟨u, k1, k2.gs k (hx u (List.mem_of_getElem? k1))⟩
/-- One of the rows is written anew. -/
theorem LX.upd {j : Nat} {u : Value} {l' : List Int} (h : LX w base v ll xs) (hap : Apart xs) (hu : xs[j]? = some u) (k : GS (fun g => u.ownBlock = some g) w w') (ho : OwnI w' base u l') : LX w' base v (ll.set j l') xs := by
  have hl := h.len
  have hne := h.ne
  have hj : j < xs.length := (List.getElem?_eq_some_iff.1 hu).1
  refine ⟨by rw [List.length_set]; exact own_gs h.1 k (fun g hg hg' => hne u (List.mem_of_getElem? hu) g hg' hg), fun i l hi => ?_⟩
  by_cases hij : i = j
  · subst hij
    rw [List.getElem?_set_self (by omega)] at hi
    obtain rfl : l' = l := by simpa using hi
    exact ⟨u, hu, ho⟩
  · rw [List.getElem?_set_ne (fun e => hij e.symm)] at hi
    obtain ⟨u', k1, k2⟩ := h.2 i l hi
    refine ⟨u', k1, k2.gs k (fun g hg hg' => ?_)⟩
    rw [Apart.iff] at hap
    rcases Nat.lt_or_ge i j with hlt | hge
    · exact hap i j u' u g hlt k1 hu hg hg'
    · exact hap j i u u' g (by omega) hu k1 hg' hg
end
def MarkLOwn (base : Nat) (w : World) (v : Value) (ll : List (List Int)) (xs : List Value) (k : Nat) (e : Ending) (w' : World) : Prop :=
  e = .returned (.int .i64 (k + sizeL ll : Nat)) ∧ LX w' base v (marksL k ll) xs ∧ GS (fun g => ∃ u ∈ xs, u.ownBlock = some g) w w'
set_option maxHeartbeats 400000 in
theorem markIntSS_own (base : Nat) (v : Value) (ll : List (List Int)) (xs : List Value) (k : Nat) (w : World) (h : LX w base v ll xs) (hap : Apart xs) (hs : sizeL ll ≤ 1000000000) (hk : k ≤ 4000000000000000000) (hll : ∀ l ∈ ll, l.length ≤ 1048576) (kz : Int) (hkz : kz = (k : Nat) := by omega) :
    Calls Try.prog 66 #[v, .int .i64 kz] w (MarkLOwn base w v ll xs k) := by
  subst hkz
  obtain ⟨A, n, c, rfl, hc, hn, hn9⟩ := h.rl.form'
  have Hn := Lib.hid hn
  have Hll := Lib.hid hll
  have HS := Lib.hid hs
  clear hn hll hs
  go_enter Try.func66, Try.ntmps66
  go_wp2_with fail
  go_loopw [1, 5] (fun s i wr => ∃ j y : Nat, j ≤ n ∧ i = .int .i64 j ∧ s = .int .i64 y ∧ Hid (y = k + sizeL (ll.take j)) ∧ LX wr base (.slice A n c) ((marksL k ll).take j ++ ll.drop j) xs ∧ GS (fun g => ∃ u ∈ xs, u.ownBlock = some g) w wr) (fun _ i _ => n - (intOf i).toNat)
  case atStart => exact ⟨0, k, Nat.zero_le _, rfl, rfl, by show _ = _; simp [sizeL], by simpa using h, GS.refl _ _⟩
  case round =>
    clear h
    obtain ⟨j, y, hj, rfl, rfl, Hy, h, hz⟩ := hrel
    by_cases hlt : j < n
    · obtain ⟨l, hl⟩ : ∃ l, ll[j]? = some l := ⟨_, List.getElem?_eq_getElem (by rw [← Hn.out]; exact hlt)⟩
      have hmg := mix_get (marksL_len k ll) hl
      obtain ⟨g, o, l2, B1, m1, e1, rfl, hl2, c0, -, hm1, -, -⟩ := h.rl.at_ hlt
      obtain rfl : l = l2 := Option.some.inj (hmg.symm.trans hl2)
      obtain ⟨u, hu, hou⟩ := h.2 j l hmg
      obtain rfl : u = .slice B1 m1 e1 := by
        obtain ⟨g2, o2, cur, e0, _, hcc⟩ := TS.at_ (by have := TS.of_own h.1; rw [List.length_append, List.length_take, List.length_drop, marksL_len, ← Hn.out, show min j n + (n - j) = n by omega] at this; exact this) (by omega : 0 < n)
        injection e0 with e0
        injection e0 with q1 q2 _
        subst q1 q2
        exact Option.some.inj ((hcc j u (by simpa using hu)).symm.trans c0)
      have hll1 := Hll.out l (List.mem_of_getElem? hl)
      have hob := hou.wi (lo := 0) (hi := wr.heap.size) (Nat.zero_le _) (Nat.le_refl _) hll1
      rw [← hm1] at hob hll1
      have hyb : y ≤ 5000000000000000000 := by
        have := Hy.out
        have := sizeL_take ll j
        have := HS.out
        omega
      have Hm1 := Lib.hid hm1
      have hHl := Lib.hid hl
      clear hm1 hl2 hmg hl
      go_wp2_with fail
      refine (markIntS_any 0 wr.heap.size _ m1 y _ (by exact hob) (by omega) _).mono ?_
      rintro e w1 ⟨rfl, hM1, hgr, hO⟩
      have hou2 := hO _ _ hou
      have hup := h.upd hap hu (GS.of_gb hgr) hou2
      have hset : Hid (((marksL k ll).take j ++ ll.drop j).set j ((List.range m1).map (fun i : Nat => ((y + i : Nat) : Int))) = (marksL k ll).take (j + 1) ++ ll.drop (j + 1)) := by
        refine mix_set (marksL_len k ll) ?_
        have := marksL_get k ll j l hHl.out
        rw [this, ← Hy.out, ← Hm1.out]
        rfl
      rw [hset.out] at hup
      have hz2 := hz.trans ((GS.of_gb hgr).mono (fun g hg => ⟨_, List.mem_of_getElem? hu, hg⟩))
      have Hy2 : Hid (y + m1 = k + sizeL (ll.take (j + 1))) := by
        show _ = _
        rw [sizeL_snoc hHl.out, Hy.out, Hm1.out]
        omega
      clear hM1 hgr hO hou hou2 h hz hob
      go_wp2_with fail
      go_roundw
      case rel => exact ⟨j + 1, y + m1, by omega, by go_num, by go_num, Hy2, hup, hz2⟩
      case measure => simp [intOf]; omega
    · obtain rfl : j = n := by omega
      have h2 : LX wr base (.slice A j c) (marksL k ll) xs := by
        have := h
        rw [List.take_of_length_le (by rw [marksL_len, ← Hn.out]; exact Nat.le_refl _), List.drop_eq_nil_of_le (by rw [← Hn.out]; exact Nat.le_refl _), List.append_nil] at this
        exact this
      have hy2 : y = k + sizeL ll := by
        have := Hy.out
        rw [List.take_of_length_le (by rw [← Hn.out]; exact Nat.le_refl _)] at this
        exact this
      have Hy2 := Lib.hid hy2
      clear hy2 Hy h
      go_wp2_with fail
      go_ret
      exact ⟨by have e0 := Hy2.out; subst e0; first | rfl | simp, h2, hz⟩
set_option maxHeartbeats 400000 in
theorem heldIntSS_any (v : Value) (ll : List (List Int)) (k : Nat) (w : World) (h : RL w v (marksL k ll)) (hs : sizeL ll ≤ 1000000000) (hk : k ≤ 4000000000000000000) (hll : ∀ l ∈ ll, l.length ≤ 1048576) (kz : Int) (hkz : kz = (k : Nat) := by omega) :
    Calls Try.prog 103 #[v, .int .i64 kz] w fun e w' => e = .returned (.int .i64 (k + sizeL ll : Nat)) ∧ w = w' := by
  subst hkz
  obtain ⟨A, n, c, rfl, hc, hn, hn9⟩ := h.form'
  rw [marksL_len] at hn
  have Hn := Lib.hid hn
  have Hll := Lib.hid hll
  have HS := Lib.hid hs
  clear hn hll hs
  go_enter Try.func103, Try.ntmps103
  go_wp2_with fail
  go_loop [1, 5] (fun s i => ∃ j y : Nat, j ≤ n ∧ i = .int .i64 j ∧ s = .int .i64 y ∧ Hid (y = k + sizeL (ll.take j))) (fun _ i => n - (intOf i).toNat)
  case atStart => exact ⟨0, k, Nat.zero_le _, rfl, rfl, by show _ = _; simp [sizeL]⟩
  case round =>
    obtain ⟨j, y, hj, rfl, rfl, Hy⟩ := hrel
    by_cases hlt : j < n
    · obtain ⟨l, hl⟩ : ∃ l, ll[j]? = some l := ⟨_, List.getElem?_eq_getElem (by rw [← Hn.out]; exact hlt)⟩
      obtain ⟨g, o, l2, B1, m1, e1, rfl, hl2, c0, hri, hm1, -, -⟩ := h.at_ hlt
      rw [marksL_get k ll j l hl, ← Hy.out] at hl2
      obtain rfl : marksI y l.length = l2 := Option.some.inj hl2
      rw [marksI_len] at hm1
      have hll1 := Hll.out l (List.mem_of_getElem? hl)
      have hyb : y ≤ 5000000000000000000 := by
        have := Hy.out
        have := sizeL_take ll j
        have := HS.out
        omega
      have Hy2 : Hid (y + l.length = k + sizeL (ll.take (j + 1))) := by
        show _ = _
        rw [sizeL_snoc hl, Hy.out]
        omega
      clear hl2 hl hm1
      obtain ⟨m, hm⟩ : ∃ m, m = l.length := ⟨_, rfl⟩
      rw [← hm] at hll1 hri Hy2
      clear hm
      go_wp2_with fail
      refine (heldIntS_any _ m y _ (by exact hri) (by omega) (by omega) _).mono ?_
      rintro e w1 ⟨rfl, rfl⟩
      go_wp2_with fail
      go_round
      case rel => exact ⟨j + 1, y + m, by omega, by go_num, by go_num, Hy2⟩
      case measure => simp [intOf]; omega
    · obtain rfl : j = n := by omega
      have hy2 : y = k + sizeL ll := by
        have := Hy.out
        rw [List.take_of_length_le (by rw [← Hn.out]; exact Nat.le_refl _)] at this
        exact this
      have Hy2 := Lib.hid hy2
      clear hy2 Hy
      go_wp2_with fail
      go_ret
      exact ⟨by have e0 := Hy2.out; subst e0; first | rfl | simp, rfl⟩
def markE (k : Nat) (e : Ent) : Ent := ⟨k, marksL (k + 1) e.rows, marksI (k + 1 + sizeL e.rows) e.out.length⟩
def sizeE (e : Ent) : Nat := 1 + sizeL e.rows + e.out.length
def sizeEs (es : List Ent) : Nat := (es.map sizeE).sum
def marksE : Nat → List Ent → List Ent
  | _, [] => []
  | k, e :: es => markE k e :: marksE (k + sizeE e) es
theorem marksE_len (k : Nat) (es : List Ent) : (marksE k es).length = es.length := by
  induction es generalizing k with
  | nil => rfl
  | cons l ll ih => simp [marksE, ih]
theorem marksE_get (k : Nat) (es : List Ent) (j : Nat) (e : Ent) (h : es[j]? = some e) : (marksE k es)[j]? = some (markE (k + sizeEs (es.take j)) e) := by
  induction es generalizing k j with
  | nil => simp at h
  | cons x ll ih =>
    cases j with
    | zero =>
      obtain rfl : x = e := by simpa using h
      simp [marksE, sizeEs]
    | succ j =>
      have := ih (k + sizeE x) j (by simpa using h)
      have hs : sizeEs (x :: ll.take j) = sizeE x + sizeEs (ll.take j) := by simp [sizeEs]
      simp only [marksE, List.getElem?_cons_succ, List.take_succ_cons, hs]
      rw [this, Nat.add_assoc]
theorem sizeEs_snoc {ll : List Ent} {j : Nat} {l : Ent} (h : ll[j]? = some l) : sizeEs (ll.take (j + 1)) = sizeEs (ll.take j) + sizeE l := by
  obtain ⟨hj, rfl⟩ := List.getElem?_eq_some_iff.1 h
  unfold sizeEs
  rw [List.take_succ_eq_append_getElem hj, List.map_append, List.sum_append]
  simp
theorem sizeEs_take (ll : List Ent) (j : Nat) : sizeEs (ll.take j) ≤ sizeEs ll := by
  have : sizeEs ll = sizeEs (ll.take j) + sizeEs (ll.drop j) := by
    unfold sizeEs
    rw [← List.sum_append, ← List.map_append, List.take_append_drop]
  omega
theorem sizeE_in {es : List Ent} {i : Nat} {e : Ent} (h : es[i]? = some e) : sizeE e ≤ sizeEs es := by
  have h1 := sizeEs_snoc h
  have h2 := sizeEs_take es (i + 1)
  omega
theorem Apart.two {yss : List (List Value)} {i j : Nat} {ys zs : List Value} (h : Apart yss.flatten) (hij : i ≠ j) (hi : yss[i]? = some ys) (hj : yss[j]? = some zs) : ∀ u ∈ ys, ∀ u' ∈ zs, ∀ g, u.ownBlock = some g → u'.ownBlock ≠ some g := by
  unfold Apart at h
  rw [List.pairwise_flatten] at h
  have h2 := h.2
  rw [List.pairwise_iff_getElem] at h2
  obtain ⟨a1, rfl⟩ := List.getElem?_eq_some_iff.1 hi
  obtain ⟨b1, rfl⟩ := List.getElem?_eq_some_iff.1 hj
  intro u hu u' hu' g hg hg'
  rcases Nat.lt_or_gt_of_ne hij with hlt | hgt
  · exact h2 i j a1 b1 hlt u hu u' hu' g hg hg'
  · exact h2 j i b1 a1 hgt u' hu' u hu g hg' hg
theorem EX.gs {S : Nat → Prop} {w w' : World} {base : Nat} {rv ov : Value} {e : Ent} {ys : List Value} (h : EX w base rv ov e ys) (k : GS S w w') (hv : ∀ g, rv.ownBlock = some g → ¬ S g) (hx : ∀ u ∈ ys, ∀ g, u.ownBlock = some g → ¬ S g) : EX w' base rv ov e ys := by
  obtain ⟨xs, rfl, h2, h3⟩ := h
  exact ⟨xs, rfl, h2.gs k hv (fun u hu => hx u (List.mem_append_left _ hu)), h3.gs k (hx ov (by simp))⟩
/-- What is an integer's block holds integers. -/
theorem OwnX.intBlk {w : World} {base : Nat} {v : Value} {es : List Ent} {yss : List (List Value)} (h : OwnX w base v es yss) : ∀ u ∈ yss.flatten, ∀ g, u.ownBlock = some g → ∃ cur, Blk w g 3 cur := by
  obtain ⟨cs, h1, h2, h3⟩ := h
  intro u hu g hg
  obtain ⟨ys, hys, hu⟩ := List.mem_flatten.1 hu
  obtain ⟨i, hi, rfl⟩ := List.getElem_of_mem hys
  obtain ⟨rv, ov, ys, k1, k2, k3, k4, xs, k5, k6, k7⟩ := h3 i _ (List.getElem?_eq_getElem (by omega))
  rw [List.getElem?_eq_getElem hi] at k4
  cases k4
  rw [k5] at hu
  rcases List.mem_append.1 hu with hu | hu
  · obtain ⟨j, hj, rfl⟩ := List.getElem_of_mem hu
    have hl := k6.len
    obtain ⟨u', q1, q2⟩ := k6.2 j _ (List.getElem?_eq_getElem (by omega))
    rw [List.getElem?_eq_getElem hj] at q1
    cases q1
    exact q2.blk hg
  · obtain rfl : u = ov := by simpa using hu
    exact k7.blk hg
/-- An entry in its row: its cells, and what becomes of the row when they turn. -/
theorem OwnX.get {w : World} {base i : Nat} {v : Value} {es : List Ent} {yss : List (List Value)} {e : Ent} (h : OwnX w base v es yss) (hap : Apart yss.flatten) (he : es[i]? = some e) :
    ∃ g n cap rv ov ys, v = .slice (some ⟨g, 0, none⟩) n cap ∧ n = es.length ∧ w.cell? ⟨g, i * 3, none⟩ = some (.int .i64 e.kind) ∧ w.cell? ⟨g, i * 3 + 1, none⟩ = some rv ∧ w.cell? ⟨g, i * 3 + 2, none⟩ = some ov ∧ w.frozen? ⟨g, i * 3, none⟩ = false ∧ base ≤ g ∧ yss[i]? = some ys ∧ EX w base rv ov e ys ∧ Apart ys ∧
      (∀ k : Int, OwnX (w.setCell ⟨g, i * 3, none⟩ (.int .i64 k)) base v (es.set i { e with kind := k }) yss) ∧
      (∀ (w' : World) (e' : Ent) (S : Nat → Prop), GS S w w' → (∀ g, S g → ∃ u ∈ ys, u.ownBlock = some g) → e'.kind = e.kind → EX w' base rv ov e' ys → OwnX w' base v (es.set i e') yss) := by
  have hib := h.intBlk
  have hne := h.own.notE (E := 3) (by decide)
  have hne2 := h.own.notE (E := 27) (by decide)
  obtain ⟨cs, h1, h2, h3⟩ := h
  have hi := (List.getElem?_eq_some_iff.1 he).1
  obtain ⟨rv, ov, ys, k1, k2, k3, k4, k5⟩ := h3 i e he
  have hrest := h1
  rcases h1.2 with ⟨_, hz⟩ | ⟨g, cap, cur, rfl, hb, hh, hn, hm, hcs, ht⟩
  · omega
  have hB : Blk w g 62 cur := hh
  have cellAt : ∀ {j : Nat} {u : Value}, cs[j]? = some u → w.cell? ⟨g, j, none⟩ = some u := by
    intro j u hu
    rw [hB.cell]
    rw [← ht, List.getElem?_take] at hu
    split at hu
    · simpa using hu
    · cases hu
  have hapy : Apart ys := by
    have h0 := hap
    unfold Apart at h0 ⊢
    rw [List.pairwise_flatten] at h0
    exact h0.1 ys (List.mem_of_getElem? k4)
  refine ⟨g, es.length, cap, rv, ov, ys, rfl, rfl, cellAt k1, cellAt k2, cellAt k3, hB.frozen _, hb, k4, k5, hapy, ?_, ?_⟩
  · intro k
    have s1 := World.ownsRow.stored hrest (i * 3) (.int .i64 k)
    have hxl := hrest.1
    refine ⟨_, by rw [List.length_set]; exact s1.1, by rw [List.length_set]; exact h2, fun j x hj => ?_⟩
    by_cases hij : j = i
    · subst hij
      rw [List.getElem?_set_self hi] at hj
      obtain rfl : { e with kind := k } = x := by simpa using hj
      exact ⟨rv, ov, ys, by rw [List.getElem?_set_self (by omega)], by rw [List.getElem?_set_ne (by omega)]; exact k2, by rw [List.getElem?_set_ne (by omega)]; exact k3, k4, k5.grown s1.2 hne hne2⟩
    · rw [List.getElem?_set_ne (fun e => hij e.symm)] at hj
      obtain ⟨rv', ov', ys', q1, q2, q3, q4, q5⟩ := h3 j x hj
      exact ⟨rv', ov', ys', by rw [List.getElem?_set_ne (by omega)]; exact q1, by rw [List.getElem?_set_ne (by omega)]; exact q2, by rw [List.getElem?_set_ne (by omega)]; exact q3, q4, q5.grown s1.2 hne hne2⟩
  · intro w' e' S hS hSy hk hx'
    have hSi : ∀ b, S b → ∃ cur, Blk w b 3 cur := fun b hb => by
      obtain ⟨u, hu, hub⟩ := hSy b hb
      exact hib u (List.mem_flatten.2 ⟨ys, List.mem_of_getElem? k4, hu⟩) b hub
    have hown' := own_gs hrest hS (fun b hb hb' => by
      obtain ⟨cur', hc'⟩ := hSi b hb'
      exact hne b hb cur' hc')
    refine ⟨cs, by rw [List.length_set]; exact hown', by rw [List.length_set]; exact h2, fun j x hj => ?_⟩
    by_cases hij : j = i
    · subst hij
      rw [List.getElem?_set_self hi] at hj
      obtain rfl : e' = x := by simpa using hj
      exact ⟨rv, ov, ys, by rw [hk]; exact k1, k2, k3, k4, hx'⟩
    · rw [List.getElem?_set_ne (fun e => hij e.symm)] at hj
      obtain ⟨rv', ov', ys', q1, q2, q3, q4, q5⟩ := h3 j x hj
      refine ⟨rv', ov', ys', q1, q2, q3, q4, q5.gs hS (fun b hb hb' => ?_) (fun u hu b hb hb' => ?_)⟩
      · obtain ⟨cur', hc'⟩ := hSi b hb'
        obtain ⟨_, _, q6, _⟩ := q5
        exact NotE.own (E := 3) q6.1 (by decide) b hb cur' hc'
      · obtain ⟨u', hu', hub⟩ := hSy b hb'
        exact hap.two hij q4 k4 u hu u' hu' b hb hub
def MarkEOwn (base : Nat) (w : World) (v : Value) (es : List Ent) (yss : List (List Value)) (k : Nat) (e : Ending) (w' : World) : Prop :=
  e = .returned (.int .i64 (k + sizeEs es : Nat)) ∧ OwnX w' base v (marksE k es) yss ∧ GS (fun g => v.ownBlock = some g ∨ ∃ u ∈ yss.flatten, u.ownBlock = some g) w w'
set_option maxHeartbeats 800000 in
theorem markEntryS_own (base : Nat) (v : Value) (es : List Ent) (yss : List (List Value)) (k : Nat) (w : World) (h : OwnX w base v es yss) (hap : Apart yss.flatten) (hs : sizeEs es ≤ 1000000000) (hk : k ≤ 1000000000) (hes : ∀ e ∈ es, fitsL e.rows ∧ e.out.length ≤ 1048576) (kz : Int) (hkz : kz = (k : Nat) := by omega) :
    Calls Try.prog 65 #[v, .int .i64 kz] w (MarkEOwn base w v es yss k) := by
  subst hkz
  obtain ⟨A, n, c, rfl, hc, hn, hn9⟩ := h.re.form'
  have Hn := Lib.hid hn
  have Hes := Lib.hid hes
  have HS := Lib.hid hs
  clear hn hes hs
  go_enter Try.func65, Try.ntmps65
  go_wp2_with fail
  go_loopw [1, 5] (fun s i wr => ∃ j y : Nat, j ≤ n ∧ i = .int .i64 j ∧ s = .int .i64 y ∧ Hid (y = k + sizeEs (es.take j)) ∧ OwnX wr base (.slice A n c) ((marksE k es).take j ++ es.drop j) yss ∧ GS (fun g => (Value.slice A n c).ownBlock = some g ∨ ∃ u ∈ yss.flatten, u.ownBlock = some g) w wr) (fun _ i _ => n - (intOf i).toNat)
  case atStart => exact ⟨0, k, Nat.zero_le _, rfl, rfl, by show _ = _; simp [sizeEs], by simpa using h, GS.refl _ _⟩
  case round =>
    clear h
    obtain ⟨j, y, hj, rfl, rfl, Hy, h, hz⟩ := hrel
    by_cases hlt : j < n
    · obtain ⟨e, he⟩ : ∃ e, es[j]? = some e := ⟨_, List.getElem?_eq_getElem (by rw [← Hn.out]; exact hlt)⟩
      have hmg := mix_get (marksE_len k es) he
      obtain ⟨hfr, hfo⟩ := Hes.out e (List.mem_of_getElem? he)
      have hse := sizeE_in he
      have hyb : y ≤ 2000000000 ∧ sizeL e.rows ≤ 1000000000 := by
        have := Hy.out
        have := sizeEs_take es j
        have := HS.out
        unfold sizeE at hse
        omega
      obtain ⟨hyb, hsr⟩ := hyb
      obtain ⟨g, n', cap, rv, ov, ys, hv, -, c0, -, -, f0, hb, hys, -, -, hkind, -⟩ := h.get hap hmg
      injection hv with hA hn' hc'
      subst hA hn' hc'
      have h1 := hkind (y : Nat)
      have hlm : ((marksE k es).take j ++ es.drop j).length = es.length := by rw [List.length_append, List.length_take, List.length_drop, marksE_len, ← Hn.out]; omega
      have hjl : j < es.length := by rw [← Hn.out]; exact hlt
      have hg1 : ∀ (X : List Ent) (a : Ent), X.length = es.length → (X.set j a)[j]? = some a := fun X a hX => List.getElem?_set_self (by omega)
      obtain ⟨g2, n2, cap2, rv2, ov2, ys2, hv2, -, -, c1, c2, -, -, hys2, hx2, hap2, -, hupd2⟩ := h1.get hap (hg1 _ _ hlm)
      injection hv2 with hA2 hn2 hc2
      injection hA2 with hA2
      injection hA2 with hg2
      subst hg2 hn2 hc2
      obtain ⟨xs, hxs, hL, hO⟩ := hx2
      subst hxs
      have hz1 : GS (fun b => (Value.slice (some ⟨g, 0, none⟩) n c).ownBlock = some b ∨ ∃ u ∈ yss.flatten, u.ownBlock = some b) w (wr.setCell ⟨g, j * 3, none⟩ (.int .i64 (y : Nat))) :=
        hz.trans ((GS.of_gb (gb_set (p := ⟨g, j * 3, none⟩) (gb_refl wr (some g)) (.inr rfl) _)).mono (fun b hb => .inl hb))
      have hmem : ∀ u ∈ xs ++ [ov2], u ∈ yss.flatten := fun u hu => List.mem_flatten.2 ⟨_, List.mem_of_getElem? hys2, hu⟩
      have Hmem := Lib.hid hmem
      have Hupd2 := Lib.hid hupd2
      have Hg1 := Lib.hid hg1
      have Hfr := Lib.hid hfr
      have He := Lib.hid he
      obtain ⟨B1, m1, e1, rfl⟩ := hL.rl.val
      obtain ⟨B2, m2, e2, rfl⟩ := hO.ri.val
      clear h hkind hmem hupd2 hg1 hfr he hz hmg h1
      go_wp2_with fail
      refine (markIntSS_own base _ e.rows xs (y + 1) _ hL hap2.left hsr (by omega) Hfr.out.2 _).mono ?_
      rintro e' w1 ⟨rfl, hL1, hS1⟩
      have hO1 := hO.gs hS1 (fun b hb hb' => by
        obtain ⟨u, hu, hub⟩ := hb'
        have := (List.pairwise_append.1 hap2).2.2 u hu (.slice B2 m2 e2) (by simp) b hub
        exact this hb)
      have h2 := Hupd2.out w1 ⟨(y : Nat), marksL (y + 1) e.rows, e.out⟩ _ hS1 (fun b hb => by
        obtain ⟨u, hu, hub⟩ := hb
        exact ⟨u, List.mem_append_left _ hu, hub⟩) rfl ⟨xs, rfl, hL1, hO1⟩
      rw [List.set_set] at h2
      have hz2 := hz1.trans (hS1.mono (fun b hb => by
        obtain ⟨u, hu, hub⟩ := hb
        exact .inr ⟨u, Hmem.out u (List.mem_append_left _ hu), hub⟩))
      obtain ⟨g3, n3, cap3, rv3, ov3, ys3, hv3, -, -, -, d2, -, -, hys3, hx3, hap3, -, hupd3⟩ := h2.get hap (Hg1.out _ _ hlm)
      injection hv3 with hA3 hn3 hc3
      injection hA3 with hA3
      injection hA3 with hg3
      subst hg3 hn3 hc3
      obtain ⟨xs3, hxs3, hL3, hO3⟩ := hx3
      subst hxs3
      have hmem3 : ov3 ∈ yss.flatten := List.mem_flatten.2 ⟨_, List.mem_of_getElem? hys3, by simp⟩
      obtain ⟨B3, m3, e3, rfl, -, hm3⟩ := hO3.ri.form'
      replace hm3 : m3 = e.out.length := hm3
      have hwi := hO3.wi (lo := 0) (hi := w1.heap.size) (Nat.zero_le _) (Nat.le_refl _) (by show e.out.length ≤ _; exact hfo)
      have hwi : WI w1 0 w1.heap.size (.slice B3 m3 e3) m3 := by
        have h0 := hwi
        have e0 : ({ kind := (y : Nat), rows := marksL (y + 1) e.rows, out := e.out } : Ent).out.length = m3 := hm3.symm
        rw [e0] at h0
        exact h0
      have hfo : m3 ≤ 1048576 := by rw [hm3]; exact hfo
      have Hm3 := Lib.hid hm3
      have Hupd3 := Lib.hid hupd3
      have Hmem3 := Lib.hid hmem3
      clear hm3 hupd3 hmem3 hL hO c1 c2
      go_wp2_with fail
      refine (markIntS_any 0 w1.heap.size _ m3 (y + 1 + sizeL e.rows) _ (by exact hwi) (by omega) _).mono ?_
      rintro e' w2 ⟨rfl, hM2, hgr, hOO⟩
      have hO4 := hOO _ _ hO3
      have hS2 := GS.of_gb hgr
      have hL4 := hL3.gs hS2 (fun b hb hb' => by
        obtain ⟨cur, hc⟩ := hO3.blk hb'
        exact NotE.own (E := 3) hL3.1 (by decide) b hb cur hc) (fun u hu b hb hb' => (List.pairwise_append.1 hap3).2.2 u hu _ (by simp) b hb hb')
      have h4 := Hupd3.out w2 (markE y e) _ hS2 (fun b hb => ⟨_, by simp, hb⟩) rfl ⟨xs3, rfl, hL4, by
        have e0 : (markE y e).out = (List.range m3).map (fun i : Nat => ((y + 1 + sizeL e.rows + i : Nat) : Int)) := by
          unfold markE marksI
          rw [Hm3.out]
        rw [e0]
        exact hO4⟩
      rw [List.set_set] at h4
      have hset : Hid (((marksE k es).take j ++ es.drop j).set j (markE y e) = (marksE k es).take (j + 1) ++ es.drop (j + 1)) := by
        refine mix_set (marksE_len k es) ?_
        rw [marksE_get k es j e He.out, ← Hy.out]
      rw [hset.out] at h4
      have hz4 := hz2.trans (hS2.mono (fun b hb => .inr ⟨_, Hmem3.out, hb⟩))
      have Hy2 : Hid (y + 1 + sizeL e.rows + m3 = k + sizeEs (es.take (j + 1))) := by
        show _ = _
        rw [sizeEs_snoc He.out, Hy.out, Hm3.out]
        unfold sizeE
        omega
      clear h2 hM2 hgr hOO hO3 hO4 hS2 hL3 hL4 hz2 hz1 hS1 hL1 hO1 hwi
      go_wp2_with fail
      go_roundw
      case rel => exact ⟨j + 1, y + 1 + sizeL e.rows + m3, by omega, by go_num, by go_num, Hy2, h4, hz4⟩
      case measure => simp [intOf]; omega
    · obtain rfl : j = n := by omega
      have h2 : OwnX wr base (.slice A j c) (marksE k es) yss := by
        have := h
        rw [List.take_of_length_le (by rw [marksE_len, ← Hn.out]; exact Nat.le_refl _), List.drop_eq_nil_of_le (by rw [← Hn.out]; exact Nat.le_refl _), List.append_nil] at this
        exact this
      have hy2 : y = k + sizeEs es := by
        have := Hy.out
        rw [List.take_of_length_le (by rw [← Hn.out]; exact Nat.le_refl _)] at this
        exact this
      have Hy2 := Lib.hid hy2
      clear hy2 Hy h
      go_wp2_with fail
      go_ret
      exact ⟨by have e0 := Hy2.out; subst e0; first | rfl | simp, h2, hz⟩
set_option maxHeartbeats 800000 in
theorem heldEntryS_any (v : Value) (es : List Ent) (k : Nat) (w : World) (h : RE w v (marksE k es)) (hs : sizeEs es ≤ 1000000000) (hk : k ≤ 1000000000) (hes : ∀ e ∈ es, fitsL e.rows ∧ e.out.length ≤ 1048576) (kz : Int) (hkz : kz = (k : Nat) := by omega) :
    Calls Try.prog 67 #[v, .int .i64 kz] w fun e w' => e = .returned (.int .i64 (k + sizeEs es : Nat)) ∧ w = w' := by
  subst hkz
  obtain ⟨A, n, c, rfl, hc, hn, hn9⟩ := h.form'
  rw [marksE_len] at hn
  have Hn := Lib.hid hn
  have Hes := Lib.hid hes
  have HS := Lib.hid hs
  clear hn hes hs
  go_enter Try.func67, Try.ntmps67
  go_wp2_with fail
  go_loop [1, 5] (fun s i => ∃ j y : Nat, j ≤ n ∧ i = .int .i64 j ∧ s = .int .i64 y ∧ Hid (y = k + sizeEs (es.take j))) (fun _ i => n - (intOf i).toNat)
  case atStart => exact ⟨0, k, Nat.zero_le _, rfl, rfl, by show _ = _; simp [sizeEs]⟩
  case round =>
    obtain ⟨j, y, hj, rfl, rfl, Hy⟩ := hrel
    by_cases hlt : j < n
    · obtain ⟨e, he⟩ : ∃ e, es[j]? = some e := ⟨_, List.getElem?_eq_getElem (by rw [← Hn.out]; exact hlt)⟩
      obtain ⟨g, o, e2, B1, m1, f1, B2, m2, f2, rfl, he2, c0, c1, c2, hx1, hx2⟩ := h.at_ hlt
      rw [marksE_get k es j e he, ← Hy.out] at he2
      obtain rfl : markE y e = e2 := Option.some.inj he2
      replace c0 : w.cell? ⟨g, o + j * 3, none⟩ = some (.int .i64 (y : Nat)) := c0
      replace hx1 : RL w (.slice B1 m1 f1) (marksL (y + 1) e.rows) := hx1
      replace hx2 : RI w (.slice B2 m2 f2) (marksI (y + 1 + sizeL e.rows) e.out.length) := hx2
      obtain ⟨hfr, hfo⟩ := Hes.out e (List.mem_of_getElem? he)
      have hse := sizeE_in he
      have hyb : y ≤ 2000000000 ∧ sizeL e.rows ≤ 1000000000 := by
        have := Hy.out
        have := sizeEs_take es j
        have := HS.out
        unfold sizeE at hse
        omega
      obtain ⟨hyb, hsr⟩ := hyb
      have Hy2 : Hid (y + 1 + sizeL e.rows + e.out.length = k + sizeEs (es.take (j + 1))) := by
        show _ = _
        rw [sizeEs_snoc he, Hy.out]
        unfold sizeE
        omega
      have Hfr := Lib.hid hfr
      clear he2 he hse hfr
      go_wp2_with fail
      refine (heldIntSS_any _ e.rows (y + 1) _ (by exact hx1) hsr (by omega) Hfr.out.2 _).mono ?_
      rintro e' w1 ⟨rfl, rfl⟩
      go_wp2_with fail
      refine (heldIntS_any _ e.out.length (y + 1 + sizeL e.rows) _ (by exact hx2) (by omega) (by omega) _).mono ?_
      rintro e' w1 ⟨rfl, rfl⟩
      go_wp2_with fail
      go_round
      case rel => exact ⟨j + 1, y + 1 + sizeL e.rows + e.out.length, by omega, by go_num, by go_num, Hy2⟩
      case measure => simp [intOf]; omega
    · obtain rfl : j = n := by omega
      have hy2 : y = k + sizeEs es := by
        have := Hy.out
        rw [List.take_of_length_le (by rw [← Hn.out]; exact Nat.le_refl _)] at this
        exact this
      have Hy2 := Lib.hid hy2
      clear hy2 Hy
      go_wp2_with fail
      go_ret
      exact ⟨by have e0 := Hy2.out; subst e0; first | rfl | simp, rfl⟩
end Go.Proofs.Ytjlnhijabdkagaa
