/- The plain functions on texts of rows: a text cut at commas, words that are numbers, the row of a text. Conditions: none. -/
import Derived.Test.YthampfkicnakgaaGreatDoorA20Text
import Derived.Test.YthampfkicnakgaaGreatDoorA4Vals
import Derived.Lib.SplitLaws
import Derived.Lib.AtoiAllCases
namespace Go.Proofs.YthampfkicnakgaaGreatDoor
open Go

/-! A text cut at commas. -/
def cut44 : List UInt8 → List (List UInt8)
  | [] => [[]]
  | c :: r => if c = 44 then [] :: cut44 r else ((c :: (cut44 r).headD []) :: (cut44 r).tail)
theorem cut44_ne (l : List UInt8) : cut44 l ≠ [] := by
  cases l with
  | nil => simp [cut44]
  | cons c r =>
    unfold cut44
    split <;> simp
theorem cut44_none {l : List UInt8} (h : ∀ b ∈ l, b ≠ 44) : cut44 l = [l] := by
  induction l with
  | nil => rfl
  | cons c r ih =>
    have e := ih (fun b hb => h b (by simp [hb]))
    unfold cut44
    rw [if_neg (h c (by simp)), e]
    rfl
theorem cut44_hit {a : List UInt8} (h : ∀ b ∈ a, b ≠ 44) (r : List UInt8) : cut44 (a ++ 44 :: r) = a :: cut44 r := by
  induction a with
  | nil => simp [cut44]
  | cons c a ih =>
    have e := ih (fun b hb => h b (by simp [hb]))
    rw [List.cons_append, cut44, if_neg (h c (by simp)), e]
    rfl
theorem cut44_join : ∀ {ws : List (List UInt8)}, ws ≠ [] → (∀ w ∈ ws, ∀ b ∈ w, b ≠ 44) → cut44 (Lib.join ws [44]) = ws
  | [], h, _ => absurd rfl h
  | [w], _, hw => by rw [Lib.join_one]; exact cut44_none (hw w (by simp))
  | w :: x :: r, _, hw => by
    have e : Lib.join (w :: x :: r) [44] = w ++ 44 :: Lib.join (x :: r) [44] := by
      rw [Lib.join_cons, Lib.join_cons]
      simp [Lib.joinTail]
    rw [e, cut44_hit (hw w (by simp)), cut44_join (by simp) (fun y hy => hw y (by simp [hy]))]
theorem join_cut44 (l : List UInt8) : Lib.join (cut44 l) [44] = l := by
  induction l with
  | nil => rfl
  | cons c r ih =>
    unfold cut44
    obtain ⟨x, t, e⟩ : ∃ x t, cut44 r = x :: t := by
      cases hc : cut44 r with
      | nil => exact absurd hc (cut44_ne r)
      | cons x t => exact ⟨x, t, rfl⟩
    rw [e] at ih ⊢
    split
    · rename_i hc
      rw [Lib.join_cons]
      rw [Lib.join_cons] at ih
      simp only [Lib.joinTail, List.map_cons, List.flatten_cons, List.nil_append] at ih ⊢
      rw [← ih, hc]
      simp
    · rw [Lib.join_cons] at ih ⊢
      simp only [List.headD_cons, List.tail_cons, List.cons_append]
      rw [ih]

/-! strings.SplitN at a comma. -/
theorem splitK_cut (k : Nat) : ∀ l : List UInt8, ((cut44 l).length ≤ k + 1 → Lib.splitK [44] 0 k l = cut44 l) ∧ (k + 1 < (cut44 l).length → (Lib.splitK [44] 0 k l).length = k + 1) := by
  induction k with
  | zero =>
    intro l
    refine ⟨fun h => ?_, fun _ => rfl⟩
    by_cases hall : ∀ b ∈ l, b ≠ 44
    · rw [cut44_none hall]
      rfl
    · exfalso
      have : ∃ a r, (∀ b ∈ a, b ≠ 44) ∧ l = a ++ 44 :: r := by
        clear h
        induction l with
        | nil => exact absurd (fun b hb => by simp at hb) hall
        | cons c l ih =>
          by_cases hc : c = 44
          · exact ⟨[], l, by simp, by rw [hc]; rfl⟩
          · obtain ⟨a, r, h1, h2⟩ := ih (fun hl => hall (fun b hb => by
              rcases List.mem_cons.1 hb with rfl | hb
              · exact hc
              · exact hl b hb))
            exact ⟨c :: a, r, fun b hb => by
              rcases List.mem_cons.1 hb with rfl | hb
              · exact hc
              · exact h1 b hb, by rw [h2]; rfl⟩
      obtain ⟨a, r, h1, rfl⟩ := this
      rw [cut44_hit h1] at h
      have := List.length_pos_iff.2 (cut44_ne r)
      rw [List.length_cons] at h
      omega
  | succ k ih =>
    intro l
    have hi := Lib.index_one l 44
    rcases Lib.index_spec l [44] with ⟨h1, -⟩ | ⟨i, h1, h2, -, -⟩
    · have hno : ∀ b ∈ l, b ≠ 44 := by
        rw [h1] at hi
        intro b hb e
        obtain ⟨j, hj⟩ := List.mem_iff_getElem?.1 hb
        exact Lib.indexByte_none hi.symm j (by rw [hj, e])
      have e : Lib.splitK [44] 0 (k + 1) l = [l] := by
        unfold Lib.splitK
        rw [if_pos (by rw [h1]; rfl)]
      rw [e, cut44_none hno]
      exact ⟨fun _ => rfl, fun h => by simp at h⟩
    · rw [h1] at hi
      obtain ⟨hj, hbef⟩ := Lib.indexByte_some hi.symm
      obtain ⟨hil, hjv⟩ := List.getElem?_eq_some_iff.1 hj
      have hl : l = l.take i ++ 44 :: l.drop (i + 1) := by
        conv => lhs; rw [← List.take_append_drop i l]
        rw [List.drop_eq_getElem_cons hil, hjv]
      have hno : ∀ b ∈ l.take i, b ≠ 44 := by
        intro b hb e
        obtain ⟨j, hj⟩ := List.mem_iff_getElem?.1 hb
        rw [List.getElem?_take] at hj
        split at hj
        · rename_i hji
          exact hbef j hji (by rw [hj, e])
        · cases hj
      have e : Lib.splitK [44] 0 (k + 1) l = l.take i :: Lib.splitK [44] 0 k (l.drop (i + 1)) := by
        have hne : ¬ (Lib.index l [44] == -1) = true := by
          rw [h1, beq_iff_eq]
          omega
        rw [Lib.splitK, if_neg hne, h1]
        rfl
      have hc : cut44 l = l.take i :: cut44 (l.drop (i + 1)) := by
        conv => lhs; rw [hl]
        exact cut44_hit hno _
      obtain ⟨a1, a2⟩ := ih (l.drop (i + 1))
      rw [e, hc]
      refine ⟨fun h => ?_, fun h => ?_⟩
      · rw [a1 (by simpa using h)]
      · simp only [List.length_cons] at h ⊢
        rw [a2 (by omega)]
theorem cut44_len (l : List UInt8) : (cut44 l).length ≤ l.length + 1 := by
  induction l with
  | nil => simp [cut44]
  | cons c r ih =>
    have := List.length_pos_iff.2 (cut44_ne r)
    unfold cut44
    split
    · simp only [List.length_cons]
      omega
    · simp only [List.length_cons, List.length_tail]
      omega
theorem cut44_mem_len (l : List UInt8) : ∀ w ∈ cut44 l, w.length ≤ l.length := by
  induction l with
  | nil => intro w hw; simp [cut44] at hw; simp [hw]
  | cons c r ih =>
    intro w hw
    obtain ⟨x, t, e⟩ : ∃ x t, cut44 r = x :: t := by
      cases hc : cut44 r with
      | nil => exact absurd hc (cut44_ne r)
      | cons x t => exact ⟨x, t, rfl⟩
    unfold cut44 at hw
    rw [List.length_cons]
    split at hw
    · rcases List.mem_cons.1 hw with rfl | hw
      · simp
      · have := ih w hw
        omega
    · rw [e] at hw
      rcases List.mem_cons.1 hw with rfl | hw
      · have := ih x (by rw [e]; simp)
        simp
        omega
      · have := ih w (by rw [e]; exact List.mem_cons_of_mem _ hw)
        omega
/-- What strings.SplitN(s, ",", 7) gives: all words, if there are six at most; else seven pieces. -/
theorem split7 (s : ByteArray) : ((cut44 s.data.toList).length ≤ 6 → (Lib.splitB ⟨#[44]⟩ 0 (min 7 (s.size + 1) - 1) s) = (cut44 s.data.toList).map bstr) ∧ (6 < (cut44 s.data.toList).length → (Lib.splitB ⟨#[44]⟩ 0 (min 7 (s.size + 1) - 1) s).length = 7) := by
  have hd := Lib.splitB_data ⟨#[44]⟩ 0 (min 7 (s.size + 1) - 1) s
  have hk := splitK_cut (min 7 (s.size + 1) - 1) s.data.toList
  have hl := cut44_len s.data.toList
  have hs : s.data.toList.length = s.size := by
    rw [Array.length_toList]
    rfl
  rw [hs] at hl
  have h44 : (⟨#[44]⟩ : ByteArray).data.toList = [44] := rfl
  rw [h44] at hd
  refine ⟨fun h => ?_, fun h => ?_⟩
  · have e := hk.1 (by omega)
    rw [e] at hd
    rw [← hd, List.map_map]
    conv => lhs; rw [← List.map_id (Lib.splitB _ _ _ _)]
    refine List.map_congr_left (fun x _ => ?_)
    exact (bstr_eta x).symm
  · by_cases h7 : (cut44 s.data.toList).length ≤ min 7 (s.size + 1) - 1 + 1
    · have e := hk.1 h7
      rw [e] at hd
      have := congrArg List.length hd
      rw [List.length_map] at this
      omega
    · have e := hk.2 (by omega)
      have := congrArg List.length hd
      rw [List.length_map, e] at this
      omega

/-! Words that are numbers. -/
def isDig (b : UInt8) : Bool := decide (48 ≤ b.toNat) && decide (b.toNat ≤ 57)
def digStep (n : Nat) (b : UInt8) : Nat := 10 * n + (b.toNat - 48)
def digVal (w : List UInt8) : Nat := w.foldl digStep 0
/-- The number of one to four digits, or -1. -/
def wordNum (w : List UInt8) : Int := if 1 ≤ w.length ∧ w.length ≤ 4 ∧ w.all isDig = true then (digVal w : Int) else -1
/-- A word that is a value as a row is written. -/
def goodWord (w : List UInt8) : Bool := w.all isDig && decide (w ≠ []) && !(decide (1 < w.length) && decide (w[0]? = some 48)) && decide (digVal w < 1009)
theorem digVal_snoc (w : List UInt8) (b : UInt8) : digVal (w ++ [b]) = 10 * digVal w + (b.toNat - 48) := by
  unfold digVal
  rw [List.foldl_append]
  rfl
theorem dig_gen (w : List UInt8) (n : Nat) : w.foldl digStep n = n * 10 ^ w.length + digVal w := by
  induction w generalizing n with
  | nil => simp [digVal]
  | cons c r ih =>
    unfold digVal
    rw [List.foldl_cons, List.foldl_cons, ih, ih (digStep 0 c), List.length_cons, Nat.pow_succ]
    unfold digStep
    rw [Nat.add_mul, Nat.add_mul, show 10 * n * 10 ^ r.length = n * (10 ^ r.length * 10) by rw [Nat.mul_comm (10 ^ r.length) 10, ← Nat.mul_assoc, Nat.mul_comm n 10]]
    omega
theorem digVal_cons (c : UInt8) (r : List UInt8) : digVal (c :: r) = (c.toNat - 48) * 10 ^ r.length + digVal r := by
  unfold digVal
  rw [List.foldl_cons, dig_gen]
  unfold digVal
  rw [show digStep 0 c = c.toNat - 48 by unfold digStep; omega]
theorem digVal_dec (n : Nat) : digVal (Lib.decDigits n) = n := by
  induction n using Nat.strongRecOn with
  | _ n ih =>
    by_cases h : n < 10
    · rw [dec_small h]
      show digStep 0 _ = n
      unfold digStep
      rw [UInt8.toNat_ofNat']
      omega
    · rw [dec_big h, digVal_snoc, ih (n / 10) (by omega), UInt8.toNat_ofNat']
      omega
theorem dec_digVal : ∀ (k : Nat) (w : List UInt8), w.length = k → w ≠ [] → w.all isDig = true → (1 < w.length → w[0]? ≠ some 48) → Lib.decDigits (digVal w) = w := by
  intro k
  induction k with
  | zero => intro w h0 hne; exact absurd (List.eq_nil_of_length_eq_zero h0) hne
  | succ k ih =>
    intro w hl hne hd h0
    obtain ⟨u, b, rfl⟩ : ∃ u b, w = u ++ [b] := ⟨w.dropLast, w.getLast hne, (List.dropLast_concat_getLast hne).symm⟩
    rw [List.all_append, Bool.and_eq_true] at hd
    obtain ⟨hu, hb⟩ := hd
    have hb' : 48 ≤ b.toNat ∧ b.toNat ≤ 57 := by simpa [isDig] using hb
    rw [digVal_snoc]
    have hbk : ∀ m : Nat, m = b.toNat - 48 → UInt8.ofNat (48 + m) = b := by
      intro m hm
      apply UInt8.toNat_inj.1
      rw [UInt8.toNat_ofNat']
      omega
    by_cases hu0 : u = []
    · subst hu0
      show Lib.decDigits (10 * 0 + (b.toNat - 48)) = [b]
      rw [dec_small (by omega), hbk _ (by omega)]
    · have hpos : 1 ≤ digVal u := by
        obtain ⟨c, r, rfl⟩ : ∃ c r, u = c :: r := by
          cases u with
          | nil => exact absurd rfl hu0
          | cons c r => exact ⟨c, r, rfl⟩
        have hc : c ≠ 48 := fun e => h0 (by simp) (by rw [e]; rfl)
        rw [List.all_cons, Bool.and_eq_true] at hu
        have hc' : 48 ≤ c.toNat ∧ c.toNat ≤ 57 := by simpa [isDig] using hu.1
        have hc2 : c.toNat ≠ 48 := fun e => hc (UInt8.toNat_inj.1 e)
        rw [digVal_cons]
        have : 1 ≤ (c.toNat - 48) * 10 ^ r.length := Nat.mul_pos (by omega) (Nat.pow_pos (by omega))
        omega
      have e := ih u (by simpa using hl) hu0 hu (fun h1 => by
        have := h0 (by simp; omega)
        rwa [List.getElem?_append_left (by omega)] at this)
      rw [dec_big (by omega), show (10 * digVal u + (b.toNat - 48)) / 10 = digVal u by omega, e, hbk _ (by omega)]
theorem goodWord_iff {w : List UInt8} : goodWord w = true ↔ w.all isDig = true ∧ w ≠ [] ∧ (1 < w.length → w[0]? ≠ some 48) ∧ digVal w < 1009 := by
  unfold goodWord
  simp only [Bool.and_eq_true, decide_eq_true_eq, Bool.not_eq_true', Bool.and_eq_false_iff, decide_eq_false_iff_not]
  constructor
  · rintro ⟨⟨⟨h1, h2⟩, h3⟩, h4⟩
    refine ⟨h1, h2, fun h => ?_, h4⟩
    rcases h3 with h3 | h3
    · exact absurd h h3
    · exact h3
  · rintro ⟨h1, h2, h3, h4⟩
    refine ⟨⟨⟨h1, h2⟩, ?_⟩, h4⟩
    by_cases h : 1 < w.length
    · exact .inr (h3 h)
    · exact .inl h
theorem goodWord_itoa {w : List UInt8} (h : goodWord w = true) : Lib.itoa (digVal w : Int) = w := by
  obtain ⟨h1, h2, h3, h4⟩ := goodWord_iff.1 h
  rw [itoa_nat]
  exact dec_digVal _ w rfl h2 h1 h3
theorem decLen_small {n : Nat} (h : n < 10000) : (Lib.decDigits n).length ≤ 4 := by
  by_cases h1 : n < 10
  · rw [dec_small h1]; simp
  rw [dec_big h1]
  by_cases h2 : n / 10 < 10
  · rw [dec_small h2]; simp
  rw [dec_big h2]
  by_cases h3 : n / 10 / 10 < 10
  · rw [dec_small h3]; simp
  rw [dec_big h3, dec_small (by omega)]
  simp
theorem goodWord_num {w : List UInt8} (h : goodWord w = true) : wordNum w = (digVal w : Int) := by
  have e := goodWord_itoa h
  obtain ⟨h1, h2, h3, h4⟩ := goodWord_iff.1 h
  rw [itoa_nat] at e
  have hl : w.length ≤ 4 := by rw [← e]; exact decLen_small (by omega)
  have h0 : 1 ≤ w.length := List.length_pos_iff.2 h2
  unfold wordNum
  rw [if_pos ⟨h0, hl, h1⟩]
theorem dec_head {n : Nat} (h : 10 ≤ n) : (Lib.decDigits n)[0]? ≠ some 48 := by
  induction n using Nat.strongRecOn with
  | _ n ih =>
    have hl : 0 < (Lib.decDigits (n / 10)).length := List.length_pos_iff.2 (dec_ne _)
    rw [dec_big (by omega), List.getElem?_append_left hl]
    by_cases h1 : n / 10 < 10
    · rw [dec_small h1]
      intro e
      have e2 : UInt8.ofNat (48 + n / 10) = 48 := by simpa using e
      have e3 := congrArg UInt8.toNat e2
      rw [UInt8.toNat_ofNat'] at e3
      simp at e3
      omega
    · exact ih (n / 10) (by omega) (by omega)
theorem goodWord_dec {n : Nat} (h : n ≤ 1008) : goodWord (Lib.decDigits n) = true := by
  refine goodWord_iff.2 ⟨?_, dec_ne n, fun hl => ?_, by rw [digVal_dec]; omega⟩
  · rw [List.all_eq_true]
    intro b hb
    have := dec_mem b hb
    unfold isDig
    simp
    omega
  · refine dec_head ?_
    by_cases h1 : n < 10
    · rw [dec_small h1] at hl
      simp at hl
    · omega
/-! The row of a text. -/
/-- The row that has this text. -/
def rowFrom (s : List UInt8) : Option (List Int) := if s = [45] then some [] else if (cut44 s).all goodWord && decide ((cut44 s).length ≤ 6) then some ((cut44 s).map fun w => (digVal w : Int)) else none
theorem rowFrom_text {s : List UInt8} {l : List Int} (h : rowFrom s = some l) : rowValid l = true ∧ rowText l = s := by
  unfold rowFrom at h
  split at h
  · rename_i hs
    injection h with h
    subst h
    rw [hs]
    exact ⟨by decide, rfl⟩
  · split at h
    · rename_i hg
      injection h with h
      subst h
      rw [Bool.and_eq_true, List.all_eq_true, decide_eq_true_eq] at hg
      refine ⟨rowValid_of (fun x hx => ?_) (by rw [List.length_map]; exact hg.2), ?_⟩
      · obtain ⟨w, hw, rfl⟩ := List.mem_map.1 hx
        have := (goodWord_iff.1 (hg.1 w hw)).2.2.2
        omega
      · unfold rowText
        rw [if_neg (by simpa using cut44_ne s), List.map_map]
        have e : (cut44 s).map (Lib.itoa ∘ fun w => (digVal w : Int)) = cut44 s := by
          conv => rhs; rw [← List.map_id (cut44 s)]
          exact List.map_congr_left (fun w hw => goodWord_itoa (hg.1 w hw))
        rw [e]
        exact join_cut44 s
    · cases h
theorem dec_no44 (n : Nat) : ∀ b ∈ Lib.decDigits n, b ≠ 44 := fun b hb => by
  have := dec_mem b hb
  rintro rfl
  revert this
  decide
theorem cut44_rowText {l : List Int} (hv : rowValid l = true) (h0 : l ≠ []) : cut44 (rowText l) = l.map Lib.itoa := by
  unfold rowText
  rw [if_neg h0]
  refine cut44_join (by simpa using h0) (fun w hw => ?_)
  obtain ⟨x, hx, rfl⟩ := List.mem_map.1 hw
  obtain ⟨n, rfl, -⟩ := row_nat hv hx
  rw [itoa_nat]
  exact dec_no44 n
theorem rowFrom_of {l : List Int} (hv : rowValid l = true) : rowFrom (rowText l) = some l := by
  by_cases h0 : l = []
  · subst h0; rfl
  have hne : rowText l ≠ [45] := by
    intro e
    have := cut44_rowText hv h0
    rw [e] at this
    have e1 : cut44 [45] = [[45]] := by decide
    rw [e1] at this
    cases l with
    | nil => exact h0 rfl
    | cons x r =>
      obtain ⟨n, rfl, -⟩ := row_nat hv (x := x) (by simp)
      rw [List.map_cons, itoa_nat] at this
      injection this with this _
      have hm := dec_mem (n := n) 45 (by rw [← this]; simp)
      revert hm
      decide
  unfold rowFrom
  rw [if_neg hne, cut44_rowText hv h0, if_pos]
  · congr 1
    rw [List.map_map]
    conv => rhs; rw [← List.map_id l]
    refine List.map_congr_left (fun x hx => ?_)
    obtain ⟨n, rfl, -⟩ := row_nat hv hx
    show ((digVal (Lib.itoa (n : Int)) : Nat) : Int) = n
    rw [itoa_nat, digVal_dec]
  · rw [Bool.and_eq_true, decide_eq_true_eq, List.length_map]
    refine ⟨?_, rowValid_len hv⟩
    rw [List.all_eq_true]
    intro w hw
    obtain ⟨x, hx, rfl⟩ := List.mem_map.1 hw
    obtain ⟨n, rfl, hn⟩ := row_nat hv hx
    rw [itoa_nat]
    exact goodWord_dec hn
/-- What the reference asks. -/
theorem rowFrom_spec {s : List UInt8} (hs : s ≠ [45]) : rowFrom s = if rowValid ((cut44 s).map wordNum) = true ∧ rowText ((cut44 s).map wordNum) = s then some ((cut44 s).map wordNum) else none := by
  split
  · rename_i h
    rw [← rowFrom_of h.1, h.2]
  · rename_i h
    cases hr : rowFrom s with
    | none => rfl
    | some l =>
      exfalso
      apply h
      have ht := rowFrom_text hr
      unfold rowFrom at hr
      rw [if_neg hs] at hr
      split at hr
      · rename_i hg
        injection hr with hr
        rw [Bool.and_eq_true, List.all_eq_true] at hg
        have e : (cut44 s).map wordNum = l := by
          rw [← hr]
          exact List.map_congr_left (fun w hw => goodWord_num (hg.1 w hw))
        rw [e]
        exact ht
      · cases hr
/-! strconv.Atoi at digits. -/
theorem parse_dig : ∀ (l : List UInt8) (acc : Nat), l.all isDig = true → (Lib.parseUint10 acc l = .ok (l.foldl digStep acc)) ∨ (Lib.parseUint10 acc l = .range ∧ 1009 ≤ l.foldl digStep acc)
  | [], acc, _ => .inl rfl
  | c :: r, acc, h => by
    rw [List.all_cons, Bool.and_eq_true] at h
    have hc : 48 ≤ c.toNat ∧ c.toNat ≤ 57 := by simpa [isDig] using h.1
    have big : ∀ n, 1009 ≤ n → 1009 ≤ r.foldl digStep n := by
      intro n hn
      rw [dig_gen]
      have : n * 1 ≤ n * 10 ^ r.length := Nat.mul_le_mul_left n (Nat.pow_pos (by omega))
      omega
    unfold Lib.parseUint10
    rw [if_pos hc, List.foldl_cons]
    split
    · exact .inr ⟨rfl, big _ (by unfold digStep; omega)⟩
    · split
      · exact .inr ⟨rfl, big _ (by unfold digStep; omega)⟩
      · have e : acc * 10 + (c.toNat - 48) = digStep acc c := by unfold digStep; omega
        rw [e]
        exact parse_dig r _ h.2
theorem atoi_dig {w : List UInt8} (h : w.all isDig = true) (h0 : w ≠ []) : (Lib.atoiAll w = .ok (digVal w : Int)) ∨ (Lib.atoiAll w = .range ∧ 1009 ≤ digVal w) := by
  obtain ⟨c, r, rfl⟩ : ∃ c r, w = c :: r := by
    cases w with
    | nil => exact absurd rfl h0
    | cons c r => exact ⟨c, r, rfl⟩
  have hc : 48 ≤ c.toNat ∧ c.toNat ≤ 57 := by
    rw [List.all_cons, Bool.and_eq_true] at h
    simpa [isDig] using h.1
  rw [Lib.atoiAll_plain c r (by omega) (by omega)]
  have hp : Lib.parseMag (c :: r) = Lib.parseUint10 0 (c :: r) := by
    unfold Lib.parseMag
    rw [if_neg (by simp)]
  rw [hp]
  rcases parse_dig (c :: r) 0 h with e | ⟨e, hb⟩
  · rw [e]
    unfold Lib.signless
    dsimp only
    split
    · rename_i hb
      exact .inr ⟨rfl, by unfold digVal; omega⟩
    · exact .inl rfl
  · rw [e]
    exact .inr ⟨rfl, hb⟩
end Go.Proofs.YthampfkicnakgaaGreatDoor
