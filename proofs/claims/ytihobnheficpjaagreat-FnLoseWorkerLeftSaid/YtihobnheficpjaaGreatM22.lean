/- Walks: spec.CountsReady, spec.CrewNew. · Walks: spec.CrewNew. · Walks: spec.l92Crew, spec.l92Worker. -/
import Derived.Test.YtihobnheficpjaaGreatM21
import Derived.Test.YtihobnheficpjaaGreatM13
namespace Go.Proofs.YtihobnheficpjaaGreat
open Go.RowKit

/-- The places of the counts that are nought. -/
def zeroTo (cs : List Int) (k : Nat) : List Int := ((List.range k).filter fun i => decide (cs.getD i 0 = 0)).map fun i : Nat => (i : Int)
def zeroes (cs : List Int) : List Int := zeroTo cs cs.length
theorem zeroTo_succ {cs : List Int} {k : Nat} {x : Int} (h : cs[k]? = some x) : zeroTo cs (k + 1) = zeroTo cs k ++ if x = 0 then [(k : Int)] else [] := by
  unfold zeroTo
  rw [List.range_succ, List.filter_append, List.map_append]
  have e : cs.getD k 0 = x := by rw [List.getD_eq_getElem?_getD, h]; rfl
  by_cases hx : x = 0
  · simp only [List.filter_cons, List.filter_nil, e, hx, decide_true, if_true, List.map_cons, List.map_nil]
  · simp only [List.filter_cons, List.filter_nil, e, hx, decide_false, Bool.false_eq_true, if_false, List.map_nil]
theorem zeroTo_len (cs : List Int) (k : Nat) : (zeroTo cs k).length ≤ k := by
  unfold zeroTo
  rw [List.length_map]
  have := List.length_filter_le (fun i => decide (cs.getD i 0 = 0)) (List.range k)
  rwa [List.length_range] at this
theorem zeroes_ready {plan : List Node} (hv : planValid plan = true) : zeroes (countsOf plan) = readyOf plan [] := by
  have key : ∀ k, k ≤ plan.length → zeroTo (countsOf plan) k = readyTo plan [] k := by
    intro k
    induction k with
    | zero => intro _; rfl
    | succ k ih =>
      intro hk
      have hx : plan[k]? = some plan[k] := List.getElem?_eq_getElem (by omega)
      have hc : (countsOf plan)[k]? = some ((needsOf plan k).length : Int) := by
        unfold countsOf
        rw [List.getElem?_map, List.getElem?_range (by omega)]
        rfl
      rw [zeroTo_succ hc, readyTo_succ [] hx, ih (by omega)]
      have hz : (((needsOf plan k).length : Int) = 0) ↔ readyNode [] (plan[k], k) = true := by
        unfold readyNode
        rw [needsOf_frm, frmAt_get hx]
        simp only [List.not_mem_nil, decide_false, Bool.not_false, Bool.true_and]
        constructor
        · intro h
          have h0 : dedup plan[k].frm = [] := List.eq_nil_of_length_eq_zero (by omega)
          rw [List.all_eq_true]
          intro f hf
          exfalso
          have := (mem_dedup (i := f.toNat)).2 ⟨f, hf, rfl⟩
          rw [h0] at this
          cases this
        · intro h
          have h0 : plan[k].frm = [] := by
            cases hfr : plan[k].frm with
            | nil => rfl
            | cons a r => rw [hfr] at h; simp at h
          rw [h0]
          rfl
      by_cases h0 : ((needsOf plan k).length : Int) = 0
      · rw [if_pos h0, if_pos (hz.1 h0)]
      · rw [if_neg h0, if_neg (fun e => h0 (hz.2 e)), List.append_nil]
  unfold zeroes readyOf
  rw [if_pos hv]
  have : (countsOf plan).length = plan.length := by unfold countsOf; rw [List.length_map, List.length_range]
  rw [this]
  exact key _ (Nat.le_refl _)
set_option maxHeartbeats 800000 in
set_option maxRecDepth 20000 in
theorem specCountsReady_any (v : Value) (cs : List Int) (w : World) (h : RI w v cs) (hl : cs.length ≤ 1000000) : Calls Tryz.prog 68 #[v] w (IntsOut w (zeroes cs)) := by
  obtain ⟨A, n, c, rfl, hnc, hn⟩ := h.form'
  rw [← hn] at hl
  have Hn := Lib.hid hn
  have h0 : OwnI (w.alloc (.cells #[] 3)) w.heap.size (.slice (some ⟨w.heap.size, 0, none⟩) 0 0) [] := OwnI.empty w (Nat.le_refl _)
  clear hn
  go_enter Tryz.func68, Tryz.ntmps68
  go_wp2_with fail
  go_loopg [3, 4] (n + 1) (fun mm out i wr => ∃ k : Nat, k ≤ n ∧ mm = n + 1 - k ∧ i = .int .i64 k ∧ OwnI wr w.heap.size out (zeroTo cs k) ∧ w.grownBy wr none)
  case atStart => exact ⟨0, Nat.zero_le _, rfl, rfl, h0, gb_alloc (gb_refl w none) _⟩
  case round =>
    clear h0
    obtain ⟨k, hk, rfl, rfl, hown, hg⟩ := hrel
    have hzl := zeroTo_len cs k
    by_cases hlt : k < n
    · obtain ⟨g, o, x, rfl, hx, c0⟩ := (h.new hg).at_ hlt
      have hs := zeroTo_succ hx
      have hsz := hg.size
      clear hx
      by_cases h0 : x = 0
      · have hq : (x == 0) = true := by simpa using h0
        rw [if_pos h0] at hs
        have Hs := Lib.hid hs
        clear hs h0
        go_wp2_with (at_builtin; go_must (refine wp_push_int _ _ rfl rfl hown (by omega) hsz rfl rfl ?_))
        intro v2 w2 hown2 hg2
        rw [← Hs.out] at hown2
        have hg3 := hown.gb hg hg2 (Nat.le_refl _)
        obtain ⟨A2, n2, c2, rfl⟩ := hown2.ri.val
        go_wp2_with fail
        go_roundg (n + 1 - (k + 1))
        case measure => omega
        case rel => exact ⟨k + 1, by omega, rfl, by go_num, hown2, hg3⟩
      · have hq : (x == 0) = false := by simpa using h0
        rw [if_neg h0, List.append_nil] at hs
        rw [← hs] at hown
        obtain ⟨A2, n2, c2, rfl⟩ := hown.ri.val
        clear hs h0
        go_wp2_with fail
        go_roundg (n + 1 - (k + 1))
        case measure => omega
        case rel => exact ⟨k + 1, by omega, rfl, by go_num, hown, hg⟩
    · obtain rfl : n = k := by omega
      obtain ⟨A2, n2, c2, rfl⟩ := hown.ri.val
      have ho2 : OwnI wr w.heap.size (.slice A2 n2 c2) (zeroes cs) := by unfold zeroes; rw [← Hn.out]; exact hown
      go_wp2_with fail
      go_ret
      exact ⟨_, rfl, ho2, hg⟩
theorem wp_push_lx {ops : Array Oper} {rest : List Oper} {o : Oper} {a : Act} {Q : Exit → Act → World → Prop} {w : World} {l : List Int} {f : Value}
    (s x : Operand) (hgd : o.guard = none) (ho : o.op = .call { callee := .builtin .append, args := #[s, x], argTypes := #[24, 24] })
    {base : Nat} {v : Value} {ll : List (List Int)} {xs : List Value} (hown : LX w base v ll xs) (hf : OwnI w base f l) (hn : ll.length ≤ 1000000000) (hbase : base ≤ w.heap.size)
    (hs : a.eval s = v) {N : Nat} (hx : a.eval x = .slice (some ⟨N, 0, none⟩) 1 1) (hN : N = w.heap.size)
    (h : ∀ v' w', LX w' base v' (ll ++ [l]) (xs ++ [f]) → w.grownBy w' v.ownBlock → wpList Tryz.prog ops Q rest (a.put o.dst v') w') :
    wpList Tryz.prog ops Q (o :: rest) a (w.alloc (.cells #[f] 25)) := by
  subst hN
  refine wpList_plain hgd fun K hK => ?_
  have := step_push_lx (ops := ops) (E := False) (Q := Q) (K := K) s x hgd ho hown hf hn hbase hs hx (fun v' w' h1 h2 => hK _ _ (h v' w' h1 h2))
  rwa [if_pos (by simp [Region.wanted, hgd])] at this
theorem wp_push_list_n {ops : Array Oper} {rest : List Oper} {o : Oper} {a : Act} {Q : Exit → Act → World → Prop} {w : World} {l : List Int} {f : Value}
    (s x : Operand) (hgd : o.guard = none) (ho : o.op = .call { callee := .builtin .append, args := #[s, x], argTypes := #[24, 24] })
    {base : Nat} {v : Value} {ll : List (List Int)} (hown : OwnL w base v ll) (hf : RI w f l) (hn : ll.length ≤ 1000000000) (hbase : base ≤ w.heap.size)
    (hs : a.eval s = v) {N : Nat} (hx : a.eval x = .slice (some ⟨N, 0, none⟩) 1 1) (hN : N = w.heap.size)
    (h : ∀ v' w', OwnL w' base v' (ll ++ [l]) → w.grownBy w' v.ownBlock → wpList Tryz.prog ops Q rest (a.put o.dst v') w') :
    wpList Tryz.prog ops Q (o :: rest) a (w.alloc (.cells #[f] 25)) := by
  subst hN
  exact wp_push_list s x hgd ho hown hf hn hbase hs hx h
theorem OwnL.empties {w w' : World} {base m : Nat} {v : Value} {row : Option Nat} (h : OwnL w base v (List.replicate m [])) (hg : w.grownBy w' row) (hr : NotE w 25 row) : OwnL w' base v (List.replicate m []) := by
  obtain ⟨xs, h1, h2⟩ := h
  refine ⟨xs, own_grown h1 hg hr, fun i l hi => ?_⟩
  obtain ⟨u, k1, k2⟩ := h2 i l hi
  obtain rfl : l = [] := by
    rw [List.getElem?_replicate] at hi
    split at hi
    · injection hi with hi; exact hi.symm
    · cases hi
  exact ⟨u, k1, k2.empty w'⟩
/-- A row of the call's own, put in the place of another one. -/
theorem LX.turnx {w w' : World} {base g n cap k : Nat} {ll : List (List Int)} {xs : List Value} {u u' : Value} {l0 l' : List Int} (h : LX w base (.slice (some ⟨g, 0, none⟩) n cap) ll xs) (hk : k < ll.length) (hu : xs[k]? = some u) (hg : w.grownBy w' u.ownBlock) (hap : Apart xs) (ho : OwnI w' base u' l') (hI : OwnI w base u l0) (hb : u'.ownBlock = u.ownBlock ∨ ∃ b, u'.ownBlock = some b ∧ w.heap.size ≤ b) :
    LX (w'.setCell ⟨g, k, none⟩ u') base (.slice (some ⟨g, 0, none⟩) n cap) (ll.set k l') (xs.set k u') ∧ Apart (xs.set k u') := by
  have hNu : NotE w 25 u.ownBlock := hI.notE (by decide)
  have hcs := own_grown h.1 hg hNu
  have hn : n = ll.length := by
    rcases h.1.2 with ⟨e, _⟩ | ⟨_, _, _, e, _⟩
    · cases e
    · injection e
  subst hn
  have hst : w'.grownBy (w'.setCell ⟨g, k, none⟩ u') (some g) := gb_set (p := ⟨g, k, none⟩) (gb_refl w' (some g)) (.inr rfl) _
  have s1 := World.ownsRow.stored hcs k u'
  have hne : NotE w' 3 (some g) := NotE.own (v := .slice (some ⟨g, 0, none⟩) ll.length cap) hcs (by decide)
  have hxl := h.len
  have hkx : k < xs.length := by omega
  refine ⟨⟨by rw [List.length_set]; exact s1.1, fun i x hi => ?_⟩, ?_⟩
  · by_cases hik : i = k
    · subst hik
      rw [List.getElem?_set_self hk] at hi
      obtain rfl : l' = x := by simpa using hi
      exact ⟨u', by rw [List.getElem?_set_self hkx], ho.grown hst hne⟩
    · rw [List.getElem?_set_ne (fun e => hik e.symm)] at hi
      obtain ⟨y, k1, k2⟩ := h.2 i x hi
      refine ⟨y, by rw [List.getElem?_set_ne (fun e => hik e.symm)]; exact k1, ?_⟩
      have hyu : y.ownBlock = none ∨ y.ownBlock ≠ u.ownBlock := by
        cases hy : y.ownBlock with
        | none => exact .inl rfl
        | some b =>
          right
          intro e
          rw [Apart.iff] at hap
          rcases Nat.lt_or_gt_of_ne hik with hlt | hlt
          · exact hap i k y u b hlt k1 hu hy e.symm
          · exact hap k i u y b hlt hu k1 e.symm hy
      exact (k2.apart_ hg hyu).grown hst hne
  · rw [Apart.iff] at hap ⊢
    have hlts := h.lts
    intro i j a b gg hij ha hb' hga hgb
    have other : ∀ (i : Nat) (a : Value), i ≠ k → xs[i]? = some a → a.ownBlock = some gg → u'.ownBlock ≠ some gg := by
      intro i a hik ha hga e
      rcases hb with e2 | ⟨b2, e2, hge⟩
      · rw [e2] at e
        rcases Nat.lt_or_gt_of_ne hik with hlt | hlt
        · exact hap i k a u gg hlt ha hu hga e
        · exact hap k i u a gg hlt hu ha e hga
      · rw [e2] at e
        injection e with e
        have := (hlts a (List.mem_of_getElem? ha) gg hga).2
        omega
    by_cases hik : i = k
    · subst hik
      rw [List.getElem?_set_self hkx] at ha
      injection ha with ha
      subst ha
      rw [List.getElem?_set_ne (by omega)] at hb'
      exact other j b (by omega) hb' hgb hga
    · rw [List.getElem?_set_ne (fun e => hik e.symm)] at ha
      by_cases hjk : j = k
      · subst hjk
        rw [List.getElem?_set_self hkx] at hb'
        injection hb' with hb'
        subst hb'
        exact other i a hik ha hga hgb
      · rw [List.getElem?_set_ne (fun e => hjk e.symm)] at hb'
        exact hap i j a b gg hij ha hb' hga hgb
/-- A crew in the making, in block X. -/
structure NewMid (w wx : World) (X s0 b2 : Nat) (d k o r : Value) (cs : List Int) (D : List (List Int)) (m : Nat) (xs : List Value) : Prop where
  x : Blk wx X 27 #[d, k, o, r]
  dq : LX wx s0 d D xs
  ap : Apart xs
  kt : OwnI wx w.heap.size k cs
  kl : ∀ g, k.ownBlock = some g → g < s0
  od : ∀ w', RI w' o []
  ro : OwnL wx b2 r (List.replicate m [])
  dr : r = .slice none 0 0 ∨ ∀ g, d.ownBlock = some g → g < b2
  hb : s0 ≤ b2 ∧ w.heap.size ≤ s0
  hbx : b2 ≤ wx.heap.size
  res : Blk wx w.heap.size 27 #[.slice none 0 0, .slice none 0 0, .slice none 0 0, .slice none 0 0]
  hX : w.heap.size < X
  g : w.grownBy wx none
section
variable {w wx wy : World} {X s0 b2 m : Nat} {d k o r : Value} {cs : List Int} {D : List (List Int)} {xs : List Value}
theorem NewMid.new (M : NewMid w wx X s0 b2 d k o r cs D m xs) (hg : wx.grownBy wy none) : NewMid w wy X s0 b2 d k o r cs D m xs :=
  ⟨M.x.grown hg (by simp), M.dq.new hg, M.ap, M.kt.new hg, M.kl, M.od, M.ro.new hg, M.dr, M.hb, Nat.le_trans M.hbx hg.size, M.res.grown hg (by simp), M.hX, gb_trans M.g hg⟩
theorem NewMid.pushD (M : NewMid w wx X s0 b2 d k o (.slice none 0 0) cs D 0 xs) (hg : wx.grownBy wy d.ownBlock) {v' f : Value} (ho : LX wy s0 v' (D ++ [[]]) (xs ++ [f])) (hf : ∀ g, f.ownBlock = some g → ∀ u ∈ xs, ∀ g', u.ownBlock = some g' → g' < g) :
    wy.cell? ⟨X, 0, none⟩ = some d ∧ wy.frozen? ⟨X, 0, none⟩ = false ∧ NewMid w (wy.setCell ⟨X, 0, none⟩ v') X s0 b2 v' k o (.slice none 0 0) cs (D ++ [[]]) 0 (xs ++ [f]) := by
  have hE : NotE wx 27 d.ownBlock := M.dq.notE (by decide)
  have hI : NotE wx 3 d.ownBlock := M.dq.notE (by decide)
  have hx := M.x.past hg hE
  have hst : wy.grownBy (wy.setCell ⟨X, 0, none⟩ v') (some X) := gb_set (p := ⟨X, 0, none⟩) (gb_refl wy (some X)) (.inr rfl) _
  have hn2 : NotE wy 3 (some X) := NotE.blk hx (by decide)
  have hn3 : NotE wy 25 (some X) := NotE.blk hx (by decide)
  have hg2 : w.grownBy wy none := M.dq.gb M.g hg M.hb.2
  refine ⟨hx.cell 0, hx.frozen 0, hx.set_ 0 _, ho.grown hst hn2 hn3, ?_, (M.kt.grown hg hI).grown hst hn2, M.kl, M.od, OwnL.nil _ _, .inl rfl, M.hb, Nat.le_trans M.hbx (Nat.le_trans hg.size hst.size), (M.res.past hg hE).grown hst (by simp; have := M.hX; omega), M.hX, gb_new hg2 hst (fun g e => by cases e; exact .inl (Nat.le_of_lt M.hX))⟩
  unfold Apart
  rw [List.pairwise_append]
  refine ⟨M.ap, List.pairwise_singleton _ _, fun a ha b hb g hga hgb => ?_⟩
  obtain rfl : b = f := by simpa using hb
  have := hf g hgb a ha g hga
  omega
theorem NewMid.pushR (M : NewMid w wx X s0 b2 d k o r cs D m xs) (hlt : ∀ g, d.ownBlock = some g → g < b2) (hg : wx.grownBy wy r.ownBlock) {v' : Value} (ho : OwnL wy b2 v' (List.replicate m [] ++ [[]])) :
    wy.cell? ⟨X, 3, none⟩ = some r ∧ wy.frozen? ⟨X, 3, none⟩ = false ∧ NewMid w (wy.setCell ⟨X, 3, none⟩ v') X s0 b2 d k o v' cs D (m + 1) xs := by
  have hE : NotE wx 27 r.ownBlock := M.ro.notE (by decide)
  have hI : NotE wx 3 r.ownBlock := M.ro.notE (by decide)
  have hx := M.x.past hg hE
  have hst : wy.grownBy (wy.setCell ⟨X, 3, none⟩ v') (some X) := gb_set (p := ⟨X, 3, none⟩) (gb_refl wy (some X)) (.inr rfl) _
  have hn2 : NotE wy 3 (some X) := NotE.blk hx (by decide)
  have hn3 : NotE wy 25 (some X) := NotE.blk hx (by decide)
  have hg2 : w.grownBy wy none := M.ro.gb M.g hg (Nat.le_trans M.hb.2 M.hb.1)
  have hdq : LX wy s0 d D xs := by
    cases hr : r.ownBlock with
    | none => rw [hr] at hg; exact M.dq.new hg
    | some b =>
      rw [hr] at hg
      refine M.dq.far hg (hr ▸ hI) (fun e => ?_)
      have := hlt b e
      have := (M.ro.lt b hr).1
      omega
  have er : List.replicate m ([] : List Int) ++ [[]] = List.replicate (m + 1) [] := by rw [List.replicate_succ']
  rw [er] at ho
  exact ⟨hx.cell 3, hx.frozen 3, hx.set_ 3 _, hdq.grown hst hn2 hn3, M.ap, (M.kt.grown hg hI).grown hst hn2, M.kl, M.od, ho.grown hst hn2 hn3, .inr hlt, M.hb, Nat.le_trans M.hbx (Nat.le_trans hg.size hst.size), (M.res.past hg hE).grown hst (by simp; have := M.hX; omega), M.hX, gb_new hg2 hst (fun g e => by cases e; exact .inl (Nat.le_of_lt M.hX))⟩
/-- One node is dealt to a worker. -/
theorem NewMid.deal {gd n cap j : Nat} {u u' : Value} {l0 l' : List Int} (M : NewMid w wx X s0 b2 (.slice (some ⟨gd, 0, none⟩) n cap) k o r cs D m xs) (hj : j < D.length) (hu : xs[j]? = some u) (hI : OwnI wx s0 u l0) (hg : wx.grownBy wy u.ownBlock) (ho : OwnI wy s0 u' l') (hb : u'.ownBlock = u.ownBlock ∨ ∃ b, u'.ownBlock = some b ∧ wx.heap.size ≤ b) :
    (∃ u0, wy.cell? ⟨gd, j, none⟩ = some u0 ∧ wy.frozen? ⟨gd, j, none⟩ = false) ∧ NewMid w (wy.setCell ⟨gd, j, none⟩ u') X s0 b2 (.slice (some ⟨gd, 0, none⟩) n cap) k o r cs (D.set j l') m (xs.set j u') := by
  obtain ⟨hcell, -, hst, hA⟩ := M.dq.turn hj hu hg M.ap ho ⟨_, hI⟩
  obtain ⟨h1, h2⟩ := M.dq.turnx hj hu hg M.ap ho hI hb
  have hEu : NotE wx 27 u.ownBlock := hI.notE (by decide)
  have hLu : NotE wx 25 u.ownBlock := hI.notE (by decide)
  have hgd : s0 ≤ gd := (M.dq.lt gd rfl).1
  have hw := M.hb.2
  have hg2 : w.grownBy wy none := gb_new M.g hg (fun g e => .inl (by have := (hI.lt g e).1; omega))
  refine ⟨hcell, (M.x.past hg hEu).past hst (hA _ (by decide)), h1, h2, (M.kt.apart2 hg (fun b hkb hub => by have := M.kl b hkb; have := (hI.lt b hub).1; omega)).grown hst (hA _ (by decide)), M.kl, M.od, ?_, M.dr, M.hb, Nat.le_trans M.hbx (Nat.le_trans hg.size hst.size), (M.res.past hg hEu).past hst (hA _ (by decide)), M.hX, gb_new hg2 hst (fun g e => by cases e; exact .inl (by omega))⟩
  have h3 := M.ro.empties hg hLu
  refine h3.far hst (hA _ (by decide)) (fun e => ?_)
  rcases M.dr with h | h
  · rw [h] at e; cases e
  · have := h gd rfl
    have := (M.ro.lt gd e).1
    omega
end
end Go.Proofs.YtihobnheficpjaaGreat
namespace Go.Proofs.YtihobnheficpjaaGreat
open Go.RowKit

theorem step_push_int_f {ops : Array Oper} {o : Oper} {a : Act} {K : Act → World → Prop} {Q : Exit → Act → World → Prop} {E : Prop} {w : World} {u : Int}
    (s x : Operand) (hgd : o.guard = none) (ho : o.op = .call { callee := .builtin .append, args := #[s, x], argTypes := #[25, 25] })
    {base : Nat} {v : Value} {l : List Int} (hown : OwnI w base v l) (hn : l.length ≤ 1000000000) (hbase : base ≤ w.heap.size)
    (hs : a.eval s = v) {N : Nat} (hx : a.eval x = .slice (some ⟨N, 0, none⟩) 1 1) (hN : N = w.heap.size)
    (h : ∀ v' w', OwnI w' base v' (l ++ [u]) → w.grownBy w' v.ownBlock → (v'.ownBlock = v.ownBlock ∨ ∃ b, v'.ownBlock = some b ∧ w.heap.size ≤ b) → K (a.put o.dst v') w') :
    if Region.wanted o (yielded ops a.tmps) = true then Oper.wp Tryz.prog o a (w.alloc (.cells #[.int .i64 u] 3)) K Q else E := by
  subst hN
  have hw : Region.wanted o (yielded ops a.tmps) = true := by simp [Region.wanted, hgd]
  rw [if_pos hw]
  have hnews : ∀ j y, [Value.int .i64 u][j]? = some y → (w.alloc (.cells #[.int .i64 u] 3)).cell? ((⟨w.heap.size, 0, none⟩ : Addr).add j) = some y := by
    intro j y hj
    have hadd : (⟨w.heap.size, 0, none⟩ : Addr).add j = ⟨w.heap.size, j, none⟩ := by unfold Addr.add; split <;> simp_all
    rw [hadd, World.cell?_alloc_new]
    simpa using hj
  obtain ⟨v', w', hr, h2, h3, h4⟩ := append_own_block (P := Tryz.prog) (t := 25) (ty := o.type) (c := 1) Tryz.underlying25 info3 rfl (by decide) (World.ownsRow.alloc hown (.cells #[.int .i64 u] 3)) (news := [.int .i64 u]) rfl hnews (by intro y hy; simp at hy; subst hy; rfl) (by unfold maxLen; omega) (by omega) (by simp; omega)
  unfold Oper.wp execOp
  simp only [ho, resolve, invoke, builtin, Sem.run_bind, Sem.run_pure, Result.andThen_ok, List.map_toArray, List.map_cons, List.map_nil, hs, hx, hr]
  refine h v' w' (by unfold OwnI; simpa using h2) ⟨h3.os, h3.tape, h3.output, Nat.le_trans (by simp) h3.size, fun k hk hne => (h3.block k (by simp; omega) hne).trans (Below.heap_alloc w _ k hk)⟩ (h4.imp id fun e => ⟨_, e, by simp⟩)
theorem step_push_int_fd {ops : Array Oper} {o : Oper} {a : Act} {K : Act → World → Prop} {Q : Exit → Act → World → Prop} {E : Prop} {w : World} {u : Int}
    (s x : Operand) (hgd : o.guard = none) (ho : o.op = .call { callee := .builtin .append, args := #[s, x], argTypes := #[25, 25] })
    {base : Nat} {v : Value} {l : List Int} (hown : OwnI w.drew base v l) (hn : l.length ≤ 1000000000) (hbase : base ≤ w.heap.size)
    (hs : a.eval s = v) {N : Nat} (hx : a.eval x = .slice (some ⟨N, 0, none⟩) 1 1) (hN : N = w.heap.size)
    (h : ∀ v' w', OwnI w' base v' (l ++ [u]) → w.drew.grownBy w' v.ownBlock → (v'.ownBlock = v.ownBlock ∨ ∃ b, v'.ownBlock = some b ∧ w.drew.heap.size ≤ b) → K (a.put o.dst v') w') :
    if Region.wanted o (yielded ops a.tmps) = true then Oper.wp Tryz.prog o a (w.alloc (.cells #[.int .i64 u] 3)).drew K Q else E :=
  step_push_int_f (w := w.drew) s x hgd ho hown hn hbase hs hx hN h
theorem dealt_succ {plan : List Node} {n k : Nat} {x : Int} (hx : (readyOf plan [])[k]? = some x) : dealt plan n (k + 1) = (dealt plan n k).set (k % n) ((dealt plan n k).getD (k % n) [] ++ [x]) := by
  obtain ⟨hk, rfl⟩ := List.getElem?_eq_some_iff.1 hx
  unfold dealt
  have hl : ((readyOf plan []).take k).length = k := by rw [List.length_take]; omega
  rw [List.take_succ_eq_append_getElem hk, List.zipIdx_append, List.foldl_append, hl]
  simp only [List.zipIdx_cons, List.zipIdx_nil, List.foldl_cons, List.foldl_nil, Nat.zero_add]
theorem dealt_len {plan : List Node} {n k : Nat} (hn : 0 < n) (hk : k ≤ (readyOf plan []).length) : (dealt plan n k).length = n := (dealt_gen n hn (readyOf plan []) k hk).1
theorem dealt_row {plan : List Node} {n k : Nat} (hn : 0 < n) (hk : k ≤ (readyOf plan []).length) (hk10 : k ≤ 10) : ∀ l ∈ dealt plan n k, l.length ≤ 10 := by
  intro l hl
  have h1 := (dealt_gen n hn (readyOf plan []) k hk).2.length_eq
  have h2 : l.length ≤ (dealt plan n k).flatten.length := (List.sublist_flatten_of_mem hl).length_le
  have h3 : ((readyOf plan []).take k).length ≤ 10 := by rw [List.length_take]; omega
  unfold dealt at h2
  omega
theorem crewNew_bad {plan : List Node} {n : Int} (h : planValid plan = false) : crewNew plan n = none := by unfold crewNew; rw [h]; rfl
theorem crewNew_out {plan : List Node} {n : Int} (h : ¬ (1 ≤ n ∧ n ≤ 4)) : crewNew plan n = none := by
  unfold crewNew
  split
  · rename_i hc
    simp only [Bool.and_eq_true, decide_eq_true_eq] at hc
    exact absurd hc.2 h
  · rfl
theorem crewNew_eq {plan : List Node} {n : Nat} (hv : planValid plan = true) (h1 : 1 ≤ n) (h4 : n ≤ 4) : crewNew plan (n : Int) = some { deques := dealt plan n (readyOf plan []).length, counts := countsOf plan, done := [], rows := List.replicate plan.length [] } := by
  unfold crewNew
  rw [hv, decide_eq_true (show (1 : Int) ≤ n by omega), decide_eq_true (show (n : Int) ≤ 4 by omega), Int.toNat_natCast]
  rfl
theorem newFail {w wx : World} (hg : w.grownBy wx none) : TurnOut w none (.returned (.tuple #[.agg #[.slice none 0 0, .slice none 0 0, .slice none 0 0, .slice none 0 0], .bool false])) ((((wx.setCell ⟨w.heap.size, 0, none⟩ (.slice none 0 0)).setCell ⟨w.heap.size, 1, none⟩ (.slice none 0 0)).setCell ⟨w.heap.size, 2, none⟩ (.slice none 0 0)).setCell ⟨w.heap.size, 3, none⟩ (.slice none 0 0)) :=
  ⟨_, rfl, CV.zero _, gb_new hg (gb_set4 wx w.heap.size (.slice none 0 0) (.slice none 0 0) (.slice none 0 0) (.slice none 0 0)) (fun g e => by cases e; exact .inl (Nat.le_refl _))⟩
theorem newGive {w wx : World} {c : Crew} {d k o r : Value} (hg : w.grownBy wx none) (hR : Blk wx w.heap.size 27 #[.slice none 0 0, .slice none 0 0, .slice none 0 0, .slice none 0 0]) (hc : CV wx (.agg #[d, k, o, r]) c) : TurnOut w (some c) (.returned (.tuple #[.agg #[d, k, o, r], .bool true])) ((((wx.setCell ⟨w.heap.size, 0, none⟩ d).setCell ⟨w.heap.size, 1, none⟩ k).setCell ⟨w.heap.size, 2, none⟩ o).setCell ⟨w.heap.size, 3, none⟩ r) :=
  have hst := gb_set4 wx w.heap.size d k o r
  ⟨_, rfl, hc.grown hst (NotE.blk hR (by decide)) (NotE.blk hR (by decide)), gb_new hg hst (fun g e => by cases e; exact .inl (Nat.le_refl _))⟩
set_option maxHeartbeats 6400000 in
set_option maxRecDepth 20000 in
theorem specCrewNew_any (pv : Value) (plan : List Node) (n : Int) (w : World) (hp : RN w pv plan) (hpl : plan.length ≤ 1000000000) : Calls Tryz.prog 47 #[pv, .int .i64 n] w (TurnOut w (crewNew plan n)) := by
  obtain ⟨A, np, cp, rfl, -, hnp, -⟩ := hp.form'
  have Hnp := Lib.hid hnp
  have hR0 := Blk.new w 27 #[.slice none 0 0, .slice none 0 0, .slice none 0 0, .slice none 0 0]
  have hgR := World.grownBy_alloc w (.cells #[.slice none 0 0, .slice none 0 0, .slice none 0 0, .slice none 0 0] 27) none
  clear hnp
  by_cases hv : planValid plan = true
  · have Hv := Lib.hid hv
    have hnp10 : np ≤ 10 := by have := planValid_len hv; have := Hnp.out; omega
    by_cases hin : 1 ≤ n ∧ n ≤ 4
    · have Hin : Hid ((decide (1 ≤ n) && decide (n ≤ 4)) = true) := by show _ = _; simp [hin.1, hin.2]
      obtain ⟨n, rfl⟩ := Int.eq_ofNat_of_zero_le (show (0 : Int) ≤ n by omega)
      have h1n : 1 ≤ n := by omega
      have hn4 : n ≤ 4 := by omega
      have Hr : Hid (crewNew plan (n : Int) = some { deques := dealt plan n (readyOf plan []).length, counts := countsOf plan, done := [], rows := List.replicate plan.length [] }) := crewNew_eq hv h1n hn4
      clear hv hin
      go_enter Tryz.func47, Tryz.ntmps47
      go_upto_region 1 with fail
      generalize w.alloc (.cells #[.slice none 0 0, .slice none 0 0, .slice none 0 0, .slice none 0 0] 27) = W at hR0 hgR ⊢
      go_wp2_with fail
      refine (specPlanValid_b _ plan W (hp.new hgR) hpl Hv.out).mono ?_
      rintro e w1 ⟨rfl, hg1⟩
      have g1 := gb_trans hgR hg1
      have hR1 := hR0.grown hg1 (by simp)
      clear hgR hR0 hg1
      go_wp2_with fail
      refine (l6In_b _ _ _ _ Hin.out).mono ?_
      rintro e w2 ⟨rfl, rfl⟩
      go_wp2_with fail
      refine (l11Counts_any _ plan w1 (hp.new g1) Hv.out).mono ?_
      rintro e w2 ⟨kv, rfl, hkv, hg2⟩
      obtain ⟨Ak, nk, ck, rfl⟩ := hkv.ri.val
      have g2 := gb_trans g1 hg2
      have hR2 := hR1.grown hg2 (by simp)
      have hkw := hkv.low g1.size
      have hRlt := hR2.lt
      clear g1 hR1 hg2 hkv
      go_upto_region 4 with fail
      have hE0 : OwnI (w2.alloc (.cells #[] 3)) w2.heap.size (.slice (some ⟨w2.heap.size, 0, none⟩) 0 0) [] := OwnI.empty w2 (Nat.le_refl _)
      have hgE := World.grownBy_alloc w2 (.cells #[] 3) none
      have hBX := Blk.new (w2.alloc (.cells #[] 3)) 27 #[.slice none 0 0, .slice Ak nk ck, .slice (some ⟨w2.heap.size, 0, none⟩) 0 0, .slice none 0 0]
      have hgX := World.grownBy_alloc (w2.alloc (.cells #[] 3)) (.cells #[.slice none 0 0, .slice Ak nk ck, .slice (some ⟨w2.heap.size, 0, none⟩) 0 0, .slice none 0 0] 27) none
      have hg3 := gb_trans hgE hgX
      have M0 : NewMid w ((w2.alloc (.cells #[] 3)).alloc (.cells #[.slice none 0 0, .slice Ak nk ck, .slice (some ⟨w2.heap.size, 0, none⟩) 0 0, .slice none 0 0] 27)) (w2.alloc (.cells #[] 3)).heap.size w2.heap.size w2.heap.size (.slice none 0 0) (.slice Ak nk ck) (.slice (some ⟨w2.heap.size, 0, none⟩) 0 0) (.slice none 0 0) (countsOf plan) [] 0 [] :=
        ⟨hBX, LX.nil _ _, .nil, hkw.new hg3, fun g hg => (hkw.lt g hg).2, fun w' => hE0.ri.empty w', OwnL.nil _ _, .inl rfl, ⟨Nat.le_refl _, g2.size⟩, hg3.size, hR2.grown hg3 (by simp), Nat.lt_of_lt_of_le hRlt hgE.size, gb_trans g2 hg3⟩
      rw [World.size_alloc] at M0
      have hs0 : w2.heap.size ≤ ((w2.alloc (.cells #[] 3)).alloc (.cells #[.slice none 0 0, .slice Ak nk ck, .slice (some ⟨w2.heap.size, 0, none⟩) 0 0, .slice none 0 0] 27)).heap.size := hg3.size
      generalize ((w2.alloc (.cells #[] 3)).alloc (.cells #[.slice none 0 0, .slice Ak nk ck, .slice (some ⟨w2.heap.size, 0, none⟩) 0 0, .slice none 0 0] 27)) = w3 at M0 hs0 ⊢
      clear hE0 hgE hBX hgX hg3 hkw hR2 hRlt g2
      generalize w2.heap.size + 1 = X at M0 ⊢
      generalize w2.heap.size = s0 at M0 hs0 ⊢
      go_wp2_with fail
      go_loopg [7] (n + 1) (fun mm i wr => ∃ (k : Nat) (d : Value) (xs : List Value), k ≤ n ∧ mm = n + 1 - k ∧ i = .int .i64 k ∧ NewMid w wr X s0 s0 d (.slice Ak nk ck) (.slice (some ⟨s0, 0, none⟩) 0 0) (.slice none 0 0) (countsOf plan) (List.replicate k []) 0 xs)
      case atStart => exact ⟨0, _, _, Nat.zero_le _, rfl, rfl, M0⟩
      case round =>
        clear M0 hs0
        obtain ⟨k, d, xs, hk, rfl, rfl, M⟩ := hrel
        by_cases hlt : k < n
        · obtain ⟨Ad, nd, cd, rfl⟩ := M.dq.rl.val
          have x0 := M.x.cell 0
          have hXl : X < wr.heap.size := M.x.lt
          have hE : OwnI (wr.alloc (.cells #[] 3)) wr.heap.size (.slice (some ⟨wr.heap.size, 0, none⟩) 0 0) [] := OwnI.empty wr (Nat.le_refl _)
          have hgE := World.grownBy_alloc wr (.cells #[] 3) none
          have ME := M.new hgE
          have hbE : s0 ≤ wr.heap.size := M.hbx
          have hlen : (List.replicate k ([] : List Int)).length ≤ 1000000000 := by rw [List.length_replicate]; omega
          go_wp2_with (at_builtin; go_must (refine wp_push_lx (.tmp 30) (.tmp 32) rfl rfl ME.dq (hE.low hbE) hlen ME.hbx rfl rfl (by simp) ?_))
          intro v5 w5 hown5 hg5
          obtain ⟨z1, z2, M5⟩ := ME.pushD hg5 hown5 (fun g hg u hu g' hg' => by
            have h1 := (hE.lt g hg).1
            have h2 := (M.dq.lts u hu g' hg').2
            omega)
          have er : List.replicate k ([] : List Int) ++ [[]] = List.replicate (k + 1) [] := by rw [List.replicate_succ']
          rw [er] at M5
          obtain ⟨A5, n5, c5, rfl⟩ := hown5.rl.val
          clear hown5 hg5 ME hE hgE x0
          go_wp2_with fail
          go_roundg (n + 1 - (k + 1))
          case measure => omega
          case rel => exact ⟨k + 1, _, _, by omega, rfl, by go_num, M5⟩
        · obtain rfl : n = k := by omega
          obtain ⟨w4, rfl⟩ : ∃ w4 : World, w4 = wr := ⟨_, rfl⟩
          have M0 : NewMid w w4 X s0 w4.heap.size d (.slice Ak nk ck) (.slice (some ⟨s0, 0, none⟩) 0 0) (.slice none 0 0) (countsOf plan) (List.replicate n []) 0 xs := { M with ro := OwnL.nil _ _, dr := .inl rfl, hb := ⟨M.hbx, M.hb.2⟩, hbx := Nat.le_refl _ }
          have Hlt : Hid (∀ g, d.ownBlock = some g → g < w4.heap.size) := fun g hg => (M.dq.lt g hg).2
          clear M
          go_wp2_with fail
          generalize w4.heap.size = b2 at M0 Hlt
          go_loopg [8] (np + 1) (fun mm i wr => ∃ (k : Nat) (r : Value), k ≤ np ∧ mm = np + 1 - k ∧ i = .int .i64 k ∧ NewMid w wr X s0 b2 d (.slice Ak nk ck) (.slice (some ⟨s0, 0, none⟩) 0 0) r (countsOf plan) (List.replicate n []) k xs)
          case atStart => exact ⟨0, _, Nat.zero_le _, rfl, rfl, M0⟩
          case round =>
            clear M0
            obtain ⟨k, r, hk, rfl, rfl, M⟩ := hrel
            by_cases hlt : k < np
            · obtain ⟨Ar, nr, cr, rfl⟩ := M.ro.rl.val
              have x0 := M.x.cell 3
              have hXl : X < wr.heap.size := M.x.lt
              have hE : OwnI (wr.alloc (.cells #[] 3)) wr.heap.size (.slice (some ⟨wr.heap.size, 0, none⟩) 0 0) [] := OwnI.empty wr (Nat.le_refl _)
              have hgE := World.grownBy_alloc wr (.cells #[] 3) none
              have ME := M.new hgE
              have hlen : (List.replicate k ([] : List Int)).length ≤ 1000000000 := by rw [List.length_replicate]; omega
              go_wp2_with (at_builtin; go_must (refine wp_push_list_n (.tmp 42) (.tmp 44) rfl rfl ME.ro hE.ri hlen ME.hbx rfl rfl (by simp) ?_))
              intro v5 w5 hown5 hg5
              obtain ⟨z1, z2, M5⟩ := ME.pushR Hlt.out hg5 hown5
              obtain ⟨A5, n5, c5, rfl⟩ := hown5.rl.val
              clear hown5 hg5 ME hE hgE x0
              go_wp2_with fail
              go_roundg (np + 1 - (k + 1))
              case measure => omega
              case rel => exact ⟨k + 1, _, by omega, rfl, by go_num, M5⟩
            · obtain rfl : np = k := by omega
              obtain ⟨gd, capd, rfl, hcd, hbd⟩ := M.dq.form (n := n) (by rw [List.length_replicate]) (by omega)
              obtain ⟨Ar, nr, cr, rfl⟩ := M.ro.rl.val
              have x1 := M.x.cell 1
              obtain ⟨w5, rfl⟩ : ∃ w5 : World, w5 = wr := ⟨_, rfl⟩
              have hcl : (countsOf plan).length ≤ 1000000 := by unfold countsOf; rw [List.length_map, List.length_range]; have := Hnp.out; omega
              go_wp2_with fail
              refine (specCountsReady_any _ (countsOf plan) w5 M.kt.ri hcl).mono ?_
              rintro e w6 ⟨rv, rfl, hrv, hg6⟩
              rw [zeroes_ready Hv.out] at hrv
              have M6 := M.new hg6
              have hr6 := hrv.ri
              obtain ⟨Av, nv, cv, rfl⟩ := hr6.val
              have hnv := hr6.len
              have Hnv := Lib.hid hnv
              have hnv10 : nv ≤ 10 := by rw [hnv]; have := readyOf_len plan []; have := Hnp.out; omega
              have hrb : Hid (∀ g, (Value.slice Av nv cv).ownBlock = some g → w5.heap.size ≤ g) := fun g hg => (hrv.lt g hg).1
              have MD : NewMid w w6 X s0 b2 (.slice (some ⟨gd, 0, none⟩) n capd) (.slice Ak nk ck) (.slice (some ⟨s0, 0, none⟩) 0 0) (.slice Ar nr cr) (countsOf plan) (dealt plan n 0) np xs := by
                have e : dealt plan n 0 = List.replicate n [] := by unfold dealt; simp
                rw [e]
                exact M6
              have hxb : Hid (∀ u ∈ xs, ∀ g, u.ownBlock = some g → g < w5.heap.size) := fun u hu g hg => (M.dq.lts u hu g hg).2
              clear x1 M M6 hg6 hnv hr6
              have hrv0 : ∀ u ∈ xs, ∀ g, u.ownBlock = some g → (Value.slice Av nv cv).ownBlock ≠ some g := fun u hu g hg e => by
                have h1 := hxb.out u hu g hg
                have h2 := hrb.out g e
                omega
              generalize w5.heap.size = s1 at hrv hrb hxb
              clear hrb hxb
              have hn0 : ¬ ((n : Int) = 0) := by omega
              have hn0' : ¬ (n = 0) := by omega
              go_wp2_with fail
              go_loopg [10] (nv + 1) (fun mm i wr => ∃ (k : Nat) (xs : List Value), k ≤ nv ∧ mm = nv + 1 - k ∧ i = .int .i64 k ∧ NewMid w wr X s0 b2 (.slice (some ⟨gd, 0, none⟩) n capd) (.slice Ak nk ck) (.slice (some ⟨s0, 0, none⟩) 0 0) (.slice Ar nr cr) (countsOf plan) (dealt plan n k) np xs ∧ OwnI wr s1 (.slice Av nv cv) (readyOf plan []) ∧ Hid (∀ u ∈ xs, ∀ g, u.ownBlock = some g → (Value.slice Av nv cv).ownBlock ≠ some g))
              case atStart => exact ⟨0, _, Nat.zero_le _, rfl, rfl, MD, hrv, hrv0⟩
              case round =>
                clear MD hrv hrv0
                obtain ⟨k, xs, hk, rfl, rfl, M, hrv, hap⟩ := hrel
                by_cases hlt : k < nv
                · obtain ⟨g, o, x, rfl, hx, c0⟩ := hrv.ri.at_ hlt
                  obtain ⟨j, hj⟩ : ∃ j, j = k % n := ⟨_, rfl⟩
                  have hjn : j < n := by rw [hj]; exact Nat.mod_lt _ (by omega)
                  have hmod : (k : Int).tmod (n : Int) = (j : Int) := by rw [hj]; rfl
                  have hkr : k ≤ (readyOf plan []).length := by rw [← Hnv.out]; exact hk
                  have hdl := dealt_len (plan := plan) (n := n) (k := k) (by omega) hkr
                  have hjD : j < (dealt plan n k).length := by rw [hdl]; exact hjn
                  obtain ⟨l0, u, hl0, hu, cu, hou⟩ := M.dq.at_ hjD
                  have hl10 : l0.length ≤ 10 := dealt_row (by omega) hkr (by omega) l0 (List.mem_of_getElem? hl0)
                  have Hs : Hid (dealt plan n (k + 1) = (dealt plan n k).set j (l0 ++ [x])) := by
                    show _ = _
                    rw [dealt_succ hx, ← hj, List.getD_eq_getElem?_getD, hl0]
                    rfl
                  obtain ⟨Ae, ne, ce, rfl⟩ := hou.ri.val
                  have x0 := M.x.cell 0
                  have hji : (j : Int) < (n : Int) := by omega
                  have hki : (k : Int) < (nv : Int) := by omega
                  have hXl : X < wr.heap.size := M.x.lt
                  have hgl : g < wr.heap.size := by simpa using cell_lt c0
                  have hgdl : gd < wr.heap.size := (M.dq.lt gd rfl).2
                  have hDr : wr.grownBy wr.drew none := gb_drew (gb_refl _ none)
                  have houD := hou.new hDr
                  have MDr := M.new hDr
                  have hbs : s0 ≤ wr.heap.size := Nat.le_trans M.hb.1 M.hbx
                  have hum := List.mem_of_getElem? hu
                  have Hj := Lib.hid hj
                  clear hx hj hl0 hdl
                  go_wp2_with fail
                  go_region_law (refine step_push_int_fd (w := wr) (u := x) (base := s0) (v := .slice Ae ne ce) (l := l0) (.tmp 67) (.tmp 72) rfl rfl houD (by omega) hbs rfl rfl rfl ?_; intro v' w4 hown4 hg4 hb4; have hEu : NotE wr.drew 27 (Value.ownBlock (.slice Ae ne ce)) := houD.notE (by decide); have x04 := (MDr.x.past hg4 hEu).cell 0; obtain ⟨⟨u0, cR, fR⟩, M5⟩ := MDr.deal hjD hu houD hg4 hown4 hb4; obtain ⟨A4, n4', c4, rfl⟩ := hown4.ri.val)
                  all_goals
                    have hst : w4.grownBy (w4.setCell ⟨gd, j, none⟩ (.slice A4 n4' c4)) (some gd) := gb_set (p := ⟨gd, j, none⟩) (gb_refl w4 (some gd)) (.inr rfl) _
                    have hI4 : NotE w4 3 (some gd) := (own_grown MDr.dq.1 hg4 (houD.notE (by decide))) |> fun h => NotE.own h (by decide)
                    rw [← Hs.out] at M5
                    have hrv5 := ((hrv.new hDr).apart2 hg4 (fun b hb e => hap.out _ hum b e hb)).grown hst hI4
                    have hap5 : Hid (∀ y ∈ xs.set j (.slice A4 n4' c4), ∀ b, y.ownBlock = some b → (Value.slice (some ⟨g, o, none⟩) nv cv).ownBlock ≠ some b) := by
                      show ∀ y ∈ _, _
                      intro y hy b hyb e
                      rcases List.mem_or_eq_of_mem_set hy with hy | rfl
                      · exact hap.out y hy b hyb e
                      · rcases hb4 with e2 | ⟨b2, e2, hge⟩
                        · exact hap.out _ hum b (e2 ▸ hyb) e
                        · rw [e2] at hyb
                          injection hyb with hyb
                          have h1 := (hrv.lt b e).2
                          have h2 : wr.drew.heap.size = wr.heap.size := rfl
                          omega
                    clear M MDr hrv hap hou houD hown4 hg4 hb4 hEu x04 hst hI4 x0 cu c0
                    go_wp2_with fail
                    go_roundg (nv + 1 - (k + 1))
                    case measure => omega
                    case rel => exact ⟨k + 1, _, by omega, rfl, by go_num, M5, hrv5, hap5⟩
                · obtain rfl : nv = k := by omega
                  have hcv : CV wr (.agg #[.slice (some ⟨gd, 0, none⟩) n capd, .slice Ak nk ck, .slice (some ⟨s0, 0, none⟩) 0 0, .slice Ar nr cr]) { deques := dealt plan n (readyOf plan []).length, counts := countsOf plan, done := [], rows := List.replicate plan.length [] } := by
                    refine ⟨_, _, _, _, rfl, ?_, M.kt.ri, M.od wr, ?_⟩
                    · rw [← Hnv.out]; exact M.dq.rl
                    · rw [← Hnp.out]; exact M.ro.rl
                  have x0 := M.x.cell 0
                  have x1 := M.x.cell 1
                  have x2 := M.x.cell 2
                  have x3 := M.x.cell 3
                  have y0 := M.res.cell 0
                  have y1 := M.res.cell 1
                  have y2 := M.res.cell 2
                  have y3 := M.res.cell 3
                  have f0 := M.res.frozen 0
                  have f1 := M.res.frozen 1
                  have f2 := M.res.frozen 2
                  have f3 := M.res.frozen 3
                  have hfin := Lib.hid (newGive M.g M.res hcv)
                  clear M hcv hrv hap
                  go_wp2_with fail
                  refine bodyPost_ret (v := .tuple #[.agg #[.slice (some ⟨gd, 0, none⟩) n capd, .slice Ak nk ck, .slice (some ⟨s0, 0, none⟩) 0 0, .slice Ar nr cr], .bool true]) (by simp [results, Tryz.results47, go_sem, y0, y1, y2, y3]) rfl ?_
                  rw [Hr.out]
                  exact hfin.out
    · have Hin : Hid ((decide (1 ≤ n) && decide (n ≤ 4)) = false) := by
        show _ = _
        rw [Bool.and_eq_false_iff, decide_eq_false_iff_not, decide_eq_false_iff_not]
        omega
      have Hr : Hid (crewNew plan n = none) := crewNew_out hin
      clear hv hin
      go_enter Tryz.func47, Tryz.ntmps47
      go_upto_region 1 with fail
      generalize w.alloc (.cells #[.slice none 0 0, .slice none 0 0, .slice none 0 0, .slice none 0 0] 27) = W at hR0 hgR ⊢
      go_wp2_with fail
      refine (specPlanValid_b _ plan W (hp.new hgR) hpl Hv.out).mono ?_
      rintro e w1 ⟨rfl, hg1⟩
      have g1 := gb_trans hgR hg1
      have hR1 := hR0.grown hg1 (by simp)
      have y0 := hR1.cell 0
      have y1 := hR1.cell 1
      have y2 := hR1.cell 2
      have y3 := hR1.cell 3
      have f0 := hR1.frozen 0
      have f1 := hR1.frozen 1
      have f2 := hR1.frozen 2
      have f3 := hR1.frozen 3
      have hfin := Lib.hid (newFail g1)
      clear hgR hR0 hg1 hR1 g1
      go_wp2_with fail
      refine (l6In_b _ _ _ _ Hin.out).mono ?_
      rintro e w2 ⟨rfl, rfl⟩
      go_wp2_with fail
      refine bodyPost_ret (v := .tuple #[.agg #[.slice none 0 0, .slice none 0 0, .slice none 0 0, .slice none 0 0], .bool false]) (by simp [results, Tryz.results47, go_sem, y0, y1, y2, y3]) rfl ?_
      rw [Hr.out]
      exact hfin.out
  · have hv' : planValid plan = false := by simpa using hv
    have Hv := Lib.hid hv'
    have Hr : Hid (crewNew plan n = none) := crewNew_bad hv'
    clear hv hv'
    go_enter Tryz.func47, Tryz.ntmps47
    go_upto_region 1 with fail
    generalize w.alloc (.cells #[.slice none 0 0, .slice none 0 0, .slice none 0 0, .slice none 0 0] 27) = W at hR0 hgR ⊢
    go_wp2_with fail
    refine (specPlanValid_b _ plan W (hp.new hgR) hpl Hv.out).mono ?_
    rintro e w1 ⟨rfl, hg1⟩
    have g1 := gb_trans hgR hg1
    have hR1 := hR0.grown hg1 (by simp)
    have y0 := hR1.cell 0
    have y1 := hR1.cell 1
    have y2 := hR1.cell 2
    have y3 := hR1.cell 3
    have f0 := hR1.frozen 0
    have f1 := hR1.frozen 1
    have f2 := hR1.frozen 2
    have f3 := hR1.frozen 3
    have hfin := Lib.hid (newFail g1)
    clear hgR hR0 hg1 hR1 g1
    go_wp2_with fail
    refine bodyPost_ret (v := .tuple #[.agg #[.slice none 0 0, .slice none 0 0, .slice none 0 0, .slice none 0 0], .bool false]) (by simp [results, Tryz.results47, go_sem, y0, y1, y2, y3]) rfl ?_
    rw [Hr.out]
    exact hfin.out
end Go.Proofs.YtihobnheficpjaaGreat
namespace Go.Proofs.YtihobnheficpjaaGreat
open Go.RowKit

/-- A drawn crew: valid, or none. -/
def DrawnCrew (plan : List Node) (c : Crew) : Prop := CrewOk plan c ∨ c = crew0
/-- While the crew is drawn: the plan, the crew in block cb, the result's cell. -/
structure DrawMid (B0 rb : Nat) (w wx : World) (cb : Nat) (pv d k o r : Value) (plan : List Node) (c : Crew) (q : Int) : Prop where
  rd : Rdr B0 wx rb q
  pl : RN wx pv plan
  b : BoxC wx cb d k o r c
  ok : CrewOk plan c
  res : Blk wx w.heap.size 27 #[.slice none 0 0, .slice none 0 0, .slice none 0 0, .slice none 0 0]
  hc : w.heap.size < cb
  g : w.grownBy wx (some rb)
  hB : B0 ≤ w.heap.size
section
variable {B0 rb cb : Nat} {w wx wy : World} {pv d k o r : Value} {plan : List Node} {c : Crew} {q q' : Int}
theorem Rdr.ne {w : World} {p : Int} (h : Rdr B0 w rb p) {E : TypeId} (hE : E ≠ 60) : NotE w E (some rb) := by
  obtain ⟨bv, hb⟩ := h.blk
  exact NotE.blk hb hE
theorem DrawMid.read (M : DrawMid B0 rb w wx cb pv d k o r plan c q) (hg : wx.grownBy wy (some rb)) (hr : Rdr B0 wy rb q') : DrawMid B0 rb w wy cb pv d k o r plan c q' := by
  have hI := M.rd.ne (E := 3) (by decide)
  have hL := M.rd.ne (E := 25) (by decide)
  have hN := M.rd.ne (E := 52) (by decide)
  have hC := M.rd.ne (E := 27) (by decide)
  exact ⟨hr, M.pl.grown hg hI hN, M.b.grown hg (fun e => hC _ e.symm _ M.b.b) hI hL, M.ok, M.res.past hg hC, M.hc, gb_trans M.g hg, M.hB⟩
theorem DrawMid.new (M : DrawMid B0 rb w wx cb pv d k o r plan c q) (hg : wx.grownBy wy none) : DrawMid B0 rb w wy cb pv d k o r plan c q :=
  ⟨M.rd.kept hg (fun g e => by cases e), M.pl.new hg, M.b.new hg, M.ok, M.res.grown hg (by simp), M.hc, gb_none M.g hg, M.hB⟩
theorem DrawMid.take {d' k' o' r' : Value} {c' : Crew} (M : DrawMid B0 rb w wx cb pv d k o r plan c q) (hx : CV wx (.agg #[d', k', o', r']) c') (hok : CrewOk plan c') :
    DrawMid B0 rb w ((((wx.setCell ⟨cb, 0, none⟩ d').setCell ⟨cb, 1, none⟩ k').setCell ⟨cb, 2, none⟩ o').setCell ⟨cb, 3, none⟩ r') cb pv d' k' o' r' plan c' q := by
  have hst := gb_set4 wx cb d' k' o' r'
  have hI : NotE wx 3 (some cb) := NotE.blk M.b.b (by decide)
  have hL : NotE wx 25 (some cb) := NotE.blk M.b.b (by decide)
  have hN : NotE wx 52 (some cb) := NotE.blk M.b.b (by decide)
  have hc := M.hc
  obtain ⟨bv, hbv⟩ := M.rd.blk
  have hne : cb ≠ rb := M.b.b.ne_ hbv (by decide)
  exact ⟨M.rd.kept hst (fun g e => by cases e; exact ⟨by have := M.hB; omega, hne⟩), M.pl.grown hst hI hN, CV.box_in (hx.grown hst hI hL) (gb_refl _ none) ((((M.b.b.set_ 0 d').set_ 1 k').set_ 2 o').set_ 3 r'), hok, M.res.grown hst (fun e => by injection e with e; omega), M.hc, gb_new M.g hst (fun g e => by cases e; exact .inl (Nat.le_of_lt hc)), M.hB⟩
/-- Behind the round's call: the next crew in block X. -/
def NextMid (B0 rb : Nat) (w : World) (cb : Nat) (pv d k o r : Value) (plan : List Node) (c : Crew) (q : Int) (x9 f : Value) (wx : World) : Prop :=
  ∃ X xd xk xo xr x b, x9 = .pointer (some ⟨X, 0, none⟩) ∧ f = .bool b ∧ DrawMid B0 rb w wx cb pv d k o r plan c q ∧ BoxC wx X xd xk xo xr x ∧ (b = true → CrewOk plan x)
section
variable {B0 rb cb : Nat} {w wx wy : World} {pv d k o r : Value} {plan : List Node} {c : Crew} {q q' : Int}
theorem NextMid.set {X : Nat} {xd xk xo xr : Value} {x : Crew} {b : Bool} (M : DrawMid B0 rb w wx cb pv d k o r plan c q) (hX : Blk wx X 27 #[.slice none 0 0, .slice none 0 0, .slice none 0 0, .slice none 0 0]) (hc : cb < X) (hx : CV wx (.agg #[xd, xk, xo, xr]) x) (hb : b = true → CrewOk plan x) :
    NextMid B0 rb w cb pv d k o r plan c q (.pointer (some ⟨X, 0, none⟩)) (.bool b) ((((wx.setCell ⟨X, 0, none⟩ xd).setCell ⟨X, 1, none⟩ xk).setCell ⟨X, 2, none⟩ xo).setCell ⟨X, 3, none⟩ xr) := by
  have hst := gb_set4 wx X xd xk xo xr
  have hI : NotE wx 3 (some X) := NotE.blk hX (by decide)
  have hL : NotE wx 25 (some X) := NotE.blk hX (by decide)
  have hN : NotE wx 52 (some X) := NotE.blk hX (by decide)
  obtain ⟨bv, hbv⟩ := M.rd.blk
  have hne : X ≠ rb := hX.ne_ hbv (by decide)
  have hwc := M.hc
  have hBw := M.hB
  exact ⟨X, xd, xk, xo, xr, x, b, rfl, rfl, ⟨M.rd.kept hst (fun g e => by cases e; exact ⟨by omega, hne⟩), M.pl.grown hst hI hN, M.b.grown hst (fun e => by injection e with e; omega) hI hL, M.ok, M.res.grown hst (fun e => by injection e with e; omega), M.hc, gb_new M.g hst (fun g e => by cases e; exact .inl (by omega)), M.hB⟩,
    CV.box_in (hx.grown hst hI hL) (gb_refl _ none) ((((hX.set_ 0 xd).set_ 1 xk).set_ 2 xo).set_ 3 xr), hb⟩
theorem NextMid.make {xd xk xo xr : Value} {x : Crew} {b : Bool} (M : DrawMid B0 rb w wx cb pv d k o r plan c q) (hx : CV wx (.agg #[xd, xk, xo, xr]) x) (hb : b = true → CrewOk plan x) :
    NextMid B0 rb w cb pv d k o r plan c q (.pointer (some ⟨wx.heap.size, 0, none⟩)) (.bool b) (wx.alloc (.cells #[xd, xk, xo, xr] 27)) :=
  ⟨wx.heap.size, xd, xk, xo, xr, x, b, rfl, rfl, M.new (World.grownBy_alloc _ _ none), CV.box_in hx (World.grownBy_alloc _ _ none) (Blk.new _ _ _), hb⟩
end
theorem turnOut_ok {w w' : World} {plan : List Node} {c : Crew} {k : Int} {e : Ending} (h : TurnOut w (turnNext plan c k) e w') : ∃ xd nd cd xk nk ck xo no co xr nr cr x b, e = .returned (.tuple #[.agg #[.slice xd nd cd, .slice xk nk ck, .slice xo no co, .slice xr nr cr], .bool b]) ∧ CV w' (.agg #[.slice xd nd cd, .slice xk nk ck, .slice xo no co, .slice xr nr cr]) x ∧ (b = true → CrewOk plan x) ∧ w.grownBy w' none := by
  cases hn : turnNext plan c k with
  | none =>
    rw [hn] at h
    obtain ⟨v, rfl, hc, hg⟩ := h
    obtain ⟨A1, n1, c1, A2, n2, c2, A3, n3, c3, A4, n4, c4, rfl, -, -, -, -⟩ := hc.form
    exact ⟨_, _, _, _, _, _, _, _, _, _, _, _, _, _, rfl, hc, fun e => (by cases e), hg⟩
  | some x =>
    rw [hn] at h
    obtain ⟨v, rfl, hc, hg⟩ := h
    obtain ⟨A1, n1, c1, A2, n2, c2, A3, n3, c3, A4, n4, c4, rfl, -, -, -, -⟩ := hc.form
    exact ⟨_, _, _, _, _, _, _, _, _, _, _, _, _, _, rfl, hc, fun _ => (turnNext_some hn).2.1, hg⟩
/-- What is drawn: a plan and a crew, nothing that was there turned but the reader. -/
def CrewPost (B0 rb : Nat) (w : World) (p : Int) (e : Ending) (w' : World) : Prop :=
  ∃ pv v plan c, e = .returned (.tuple #[pv, v]) ∧ RN w' pv plan ∧ CV w' v c ∧ smallPlan plan ∧ DrawnCrew plan c ∧ ∃ p', p ≤ p' ∧ p' ≤ p + 3000 ∧ Rdr B0 w' rb p' ∧ w.grownBy w' (some rb)
theorem crewGive {p : Int} (hr : Rdr B0 wx rb q) (hp : RN wx pv plan) (hR : Blk wx w.heap.size 27 #[.slice none 0 0, .slice none 0 0, .slice none 0 0, .slice none 0 0]) (hg : w.grownBy wx (some rb)) (hB : B0 ≤ w.heap.size) (hc : CV wx (.agg #[d, k, o, r]) c) (hd : DrawnCrew plan c) (hs : smallPlan plan) (h0 : p ≤ q) (h1 : q ≤ p + 3000) :
    CrewPost B0 rb w p (.returned (.tuple #[pv, .agg #[d, k, o, r]])) ((((wx.setCell ⟨w.heap.size, 0, none⟩ d).setCell ⟨w.heap.size, 1, none⟩ k).setCell ⟨w.heap.size, 2, none⟩ o).setCell ⟨w.heap.size, 3, none⟩ r) := by
  have hst := gb_set4 wx w.heap.size d k o r
  have hI : NotE wx 3 (some w.heap.size) := NotE.blk hR (by decide)
  have hL : NotE wx 25 (some w.heap.size) := NotE.blk hR (by decide)
  have hN : NotE wx 52 (some w.heap.size) := NotE.blk hR (by decide)
  obtain ⟨bv, hbv⟩ := hr.blk
  have hne : w.heap.size ≠ rb := hR.ne_ hbv (by decide)
  exact ⟨_, _, plan, c, rfl, hp.grown hst hI hN, hc.grown hst hI hL, hs, hd, q, h0, h1, hr.kept hst (fun g e => by cases e; exact ⟨hB, hne⟩), gb_new hg hst (fun g e => by cases e; exact .inl (Nat.le_refl _))⟩
end
theorem CrewPost.drew {B0 rb : Nat} {w w' : World} {p : Int} {e : Ending} (h : CrewPost B0 rb w p e w') : CrewPost B0 rb w p e w'.drew := by
  obtain ⟨pv, v, plan, c, he, h1, h2, h3, h4, q, h5, h6, h7, h8⟩ := h
  have hg := gb_drew (gb_refl w' none)
  exact ⟨pv, v, plan, c, he, h1.new hg, h2.new hg, h3, h4, q, h5, h6, h7.new hg, gb_drew h8⟩
set_option maxHeartbeats 3200000 in
set_option maxRecDepth 20000 in
theorem l92Crew_any (B0 rb : Nat) (p : Int) (w : World) (h : Rdr B0 w rb p) (hp0 : 0 ≤ p) (hp : p ≤ 600000) :
    Calls Tryz.prog 27 #[.pointer (some ⟨rb, 0, none⟩)] w (CrewPost B0 rb w p) := by
  have hB : B0 ≤ w.heap.size := by obtain ⟨_, _, _, _, _, h4, _⟩ := h; exact h4
  have hR0 := Blk.new w 27 #[.slice none 0 0, .slice none 0 0, .slice none 0 0, .slice none 0 0]
  have hgR := World.grownBy_alloc w (.cells #[.slice none 0 0, .slice none 0 0, .slice none 0 0, .slice none 0 0] 27) none
  go_enter Tryz.func27, Tryz.ntmps27
  go_upto_region 1 with fail
  have hrd0 := h.new hgR
  generalize w.alloc (.cells #[.slice none 0 0, .slice none 0 0, .slice none 0 0, .slice none 0 0] 27) = W at hR0 hgR hrd0 ⊢
  go_wp2_with fail
  refine (l91Plan_any B0 rb p W hrd0 (by omega) (by omega)).mono ?_
  rintro e w1 ⟨pv, plan, rfl, hpl, hsm, q1, hq0, hq1, hrd1, hg1⟩
  obtain ⟨An, nn, cn, rfl, -, hnn, -⟩ := hpl.form'
  have Hnn := Lib.hid hnn
  have hn11 : nn ≤ 11 := by have := hsm.1; omega
  have Hsm := Lib.hid hsm
  have hR1 : Blk w1 w.heap.size 27 #[.slice none 0 0, .slice none 0 0, .slice none 0 0, .slice none 0 0] := hR0.past hg1 (hrd0.ne (by decide))
  have g1 : w.grownBy w1 (some rb) := gb_trans (gb_some hgR _) hg1
  clear hgR hR0 hrd0 hg1 hnn hsm
  go_wp2_with fail
  refine (pick_any B0 rb q1 _ _ hrd1 (by omega) (by omega)).mono ?_
  rintro e w2 ⟨r2, rfl, hr2, -, hrd2, hg2⟩
  have hr2' := hr2 (by omega)
  have hpl2 := hpl.grown hg2 (hrd1.ne (by decide)) (hrd1.ne (by decide))
  have hR2 := hR1.past hg2 (hrd1.ne (by decide))
  have g2 := gb_trans g1 hg2
  clear hr2 hpl hR1 g1 hrd1 hg2
  have hw2 : IntKind.i64.wrap (1 + r2) = 1 + r2 := IntWalk.i64_in _ (by omega)
  go_wp2_with fail
  refine (specCrewNew_any _ plan (1 + r2) _ hpl2 (by have := Hsm.out.1; omega)).mono ?_
  intro e w3 hT
  cases hcn : crewNew plan (1 + r2) with
  | none =>
    rw [hcn] at hT
    obtain ⟨v3, rfl, hc3, hg3⟩ := hT
    have hrd3 := hrd2.new hg3
    have hpl3 := hpl2.new hg3
    have hR3 := hR2.grown hg3 (by simp)
    have g3 := gb_none g2 hg3
    clear hrd2 hpl2 hR2 g2 hg3 hcn hw2
    obtain ⟨A1, n1, c1, A2, n2, c2, A3, n3, c3, A4, n4, c4, rfl, -, -, -, -⟩ := hc3.form
    go_upto_region 3 with fail
    have hrA := hrd3.new (World.grownBy_alloc w3 (.cells #[.slice A1 n1 c1, .slice A2 n2 c2, .slice A3 n3 c3, .slice A4 n4 c4] 27) none)
    have hpA := hpl3.new (World.grownBy_alloc w3 (.cells #[.slice A1 n1 c1, .slice A2 n2 c2, .slice A3 n3 c3, .slice A4 n4 c4] 27) none)
    have hRA := hR3.grown (World.grownBy_alloc w3 (.cells #[.slice A1 n1 c1, .slice A2 n2 c2, .slice A3 n3 c3, .slice A4 n4 c4] 27) none) (by simp)
    have gA := gb_none g3 (World.grownBy_alloc w3 (.cells #[.slice A1 n1 c1, .slice A2 n2 c2, .slice A3 n3 c3, .slice A4 n4 c4] 27) none)
    generalize w3.alloc (.cells #[.slice A1 n1 c1, .slice A2 n2 c2, .slice A3 n3 c3, .slice A4 n4 c4] 27) = wA at hrA hpA hRA gA ⊢
    clear hrd3 hpl3 hR3 g3 hc3
    have y0 := hRA.cell 0
    have y1 := hRA.cell 1
    have y2 := hRA.cell 2
    have y3 := hRA.cell 3
    have f0 := hRA.frozen 0
    have f1 := hRA.frozen 1
    have f2 := hRA.frozen 2
    have f3 := hRA.frozen 3
    have hfin := Lib.hid (crewGive hrA hpA hRA gA hB (CV.zero wA) (plan := plan) (.inr rfl) Hsm.out (show p ≤ q1 + 1 by omega) (by omega))
    clear hrA hpA hRA gA
    go_wp2_with fail
    refine bodyPost_ret (v := .tuple #[.slice An nn cn, .agg #[.slice none 0 0, .slice none 0 0, .slice none 0 0, .slice none 0 0]]) (by simp [results, Tryz.results27, go_sem, y0, y1, y2, y3]) rfl ?_
    exact hfin.out
  | some c =>
    rw [hcn] at hT
    obtain ⟨v3, rfl, hc3, hg3⟩ := hT
    have hok := (crewNew_some hcn).1
    have hrd3 := hrd2.new hg3
    have hpl3 := hpl2.new hg3
    have hR3 := hR2.grown hg3 (by simp)
    have g3 := gb_none g2 hg3
    clear hrd2 hpl2 hR2 g2 hg3 hcn hw2
    obtain ⟨A1, n1, c1, A2, n2, c2, A3, n3, c3, A4, n4, c4, rfl, -, -, -, -⟩ := hc3.form
    go_upto_region 3 with fail
    have hgA := World.grownBy_alloc w3 (.cells #[.slice A1 n1 c1, .slice A2 n2 c2, .slice A3 n3 c3, .slice A4 n4 c4] 27) none
    have hRlt := hR3.lt
    have M0 : DrawMid B0 rb w (w3.alloc (.cells #[.slice A1 n1 c1, .slice A2 n2 c2, .slice A3 n3 c3, .slice A4 n4 c4] 27)) w3.heap.size (.slice An nn cn) (.slice A1 n1 c1) (.slice A2 n2 c2) (.slice A3 n3 c3) (.slice A4 n4 c4) plan c (q1 + 1) :=
      ⟨hrd3.new hgA, hpl3.new hgA, CV.box_in hc3 hgA (Blk.new _ _ _), hok, hR3.grown hgA (by simp), hRlt, gb_none g3 hgA, hB⟩
    generalize w3.alloc (.cells #[.slice A1 n1 c1, .slice A2 n2 c2, .slice A3 n3 c3, .slice A4 n4 c4] 27) = wA at M0 ⊢
    generalize w3.heap.size = cb at M0 ⊢
    clear hrd3 hpl3 hR3 g3 hc3 hgA hRlt hok
    have hw1 : IntKind.i64.wrap ((nn : Int) + 1) = (nn : Int) + 1 := IntWalk.i64_in _ (by omega)
    have hrdA := M0.rd
    go_wp2_with fail
    refine (pick_any B0 rb (q1 + 1) _ _ hrdA (by omega) (by omega)).mono ?_
    rintro e w4 ⟨r4, rfl, hr4, -, hrd4, hg4⟩
    have hr4' := hr4 (by omega)
    have M1 := M0.read hg4 hrd4
    obtain ⟨n, rfl⟩ := Int.eq_ofNat_of_zero_le hr4'.1
    have hn : n ≤ 11 := by omega
    clear M0 hr4 hr4' hrd4 hg4 hrdA hw1
    go_wp2_with fail
    go_loopg [8] (n + 1) (fun mm i wr => ∃ (k : Nat) (d' k' o' r' : Value) (cc : Crew) (q : Int), k ≤ n ∧ mm = n + 1 - k ∧ i = .int .i64 k ∧ q1 ≤ q ∧ q ≤ q1 + 2 + k ∧ DrawMid B0 rb w wr cb (.slice An nn cn) d' k' o' r' plan cc q)
    case atStart => exact ⟨0, _, _, _, _, c, _, Nat.zero_le _, rfl, rfl, by omega, by omega, M1⟩
    case round =>
      clear M1
      obtain ⟨k, d', k', o', r', cc, q, hk, rfl, rfl, hqa, hqb, M⟩ := hrel
      obtain ⟨B1, m1, e1, B2, m2, e2, B3, m3, e3, B4, m4, e4, ee, hdq, -, -, -⟩ := M.b.cv.form
      injection ee with ee
      injection ee with ee
      injection ee with ea ee
      injection ee with eb ee
      injection ee with ec ee
      injection ee with ed ee
      subst ea eb ec ed
      have hm1 := hdq.len
      have hm4 := M.ok.d4
      have hm0 := M.ok.d1
      rw [← hm1] at hm4 hm0
      clear hdq
      have Hm1 := Lib.hid hm1
      clear hm1
      have z0 := M.b.d0
      have z1 := M.b.d1
      have z2 := M.b.d2
      have z3 := M.b.d3
      by_cases hlt : k < n
      · clear ee
        have hpl5 : plan.length ≤ 1000000000 := by have := Hsm.out.1; omega
        have hfit : cc.deques.length ≤ 1048576 ∧ ∀ d ∈ cc.deques, d.length ≤ 1048576 := ⟨by have := M.ok.d4; omega, fun d hd => by have := deque_len M.ok d hd; omega⟩
        have Hfit := Lib.hid hfit
        clear hfit
        go_upto_region 10 with fail
        go_cut [9, 10] (fun x9 f wx => NextMid B0 rb w cb (.slice An nn cn) (.slice B1 m1 e1) (.slice B2 m2 e2) (.slice B3 m3 e3) (.slice B4 m4 e4) plan cc (q + 1) x9 f wx)
        case first =>
          have hrd := M.rd
          have hrl := M.rd.lt
          have hcl := M.b.b.lt
          have hcr : cb ≠ rb := by
            obtain ⟨bv, hbv⟩ := M.rd.blk
            exact M.b.b.ne_ hbv (by decide)
          have n0 : wr.heap.size ≠ cb := World.new_ne wr _ z0
          go_region_held3 (fun w' => w'.cell? ⟨cb, 0, none⟩ = some (.slice B1 m1 e1) ∧ w'.cell? ⟨cb, 1, none⟩ = some (.slice B2 m2 e2) ∧ w'.cell? ⟨cb, 2, none⟩ = some (.slice B3 m3 e3) ∧ w'.cell? ⟨cb, 3, none⟩ = some (.slice B4 m4 e4)) (go_keep) (first
            | (go_at_call 28; refine (pick_any B0 rb q _ _ (by first | exact M.rd | exact (M.new (gb_drew (gb_refl _ none))).rd | exact (M.new (gb_drew (World.grownBy_alloc _ _ none))).rd | exact (M.new (World.grownBy_alloc _ _ none)).rd) (by omega) (by omega)).mono ?_; rintro e w5 ⟨r5, rfl, hr5, -, hrd5, hg5⟩; have hr5' := hr5 (by omega); have M5 : DrawMid B0 rb w w5 cb (.slice An nn cn) (.slice B1 m1 e1) (.slice B2 m2 e2) (.slice B3 m3 e3) (.slice B4 m4 e4) plan cc (q + 1) := (by first | exact M.read hg5 hrd5 | exact (M.new (gb_drew (gb_refl _ none))).read hg5 hrd5 | exact (M.new (gb_drew (World.grownBy_alloc _ _ none))).read hg5 hrd5 | exact (M.new (World.grownBy_alloc _ _ none)).read hg5 hrd5); have k0 := M5.b.d0; have k1 := M5.b.d1; have k2 := M5.b.d2; have k3 := M5.b.d3; have n5 : w5.heap.size ≠ cb := World.new_ne w5 _ k0; (first | (have hX5 : Blk w5 wr.heap.size 27 #[.slice none 0 0, .slice none 0 0, .slice none 0 0, .slice none 0 0] := (by first | exact (Blk.new wr _ _).grown hg5 (by intro e; injection e with e; omega) | exact (Blk.new wr _ _).drew.grown hg5 (by intro e; injection e with e; omega) | exact (Blk.new wr.drew _ _).grown hg5 (by intro e; injection e with e; exact absurd e (Nat.ne_of_gt hrl))); have y0 := hX5.cell 0; have y1 := hX5.cell 1; have y2 := hX5.cell 2; have y3 := hX5.cell 3; have f0 := hX5.frozen 0; have f1 := hX5.frozen 1; have f2 := hX5.frozen 2; have f3 := hX5.frozen 3) | skip))
            | (go_at_call 48; refine (specTurnNext_any _ _ plan cc r5 _ (by first | exact M5.pl | exact (M5.new (gb_drew (gb_refl _ none))).pl | exact (M5.new (gb_drew (World.grownBy_alloc _ _ none))).pl | exact (M5.new (World.grownBy_alloc _ _ none)).pl) (by first | exact M5.b.cv | exact (M5.new (gb_drew (gb_refl _ none))).b.cv | exact (M5.new (gb_drew (World.grownBy_alloc _ _ none))).b.cv | exact (M5.new (World.grownBy_alloc _ _ none)).b.cv) hpl5 Hfit.out).mono ?_; intro e w6 hT; obtain ⟨xd, nd, cd, xk, nk, ck, xo, no, co, xr, nr, cr, x, b, rfl, hx6, hb6, hg6⟩ := turnOut_ok hT; have M6 : DrawMid B0 rb w w6 cb (.slice An nn cn) (.slice B1 m1 e1) (.slice B2 m2 e2) (.slice B3 m3 e3) (.slice B4 m4 e4) plan cc (q + 1) := (by first | exact M5.new hg6 | exact (M5.new (gb_drew (gb_refl _ none))).new hg6 | exact (M5.new (gb_drew (World.grownBy_alloc _ _ none))).new hg6 | exact (M5.new (World.grownBy_alloc _ _ none)).new hg6); have k0 := M6.b.d0; have k1 := M6.b.d1; have k2 := M6.b.d2; have k3 := M6.b.d3; have n6 : w6.heap.size ≠ cb := World.new_ne w6 _ k0; (first | (have hX6 := hX5.grown hg6 (by simp); have y0 := hX6.cell 0; have y1 := hX6.cell 1; have y2 := hX6.cell 2; have y3 := hX6.cell 3; have f0 := hX6.frozen 0; have f1 := hX6.frozen 1; have f2 := hX6.frozen 2; have f3 := hX6.frozen 3) | (have hX6 : Blk w6 w5.heap.size 27 #[.slice none 0 0, .slice none 0 0, .slice none 0 0, .slice none 0 0] := (by first | exact (Blk.new w5 _ _).grown hg6 (by simp) | exact (Blk.new w5 _ _).drew.grown hg6 (by simp) | exact (Blk.new w5.drew _ _).grown hg6 (by simp)); have y0 := hX6.cell 0; have y1 := hX6.cell 1; have y2 := hX6.cell 2; have y3 := hX6.cell 3; have f0 := hX6.frozen 0; have f1 := hX6.frozen 1; have f2 := hX6.frozen 2; have f3 := hX6.frozen 3) | skip)))
          all_goals
            go_wp2_with fail
            go_meet
            first
              | exact NextMid.set M6 hX6 hcl hx6 hb6
              | exact NextMid.set M6 hX6 (Nat.lt_of_lt_of_le hcl hg5.size) hx6 hb6
              | exact NextMid.set M6 hX6 M5.b.b.lt hx6 hb6
              | exact NextMid.make M6 hx6 hb6
        case rest =>
          obtain ⟨X, xd, xk, xo, xr, x, b, rfl, rfl, M2, hX, hb⟩ := hcut
          clear M z0 z1 z2 z3 Hfit hm4 hm0 Hm1
          obtain ⟨C1, i1, l1, C2, i2, l2, C3, i3, l3, C4, i4, l4, ee, -, -, -, -⟩ := hX.cv.form
          injection ee with ee
          injection ee with ee
          injection ee with ea ee
          injection ee with eb ee
          injection ee with ec ee
          injection ee with ed ee
          subst ea eb ec ed
          clear ee
          have x0 := hX.d0
          have x1 := hX.d1
          have x2 := hX.d2
          have x3 := hX.d3
          have z0 := M2.b.d0
          have z1 := M2.b.d1
          have z2 := M2.b.d2
          have z3 := M2.b.d3
          have t0 := M2.b.b.frozen 0
          have t1 := M2.b.b.frozen 1
          have t2 := M2.b.b.frozen 2
          have t3 := M2.b.b.frozen 3
          cases b with
          | true =>
            have M3 := M2.take hX.cv (hb rfl)
            go_wp2_with fail
            go_roundg (n + 1 - (k + 1))
            case measure => omega
            case rel => exact ⟨k + 1, _, _, _, _, x, q + 1, by omega, rfl, by go_num, by omega, by omega, M3⟩
          | false =>
            go_wp2_with fail
            go_roundg (n + 1 - (k + 1))
            case measure => omega
            case rel => exact ⟨k + 1, _, _, _, _, cc, q + 1, by omega, rfl, by go_num, by omega, by omega, M2⟩
      · obtain rfl : n = k := by omega
        have y0 := M.res.cell 0
        have y1 := M.res.cell 1
        have y2 := M.res.cell 2
        have y3 := M.res.cell 3
        have f0 := M.res.frozen 0
        have f1 := M.res.frozen 1
        have f2 := M.res.frozen 2
        have f3 := M.res.frozen 3
        have hcbR : w.heap.size ≠ cb := by have := M.hc; omega
        have hfin := Lib.hid (crewGive M.rd M.pl M.res M.g hB M.b.cv (.inl M.ok) Hsm.out (show p ≤ q by omega) (by omega))
        clear M
        go_wp2_with fail
        go_region_held3 (fun w' => w'.cell? ⟨cb, 0, none⟩ = some (.slice B1 m1 e1) ∧ w'.cell? ⟨cb, 1, none⟩ = some (.slice B2 m2 e2) ∧ w'.cell? ⟨cb, 2, none⟩ = some (.slice B3 m3 e3) ∧ w'.cell? ⟨cb, 3, none⟩ = some (.slice B4 m4 e4)) (go_keep) (skip)
        go_wp2_with fail
        refine bodyPost_ret (v := .tuple #[.slice An nn cn, .agg #[.slice B1 m1 e1, .slice B2 m2 e2, .slice B3 m3 e3, .slice B4 m4 e4]]) (by simp [results, Tryz.results27, go_sem, y0, y1, y2, y3]) rfl ?_
        exact hfin.out.drew
end Go.Proofs.YtihobnheficpjaaGreat
