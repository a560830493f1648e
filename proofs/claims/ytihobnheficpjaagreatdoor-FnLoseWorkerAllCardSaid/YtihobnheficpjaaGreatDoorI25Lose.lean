/- Walks: slices.Delete at the deques; impl.LoseWorker. -/
import Derived.Test.YtihobnheficpjaaGreatDoorM33
import Derived.Test.YtihobnheficpjaaGreatDoorM29
import Derived.Lib.SlicesDelete
import Derived.Lib.SliceRun
import Derived.Deep.RegionLaw
import Derived.Shelf.RegionOpenPlain
namespace Go.Proofs.YtihobnheficpjaaGreatDoor
open Go.RowKit

theorem setCells_blk {g : Nat} {E : TypeId} : ∀ (vs : List Value) (k : Nat) (w : World) (cs : Array Value), Blk w g E cs → Blk (w.setCells g k vs) g E (Lib.lay cs k vs)
  | [], _, _, _, h => h
  | v :: vs, k, w, _, h => setCells_blk vs (k + 1) (w.setCell ⟨g, k, none⟩ v) _ (h.set_ k v)
theorem gb_setCells {g : Nat} {a : World} : ∀ (vs : List Value) (k : Nat) (w : World), a.grownBy w (some g) → a.grownBy (w.setCells g k vs) (some g)
  | [], _, _, h => h
  | v :: vs, k, w, h => gb_setCells vs (k + 1) (w.setCell ⟨g, k, none⟩ v) (gb_set (p := ⟨g, k, none⟩) h (.inr rfl) v)
theorem lay_size' {α : Type} : ∀ (xs : List α) (d : Array α) (k : Nat), (Lib.lay d k xs).size = d.size
  | [], _, _ => rfl
  | x :: r, d, k => by rw [Lib.lay, lay_size' r]; simp
theorem del_cells {cur : Array Value} {xs : List Value} {n k : Nat} {z : Value} (h : cur.toList.take n = xs) (hn : n ≤ cur.size) (hk : k < n) :
    (Lib.lay (Lib.lay cur k (xs.drop (k + 1))) (n - 1) [z]).toList.take (n - 1) = xs.eraseIdx k := by
  have hl : xs.length = n := by rw [← h, List.length_take]; simp; omega
  have hd : (xs.drop (k + 1)).length = n - (k + 1) := by rw [List.length_drop, hl]
  apply List.ext_getElem?
  intro t
  rw [List.getElem?_take, List.getElem?_eraseIdx]
  by_cases ht : t < n - 1
  · rw [if_pos ht, Array.getElem?_toList, Lib.lay_get? _ _ _ _ (by rw [lay_size']; simp; omega), if_neg (by simp; omega), Lib.lay_get? _ _ _ _ (by omega), hd]
    have e : ∀ j, j < n → cur[j]? = xs[j]? := by
      intro j hj
      rw [← h, List.getElem?_take, if_pos hj, Array.getElem?_toList]
    by_cases htk : t < k
    · rw [if_neg (by omega), if_pos htk, e t (by omega)]
    · rw [if_pos (by omega), if_neg htk, List.getElem?_drop]
      congr 1
      omega
  · rw [if_neg ht]
    by_cases htk : t < k
    · omega
    · rw [if_neg htk, List.getElem?_eq_none (by omega)]

theorem lx_deleted {w : World} {base g n cap k : Nat} {ll : List (List Int)} {xs : List Value} (h : LX w base (.slice (some ⟨g, 0, none⟩) n cap) ll xs) (hk : k < n) (hnl : n = ll.length) {W : World} {z : Value}
    (hW : W = (w.drew.setCells g k (xs.drop (k + 1))).setCells g (n - 1) [z]) :
    LX W base (.slice (some ⟨g, 0, none⟩) (n - 1) cap) (ll.eraseIdx k) (xs.eraseIdx k) ∧ w.grownBy W (some g) := by
  have hxl := h.len
  obtain ⟨ho1, ho2⟩ := h
  have ho1' := ho1
  have hg : w.grownBy W (some g) := by
    rw [hW]
    exact gb_setCells _ _ _ (gb_setCells _ _ _ (gb_drew (gb_refl _ _)))
  have hne : NotE w 3 (some g) := NotE.own (v := .slice (some ⟨g, 0, none⟩) n cap) ho1' (by decide)
  refine ⟨⟨?_, fun i' l' hi' => ?_⟩, hg⟩
  · obtain ⟨hl, h2⟩ := ho1
    rw [List.length_eraseIdx_of_lt (by omega), ← hnl]
    refine ⟨by rw [List.length_eraseIdx_of_lt (by omega)]; omega, ?_⟩
    rcases h2 with ⟨e, hz⟩ | ⟨g', cap', cur, e, hb, hh, hn, hm, hcs, ht⟩
    · cases e
    · injection e with e1 e2 e3
      injection e1 with e1
      injection e1 with e1
      subst e1 e3
      refine .inr ⟨g, cap, _, rfl, hb, by rw [hW]; exact setCells_blk _ _ _ _ (setCells_blk _ _ _ _ (Blk.drew hh)), by omega, hm, by rw [lay_size', lay_size']; exact hcs, ?_⟩
      rw [Nat.mul_one]
      rw [Nat.mul_one] at ht
      rw [← hnl] at ht
      exact del_cells ht (by omega) hk
  · rw [List.getElem?_eraseIdx] at hi'
    by_cases hik : i' < k
    · rw [if_pos hik] at hi'
      obtain ⟨u, k1, k2⟩ := ho2 i' l' hi'
      exact ⟨u, by rw [List.getElem?_eraseIdx, if_pos hik]; exact k1, k2.grown hg hne⟩
    · rw [if_neg hik] at hi'
      obtain ⟨u, k1, k2⟩ := ho2 (i' + 1) l' hi'
      exact ⟨u, by rw [List.getElem?_eraseIdx, if_neg hik]; exact k1, k2.grown hg hne⟩

theorem zero_ints (w : World) : (zeroValue 25).run Tryz.prog w = .ok (.slice none 0 0) w := by kernel_rfl

set_option maxHeartbeats 3200000 in
set_option maxRecDepth 20000 in
theorem implDelete_any {w : World} {base g n cap k : Nat} {ll : List (List Int)} {xs : List Value} (h : LX w base (.slice (some ⟨g, 0, none⟩) n cap) ll xs) (hk : k < n) (hnl : n = ll.length) (hcap : n ≤ cap) (hm : cap ≤ maxLen) :
    Calls Tryz.prog 87 #[.slice (some ⟨g, 0, none⟩) n cap, .int .i64 (k : Int), .int .i64 ((k : Int) + 1)] w
      (fun e w' => e = .returned (.slice (some ⟨g, 0, none⟩) (n - 1) cap) ∧ LX w' base (.slice (some ⟨g, 0, none⟩) (n - 1) cap) (ll.eraseIdx k) (xs.eraseIdx k) ∧ w.grownBy w' (some g)) := by
  obtain ⟨i, hi, hz0, hz1, hz2⟩ := info_parts info25
  have hm' : cap ≤ 9223372036854775807 := hm
  have hxl := h.len
  obtain ⟨news, hnews⟩ : ∃ news, news = xs.drop (k + 1) := ⟨_, rfl⟩
  have hlen : news.length = n - (k + 1) := by rw [hnews, List.length_drop]; omega
  have hcellN : ∀ j, j < n → w.cell? ⟨g, j, none⟩ = xs[j]? ∧ w.frozen? ⟨g, j, none⟩ = false := by
    intro j hj
    obtain ⟨u, k1, k2⟩ := h.cell (k := j) (by omega)
    refine ⟨?_, k2⟩
    have h1 := h.1
    rw [← hnl] at h1
    exact World.ownsRow.cellAt (g := g) (cap := cap) h1 j (by omega)
  obtain ⟨A, hA, hsrc⟩ : ∃ A : Addr, (if cap = k + 1 then some (⟨g, 0, none⟩ : Addr) else some ⟨g, k + 1, none⟩) = some A ∧ Hid (∀ t u, news[t]? = some u → w.drew.cell? (A.add t) = some u) := by
    by_cases hc : cap = k + 1
    · refine ⟨⟨g, 0, none⟩, by simp [hc], fun t u hu => ?_⟩
      have h0 : news.length = 0 := by rw [hlen]; omega
      rw [List.length_eq_zero_iff.1 h0] at hu
      simp at hu
    · refine ⟨⟨g, k + 1, none⟩, by simp [hc], fun t u hu => ?_⟩
      have ht : t < n - (k + 1) := by
        have := (List.getElem?_eq_some_iff.1 hu).1
        rwa [hlen] at this
      rw [hnews, List.getElem?_drop] at hu
      rw [Addr.add_lit]
      exact (hcellN _ (by omega)).1.trans hu
  have s1 : Hid (news.length = (n - (k + 1)) * 1) := by rw [Nat.mul_one]; exact hlen
  have s2 : Hid (∀ u ∈ news, u.oneCell' = true) := by
    intro u hu
    rw [hnews] at hu
    obtain ⟨j, hj, rfl⟩ := List.getElem_of_mem (List.mem_of_mem_drop hu)
    obtain ⟨u', k1, k2⟩ := h.2 j _ (List.getElem?_eq_getElem (by omega))
    rw [List.getElem?_eq_getElem hj] at k1
    rw [Option.some.inj k1]
    exact k2.ri.oneCell
  have s3 : Hid (∀ t, t < news.length → (w.drew.cell? ⟨g, 0 + k * 1 + t, none⟩).isSome = true ∧ w.drew.frozen? ⟨g, 0 + k * 1 + t, none⟩ = false) := by
    intro t ht
    rw [hlen] at ht
    rw [Nat.mul_one, Nat.zero_add]
    obtain ⟨q1, q2⟩ := hcellN (k + t) (by omega)
    exact ⟨by show (w.cell? _).isSome = true; rw [q1, List.getElem?_eq_getElem (by omega)]; rfl, q2⟩
  obtain ⟨W1, hW1⟩ : ∃ W1, W1 = w.drew.setCells g (0 + k * 1) news := ⟨_, rfl⟩
  have hW : Hid (W1 = w.drew.setCells g (0 + k * 1) news) := hW1
  have hB : ∃ cur, Blk W1 g 25 cur ∧ n ≤ cur.size := by
    rcases h.1.2 with ⟨e, hz⟩ | ⟨g', cap', cur, e, hb, hh, hn, hm, hcs, ht⟩
    · cases e
    · injection e with e1 e2 e3
      injection e1 with e1
      injection e1 with e1
      subst e1 e3
      exact ⟨_, by rw [hW1]; exact setCells_blk _ _ _ _ (Blk.drew hh), by rw [lay_size', hcs]; omega⟩
  obtain ⟨cur, hB, hcz⟩ := hB
  have hcl : ∀ ty, (Builtin.clear_ #[24] ty #[.slice (some ⟨g, k + (n - (k + 1)), none⟩) (n - (k + (n - (k + 1)))) (cap - (k + (n - (k + 1))))]).run Tryz.prog W1 = .ok (.tuple #[]) (W1.setCells g (k + (n - (k + 1))) (List.replicate (n - (k + (n - (k + 1)))) (.slice none 0 0))) :=
    fun ty => Lib.run_clear_slice W1 _ _ ty _ Tryz.underlying24 zero_ints rfl rfl g (k + (n - (k + 1))) _ _ (by omega) (fun t ht => by rw [hB.cell, Array.getElem?_eq_getElem (by omega)]; rfl) (fun t ht => hB.frozen _)
  have hfin : Hid (LX (W1.setCells g (k + (n - (k + 1))) (List.replicate (n - (k + (n - (k + 1)))) (.slice none 0 0))) base (.slice (some ⟨g, 0, none⟩) (n - 1) cap) (ll.eraseIdx k) (xs.eraseIdx k) ∧ w.grownBy (W1.setCells g (k + (n - (k + 1))) (List.replicate (n - (k + (n - (k + 1)))) (.slice none 0 0))) (some g)) := by
    refine lx_deleted h hk hnl (z := .slice none 0 0) ?_
    rw [hW1, hnews, show k + (n - (k + 1)) = n - 1 by omega, show n - (n - 1) = 1 by omega]
    simp
  have hkc : k ≤ cap := by omega
  have hkc1 : k + 1 ≤ cap := by omega
  have hk1 : k + 1 ≤ n := hk
  have hb0 : (k : Int) ≤ (k : Int) + 1 := by omega
  have hb1 : (0 : Int) ≤ (k : Int) + 1 := by omega
  have hb2 : (k : Int) + 1 ≤ (n : Int) := by omega
  have hb3 : (k : Int) ≤ (n : Int) := by omega
  have hb4 : (k : Int) + 1 ≤ (cap : Int) := by omega
  have hb5 : (n : Int) ≤ (cap : Int) := by omega
  clear hW1 h hcellN hnews hlen hB hnl hxl
  go_enter Tryz.func87, Tryz.ntmps87
  go_wp2_with fail
  go_region_law (refine step_append_room rfl (.tmp 22) (.tmp 25) 24 rfl 25 i 1 Tryz.underlying24 hi hz1 g 0 k cap (by simp [Act.eval, Act.put]) A (n - (k + 1)) (cap - (k + 1)) news (by simp [Act.eval, Act.put]) s1.out hsrc.out s2.out (by omega) s3.out ?_; rw [← hW.out])
  go_wp2_with fail
  go_ret
  exact ⟨by rw [show n - 1 = k + (n - (k + 1)) by omega]; rfl, hfin.out.1, hfin.out.2⟩
theorem LX.capMax {w : World} {base g n cap : Nat} {ll : List (List Int)} {xs : List Value} (h : LX w base (.slice (some ⟨g, 0, none⟩) n cap) ll xs) : cap ≤ maxLen := by
  rcases h.1.2 with ⟨e, hz⟩ | ⟨g', cap', cur, e, hb, hh, hn, hm, hcs, ht⟩
  · cases e
  · injection e with e1 e2 e3
    subst e3
    exact hm
set_option maxHeartbeats 6400000 in
set_option maxRecDepth 20000 in
theorem implLoseWorker_any (pv v : Value) (plan : List Node) (c : Crew) (wk : Int) (w : World) (hp : RN w pv plan) (h : CV w v c) (hfit : ∀ d ∈ c.deques, d.length ≤ 1048576) :
    Calls Tryz.prog 42 #[pv, v, .int .i64 wk] w (TurnOut w (loseWorker plan c wk)) := by
  obtain ⟨A, n, cp, rfl, -, hn, -⟩ := hp.form'
  obtain ⟨A1, n1, c1, A2, n2, c2, A3, n3, c3, A4, n4, c4, rfl, h1, -, -, -⟩ := h.form
  have B0 := Begun.start h
  have hn1 := h1.len
  have Hn1 := Lib.hid hn1
  have Hfit := Lib.hid hfit
  have Hcv := Lib.hid h
  clear hn hn1 h1 h hfit
  by_cases hv : crewValid plan c = true
  · have Hv := Lib.hid hv
    have hn10 : n1 ≤ 10 := by have := (crewValid_iff.1 hv).d4; have := Hn1.out; omega
    by_cases hin : isWorker c wk = true
    · have Hin := Lib.hid hin
      have hin2 := isWorker_iff.1 hin
      obtain ⟨k, rfl⟩ := Int.eq_ofNat_of_zero_le hin2.1
      have hk : k < n1 := by have := Hn1.out; omega
      by_cases hone : n1 = 1
      · have hb : ((n1 : Int) == 1) = true := by simp [hone]
        have Hr : Hid (loseWorker plan c (k : Int) = none) := lose_one (by rw [← Hn1.out]; exact hone)
        clear hv hin hin2 hone
        go_enter Tryz.func42, Tryz.ntmps42
        go_upto_region 1 with fail
        generalize ((w.alloc (.cells #[.slice A1 n1 c1, .slice A2 n2 c2, .slice A3 n3 c3, .slice A4 n4 c4] 27)).alloc (.cells #[.slice none 0 0, .slice none 0 0, .slice none 0 0, .slice none 0 0] 27)) = W at B0 ⊢
        have d0 := B0.b.d0
        have d1 := B0.b.d1
        have d2 := B0.b.d2
        have d3 := B0.b.d3
        go_wp2_with fail
        refine (implCrewValid_b _ _ plan c W (hp.new B0.g) B0.b.cv Hfit.out Hv.out).mono ?_
        rintro e w1 ⟨rfl, hg1⟩
        have B1 := B0.new hg1
        clear B0 hg1 d0 d1 d2 d3
        have d0 := B1.b.d0
        have d1 := B1.b.d1
        have d2 := B1.b.d2
        have d3 := B1.b.d3
        go_wp2_with fail
        refine (implIsWorker_b _ c _ w1 B1.b.cv Hin.out).mono ?_
        rintro e w2 ⟨rfl, hg1'⟩
        replace B1 := B1.new hg1'
        clear hg1' d0 d1 d2 d3
        have d0 := B1.b.d0
        have y0 := B1.res.cell 0
        have y1 := B1.res.cell 1
        have y2 := B1.res.cell 2
        have y3 := B1.res.cell 3
        have f0 := B1.res.frozen 0
        have f1 := B1.res.frozen 1
        have f2 := B1.res.frozen 2
        have f3 := B1.res.frozen 3
        have hfin := Lib.hid (turnFail B1.g)
        clear B1
        go_wp2_with fail
        refine bodyPost_ret (v := .tuple #[.agg #[.slice none 0 0, .slice none 0 0, .slice none 0 0, .slice none 0 0], .bool false]) (by simp [results, Tryz.results42, go_sem, y0, y1, y2, y3]) rfl ?_
        rw [Hr.out]
        exact hfin.out
      · have hb : ((n1 : Int) == 1) = false := by simp; omega
        have hkD : k < c.deques.length := by rw [← Hn1.out]; exact hk
        obtain ⟨t, ht⟩ : ∃ t, t = (k + 1) % n1 := ⟨_, rfl⟩
        have htn : t < n1 := by rw [ht]; exact Nat.mod_lt _ (by omega)
        have htD : t < c.deques.length := by rw [← Hn1.out]; exact htn
        have hmod : ((k : Int) + 1).tmod (n1 : Int) = (t : Int) := by rw [ht]; rfl
        have hn0 : ¬ ((n1 : Int) = 0) := by omega
        have Heq : Hid (loseWorker plan c (k : Int) = some { c with deques := (c.deques.set t (c.deques.getD k [] ++ c.deques.getD t [])).eraseIdx k }) := by show _ = _; rw [lose_eq hv hkD (by rw [← Hn1.out]; exact hone), ← Hn1.out, ht]
        have HH := Lib.hid (crewValid_iff.1 hv)
        clear hv hin hin2 hone ht
        go_enter Tryz.func42, Tryz.ntmps42
        go_upto_region 1 with fail
        generalize ((w.alloc (.cells #[.slice A1 n1 c1, .slice A2 n2 c2, .slice A3 n3 c3, .slice A4 n4 c4] 27)).alloc (.cells #[.slice none 0 0, .slice none 0 0, .slice none 0 0, .slice none 0 0] 27)) = W at B0 ⊢
        have d0 := B0.b.d0
        have d1 := B0.b.d1
        have d2 := B0.b.d2
        have d3 := B0.b.d3
        go_wp2_with fail
        refine (implCrewValid_b _ _ plan c W (hp.new B0.g) B0.b.cv Hfit.out Hv.out).mono ?_
        rintro e w1 ⟨rfl, hg1⟩
        have B1 := B0.new hg1
        clear B0 hg1 d0 d1 d2 d3
        have d0 := B1.b.d0
        have d1 := B1.b.d1
        have d2 := B1.b.d2
        have d3 := B1.b.d3
        go_wp2_with fail
        refine (implIsWorker_b _ c _ w1 B1.b.cv Hin.out).mono ?_
        rintro e w2 ⟨rfl, hg1'⟩
        replace B1 := B1.new hg1'
        clear hg1' d0 d1 d2 d3
        have d0 := B1.b.d0
        have d1 := B1.b.d1
        have d2 := B1.b.d2
        have d3 := B1.b.d3
        go_wp2_with fail
        refine (implCopyCrew_any _ c w2 B1.b.cv ⟨by have := HH.out.d4; omega, fun l hl => by have := deque_len HH.out l hl; omega⟩ ⟨by have := HH.out.rl; have := planValid_len HH.out.pv; omega, fun l hl => by have := row_len HH.out l hl; omega⟩ (by have := HH.out.counts; rw [this, lefts_len]; have := planValid_len HH.out.pv; omega) (by have := done_le HH.out; have := planValid_len HH.out.pv; omega)).mono ?_
        rintro e w3 ⟨v3, rfl, ⟨dv, kv, ov, rv, xs, ys, rfl, q1, q2, q3, q4, q5, q6⟩, hg3⟩
        have B3 := B1.new hg3
        have hs2 : w.heap.size ≤ w2.heap.size := B1.g.size
        obtain ⟨gd, capd, rfl, hcd, hbd⟩ := q1.form Hn1.out.symm (by omega)
        obtain ⟨Ar, nr, cr, rfl⟩ := q4.rl.val
        obtain ⟨Ak, nk, ck, rfl⟩ := q2.val
        obtain ⟨Ao, no, co, rfl⟩ := q3.ri.val
        clear d0 d1 d2 d3 B1 hg3
        have hRX : w.heap.size + 1 < w3.heap.size := B3.res.lt
        have hO := BoxO.lay (k := .slice Ak nk ck) (q1.low hs2) (q3.lower hs2) (q4.low hs2) q5 q6
        have hgX := World.grownBy_alloc w3 (.cells #[.slice (some ⟨gd, 0, none⟩) n1 capd, .slice Ak nk ck, .slice Ao no co, .slice Ar nr cr] 27) none
        have q2' := q2.new hgX
        have B4 := B3.new hgX
        have b0 := B4.b.d0
        go_upto_region 5 with fail
        generalize w3.alloc (.cells #[.slice (some ⟨gd, 0, none⟩) n1 capd, .slice Ak nk ck, .slice Ao no co, .slice Ar nr cr] 27) = w4 at hO hgX q2' B4 b0 ⊢
        generalize w3.heap.size = X at hO hRX ⊢
        clear q1 q2 q3 q4 q5 q6 hgX B3
        obtain ⟨gb, ob, lk, Bk, mk, ek, rfl, hlk, qk, hrk, -, -, -⟩ := B4.b.dq.at_ hk
        obtain ⟨gb', ob', lt, Bt, mt, et, e2, hlt, qt, hrt, -, -, -⟩ := B4.b.dq.at_ htn
        injection e2 with e2
        injection e2 with e2 e3
        subst e2 e3
        have hlk10 : lk.length ≤ 10 := deque_len HH.out lk (List.mem_of_getElem? hlk)
        have hlt10 : lt.length ≤ 10 := deque_len HH.out lt (List.mem_of_getElem? hlt)
        have Hgk : Hid (c.deques.getD k [] = lk) := by show _ = _; rw [List.getD_eq_getElem?_getD, hlk]; rfl
        have Hgt : Hid (c.deques.getD t [] = lt) := by show _ = _; rw [List.getD_eq_getElem?_getD, hlt]; rfl
        clear hlk hlt
        have x0 := hO.x.cell 0
        have hki : (k : Int) < (n1 : Int) := by omega
        have hti : (t : Int) < (n1 : Int) := by omega
        have hgb : gb < w4.heap.size := by simpa using cell_lt qk
        have hbB : w.heap.size < w4.heap.size := B4.b.b.lt
        have hXl : X < w4.heap.size := hO.x.lt
        go_cut [] (fun wx => ∃ xs', BoxO wx w.heap.size X (.slice (some ⟨gd, 0, none⟩) n1 capd) (.slice Ak nk ck) (.slice Ao no co) (.slice Ar nr cr) (c.deques.set t (lk ++ lt)) c.done c.rows xs' ys ∧ RI wx (.slice Ak nk ck) c.counts ∧ Begun w wx (.slice (some ⟨gb, ob, none⟩) n1 c1) (.slice A2 n2 c2) (.slice A3 n3 c3) (.slice A4 n4 c4) c)
        case first =>
          have hgE : w4.grownBy w4.drew none := gb_drew (gb_refl w4 none)
          have hrE : RI w4.drew (.slice Bk mk ek) lk := hrk.new hgE
          have hlen : lk.length ≤ 1000000000 := by omega
          have hlen2 : lk.length + lt.length ≤ 1000000000 := by omega
          have hws : w.heap.size ≤ w4.heap.size := B4.g.size
          have hgbw : gb < w.heap.size := by
            obtain ⟨g', o', l', B', m', e', e3, _, q', _⟩ := (Hcv.out.form').at_ hk
            injection e3 with e3
            injection e3 with e3
            subst e3
            simpa using cell_lt q'
          have hgdw : w.heap.size ≤ gd := (hO.dq.lt gd rfl).1
          have hne1 : w.heap.size ≠ gd := fun e => B4.b.b.ne_ hO.dqB.choose_spec (by decide) e
          have hne2 : gb ≠ gd := by omega
          have hne3 : X ≠ gd := fun e => hO.x.ne_ hO.dqB.choose_spec (by decide) e
          clear hgbw hgdw
          go_region_held3 (fun w' => w'.cell? ⟨w.heap.size, 0, none⟩ = some (.slice (some ⟨gb, ob, none⟩) n1 c1) ∧ w'.cell? ⟨gb, ob + k, none⟩ = some (.slice Bk mk ek) ∧ w'.cell? ⟨gb, ob + t, none⟩ = some (.slice Bt mt et) ∧ w'.cell? ⟨X, 0, none⟩ = some (.slice (some ⟨gd, 0, none⟩) n1 capd)) (go_keep) (first
            | (go_at_call 86; refine (copyInts_any _ lk _ (by exact hrE) hlen).mono ?_; rintro e w5 ⟨v5, rfl, hown5', hg5⟩; have hg5' := gb_trans hgE hg5; have b05 := cell_new b0 hg5'; have qk5 := cell_new qk hg5'; have qt5 := cell_new qt hg5'; have x05 := cell_new x0 hg5'; have hrt5 := hrt.new hg5'; obtain ⟨A5, n5, c5, rfl⟩ := hown5'.ri.val)
            | (refine step_extend_ints (w := w5) (base := w4.heap.size) (v := .slice A5 n5 c5) (xv := .slice Bt mt et) (l0 := lk) (l := lt) (.tmp 43) (.tmp 48) rfl rfl hown5' hrt5 hlen2 hg5'.size rfl rfl ?_; intro v6 w6 hown6 hg6; have hg6' := hown5'.gb hg5' hg6 (Nat.le_refl _); have b06 := cell_new b0 hg6'; have qk6 := cell_new qk hg6'; have qt6 := cell_new qt hg6'; have x06 := cell_new x0 hg6'; have hO6 := hO.new hg6'; have hC6 := q2'.new hg6'; have B6 := B4.new hg6'; obtain ⟨⟨u0, cR, fR⟩, hst7, hE7, hbd7, hO7, hC7⟩ := hO6.setDeq2 htD (hown6.lower hws) hC6 (fun u hu g hg => (hO.lts u hu g hg).2) (fun g hg => (hown6.lt g hg).1); obtain ⟨A6, n6, c6, rfl⟩ := hown6.ri.val; have b07 := hst7.cell (by exact b06) (fun e => hne1 (by injection e)); have qk7 := hst7.cell (by exact qk6) (fun e => hne2 (by injection e)); have qt7 := hst7.cell (by exact qt6) (fun e => hne2 (by injection e)); have x07 := hst7.cell (by exact x06) (fun e => hne3 (by injection e))))
          all_goals
            go_wp2_with fail
            go_meet
            exact ⟨_, hO7, hC7, B6.past hst7 (hE7 _ (by decide)) hbd7 Hcv.out⟩
        case rest =>
          obtain ⟨xs', hO7, hC7, B7⟩ := hcut
          have x0 := hO7.x.cell 0
          have hk1 : k + 1 ≤ n1 := hk
          have hcapd : n1 ≤ capd := hcd
          have hw1 : IntKind.i64.wrap ((k : Int) + 1) = ((k + 1 : Nat) : Int) := by rw [IntWalk.i64_in _ (by omega)]; rfl
          have hb1 : (0 : Int) ≤ (k : Int) + 1 := by omega
          have hb2 : (k : Int) + 1 ≤ (n1 : Int) := by omega
          have hb3 : (k : Int) ≤ (n1 : Int) := by omega
          have hb4 : (k : Int) + 1 ≤ (capd : Int) := by omega
          have hkc : k ≤ capd := by omega
          have hk1c : k + 1 ≤ capd := by omega
          have hlL : n1 = (c.deques.set t (lk ++ lt)).length := by rw [List.length_set]; exact Hn1.out
          have hlb : (c.deques.set t (lk ++ lt)).length ≤ 1000000 := by rw [← hlL]; have := HH.out.d4; have := Hn1.out; omega
          have hcm : capd ≤ maxLen := hO7.dq.capMax
          have HlL := Lib.hid hlL
          have hEd : NotE wc 27 (some gd) := hO7.dq.notE (by decide)
          have hId : NotE wc 3 (some gd) := hO7.dq.notE (by decide)
          have hXR : X ≠ w.heap.size + 1 := by omega
          clear hlL
          go_wp2_with fail
          refine (implDelete_any (k := k) hO7.dq hk HlL.out hcapd hcm).mono ?_
          rintro e w9 ⟨rfl, hown9, hg9⟩
          obtain ⟨A9, n9, c9, e9⟩ : ∃ A9 n9 c9, (Value.slice (some ⟨gd, 0, none⟩) (n1 - 1) capd) = .slice A9 n9 c9 := ⟨_, _, _, rfl⟩
          rw [e9] at hown9
          rw [e9]
          clear e9
          have hx9 := hO7.x.past hg9 hEd
          have x09 := hx9.cell 0
          have f09 := hx9.frozen 0
          have hC9 := hC7.grown hg9 hId
          have hN9 := hO7.dn.grown hg9 hId
          have hR9 := hO7.ro.far hg9 hId (hO7.dr gd rfl)
          have hres9 := B7.res.past hg9 hEd
          have g9 := gb_new B7.g hg9 (fun g e => by cases e; exact .inl (hO7.dq.lt gd rfl).1)
          clear x0
          go_upto_region 7 with fail
          have hst9 : w9.grownBy (w9.setCell ⟨X, 0, none⟩ (.slice A9 n9 c9)) (some X) := gb_set (p := ⟨X, 0, none⟩) (gb_refl w9 (some X)) (.inr rfl) _
          have hxI : NotE w9 3 (some X) := NotE.blk hx9 (by decide)
          have hxL : NotE w9 25 (some X) := NotE.blk hx9 (by decide)
          have hx10 := hx9.set_ 0 (.slice A9 n9 c9)
          have g10 := gb_new g9 hst9 (fun g e => by cases e; exact .inl (by omega))
          have hres10 := hres9.grown hst9 (by simp; omega)
          have hcv10 : CV (w9.setCell ⟨X, 0, none⟩ (.slice A9 n9 c9)) (.agg #[.slice A9 n9 c9, .slice Ak nk ck, .slice Ao no co, .slice Ar nr cr]) { c with deques := (c.deques.set t (lk ++ lt)).eraseIdx k } :=
            ⟨_, _, _, _, rfl, (hown9.grown hst9 hxI hxL).rl, hC9.grown hst9 hxI, (hN9.grown hst9 hxI).ri, (hR9.grown hst9 hxI hxL).rl⟩
          clear hown9 hC9 hN9 hR9 hres9 hx9 hst9 hxI hxL hg9 g9 x09 f09
          generalize w9.setCell ⟨X, 0, none⟩ (.slice A9 n9 c9) = w10 at hx10 g10 hres10 hcv10 ⊢
          have z0 := hx10.cell 0
          have z1 := hx10.cell 1
          have z2 := hx10.cell 2
          have z3 := hx10.cell 3
          have y0 := hres10.cell 0
          have y1 := hres10.cell 1
          have y2 := hres10.cell 2
          have y3 := hres10.cell 3
          have f0 := hres10.frozen 0
          have f1 := hres10.frozen 1
          have f2 := hres10.frozen 2
          have f3 := hres10.frozen 3
          have hfin := Lib.hid (turnGive g10 hres10 hcv10)
          clear hx10 g10 hres10 hcv10 hO7 hC7 B7
          go_wp2_with fail
          refine bodyPost_ret (v := .tuple #[.agg #[.slice A9 n9 c9, .slice Ak nk ck, .slice Ao no co, .slice Ar nr cr], .bool true]) (by simp [results, Tryz.results42, go_sem, y0, y1, y2, y3]) rfl ?_
          rw [Heq.out, Hgk.out, Hgt.out]
          exact hfin.out
    · have hin' : isWorker c wk = false := by simpa using hin
      have Hin := Lib.hid hin'
      have Hr : Hid (loseWorker plan c wk = none) := lose_out hin'
      clear hv hin hin'
      go_enter Tryz.func42, Tryz.ntmps42
      go_upto_region 1 with fail
      generalize ((w.alloc (.cells #[.slice A1 n1 c1, .slice A2 n2 c2, .slice A3 n3 c3, .slice A4 n4 c4] 27)).alloc (.cells #[.slice none 0 0, .slice none 0 0, .slice none 0 0, .slice none 0 0] 27)) = W at B0 ⊢
      have d0 := B0.b.d0
      have d1 := B0.b.d1
      have d2 := B0.b.d2
      have d3 := B0.b.d3
      go_wp2_with fail
      refine (implCrewValid_b _ _ plan c W (hp.new B0.g) B0.b.cv Hfit.out Hv.out).mono ?_
      rintro e w1 ⟨rfl, hg1⟩
      have B1 := B0.new hg1
      clear B0 hg1 d0 d1 d2 d3
      have d0 := B1.b.d0
      have d0 := B1.b.d0
      have d1 := B1.b.d1
      have d2 := B1.b.d2
      have d3 := B1.b.d3
      go_wp2_with fail
      refine (implIsWorker_b _ c _ w1 B1.b.cv Hin.out).mono ?_
      rintro e w2 ⟨rfl, hg1'⟩
      replace B1 := B1.new hg1'
      clear hg1' d0 d1 d2 d3
      have y0 := B1.res.cell 0
      have y1 := B1.res.cell 1
      have y2 := B1.res.cell 2
      have y3 := B1.res.cell 3
      have f0 := B1.res.frozen 0
      have f1 := B1.res.frozen 1
      have f2 := B1.res.frozen 2
      have f3 := B1.res.frozen 3
      have hfin := Lib.hid (turnFail B1.g)
      clear B1
      go_wp2_with fail
      refine bodyPost_ret (v := .tuple #[.agg #[.slice none 0 0, .slice none 0 0, .slice none 0 0, .slice none 0 0], .bool false]) (by simp [results, Tryz.results42, go_sem, y0, y1, y2, y3]) rfl ?_
      rw [Hr.out]
      exact hfin.out
  · have hv' : crewValid plan c = false := by simpa using hv
    have Hv := Lib.hid hv'
    have Hr : Hid (loseWorker plan c wk = none) := lose_bad hv'
    clear hv hv'
    go_enter Tryz.func42, Tryz.ntmps42
    go_upto_region 1 with fail
    generalize ((w.alloc (.cells #[.slice A1 n1 c1, .slice A2 n2 c2, .slice A3 n3 c3, .slice A4 n4 c4] 27)).alloc (.cells #[.slice none 0 0, .slice none 0 0, .slice none 0 0, .slice none 0 0] 27)) = W at B0 ⊢
    have d0 := B0.b.d0
    have d1 := B0.b.d1
    have d2 := B0.b.d2
    have d3 := B0.b.d3
    go_wp2_with fail
    refine (implCrewValid_b _ _ plan c W (hp.new B0.g) B0.b.cv Hfit.out Hv.out).mono ?_
    rintro e w1 ⟨rfl, hg1⟩
    have B1 := B0.new hg1
    clear B0 hg1 d0 d1 d2 d3
    have y0 := B1.res.cell 0
    have y1 := B1.res.cell 1
    have y2 := B1.res.cell 2
    have y3 := B1.res.cell 3
    have f0 := B1.res.frozen 0
    have f1 := B1.res.frozen 1
    have f2 := B1.res.frozen 2
    have f3 := B1.res.frozen 3
    have hfin := Lib.hid (turnFail B1.g)
    clear B1
    go_wp2_with fail
    refine bodyPost_ret (v := .tuple #[.agg #[.slice none 0 0, .slice none 0 0, .slice none 0 0, .slice none 0 0], .bool false]) (by simp [results, Tryz.results42, go_sem, y0, y1, y2, y3]) rfl ?_
    rw [Hr.out]
    exact hfin.out
end Go.Proofs.YtihobnheficpjaaGreatDoor
