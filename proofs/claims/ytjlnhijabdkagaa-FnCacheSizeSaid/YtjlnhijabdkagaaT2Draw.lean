/- Walks: the drawers of caches. · Walks: the drawers of caches, further. -/
import Derived.Test.YtjlnhijabdkagaaS9Run
import Derived.Test.YtjlnhijabdkagaaI1Costs
namespace Go.Proofs.Ytjlnhijabdkagaa
open Go.RowKit

def CallPost (B0 rb : Nat) (w : World) (p : Int) (e : Ending) (w' : World) : Prop :=
  ∃ (kind : Int) (rv : Value) (rows : List (List Int)), e = .returned (.tuple #[.int .i64 kind, rv]) ∧ 1 ≤ kind ∧ kind ≤ 5 ∧ RL w' rv rows ∧ ∃ p', p ≤ p' ∧ p' ≤ p + 10 ∧ Rdr B0 w' rb p' ∧ w.grownBy w' (some rb)
set_option maxHeartbeats 800000 in
set_option maxRecDepth 20000 in
theorem l92Call_any (B0 rb : Nat) (p : Int) (w : World) (h : Rdr B0 w rb p) (hp0 : 0 ≤ p) (hp : p ≤ 900000) :
    Calls Try.prog 116 #[.pointer (some ⟨rb, 0, none⟩)] w (CallPost B0 rb w p) := by
  have hB : B0 ≤ w.heap.size := by obtain ⟨_, _, _, _, _, h4, _⟩ := h; exact h4
  go_enter Try.func116, Try.ntmps116
  go_wp2_with fail
  refine (pick_any B0 rb p _ _ h (by omega) (by omega)).mono ?_
  rintro e w1 ⟨r1, rfl, hr1, _, hrd1, hg1⟩
  have h1 := hr1 (by omega)
  obtain ⟨kind, hk⟩ : ∃ k, k = 1 + r1 := ⟨_, rfl⟩
  have hw : IntKind.i64.wrap (1 + r1) = kind := by rw [← hk]; exact IntWalk.i64_in _ (by omega)
  have hk1 : 1 ≤ kind := by omega
  have hk5 : kind ≤ 5 := by omega
  clear hk hr1 h1
  have ho0 := OwnL.empty w1 hg1.size
  have hrd0 := hrd1.new (World.grownBy_alloc w1 (.cells #[] 27) none)
  have hg0 := gb_alloc hg1 (.cells #[] 27)
  obtain ⟨m, hm⟩ : ∃ m, m = kindNeeds kind := ⟨_, rfl⟩
  have hmb := kindNeeds_le kind
  rw [← hm] at hmb
  have Hm := Lib.hid hm
  clear hm
  go_wp2_with fail
  go_loopg [5, 6] (m.toNat + 1) (fun mm o i wr => ∃ (k : Nat) (rows : List (List Int)) (q : Int), k ≤ m.toNat ∧ mm = m.toNat + 1 - k ∧ i = .int .i64 k ∧ OwnL wr w.heap.size o rows ∧ rows.length = k ∧ p ≤ q ∧ q ≤ p + 1 + k ∧ Rdr B0 wr rb q ∧ w.grownBy wr (some rb))
  case atStart => exact ⟨0, [], p + 1, Nat.zero_le _, rfl, rfl, ho0, rfl, by omega, by omega, hrd0, hg0⟩
  case round =>
    clear ho0 hrd0 hg0 hw
    obtain ⟨k, rows, q, hk, rfl, rfl, ho, hl, hq1, hq2, hrd, hg⟩ := hrel
    have hl20 : rows.length ≤ 20 := by omega
    have Hl := Lib.hid hl
    clear hl
    obtain ⟨Ao, no, co, rfl⟩ := ho.rl.val
    by_cases hlt : (k : Int) < m
    · have R1 : RI (wr.alloc (.cells #[.int .i64 1, .int .i64 2] 3)) (.slice (some ⟨wr.heap.size, 0, none⟩) 2 2) [1, 2] := RI.lit wr [1, 2]
      have R2 : RI ((wr.alloc (.cells #[.int .i64 1, .int .i64 2] 3)).alloc (.cells #[.int .i64 3, .int .i64 1] 3)) (.slice (some ⟨wr.heap.size + 1, 0, none⟩) 2 2) [3, 1] := by
        have := RI.lit (wr.alloc (.cells #[.int .i64 1, .int .i64 2] 3)) [3, 1]
        rw [World.size_alloc] at this
        exact this
      have R3 : RI (((wr.alloc (.cells #[.int .i64 1, .int .i64 2] 3)).alloc (.cells #[.int .i64 3, .int .i64 1] 3)).alloc (.cells #[.int .i64 2, .int .i64 2] 3)) (.slice (some ⟨wr.heap.size + 1 + 1, 0, none⟩) 2 2) [2, 2] := by
        have := RI.lit ((wr.alloc (.cells #[.int .i64 1, .int .i64 2] 3)).alloc (.cells #[.int .i64 3, .int .i64 1] 3)) [2, 2]
        rw [World.size_alloc, World.size_alloc] at this
        exact this
      have hgX : wr.grownBy ((((wr.alloc (.cells #[.int .i64 1, .int .i64 2] 3)).alloc (.cells #[.int .i64 3, .int .i64 1] 3)).alloc (.cells #[.int .i64 2, .int .i64 2] 3)).alloc (.cells #[.slice (some ⟨wr.heap.size, 0, none⟩) 2 2, .slice (some ⟨wr.heap.size + 1, 0, none⟩) 2 2, .slice (some ⟨wr.heap.size + 1 + 1, 0, none⟩) 2 2] 27)) none := gb_alloc (gb_alloc (gb_alloc (World.grownBy_alloc wr _ none) _) _) _
      have BX : Blk ((((wr.alloc (.cells #[.int .i64 1, .int .i64 2] 3)).alloc (.cells #[.int .i64 3, .int .i64 1] 3)).alloc (.cells #[.int .i64 2, .int .i64 2] 3)).alloc (.cells #[.slice (some ⟨wr.heap.size, 0, none⟩) 2 2, .slice (some ⟨wr.heap.size + 1, 0, none⟩) 2 2, .slice (some ⟨wr.heap.size + 1 + 1, 0, none⟩) 2 2] 27)) (wr.heap.size + 1 + 1 + 1) 27 #[.slice (some ⟨wr.heap.size, 0, none⟩) 2 2, .slice (some ⟨wr.heap.size + 1, 0, none⟩) 2 2, .slice (some ⟨wr.heap.size + 1 + 1, 0, none⟩) 2 2] := by
        have := Blk.new (((wr.alloc (.cells #[.int .i64 1, .int .i64 2] 3)).alloc (.cells #[.int .i64 3, .int .i64 1] 3)).alloc (.cells #[.int .i64 2, .int .i64 2] 3)) 27 #[.slice (some ⟨wr.heap.size, 0, none⟩) 2 2, .slice (some ⟨wr.heap.size + 1, 0, none⟩) 2 2, .slice (some ⟨wr.heap.size + 1 + 1, 0, none⟩) 2 2]
        rw [World.size_alloc, World.size_alloc, World.size_alloc] at this
        exact this
      have T1 := ((R1.alloc (.cells #[.int .i64 3, .int .i64 1] 3)).alloc (.cells #[.int .i64 2, .int .i64 2] 3)).alloc (.cells #[.slice (some ⟨wr.heap.size, 0, none⟩) 2 2, .slice (some ⟨wr.heap.size + 1, 0, none⟩) 2 2, .slice (some ⟨wr.heap.size + 1 + 1, 0, none⟩) 2 2] 27)
      have T2 := (R2.alloc (.cells #[.int .i64 2, .int .i64 2] 3)).alloc (.cells #[.slice (some ⟨wr.heap.size, 0, none⟩) 2 2, .slice (some ⟨wr.heap.size + 1, 0, none⟩) 2 2, .slice (some ⟨wr.heap.size + 1 + 1, 0, none⟩) 2 2] 27)
      have T3 := R3.alloc (.cells #[.slice (some ⟨wr.heap.size, 0, none⟩) 2 2, .slice (some ⟨wr.heap.size + 1, 0, none⟩) 2 2, .slice (some ⟨wr.heap.size + 1 + 1, 0, none⟩) 2 2] 27)
      clear R1 R2 R3
      have hlr := hrd.lt
      go_wp2_with fail
      refine (specKindNeeds_any _ _).mono ?_
      rw [← Hm.out]
      rintro e w2 ⟨rfl, rfl⟩
      go_wp2_with fail
      refine (pick_any B0 rb q _ _ (hrd.new hgX) (by omega) (by omega)).mono ?_
      rintro e w3 ⟨r3, rfl, hr3, _, hrd3, hg3⟩
      have h3 := hr3 (by omega)
      have B3 := BX.grown hg3 (by
        intro e
        cases e
        omega)
      have hnt : NotE _ 3 (some rb) := (hrd.new hgX).notE (by decide)
      obtain ⟨b, l, hcell, hri⟩ : ∃ (b : Nat) (l : List Int), w3.cell? ⟨wr.heap.size + 1 + 1 + 1, r3.toNat, none⟩ = some (.slice (some ⟨b, 0, none⟩) 2 2) ∧ RI w3 (.slice (some ⟨b, 0, none⟩) 2 2) l := by
        rcases (show r3 = 0 ∨ r3 = 1 ∨ r3 = 2 by omega) with rfl | rfl | rfl
        · exact ⟨_, _, B3.cell 0, T1.grown hg3 hnt⟩
        · exact ⟨_, _, B3.cell 1, T2.grown hg3 hnt⟩
        · exact ⟨_, _, B3.cell 2, T3.grown hg3 hnt⟩
      have hg03 : wr.grownBy w3 (some rb) := gb_new (gb_refl wr (some rb)) hgX (fun _ e => by cases e) |>.trans hg3
      have ho3 := ho.grown hg03 (hrd.notE (by decide)) (hrd.notE (by decide))
      have hsz := (gb_trans hg hg03).size
      clear T1 T2 T3 BX B3 hgX hg3 hr3 ho hrd
      go_wp2_with (at_builtin; go_must (refine wp_push_list (.tmp 17) (.tmp 26) rfl rfl ho3 hri (by omega) hsz rfl rfl ?_))
      intro v' w4 hown4 hg4
      have hrd4 : Rdr B0 w4 rb (q + 1) := by
        obtain ⟨xs, hx, _⟩ := ho3
        exact hrd3.own hx (by decide) hB hg4
      have hg5 : w.grownBy w4 (some rb) := ho3.gb (gb_trans hg hg03) hg4 (Nat.le_refl _)
      go_wp2_with fail
      go_roundg (m.toNat + 1 - (k + 1))
      case measure => omega
      case rel => exact ⟨k + 1, rows ++ [l], q + 1, by omega, rfl, by go_num, hown4, by simp [Hl.out], by omega, by omega, hrd4, hg5⟩
    · have hro := ho.rl
      go_wp2_with fail
      refine (specKindNeeds_any _ _).mono ?_
      rw [← Hm.out]
      rintro e w2 ⟨rfl, rfl⟩
      go_wp2_with fail
      go_ret2
      exact ⟨kind, _, rows, rfl, hk1, hk5, hro, q, by omega, by omega, hrd, hg⟩
end Go.Proofs.Ytjlnhijabdkagaa
namespace Go.Proofs.Ytjlnhijabdkagaa
open Go.RowKit

theorem run_len {es : List Ent} {k : Int} {rows : List (List Int)} {r : List Ent × List Int × Bool} (h : cacheRun es k rows = some r) : r.1.length ≤ 4 := valid_len (run_some h).2.2.2.2
def CachePost (B0 rb : Nat) (w : World) (p : Int) (e : Ending) (w' : World) : Prop :=
  ∃ (v : Value) (es : List Ent), e = .returned v ∧ OwnE w' w.heap.size v es ∧ es.length ≤ 4 ∧ ∃ p', p ≤ p' ∧ p' ≤ p + 70 ∧ Rdr B0 w' rb p' ∧ w.grownBy w' (some rb)
theorem OwnE.cell2 {w : World} {base g n cap k : Nat} {es : List Ent} {e : Ent} (h : OwnE w base (.slice (some ⟨g, 0, none⟩) n cap) es) (he : es[k]? = some e) : ∃ u, w.cell? ⟨g, k * 3 + 2, none⟩ = some u ∧ w.frozen? ⟨g, k * 3 + 2, none⟩ = false := by
  obtain ⟨xs, h1, h2⟩ := h
  have hk := (List.getElem?_eq_some_iff.1 he).1
  have hxl := h1.1
  rcases h1.2 with ⟨e0, hz⟩ | ⟨g', cap', cur, e0, hb, hh, hn, hm, hcs, ht⟩
  · cases e0
  · injection e0 with e1 e2 e3
    injection e1 with e1
    injection e1 with e1
    subst e1 e3
    have hB : Blk w g 62 cur := hh
    refine ⟨cur[k * 3 + 2]'(by rw [hcs]; omega), ?_, hB.frozen _⟩
    rw [hB.cell]
    exact Array.getElem?_eq_getElem (by rw [hcs]; omega)
set_option maxHeartbeats 1600000 in
set_option maxRecDepth 20000 in
theorem l92Cache_any (B0 rb : Nat) (p : Int) (w : World) (h : Rdr B0 w rb p) (hp0 : 0 ≤ p) (hp : p ≤ 800000) :
    Calls Try.prog 80 #[.pointer (some ⟨rb, 0, none⟩)] w (CachePost B0 rb w p) := by
  have hB : B0 ≤ w.heap.size := by obtain ⟨_, _, _, _, _, h4, _⟩ := h; exact h4
  have ho0 := OwnE.empty w (Nat.le_refl w.heap.size)
  have hrd0 := h.new (World.grownBy_alloc w (.cells #[] 62) none)
  have hg0 : w.grownBy (w.alloc (.cells #[] 62)) (some rb) := gb_alloc (gb_refl w _) _
  go_enter Try.func80, Try.ntmps80
  go_wp2_with fail
  refine (pick_any B0 rb p _ _ hrd0 (by omega) (by omega)).mono ?_
  rintro e w1 ⟨n, rfl, hn, _, hrd1, hg1⟩
  have hn6 := hn (by omega)
  have ho1 := ho0.grown hg1 (hrd0.notE (by decide)) (hrd0.notE (by decide)) (hrd0.notE (by decide))
  have hg2 := gb_trans hg0 hg1
  clear hn ho0 hrd0 hg0 hg1
  go_wp2_with fail
  go_loopg [3, 5] (n.toNat + 1) (fun mm o i wr => ∃ (k : Nat) (es : List Ent) (q : Int), k ≤ n.toNat ∧ mm = n.toNat + 1 - k ∧ i = .int .i64 k ∧ OwnE wr w.heap.size o es ∧ es.length ≤ 4 ∧ p ≤ q ∧ q ≤ p + 1 + 10 * k ∧ Rdr B0 wr rb q ∧ w.grownBy wr (some rb))
  case atStart => exact ⟨0, [], p + 1, Nat.zero_le _, rfl, rfl, ho1, by simp, by omega, by omega, hrd1, hg2⟩
  case round =>
    clear ho1 hrd1 hg2
    obtain ⟨k, es, q, hk, rfl, rfl, ho, hl4, hq1, hq2, hrd, hg⟩ := hrel
    obtain ⟨Ao, no, co, rfl⟩ := ho.re.val
    by_cases hlt : (k : Int) < n
    · go_wp2_with fail
      refine (l92Call_any B0 rb q _ hrd (by omega) (by omega)).mono ?_
      rintro e w2 ⟨kind, rv, rows, rfl, hk1, hk5, hrl, q', hq3, hq4, hrd2, hg2⟩
      have ho2 := ho.grown hg2 (hrd.notE (by decide)) (hrd.notE (by decide)) (hrd.notE (by decide))
      have hg3 := gb_trans hg hg2
      obtain ⟨Ar, nr, cr, rfl⟩ := hrl.val
      go_wp2_with fail
      refine (specCacheRun_any _ _ es kind rows _ ho2.re hrl).mono ?_
      rintro e w4 ⟨ov, uv, rfl, hoe, hui, hg4⟩
      have hrd4 := hrd2.new hg4
      have hg5 : w.grownBy w4 (some rb) := gb_new hg3 hg4 (fun _ e => by cases e)
      obtain ⟨A2, m2, d2, rfl⟩ := hui.ri.val
      cases hr : cacheRun es kind rows with
      | none =>
        have ho4 := ho2.new hg4
        rw [hr] at hoe
        obtain ⟨A1, m1, d1, rfl⟩ := hoe.re.val
        clear hr hoe hui
        go_wp2_with fail
        go_roundg (n.toNat + 1 - (k + 1))
        case measure => omega
        case rel => exact ⟨k + 1, es, q', by omega, rfl, by go_num, ho4, hl4, by omega, by omega, hrd4, hg5⟩
      | some r =>
        rw [hr] at hoe
        have hoe2 : OwnE w4 w.heap.size ov r.1 := OwnE.low hoe hg3.size
        have hl42 := run_len hr
        obtain ⟨A1, m1, d1, rfl⟩ := hoe2.re.val
        clear hr hoe hui
        go_wp2_with fail
        go_roundg (n.toNat + 1 - (k + 1))
        case measure => omega
        case rel => exact ⟨k + 1, r.1, q', by omega, rfl, by go_num, hoe2, hl42, by omega, by omega, hrd4, hg5⟩
    · have hno : no = es.length := ho.re.len
      by_cases h0 : 0 < no
      · have hno4 : no ≤ 4 := by omega
        have Hno := Lib.hid hno
        have Hl4 := Lib.hid hl4
        clear hno hl4
        go_wp2_with fail
        refine (pick_any B0 rb q _ _ hrd (by omega) (by omega)).mono ?_
        rintro e w2 ⟨r1, rfl, _, _, hrd2, hg2⟩
        have ho2 := ho.grown hg2 (hrd.notE (by decide)) (hrd.notE (by decide)) (hrd.notE (by decide))
        have hg3 := gb_trans hg hg2
        by_cases hr0 : r1 = 0
        · subst hr0
          go_wp2_with fail
          refine (pick_any B0 rb (q + 1) _ _ hrd2 (by omega) (by omega)).mono ?_
          rintro e w3 ⟨r2, rfl, hr2, _, hrd3, hg4⟩
          have hr2' := hr2 (by omega)
          have ho3 := (ho2.grown hg4 (hrd2.notE (by decide)) (hrd2.notE (by decide)) (hrd2.notE (by decide))).new (World.grownBy_alloc w3 (.cells #[.int .i64 1, .int .i64 2] 3) none)
          have hg5 := gb_alloc (gb_trans hg3 hg4) (.cells #[.int .i64 1, .int .i64 2] 3)
          have hrd5 := hrd3.new (World.grownBy_alloc w3 (.cells #[.int .i64 1, .int .i64 2] 3) none)
          have hri : RI (w3.alloc (.cells #[.int .i64 1, .int .i64 2] 3)) (.slice (some ⟨w3.heap.size, 0, none⟩) 2 2) [1, 2] := RI.lit w3 [1, 2]
          obtain ⟨j, hj⟩ := Int.eq_ofNat_of_zero_le hr2'.1
          subst hj
          have hjn : j < no := by omega
          obtain ⟨g, o, e, B1, p1, f1, B2, p2, f2, hA, he, -, -, -, -, -⟩ := ho3.re.at_ hjn
          subst hA
          have hoz : o = 0 := by
            obtain ⟨xs, h1, _⟩ := ho3
            rcases h1.2 with ⟨e0, _⟩ | ⟨g', cap', cur, e0, _⟩
            · cases e0
            · injection e0 with e1
              injection e1 with e1
              injection e1
          subst hoz
          obtain ⟨u, c2, z2⟩ := ho3.cell2 he
          have ho6 := ho3.set_out Hno.out.symm he hri
          have hlt6 := ho3.lt g rfl
          have hst : (w3.alloc (.cells #[.int .i64 1, .int .i64 2] 3)).grownBy ((w3.alloc (.cells #[.int .i64 1, .int .i64 2] 3)).setCell ⟨g, j * 3 + 2, none⟩ (.slice (some ⟨w3.heap.size, 0, none⟩) 2 2)) (some g) := gb_set (gb_refl _ (some g)) (.inr rfl) _
          have hrd6 := hrd5.kept hst (fun x e => by
            cases e
            refine ⟨Nat.le_trans hB hlt6.1, fun e => ?_⟩
            obtain ⟨bv, hb⟩ := hrd5.blk
            exact ho3.notE (E := 115) (by decide) g rfl _ (e ▸ hb))
          have hg6 := gb_new hg5 hst (fun x e => by cases e; exact .inl hlt6.1)
          clear hst ho3 hri hr2
          go_wp2_with fail
          go_ret
          exact ⟨_, _, rfl, ho6, by rw [List.length_set]; exact Hl4.out, q + 1 + 1, by omega, by omega, hrd6, hg6⟩
        · have hb1 : (r1 == 0) = false := by simpa using hr0
          go_wp2_with fail
          go_ret
          exact ⟨_, es, rfl, ho2, Hl4.out, q + 1, by omega, by omega, hrd2, hg3⟩
      · clear hno
        go_wp2_with fail
        go_ret
        exact ⟨_, es, rfl, ho, hl4, q, by omega, by omega, hrd, hg⟩
def AskPost (rb : Nat) (w : World) (e : Ending) (w' : World) : Prop :=
  ∃ (lv rv : Value) (kind : Int) (es : List Ent) (rows : List (List Int)), e = .returned (.tuple #[lv, .int .i64 kind, rv]) ∧ RE w' lv es ∧ es.length ≤ 4 ∧ RL w' rv rows ∧ w.grownBy w' (some rb)
set_option maxHeartbeats 800000 in
set_option maxRecDepth 20000 in
theorem l92Ask_any (B0 rb : Nat) (p : Int) (w : World) (h : Rdr B0 w rb p) (hp0 : 0 ≤ p) (hp : p ≤ 700000) :
    Calls Try.prog 90 #[.pointer (some ⟨rb, 0, none⟩)] w (AskPost rb w) := by
  have hB : B0 ≤ w.heap.size := by obtain ⟨_, _, _, _, _, h4, _⟩ := h; exact h4
  go_enter Try.func90, Try.ntmps90
  go_wp2_with fail
  refine (l92Cache_any B0 rb p _ h (by omega) (by omega)).mono ?_
  rintro e w1 ⟨v, es, rfl, ho, hl4, q, hq1, hq2, hrd, hg⟩
  have hre := ho.re
  obtain ⟨Ao, no, co, rfl⟩ := hre.val
  have hno : no = es.length := hre.len
  have hno4 : no ≤ 4 := by omega
  have Hno := Lib.hid hno
  have Hl4 := Lib.hid hl4
  clear hno hl4 ho
  have tail : Hid (∀ (w2 : World) (q2 : Int), Rdr B0 w2 rb q2 → w.grownBy w2 (some rb) → RE w2 (.slice Ao no co) es → True) := fun _ _ _ _ _ => trivial
  by_cases h0 : 0 < no
  · go_wp2_with fail
    refine (pick_any B0 rb q _ _ hrd (by omega) (by omega)).mono ?_
    rintro e w2 ⟨r1, rfl, _, _, hrd2, hg2⟩
    have hre2 := hre.grown hg2 (hrd.notE (by decide)) (hrd.notE (by decide)) (hrd.notE (by decide))
    have hg3 := gb_trans hg hg2
    by_cases hr0 : r1 = 0
    · subst hr0
      go_wp2_with fail
      refine (pick_any B0 rb (q + 1) _ _ hrd2 (by omega) (by omega)).mono ?_
      rintro e w3 ⟨r2, rfl, hr2, _, hrd3, hg4⟩
      have hr2' := hr2 (by omega)
      have hre3 := hre2.grown hg4 (hrd2.notE (by decide)) (hrd2.notE (by decide)) (hrd2.notE (by decide))
      have hg5 := gb_trans hg3 hg4
      obtain ⟨j, hj⟩ := Int.eq_ofNat_of_zero_le hr2'.1
      subst hj
      have hjn : j < no := by omega
      obtain ⟨g, o, e, B1, n1, c1, B2, n2, c2, rfl, he, d0, d1, d2, hrows, hout⟩ := hre3.at_ hjn
      have hre4 := hre3.alloc (.cells #[.int .i64 e.kind, .slice B1 n1 c1, .slice B2 n2 c2] 62)
      have hrows4 := hrows.alloc (.cells #[.int .i64 e.kind, .slice B1 n1 c1, .slice B2 n2 c2] 62)
      have hg6 := gb_alloc hg5 (.cells #[.int .i64 e.kind, .slice B1 n1 c1, .slice B2 n2 c2] 62)
      go_wp2_with fail
      go_quiet (fail)
      go_wp2_with fail
      refine bodyPost_ret (v := .tuple #[.slice (some ⟨g, o, none⟩) no co, .int .i64 e.kind, .slice B1 n1 c1]) (by simp [results, Try.results90, go_sem]) rfl ?_
      exact ⟨_, _, _, es, e.rows, rfl, hre4, Hl4.out, hrows4, gb_drewN hg6 _⟩
    · have hb1 : (r1 == 0) = false := by simpa using hr0
      go_wp2_with fail
      refine (l92Call_any B0 rb (q + 1) _ hrd2 (by omega) (by omega)).mono ?_
      rintro e w4 ⟨kind, rv, rows, rfl, hk1, hk5, hrl, q', hq3, hq4, hrd4, hg4⟩
      have hre4 := hre2.grown hg4 (hrd2.notE (by decide)) (hrd2.notE (by decide)) (hrd2.notE (by decide))
      have hg5 := gb_trans hg3 hg4
      obtain ⟨Ar, nr, cr, rfl⟩ := hrl.val
      go_wp2_with fail
      refine (pick_any B0 rb q' _ _ hrd4 (by omega) (by omega)).mono ?_
      rintro e w5 ⟨r5, rfl, _, _, hrd5, hg6⟩
      have hre5 := hre4.grown hg6 (hrd4.notE (by decide)) (hrd4.notE (by decide)) (hrd4.notE (by decide))
      have hrl5 := hrl.grown hg6 (hrd4.notE (by decide)) (hrd4.notE (by decide))
      have hg7 := gb_trans hg5 hg6
      by_cases hr5 : r5 = 0
      · subst hr5
        go_wp2_with fail
        refine (pick_any B0 rb (q' + 1) _ _ hrd5 (by omega) (by omega)).mono ?_
        rintro e w6 ⟨r6, rfl, _, _, hrd6, hg8⟩
        have hre6 := hre5.grown hg8 (hrd5.notE (by decide)) (hrd5.notE (by decide)) (hrd5.notE (by decide))
        have hrl6 := hrl5.grown hg8 (hrd5.notE (by decide)) (hrd5.notE (by decide))
        have hg9 := gb_trans hg7 hg8
        go_wp2_with fail
        refine bodyPost_ret (v := .tuple #[.slice Ao no co, .int .i64 r6, .slice Ar nr cr]) (by simp [results, Try.results90, go_sem]) rfl ?_
        exact ⟨_, _, _, es, rows, rfl, hre6, Hl4.out, hrl6, hg9⟩
      · have hb5 : (r5 == 0) = false := by simpa using hr5
        go_wp2_with fail
        refine bodyPost_ret (v := .tuple #[.slice Ao no co, .int .i64 kind, .slice Ar nr cr]) (by simp [results, Try.results90, go_sem]) rfl ?_
        exact ⟨_, _, _, es, rows, rfl, hre5, Hl4.out, hrl5, hg7⟩
  · go_wp2_with fail
    refine (l92Call_any B0 rb (q) _ hrd (by omega) (by omega)).mono ?_
    rintro e w4 ⟨kind, rv, rows, rfl, hk1, hk5, hrl, q', hq3, hq4, hrd4, hg4⟩
    have hre4 := hre.grown hg4 (hrd.notE (by decide)) (hrd.notE (by decide)) (hrd.notE (by decide))
    have hg5 := gb_trans hg hg4
    obtain ⟨Ar, nr, cr, rfl⟩ := hrl.val
    go_wp2_with fail
    refine (pick_any B0 rb q' _ _ hrd4 (by omega) (by omega)).mono ?_
    rintro e w5 ⟨r5, rfl, _, _, hrd5, hg6⟩
    have hre5 := hre4.grown hg6 (hrd4.notE (by decide)) (hrd4.notE (by decide)) (hrd4.notE (by decide))
    have hrl5 := hrl.grown hg6 (hrd4.notE (by decide)) (hrd4.notE (by decide))
    have hg7 := gb_trans hg5 hg6
    by_cases hr5 : r5 = 0
    · subst hr5
      go_wp2_with fail
      refine (pick_any B0 rb (q' + 1) _ _ hrd5 (by omega) (by omega)).mono ?_
      rintro e w6 ⟨r6, rfl, _, _, hrd6, hg8⟩
      have hre6 := hre5.grown hg8 (hrd5.notE (by decide)) (hrd5.notE (by decide)) (hrd5.notE (by decide))
      have hrl6 := hrl5.grown hg8 (hrd5.notE (by decide)) (hrd5.notE (by decide))
      have hg9 := gb_trans hg7 hg8
      go_wp2_with fail
      refine bodyPost_ret (v := .tuple #[.slice Ao no co, .int .i64 r6, .slice Ar nr cr]) (by simp [results, Try.results90, go_sem]) rfl ?_
      exact ⟨_, _, _, es, rows, rfl, hre6, Hl4.out, hrl6, hg9⟩
    · have hb5 : (r5 == 0) = false := by simpa using hr5
      go_wp2_with fail
      refine bodyPost_ret (v := .tuple #[.slice Ao no co, .int .i64 kind, .slice Ar nr cr]) (by simp [results, Try.results90, go_sem]) rfl ?_
      exact ⟨_, _, _, es, rows, rfl, hre5, Hl4.out, hrl5, hg7⟩
def DrawAsk (w : World) (e : Ending) (w' : World) : Prop :=
  ∃ (lv rv : Value) (kind : Int) (es : List Ent) (rows : List (List Int)), e = .returned (.tuple #[lv, .int .i64 kind, rv]) ∧ RE w' lv es ∧ es.length ≤ 4 ∧ RL w' rv rows ∧ w.grownBy w' none
theorem drawCacheFind_any (w : World) (v : Value) (n : Nat) (h : Bytes w w.heap.size v n) (hn : n ≤ 1048576) : Calls Try.prog 48 #[v] w (DrawAsk w) := by
  obtain ⟨A, c, rfl, h2⟩ := id h
  go_enter Try.func48, Try.ntmps48
  go_wp2_with fail
  refine (l6Open_any _ _ n (by exact h) hn).mono ?_
  rintro e w1 ⟨rb, rfl, hrd, hg⟩
  go_wp2_with fail
  refine (l92Ask_any w.heap.size rb 0 _ (by exact hrd) (by omega) (by omega)).mono ?_
  rintro e w2 ⟨lv, rv, kind, es, rows, rfl, hre, hl4, hrl, hg'⟩
  obtain ⟨A2, n2, c2, rfl⟩ := hre.val
  obtain ⟨A3, n3, c3, rfl⟩ := hrl.val
  go_wp2_with fail
  refine bodyPost_ret (v := .tuple #[.slice A2 n2 c2, .int .i64 kind, .slice A3 n3 c3]) (by simp [results, Try.results48, go_sem]) rfl ?_
  exact ⟨_, _, kind, es, rows, rfl, hre, hl4, hrl, gb_new hg hg' (fun g e => by cases e; exact .inl hrd.le)⟩
theorem drawCacheRun_any (w : World) (v : Value) (n : Nat) (h : Bytes w w.heap.size v n) (hn : n ≤ 1048576) : Calls Try.prog 56 #[v] w (DrawAsk w) := by
  obtain ⟨A, c, rfl, h2⟩ := id h
  go_enter Try.func56, Try.ntmps56
  go_wp2_with fail
  refine (l6Open_any _ _ n (by exact h) hn).mono ?_
  rintro e w1 ⟨rb, rfl, hrd, hg⟩
  go_wp2_with fail
  refine (l92Ask_any w.heap.size rb 0 _ (by exact hrd) (by omega) (by omega)).mono ?_
  rintro e w2 ⟨lv, rv, kind, es, rows, rfl, hre, hl4, hrl, hg'⟩
  obtain ⟨A2, n2, c2, rfl⟩ := hre.val
  obtain ⟨A3, n3, c3, rfl⟩ := hrl.val
  go_wp2_with fail
  refine bodyPost_ret (v := .tuple #[.slice A2 n2 c2, .int .i64 kind, .slice A3 n3 c3]) (by simp [results, Try.results56, go_sem]) rfl ?_
  exact ⟨_, _, kind, es, rows, rfl, hre, hl4, hrl, gb_new hg hg' (fun g e => by cases e; exact .inl hrd.le)⟩
def DrawCache (w : World) (e : Ending) (w' : World) : Prop := ∃ (lv : Value) (es : List Ent), e = .returned lv ∧ RE w' lv es ∧ es.length ≤ 5 ∧ w.grownBy w' none
set_option maxRecDepth 20000 in
theorem drawCacheValid_any (w : World) (v : Value) (n : Nat) (h : Bytes w w.heap.size v n) (hn : n ≤ 1048576) : Calls Try.prog 41 #[v] w (DrawCache w) := by
  obtain ⟨A, c, rfl, h2⟩ := id h
  go_enter Try.func41, Try.ntmps41
  go_wp2_with fail
  refine (l6Open_any _ _ n (by exact h) hn).mono ?_
  rintro e w1 ⟨rb, rfl, hrd, hg⟩
  go_wp2_with fail
  refine (l92Cache_any w.heap.size rb 0 _ (by exact hrd) (by omega) (by omega)).mono ?_
  rintro e w2 ⟨lv, es, rfl, ho, hl4, q, hq1, hq2, hrd2, hg'⟩
  have hg2 := gb_new hg hg' (fun g e => by cases e; exact .inl hrd.le)
  obtain ⟨Ao, no, co, rfl⟩ := ho.re.val
  have hno : no = es.length := ho.re.len
  have Hl4 := Lib.hid hl4
  by_cases h0 : 0 < no
  · have hno4 : no ≤ 4 := by omega
    have hl10 : es.length ≤ 1000000000 := by omega
    clear hno hl4
    go_wp2_with fail
    refine (pick_any w.heap.size rb q _ _ hrd2 (by omega) (by omega)).mono ?_
    rintro e w3 ⟨r1, rfl, _, _, hrd3, hg3⟩
    have ho3 := ho.grown hg3 (hrd2.notE (by decide)) (hrd2.notE (by decide)) (hrd2.notE (by decide))
    have hg4 := gb_new hg2 hg3 (fun g e => by cases e; exact .inl hrd2.le)
    by_cases hr0 : r1 = 0
    · subst hr0
      obtain ⟨g, o, e, B1, n1, c1, B2, n2, c2, rfl, he, d0, d1, d2, hrows, hout⟩ := ho3.re.at_ h0
      have d0 : w3.cell? ⟨g, o, none⟩ = some (.int .i64 e.kind) := by have := d0; simpa using this
      have d1 : w3.cell? ⟨g, o + 1, none⟩ = some (.slice B1 n1 c1) := by have := d1; simpa using this
      have d2 : w3.cell? ⟨g, o + 2, none⟩ = some (.slice B2 n2 c2) := by have := d2; simpa using this
      have hszb : w1.heap.size ≤ w3.heap.size := Nat.le_trans hg'.size hg3.size
      go_wp2_with (at_builtin; go_must (refine wp_push_ent (.tmp 17) (.tmp 21) rfl rfl ho3 hrows hout hl10 hszb rfl rfl ?_))
      intro v' w5 ho5 hg5
      obtain ⟨A5, n5, c5, rfl⟩ := ho5.re.val
      have hg6 := gb_new hg4 hg5 (fun x e => by
        have := ho3.lt x e
        exact .inl (Nat.le_trans hg.size this.1))
      go_wp2_with fail
      go_ret
      exact ⟨_, _, rfl, ho5.re, by rw [List.length_append]; have := Hl4.out; simp; omega, hg6⟩
    · have hb1 : (r1 == 0) = false := by simpa using hr0
      go_wp2_with fail
      go_ret
      exact ⟨_, es, rfl, ho3.re, by have := Hl4.out; omega, hg4⟩
  · clear hno hl4
    go_wp2_with fail
    go_ret
    exact ⟨_, es, rfl, ho.re, by have := Hl4.out; omega, hg2⟩
end Go.Proofs.Ytjlnhijabdkagaa
