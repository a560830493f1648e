/- Walks: impl.doNode. · Walks: impl.runTurn, impl.TurnRun. · Walks: spec.TurnSteal. (Printed by gen_steal.py.) -/
import Derived.Test.YtihobnheficpjaaGreatDoorM30
import Derived.Test.YtihobnheficpjaaGreatDoorM22
import Derived.Test.YtihobnheficpjaaGreatDoorM26
import Derived.Test.YtihobnheficpjaaGreatDoorM28
import Derived.Test.YtihobnheficpjaaGreatDoorM29
namespace Go.Proofs.YtihobnheficpjaaGreatDoor
open Go.RowKit

/-- Integers of the call's own stand where an older slice's block turns. -/
theorem OwnI.past_ {w w' : World} {b : Nat} {v o : Value} {l : List Int} (h : OwnI w b v l) (hg : w.grownBy w' o.ownBlock) (ho : ∀ g, o.ownBlock = some g → ∀ g', v.ownBlock = some g' → g ≠ g') : OwnI w' b v l := by
  refine h.apart_ hg ?_
  cases hv : v.ownBlock with
  | none => exact .inl rfl
  | some g' => exact .inr (fun e => ho g' e.symm g' hv rfl)
/-- The crew stands in block X; the result's cell stands. -/
structure DoIn (w0 wx : World) (base X : Nat) (d k o r : Value) (C : List Int) (D : List (List Int)) (N : List Int) (Rw : List (List Int)) (xs ys : List Value) : Prop where
  o : BoxQ wx base X d k o r D N Rw xs ys
  ct : RI wx k C
  res : Blk wx (X + 1) 27 #[.slice none 0 0, .slice none 0 0, .slice none 0 0, .slice none 0 0]
  g : w0.grownBy wx none
theorem DoIn.new {w0 wx wy : World} {base X : Nat} {d k o r : Value} {C : List Int} {D : List (List Int)} {N : List Int} {Rw : List (List Int)} {xs ys : List Value} (M : DoIn w0 wx base X d k o r C D N Rw xs ys) (hg : wx.grownBy wy none) : DoIn w0 wy base X d k o r C D N Rw xs ys :=
  ⟨M.o.new hg, M.ct.new hg, M.res.grown hg (by simp), gb_trans M.g hg⟩
theorem DoIn.start {w0 w : World} {base : Nat} {d k o r : Value} {C : List Int} {D : List (List Int)} {N : List Int} {Rw : List (List Int)} {xs ys : List Value} (hd : LQ w base d D xs) (hk : RI w k C) (ho : OwnI w base o N) (hr : LX w base r Rw ys) (hal : Apart (o :: (xs ++ ys))) (hdr : ∀ g, d.ownBlock = some g → r.ownBlock ≠ some g) (hg : w0.grownBy w none) :
    DoIn w0 ((w.alloc (.cells #[d, k, o, r] 27)).alloc (.cells #[.slice none 0 0, .slice none 0 0, .slice none 0 0, .slice none 0 0] 27)) base w.heap.size d k o r C D N Rw xs ys := by
  have hR0 := Blk.new (w.alloc (.cells #[d, k, o, r] 27)) 27 #[.slice none 0 0, .slice none 0 0, .slice none 0 0, .slice none 0 0]
  rw [World.size_alloc] at hR0
  have g1 := World.grownBy_alloc w (.cells #[d, k, o, r] 27) none
  have g2 := gb_trans g1 (World.grownBy_alloc (w.alloc (.cells #[d, k, o, r] 27)) (.cells #[.slice none 0 0, .slice none 0 0, .slice none 0 0, .slice none 0 0] 27) none)
  exact ⟨⟨(Blk.new w 27 #[d, k, o, r]).alloc _, hd.new g2, ho.new g2, hr.new g2, hal, hdr⟩, hk.new g2, hR0, gb_trans hg g2⟩
def DidOut (w0 : World) (base : Nat) (c : Crew) (e : Ending) (w' : World) : Prop := ∃ v, e = .returned (.tuple #[v, .nilIface]) ∧ OwnF w' base v c ∧ w0.grownBy w' none
set_option maxHeartbeats 3200000 in
set_option maxRecDepth 20000 in
theorem implDoNode_any (pv d k o r : Value) (plan : List Node) (c : Crew) (L : List (List Int)) (j m : Nat) (xs ys : List Value) (base : Nat) (w0 w : World) (hp : RN w pv plan) (hd : LQ w base d L xs) (hk : RI w k c.counts) (ho : OwnI w base o c.done) (hr : LX w base r c.rows ys) (hal : Apart (o :: (xs ++ ys))) (hdr : ∀ g, d.ownBlock = some g → r.ownBlock ≠ some g)
    (hg : w0.grownBy w none) (hb : w0.heap.size ≤ base) (hbw : base ≤ w.heap.size) (H : CrewOk plan c) (hL : L.length = c.deques.length) (hj : j < L.length) (hx : (m : Int) ∈ readyOf plan c.done) (hdl : ∀ l ∈ L, l.length ≤ 10) :
    Calls Tryz.prog 93 #[pv, .agg #[d, k, o, r], .int .i64 j, .int .i64 m] w (DidOut w0 base (doNode plan { c with deques := L } j (m : Int))) := by
  have hmp : m < plan.length := by
    obtain ⟨i, hi, e, _⟩ := (mem_readyOf H.pv).1 hx
    omega
  have hrl : c.rows.length = plan.length := H.rl
  obtain ⟨A, n, cp, rfl, -, hn, -⟩ := hp.form'
  obtain ⟨gd, capd, rfl, hcd, hbd⟩ := hd.form rfl (by omega)
  obtain ⟨gr, capr, rfl, hcr, hbr⟩ := hr.form hrl (by omega)
  obtain ⟨Ak, nk, ck, rfl⟩ := hk.val
  obtain ⟨Ao, no, co, rfl⟩ := ho.ri.val
  have M0 := DoIn.start hd hk ho hr hal hdr hg
  have Hold : Hid (∀ u ∈ .slice Ao no co :: (xs ++ ys), ∀ g, u.ownBlock = some g → g < w.heap.size) := by
    show ∀ u ∈ _, _
    intro u hu g hg
    rcases List.mem_cons.1 hu with rfl | hu
    · exact (ho.lt g hg).2
    · rcases List.mem_append.1 hu with hu | hu
      · exact (hd.lts u hu g hg).2
      · exact (hr.lts u hu g hg).2
  have hnr : (newReady plan c.counts (m : Int)).length ≤ 10 := by
    have h1 := List.length_filter_le (fun i => has plan i (m : Int) && decide (c.counts.getD i 0 = 1)) (List.range plan.length)
    have h2 := planValid_len H.pv
    unfold newReady
    rw [List.length_map]
    rw [List.length_range] at h1
    omega
  have hgW : w.grownBy ((w.alloc (.cells #[.slice (some ⟨gd, 0, none⟩) L.length capd, .slice Ak nk ck, .slice Ao no co, .slice (some ⟨gr, 0, none⟩) plan.length capr] 27)).alloc (.cells #[.slice none 0 0, .slice none 0 0, .slice none 0 0, .slice none 0 0] 27)) none := gb_alloc (gb_alloc (gb_refl w none) _) _
  obtain ⟨l0, hl0⟩ : ∃ l0, L[j]? = some l0 := ⟨_, List.getElem?_eq_getElem hj⟩
  have hl10 : l0.length ≤ 10 := hdl l0 (List.mem_of_getElem? hl0)
  have HH := Lib.hid H
  have Hx := Lib.hid hx
  have Hl0 := Lib.hid hl0
  have Hrl := Lib.hid hrl
  have hdn : c.done.length ≤ 1000 := by have := done_le H; have := planValid_len H.pv; omega
  clear H hx hl0 hrl hd hk ho hr hal hdr hg hdl hL hn
  obtain ⟨nD, hnD⟩ : ∃ nD, nD = L.length := ⟨_, rfl⟩
  obtain ⟨nR, hnR⟩ : ∃ nR, nR = plan.length := ⟨_, rfl⟩
  have hjD : j < nD := by omega
  have hmR : m < nR := by omega
  rw [← hnD, ← hnR] at M0 hgW ⊢
  have HnD := Lib.hid hnD
  have HnR := Lib.hid hnR
  clear hnD hnR
  go_enter Tryz.func93, Tryz.ntmps93
  go_upto_region 1 with fail
  generalize ((w.alloc (.cells #[.slice (some ⟨gd, 0, none⟩) nD capd, .slice Ak nk ck, .slice Ao no co, .slice (some ⟨gr, 0, none⟩) nR capr] 27)).alloc (.cells #[.slice none 0 0, .slice none 0 0, .slice none 0 0, .slice none 0 0] 27)) = W at M0 hgW ⊢
  have d1 := M0.o.x.cell 1
  have hsW := hgW.size
  go_wp2_with fail
  refine (implCountsDone_any _ _ plan c.counts m W (hp.new hgW) M0.ct).mono ?_
  intro e w1 hO
  rw [HH.out.done Hx.out] at hO
  obtain ⟨kv, rv, rfl, o1, o2, hg1⟩ := hO
  have M1 := M0.new hg1
  have hs1 := hg1.size
  have Hk := Lib.hid o1.lt
  have p1 := (hp.new hgW).new hg1
  obtain ⟨Ac, nc, cc, rfl⟩ := o1.ri.val
  obtain ⟨Ar, nr, cr, rfl, -, hnr2⟩ := o2.ri.form'
  have Hnr := Lib.hid hnr2
  have hnr10 : nr ≤ 10 := by omega
  clear d1 M0 hg1 hnr2
  go_wp2_with fail
  refine (valueOf_any _ plan m w1 p1 HH.out.pv hmp).mono ?_
  rintro e w2 ⟨rowv, rfl, o3, hg2⟩
  have M2 := M1.new hg2
  have hs2 := hg2.size
  have Hrow := Lib.hid o3.lt
  have o1b := o1.new hg2
  have o2b := o2.ri.new hg2
  obtain ⟨Aw, nw, cw, rfl⟩ := o3.ri.val
  clear M1 hg2 o1 o2 p1
  have d0 := M2.o.x.cell 0
  obtain ⟨g, oz, l, Bl, ml, el, e1, hl, q0, hrl, -, -, -⟩ := M2.o.dq.rl.at_ hjD
  injection e1 with e1
  injection e1 with e1 e2
  subst e1 e2
  obtain rfl : l0 = l := Option.some.inj (Hl0.out.symm.trans hl)
  rw [Nat.zero_add] at q0
  have hji : (j : Int) < (nD : Int) := by omega
  clear hl
  go_wp2_with fail
  refine (dequeOf_any _ l0 w2 hrl (by omega)).mono ?_
  rintro e w3 ⟨u, rfl, o4, hg3⟩
  obtain ⟨An, nn, cn, rfl⟩ := o4.ri.val
  have hB4 := Blk.new w3 149 #[.slice An nn cn]
  have hgN := gb_trans hg3 (World.grownBy_alloc w3 (.cells #[.slice An nn cn] 149) none)
  have o4b := o4.new (World.grownBy_alloc w3 (.cells #[.slice An nn cn] 149) none)
  have hs3 := hg3.size
  clear q0 hrl o4 hg3
  go_upto_region 8 with fail
  generalize w3.alloc (.cells #[.slice An nn cn] 149) = w4 at hB4 hgN o4b ⊢
  generalize w3.heap.size = nb at hB4 hs3 ⊢
  clear d0
  go_wp2_with fail
  go_loopg [50] (nr + 1) (fun mm i wr => ∃ (q : Nat) (u : Value), q ≤ nr ∧ mm = nr + 1 - q ∧ i = .int .i64 q ∧ Blk wr nb 149 #[u] ∧ OwnI wr w2.heap.size u (l0 ++ (newReady plan c.counts m).take q) ∧ w2.grownBy wr none)
  case atStart => exact ⟨0, _, Nat.zero_le _, rfl, rfl, hB4, by simpa using o4b, hgN⟩
  case round =>
    clear hB4 o4b hgN
    obtain ⟨q, u, hq, rfl, rfl, hB, hown, hgr⟩ := hrel
    by_cases hlt : q < nr
    · obtain ⟨g', o', y, rfl, hy, c0⟩ := (o2b.new hgr).at_ hlt
      have Hy : Hid ((l0 ++ (newReady plan c.counts m).take q) ++ [y] = l0 ++ (newReady plan c.counts m).take (q + 1)) := by
        show _ = _
        obtain ⟨h1, h2⟩ := List.getElem?_eq_some_iff.1 hy
        rw [List.take_succ_eq_append_getElem h1, h2, List.append_assoc]
      have hlen : (l0 ++ (newReady plan c.counts m).take q).length ≤ 1000000 := by
        rw [List.length_append, List.length_take]
        omega
      clear hy
      go_wp2_with fail
      refine (push_any nb w2.heap.size y u _ w2 wr hB hown hlen hgr (Nat.le_refl _) hgr.size hs3).mono ?_
      rintro e w5 ⟨rfl, u', hB', hown', hgr'⟩
      rw [Hy.out] at hown'
      clear hB hown
      go_wp2_with fail
      go_roundg (nr + 1 - (q + 1))
      case measure => omega
      case rel => exact ⟨q + 1, u', by omega, rfl, by go_num, hB', hown', hgr'⟩
    · obtain rfl : nr = q := by omega
      have M4 := M2.new hgr
      have k4 := o1b.new hgr
      have r4 := o3.new hgr
      have hsr := hgr.size
      rw [List.take_of_length_le (Nat.le_of_eq Hnr.out.symm)] at hown
      obtain ⟨Af, nf, cf, rfl⟩ := hown.ri.val
      have Hnear := Lib.hid hown.lt
      clear M2 o1b o3 o2b hgr
      -- c.Counts = counts
      have x1 := M4.o.x.cell 1
      have y1 := M4.o.x.frozen 1
      have hst5 : wr.grownBy (wr.setCell ⟨w.heap.size, 1, none⟩ (.slice Ac nc cc)) (some w.heap.size) := gb_set (p := ⟨w.heap.size, 1, none⟩) (gb_refl wr (some w.heap.size)) (.inr rfl) _
      have hn5 : NotE wr 3 (some w.heap.size) := NotE.blk M4.o.x (by decide)
      have O5 := M4.o.put (k' := .slice Ac nc cc)
      have k5 : OwnI _ _ _ _ := k4.grown hst5 hn5
      have r5 : OwnI _ _ _ _ := r4.grown hst5 hn5
      have n5 : OwnI _ _ _ _ := hown.grown hst5 hn5
      have B5 := hB.past hst5 (NotE.blk M4.o.x (by decide))
      have R5 := M4.res.grown hst5 (by simp)
      have hw0 : w0.heap.size ≤ w.heap.size := Nat.le_trans hb hbw
      have g5 : w0.grownBy _ none := gb_new M4.g hst5 (fun g e => by cases e; exact .inl hw0)
      have hs5 := hst5.size
      clear k4 r4 hown hB hn5
      go_upto_region 14 with fail
      clear x1 y1 M4 hst5
      generalize wr.setCell ⟨w.heap.size, 1, none⟩ (.slice Ac nc cc) = w5 at O5 k5 r5 n5 B5 R5 g5 hs5 ⊢
      -- c.Done = append(c.Done, at)
      have x2 := O5.x.cell 2
      have hdn5 := O5.dn
      go_wp2_with (at_builtin; go_must (refine wp_push_int_f (.tmp 60) (.tmp 62) rfl rfl hdn5 (by omega) (by omega) rfl rfl rfl ?_))
      intro v6 w6 hown6 hg6 hb6
      obtain ⟨x6, f6, O6⟩ := O5.more hg6 hown6 hb6
      have hoB : ∀ g, (Value.slice Ao no co).ownBlock = some g → g < w.heap.size := fun g e => Hold.out _ (by simp) g e
      have k6 := k5.past_ hg6 (fun g e g' e' => by have := hoB g e; have := (Hk.out g' e').1; omega)
      have r6 := r5.past_ hg6 (fun g e g' e' => by have := hoB g e; have := (Hrow.out g' e').1; omega)
      have n6 := n5.past_ hg6 (fun g e g' e' => by have := hoB g e; have := (Hnear.out g' e').1; omega)
      have B6 := B5.past hg6 (hdn5.notE (by decide))
      have R6 := R5.past hg6 (hdn5.notE (by decide))
      have X6 := O5.x.past hg6 (hdn5.notE (by decide))
      have g6 := hdn5.gb g5 hg6 hb
      have hst7 : w6.grownBy (w6.setCell ⟨w.heap.size, 2, none⟩ v6) (some w.heap.size) := gb_set (p := ⟨w.heap.size, 2, none⟩) (gb_refl w6 (some w.heap.size)) (.inr rfl) _
      have hn7 : NotE w6 3 (some w.heap.size) := NotE.blk X6 (by decide)
      have k7 : OwnI _ _ _ _ := k6.grown hst7 hn7
      have r7 : OwnI _ _ _ _ := r6.grown hst7 hn7
      have n7 : OwnI _ _ _ _ := n6.grown hst7 hn7
      have B7 := B6.past hst7 (NotE.blk X6 (by decide))
      have R7 := R6.grown hst7 (by simp)
      have g7 : w0.grownBy _ none := gb_new g6 hst7 (fun g e => by cases e; exact .inl hw0)
      have hov : ∀ g, v6.ownBlock = some g → g < w.heap.size ∨ w5.heap.size ≤ g := fun g e => by
        rcases hb6 with h | ⟨b, h, hb'⟩
        · exact .inl (hoB g (h ▸ e))
        · rw [h] at e
          cases e
          exact .inr hb'
      have Hov := Lib.hid hov
      obtain ⟨Av, nv, cv, rfl⟩ := hown6.ri.val
      clear k5 r5 n5 B5 R5 g5 hdn5 k6 r6 n6 B6 R6 g6 x2 hov hn7 hown6 hb6 O5 hg6 hst7
      go_upto_region 15 with fail
      clear x6 f6 X6
      generalize w6.setCell ⟨w.heap.size, 2, none⟩ (.slice Av nv cv) = w7 at O6 k7 r7 n7 B7 R7 g7 ⊢
      -- c.Rows[at] = row
      have hne8 : ∀ u ∈ .slice Av nv cv :: (xs ++ ys), ∀ g, u.ownBlock = some g → (Value.slice Aw nw cw).ownBlock ≠ some g := fun u hu g hu' e => by
        have h1 := Hrow.out g e
        rcases List.mem_cons.1 hu with rfl | hu
        · have := Hov.out g hu'
          omega
        · have := Hold.out u (List.mem_cons_of_mem _ hu) g hu'
          omega
      have hmr : m < c.rows.length := by have := Hrl.out; have := HnR.out; omega
      obtain ⟨⟨u8, cR, fR⟩, hst8, hb8, hE8, hI8, hQ8, O8⟩ := O6.setRow hmr (r7.low (by omega)) hne8
      have x3 := O6.x.cell 3
      have k8 : OwnI _ _ _ _ := k7.grown hst8 hI8
      have n8 : OwnI _ _ _ _ := n7.grown hst8 hI8
      have B8 := B7.past hst8 hQ8
      have R8 := R7.past hst8 hE8
      have g8 : w0.grownBy _ none := gb_new g7 hst8 (fun g e => by cases e; exact .inl (Nat.le_trans hb hb8))
      have hmi : (m : Int) < (nR : Int) := by omega
      clear k7 n7 r7 B7 R7 g7 hne8 O6
      go_upto_region 16 with fail
      clear x3 cR fR hst8 hE8 hI8 hQ8
      generalize w7.setCell ⟨gr, m, none⟩ (.slice Aw nw cw) = w8 at O8 k8 n8 B8 R8 g8 ⊢
      -- c.Deques[worker] = near.items
      have hne9 : ∀ u ∈ .slice Av nv cv :: (xs ++ ys.set m (.slice Aw nw cw)), ∀ g, u.ownBlock = some g → (Value.slice Af nf cf).ownBlock ≠ some g := fun u hu g hu' e => by
        have h1 := Hnear.out g e
        rcases List.mem_cons.1 hu with rfl | hu
        · have := Hov.out g hu'
          omega
        · rcases List.mem_append.1 hu with hu | hu
          · have := Hold.out u (List.mem_cons_of_mem _ (List.mem_append_left _ hu)) g hu'
            omega
          · rcases List.mem_or_eq_of_mem_set hu with hu | rfl
            · have := Hold.out u (List.mem_cons_of_mem _ (List.mem_append_right _ hu)) g hu'
              omega
            · have := Hrow.out g hu'
              omega
      have hjL : j < L.length := by have := HnD.out; omega
      obtain ⟨⟨u9, cQ, fQ⟩, hst9, hb9, hE9, hI9, O9⟩ := O8.setDq hjL ((n8.low (by omega)).qi) hne9
      have x0 := O8.x.cell 0
      have z0 := B8.cell 0
      have k9 : OwnI _ _ _ _ := k8.grown hst9 hI9
      have R9 := R8.past hst9 hE9
      have g9 : w0.grownBy _ none := gb_new g8 hst9 (fun g e => by cases e; exact .inl (Nat.le_trans hb hb9))
      clear k8 n8 R8 g8 hne9 O8
      go_upto_region 17 with fail
      clear x0 z0 cQ fQ hst9 hE9 hI9 B8
      generalize w8.setCell ⟨gd, j, none⟩ (.slice Af nf cf) = w9 at O9 k9 R9 g9 ⊢
      have hal : Apart (.slice Ac nc cc :: .slice Av nv cv :: (xs.set j (.slice Af nf cf) ++ ys.set m (.slice Aw nw cw))) := by
        refine List.pairwise_cons.2 ⟨fun u hu g e e' => ?_, O9.al⟩
        have h1 := Hk.out g e
        rcases List.mem_cons.1 hu with rfl | hu
        · have := Hov.out g e'
          omega
        · rcases List.mem_append.1 hu with hu | hu
          · rcases List.mem_or_eq_of_mem_set hu with hu | rfl
            · have := Hold.out u (List.mem_cons_of_mem _ (List.mem_append_left _ hu)) g e'
              omega
            · have := Hnear.out g e'
              omega
          · rcases List.mem_or_eq_of_mem_set hu with hu | rfl
            · have := Hold.out u (List.mem_cons_of_mem _ (List.mem_append_right _ hu)) g e'
              omega
            · have := Hrow.out g e'
              omega
      have hF : OwnF w9 base (.agg #[.slice (some ⟨gd, 0, none⟩) nD capd, .slice Ac nc cc, .slice Av nv cv, .slice (some ⟨gr, 0, none⟩) nR capr]) (doNode plan { c with deques := L } j (m : Int)) := by
        have e1 : doNode plan { c with deques := L } j (m : Int) = ⟨L.set j (l0 ++ newReady plan c.counts m), takeCounts plan c.counts m, c.done ++ [(m : Int)], c.rows.set m (valAt plan m)⟩ := by
          unfold doNode
          simp only [List.getD_eq_getElem?_getD, Hl0.out, Option.getD_some, Int.toNat_natCast]
        rw [e1]
        exact ⟨_, _, _, _, _, _, rfl, O9.dq, k9.low (by omega), O9.dn, O9.ro, hal, O9.dr⟩
      have x0 := O9.x.cell 0
      have x1 := O9.x.cell 1
      have x2 := O9.x.cell 2
      have x3 := O9.x.cell 3
      have y0 := R9.cell 0
      have y1 := R9.cell 1
      have y2 := R9.cell 2
      have y3 := R9.cell 3
      have f0 := R9.frozen 0
      have f1 := R9.frozen 1
      have f2 := R9.frozen 2
      have f3 := R9.frozen 3
      have hst := gb_set4 w9 (w.heap.size + 1) (.slice (some ⟨gd, 0, none⟩) nD capd) (.slice Ac nc cc) (.slice Av nv cv) (.slice (some ⟨gr, 0, none⟩) nR capr)
      have hfin : Hid (DidOut w0 base (doNode plan { c with deques := L } j (m : Int)) _ _) := ⟨_, rfl, hF.grown hst (NotE.blk R9 (by decide)) (NotE.blk R9 (by decide)), gb_new g9 hst (fun g e => by cases e; exact .inl (by omega))⟩
      clear hF hst hal k9 O9 R9 g9
      go_wp2_with fail
      refine bodyPost_ret (v := .tuple #[.agg #[.slice (some ⟨gd, 0, none⟩) nD capd, .slice Ac nc cc, .slice Av nv cv, .slice (some ⟨gr, 0, none⟩) nR capr], .nilIface]) (by simp [results, Tryz.results93, go_sem, y0, y1, y2, y3]) rfl ?_
      exact hfin.out
end Go.Proofs.YtihobnheficpjaaGreatDoor
namespace Go.Proofs.YtihobnheficpjaaGreatDoor
open Go.RowKit

/-- A crew is laid in a new block. -/
theorem BoxQ.lay {w1 : World} {base : Nat} {d k o r : Value} {D Rw : List (List Int)} {N : List Int} {xs ys : List Value} (h1 : LQ w1 base d D xs) (h3 : OwnI w1 base o N) (h4 : LX w1 base r Rw ys) (h5 : Apart (o :: (xs ++ ys))) (h6 : ∀ g, d.ownBlock = some g → r.ownBlock ≠ some g) :
    BoxQ (w1.alloc (.cells #[d, k, o, r] 27)) base w1.heap.size d k o r D N Rw xs ys :=
  have hg := World.grownBy_alloc w1 (.cells #[d, k, o, r] 27) none
  ⟨Blk.new _ _ _, h1.new hg, h3.new hg, h4.new hg, h5, h6⟩
def RunOut (w : World) (r : Option Crew) (e : Ending) (w' : World) : Prop := match r with
  | some c => ∃ v, e = .returned (.tuple #[v, .nilIface]) ∧ OwnF w' w.heap.size v c ∧ w.grownBy w' none
  | none => ∃ s : ByteArray, e = .returned (.tuple #[.agg #[.slice none 0 0, .slice none 0 0, .slice none 0 0, .slice none 0 0], .iface 110 (.agg #[.string s])]) ∧ w.grownBy w' none
theorem runFail {w wx : World} (s : ByteArray) (hg : w.grownBy wx none) : RunOut w none (.returned (.tuple #[.agg #[.slice none 0 0, .slice none 0 0, .slice none 0 0, .slice none 0 0], .iface 110 (.agg #[.string s])])) ((((wx.setCell ⟨w.heap.size + 1, 0, none⟩ (.slice none 0 0)).setCell ⟨w.heap.size + 1, 1, none⟩ (.slice none 0 0)).setCell ⟨w.heap.size + 1, 2, none⟩ (.slice none 0 0)).setCell ⟨w.heap.size + 1, 3, none⟩ (.slice none 0 0)) :=
  ⟨_, rfl, gb_new hg (gb_set4 wx (w.heap.size + 1) (.slice none 0 0) (.slice none 0 0) (.slice none 0 0) (.slice none 0 0)) (fun g e => by cases e; exact .inl (Nat.le_succ _))⟩
theorem runGive {w wx : World} {c : Crew} {d k o r : Value} (hg : w.grownBy wx none) (hR : Blk wx (w.heap.size + 1) 27 #[.slice none 0 0, .slice none 0 0, .slice none 0 0, .slice none 0 0]) (hc : OwnF wx w.heap.size (.agg #[d, k, o, r]) c) : RunOut w (some c) (.returned (.tuple #[.agg #[d, k, o, r], .nilIface])) ((((wx.setCell ⟨w.heap.size + 1, 0, none⟩ d).setCell ⟨w.heap.size + 1, 1, none⟩ k).setCell ⟨w.heap.size + 1, 2, none⟩ o).setCell ⟨w.heap.size + 1, 3, none⟩ r) :=
  have hst := gb_set4 wx (w.heap.size + 1) d k o r
  ⟨_, rfl, hc.grown hst (NotE.blk hR (by decide)) (NotE.blk hR (by decide)), gb_new hg hst (fun g e => by cases e; exact .inl (Nat.le_succ _))⟩
/-- What a turn answers; the crew is all the call's own. -/
def TurnOutF (w : World) (r : Option Crew) (e : Ending) (w' : World) : Prop := ∃ v, e = .returned (.tuple #[v, .bool r.isSome]) ∧ OwnF w' w.heap.size v (r.getD crew0) ∧ w.grownBy w' none
theorem TurnOutF.turn {w : World} {r : Option Crew} {e : Ending} {w' : World} (h : TurnOutF w r e w') : TurnOut w r e w' := by
  obtain ⟨v, h1, h2, h3⟩ := h
  cases r with
  | none => exact ⟨v, h1, h2.cv, h3⟩
  | some c => exact ⟨v, h1, h2.cv, h3⟩
theorem OwnF.zero (w : World) (base : Nat) : OwnF w base (.agg #[.slice none 0 0, .slice none 0 0, .slice none 0 0, .slice none 0 0]) crew0 :=
  ⟨_, _, _, _, [], [], rfl, (LX.nil w base).lq, OwnI.nil w base, OwnI.nil w base, LX.nil w base, Apart.nils 2, fun g hg => by cases hg⟩
theorem turnGiveF {w wx : World} {r : Option Crew} {d k o q : Value} {b : Bool} (hg : w.grownBy wx none) (hR : Blk wx (w.heap.size + 1) 27 #[.slice none 0 0, .slice none 0 0, .slice none 0 0, .slice none 0 0]) (hb : b = r.isSome) (hc : OwnF wx w.heap.size (.agg #[d, k, o, q]) (r.getD crew0)) : TurnOutF w r (.returned (.tuple #[.agg #[d, k, o, q], .bool b])) ((((wx.setCell ⟨w.heap.size + 1, 0, none⟩ d).setCell ⟨w.heap.size + 1, 1, none⟩ k).setCell ⟨w.heap.size + 1, 2, none⟩ o).setCell ⟨w.heap.size + 1, 3, none⟩ q) :=
  have hst := gb_set4 wx (w.heap.size + 1) d k o q
  ⟨_, by rw [hb], hc.grown hst (NotE.blk hR (by decide)) (NotE.blk hR (by decide)), gb_new hg hst (fun g e => by cases e; exact .inl (Nat.le_succ _))⟩
theorem OwnF.form {w : World} {base : Nat} {v : Value} {c : Crew} (h : OwnF w base v c) : ∃ A1 n1 c1 A2 n2 c2 A3 n3 c3 A4 n4 c4, v = .agg #[.slice A1 n1 c1, .slice A2 n2 c2, .slice A3 n3 c3, .slice A4 n4 c4] := by
  obtain ⟨A1, n1, c1, A2, n2, c2, A3, n3, c3, A4, n4, c4, e, -⟩ := h.cv.form
  exact ⟨_, _, _, _, _, _, _, _, _, _, _, _, e⟩
set_option maxHeartbeats 3200000 in
set_option maxRecDepth 20000 in
theorem implRunTurn_any (pv v : Value) (plan : List Node) (c : Crew) (wk : Int) (w : World) (hp : RN w pv plan) (h : CV w v c) (hfit : ∀ d ∈ c.deques, d.length ≤ 1048576) :
    Calls Tryz.prog 50 #[pv, v, .int .i64 wk] w (RunOut w (turnRun plan c wk)) := by
  obtain ⟨A, n, cp, rfl, -, hn, -⟩ := hp.form'
  obtain ⟨A1, n1, c1, A2, n2, c2, A3, n3, c3, A4, n4, c4, rfl, h1, -, -, -⟩ := h.form
  have B0 := Begun.start h
  have hn1 := h1.len
  have Hn1 := Lib.hid hn1
  have Hfit := Lib.hid hfit
  clear hn hn1 h1 h hfit
  by_cases hv : crewValid plan c = true
  · have Hv := Lib.hid hv
    by_cases hin : isWorker c wk = true
    · have Hin := Lib.hid hin
      have hin2 := isWorker_iff.1 hin
      obtain ⟨k, rfl⟩ := Int.eq_ofNat_of_zero_le hin2.1
      have hk : k < n1 := by have := Hn1.out; omega
      clear hv hin hin2
      go_enter Tryz.func50, Tryz.ntmps50
      go_upto_region 1 with fail
      generalize ((w.alloc (.cells #[.slice A1 n1 c1, .slice A2 n2 c2, .slice A3 n3 c3, .slice A4 n4 c4] 27)).alloc (.cells #[.slice none 0 0, .slice none 0 0, .slice none 0 0, .slice none 0 0] 27)) = W at B0 ⊢
      have d0 := B0.b.d0
      have d1 := B0.b.d1
      have d2 := B0.b.d2
      have d3 := B0.b.d3
      go_wp2_with fail
      refine (implCrewValid_b _ _ plan c W (hp.new B0.g) B0.b.cv Hfit.out Hv.out).mono ?_
      rintro e w1 ⟨rfl, hg1⟩
      have B1 := B0.new hg1
      clear B0 hg1 d0 d1 d2 d3
      have d0 := B1.b.d0
      have d1 := B1.b.d1
      have d2 := B1.b.d2
      have d3 := B1.b.d3
      go_wp2_with fail
      refine (implIsWorker_b _ c _ w1 B1.b.cv Hin.out).mono ?_
      rintro e w1' ⟨rfl, hg1'⟩
      have B1' := B1.new hg1'
      clear B1 hg1' d0 d1 d2 d3
      have d0 := B1'.b.d0
      have d1 := B1'.b.d1
      have d2 := B1'.b.d2
      have d3 := B1'.b.d3
      have hkD : k < c.deques.length := by rw [← Hn1.out]; exact hk
      obtain ⟨g, o, d, Bd, md, ed, rfl, hd, q0, hrd, -, -, -⟩ := B1'.b.dq.at_ hk
      have hki : (k : Int) < (n1 : Int) := by omega
      have Heq := Lib.hid (turnRun_eq Hv.out hkD hd)
      have Hd := Lib.hid hd
      clear hd
      go_wp2_with fail
      refine (implDequePop_any _ d w1' hrd).mono ?_
      cases hpop : dequePop d with
      | none =>
        rintro e w2 ⟨rfl, hg2⟩
        have B2 := B1'.new hg2
        have Hr : Hid (turnRun plan c (k : Int) = none) := by show _ = _; rw [Heq.out, hpop]; rfl
        have y0 := B2.res.cell 0
        have y1 := B2.res.cell 1
        have y2 := B2.res.cell 2
        have y3 := B2.res.cell 3
        have f0 := B2.res.frozen 0
        have f1 := B2.res.frozen 1
        have f2 := B2.res.frozen 2
        have f3 := B2.res.frozen 3
        have hfin := Lib.hid (fun s => runFail s B2.g)
        clear hpop B1' B2 d0 d1 d2 d3 hg2 q0 hrd
        go_wp2_with fail
        refine bodyPost_ret (by simp [results, Tryz.results50, go_sem, y0, y1, y2, y3]; rfl) rfl ?_
        rw [Hr.out]
        exact hfin.out _
      | some lx =>
        obtain ⟨l, x⟩ := lx
        rintro e w2 ⟨u, rfl, hu, hg2⟩
        have H := crewValid_iff.1 Hv.out
        obtain ⟨hxd, hll⟩ := pop_mem hpop
        have hl10 : l.length ≤ 10 := Nat.le_trans hll (deque_len H d (List.mem_of_getElem? Hd.out))
        obtain ⟨m, nd, rfl, hnd, hrdy, hmp⟩ := taken_node H Hd.out hxd
        have HH := Lib.hid H
        have Hrdy := Lib.hid hrdy
        have Hr : Hid (turnRun plan c (k : Int) = some (doNode plan { c with deques := c.deques.set k l } k (m : Int))) := by show _ = _; rw [Heq.out, hpop]; rfl
        have hdl : Hid (∀ y ∈ c.deques.set k l, y.length ≤ 10) := by
          show ∀ y ∈ _, _
          intro y hy
          rcases List.mem_or_eq_of_mem_set hy with hy | rfl
          · exact deque_len H y hy
          · exact hl10
        have hsg2 := hg2.size
        have Hub : Hid (∀ g, u.ownBlock = some g → w1'.heap.size ≤ g ∧ g < w2.heap.size) := hu.lt
        have B2 := B1'.new hg2
        obtain ⟨Au, nu, cu, rfl⟩ := hu.ri.val
        clear hpop H hxd hll hl10 hnd hrdy hmp d0 d1 d2 d3 q0 hrd
        have d0 := B2.b.d0
        have d1 := B2.b.d1
        have d2 := B2.b.d2
        have d3 := B2.b.d3
        go_wp2_with fail
        refine (implCopyCrew_any _ c w2 B2.b.cv ⟨by have := HH.out.d4; omega, fun l hl => by have := deque_len HH.out l hl; omega⟩ ⟨by have := HH.out.rl; have := planValid_len HH.out.pv; omega, fun l hl => by have := row_len HH.out l hl; omega⟩ (by have := HH.out.counts; rw [this, lefts_len]; have := planValid_len HH.out.pv; omega) (by have := done_le HH.out; have := planValid_len HH.out.pv; omega)).mono ?_
        rintro e w3 ⟨v3, rfl, ⟨dv, kv, ov, rv, xs, ys, rfl, q1, q2, q3, q4, q5, q6⟩, hg3⟩
        have g3 := gb_trans hg2 hg3
        have hu3 := hu.new hg3
        have hap : ∀ u' ∈ ov :: (xs ++ ys), ∀ g, u'.ownBlock = some g → (Value.slice Au nu cu).ownBlock ≠ some g := fun u' hu' g e e' => by
          have h1 := Hub.out g e'
          rcases List.mem_cons.1 hu' with rfl | hu'
          · have := q3.lt g e; omega
          · rcases List.mem_append.1 hu' with hu' | hu'
            · have := q1.lts u' hu' g e; omega
            · have := q4.lts u' hu' g e; omega
        obtain ⟨gd, capd, rfl, hcd, hbd⟩ := q1.form Hn1.out.symm (by omega)
        obtain ⟨Ar, nr, cr, rfl⟩ := q4.rl.val
        obtain ⟨Ak, nk, ck, rfl⟩ := q2.val
        obtain ⟨Ao, no, co, rfl⟩ := q3.ri.val
        clear d0 d1 d2 d3 B2 hu hg3 hg2
        go_upto_region 9 with fail
        have hO := BoxQ.lay (k := .slice Ak nk ck) (q1.lq.low hsg2) (q3.lower hsg2) (q4.low hsg2) q5 q6
        have hgX := World.grownBy_alloc w3 (.cells #[.slice (some ⟨gd, 0, none⟩) n1 capd, .slice Ak nk ck, .slice Ao no co, .slice Ar nr cr] 27) none
        have q2' := q2.new hgX
        have hu4 := hu3.new hgX
        have g4 := gb_trans g3 hgX
        generalize w3.alloc (.cells #[.slice (some ⟨gd, 0, none⟩) n1 capd, .slice Ak nk ck, .slice Ao no co, .slice Ar nr cr] 27) = w4 at hO hgX q2' hu4 g4 ⊢
        generalize w3.heap.size = X at hO ⊢
        obtain ⟨⟨u0, cR, fR⟩, hst5, hbd5, hE5, hI5, O5⟩ := hO.setDq hkD hu4 hap
        have x0 := hO.x.cell 0
        have k5 : RI _ _ _ := q2'.grown hst5 hI5
        have g5 : w1'.grownBy _ none := gb_new g4 hst5 (fun g e => by cases e; exact .inl hbd5)
        clear q1 q2 q3 q4 q5 q6 hgX hu3 hap
        go_upto_region 10 with fail
        clear cR fR x0 hst5 hE5 hI5 q2' hu4 g4 hO
        generalize w4.setCell ⟨gd, k, none⟩ (.slice Au nu cu) = w5 at O5 k5 g5 ⊢
        have x0 := O5.x.cell 0
        have x1 := O5.x.cell 1
        have x2 := O5.x.cell 2
        have x3 := O5.x.cell 3
        go_wp2_with fail
        refine (implDoNode_any _ _ _ _ _ plan c (c.deques.set k l) k m _ _ w1'.heap.size w1' w5 (hp.new (gb_trans B1'.g g5)) O5.dq k5 O5.dn O5.ro O5.al O5.dr g5 (Nat.le_refl _) g5.size HH.out (by rw [List.length_set]) (by rw [List.length_set]; exact hkD) Hrdy.out hdl.out).mono ?_
        rintro e w6 ⟨v6, rfl, hF6, hg6⟩
        have B6 := B1'.new hg6
        have hF6' := hF6.low B1'.g.size
        obtain ⟨B1, m1, e1, B2, m2, e2, B3, m3, e3, B4, m4, e4, rfl⟩ := hF6'.form
        have hfin := Lib.hid (runGive B6.g B6.res hF6')
        have y0 := B6.res.cell 0
        have y1 := B6.res.cell 1
        have y2 := B6.res.cell 2
        have y3 := B6.res.cell 3
        have f0 := B6.res.frozen 0
        have f1 := B6.res.frozen 1
        have f2 := B6.res.frozen 2
        have f3 := B6.res.frozen 3
        clear x0 x1 x2 x3 O5 k5 g5 hF6 hF6' hg6 B6 B1'
        go_wp2_with fail
        refine bodyPost_ret (v := .tuple #[.agg #[.slice B1 m1 e1, .slice B2 m2 e2, .slice B3 m3 e3, .slice B4 m4 e4], .nilIface]) (by simp [results, Tryz.results50, go_sem, y0, y1, y2, y3]) rfl ?_
        rw [Hr.out]
        exact hfin.out
    · have hin' : isWorker c wk = false := by simpa using hin
      have Hin := Lib.hid hin'
      have Hr : Hid (turnRun plan c wk = none) := turnRun_out hin'
      clear hv hin hin'
      go_enter Tryz.func50, Tryz.ntmps50
      go_upto_region 1 with fail
      generalize ((w.alloc (.cells #[.slice A1 n1 c1, .slice A2 n2 c2, .slice A3 n3 c3, .slice A4 n4 c4] 27)).alloc (.cells #[.slice none 0 0, .slice none 0 0, .slice none 0 0, .slice none 0 0] 27)) = W at B0 ⊢
      have d0 := B0.b.d0
      have d1 := B0.b.d1
      have d2 := B0.b.d2
      have d3 := B0.b.d3
      go_wp2_with fail
      refine (implCrewValid_b _ _ plan c W (hp.new B0.g) B0.b.cv Hfit.out Hv.out).mono ?_
      rintro e w1 ⟨rfl, hg1⟩
      have B1 := B0.new hg1
      clear B0 hg1 d0 d1 d2 d3
      have d0 := B1.b.d0
      have d1 := B1.b.d1
      have d2 := B1.b.d2
      have d3 := B1.b.d3
      go_wp2_with fail
      refine (implIsWorker_b _ c _ w1 B1.b.cv Hin.out).mono ?_
      rintro e w1' ⟨rfl, hg1'⟩
      have B2 := B1.new hg1'
      clear B1 hg1' d0 d1 d2 d3
      have y0 := B2.res.cell 0
      have y1 := B2.res.cell 1
      have y2 := B2.res.cell 2
      have y3 := B2.res.cell 3
      have f0 := B2.res.frozen 0
      have f1 := B2.res.frozen 1
      have f2 := B2.res.frozen 2
      have f3 := B2.res.frozen 3
      have hfin := Lib.hid (fun s => runFail s B2.g)
      clear B2
      go_wp2_with fail
      refine bodyPost_ret (by simp [results, Tryz.results50, go_sem, y0, y1, y2, y3]; rfl) rfl ?_
      rw [Hr.out]
      exact hfin.out _
  · have hv' : crewValid plan c = false := by simpa using hv
    have Hv := Lib.hid hv'
    have Hr : Hid (turnRun plan c wk = none) := turnRun_bad hv'
    clear hv hv'
    go_enter Tryz.func50, Tryz.ntmps50
    go_upto_region 1 with fail
    generalize ((w.alloc (.cells #[.slice A1 n1 c1, .slice A2 n2 c2, .slice A3 n3 c3, .slice A4 n4 c4] 27)).alloc (.cells #[.slice none 0 0, .slice none 0 0, .slice none 0 0, .slice none 0 0] 27)) = W at B0 ⊢
    have d0 := B0.b.d0
    have d1 := B0.b.d1
    have d2 := B0.b.d2
    have d3 := B0.b.d3
    go_wp2_with fail
    refine (implCrewValid_b _ _ plan c W (hp.new B0.g) B0.b.cv Hfit.out Hv.out).mono ?_
    rintro e w1 ⟨rfl, hg1⟩
    have B2 := B0.new hg1
    clear B0 hg1 d0 d1 d2 d3
    have y0 := B2.res.cell 0
    have y1 := B2.res.cell 1
    have y2 := B2.res.cell 2
    have y3 := B2.res.cell 3
    have f0 := B2.res.frozen 0
    have f1 := B2.res.frozen 1
    have f2 := B2.res.frozen 2
    have f3 := B2.res.frozen 3
    have hfin := Lib.hid (fun s => runFail s B2.g)
    clear B2
    go_wp2_with fail
    refine bodyPost_ret (by simp [results, Tryz.results50, go_sem, y0, y1, y2, y3]; rfl) rfl ?_
    rw [Hr.out]
    exact hfin.out _
set_option maxHeartbeats 1600000 in
set_option maxRecDepth 20000 in
theorem implTurnRun_any (pv v : Value) (plan : List Node) (c : Crew) (wk : Int) (a : Addr) (w : World) (hE : ErrTurn w a) (hp : RN w pv plan) (h : CV w v c) (hfit : ∀ d ∈ c.deques, d.length ≤ 1048576) :
    Calls Tryz.prog 17 #[pv, v, .int .i64 wk] w (TurnOutF w (turnRun plan c wk)) := by
  obtain ⟨A, n, cp, rfl, -, hn, -⟩ := hp.form'
  obtain ⟨A1, n1, c1, A2, n2, c2, A3, n3, c3, A4, n4, c4, rfl, h1, -, -, -⟩ := h.form
  have B0 := Begun.start h
  have Hfit := Lib.hid hfit
  obtain ⟨R, hR⟩ : ∃ R, R = turnRun plan c wk := ⟨_, rfl⟩
  rw [← hR]
  have HR := Lib.hid hR
  clear hn h1 h hfit hR
  go_enter Tryz.func17, Tryz.ntmps17
  go_upto_region 1 with fail
  generalize ((w.alloc (.cells #[.slice A1 n1 c1, .slice A2 n2 c2, .slice A3 n3 c3, .slice A4 n4 c4] 27)).alloc (.cells #[.slice none 0 0, .slice none 0 0, .slice none 0 0, .slice none 0 0] 27)) = W at B0 ⊢
  have d0 := B0.b.d0
  have d1 := B0.b.d1
  have d2 := B0.b.d2
  have d3 := B0.b.d3
  go_wp2_with fail
  refine (implRunTurn_any _ _ plan c wk W (hp.new B0.g) B0.b.cv Hfit.out).mono ?_
  rw [← HR.out]
  clear HR
  cases R with
  | none =>
    rintro e w1 ⟨s, rfl, hg1⟩
    have hgX := World.grownBy_alloc w1 (.cells #[.slice none 0 0, .slice none 0 0, .slice none 0 0, .slice none 0 0] 27) none
    have B2 := (B0.new hg1).new hgX
    clear B0 hg1 hgX d0 d1 d2 d3
    go_upto_region 2 with fail
    generalize w1.alloc (.cells #[.slice none 0 0, .slice none 0 0, .slice none 0 0, .slice none 0 0] 27) = w2 at B2 ⊢
    have hE2 := hE.new B2.g
    have e0 : w2.cell? ⟨0, 0, none⟩ = some (.iface 205 (.pointer (some a))) := hE2
    go_wp2_with fail
    refine (isErr_any s a w2 hE2).mono ?_
    rintro e w3 ⟨rfl, hg3⟩
    have B3 := B2.new hg3
    have y0 := B3.res.cell 0
    have y1 := B3.res.cell 1
    have y2 := B3.res.cell 2
    have y3 := B3.res.cell 3
    have f0 := B3.res.frozen 0
    have f1 := B3.res.frozen 1
    have f2 := B3.res.frozen 2
    have f3 := B3.res.frozen 3
    have hfin := Lib.hid (turnGiveF (r := none) B3.g B3.res rfl (OwnF.zero w3 w.heap.size))
    clear B2 B3 hE2 e0 hg3
    go_wp2_with fail
    refine bodyPost_ret (v := .tuple #[.agg #[.slice none 0 0, .slice none 0 0, .slice none 0 0, .slice none 0 0], .bool false]) (by simp [results, Tryz.results17, go_sem, y0, y1, y2, y3]) rfl ?_
    exact hfin.out
  | some c' =>
    rintro e w1 ⟨v1, rfl, hF1, hg1⟩
    obtain ⟨C1, m1, e1, C2, m2, e2, C3, m3, e3, C4, m4, e4, rfl⟩ := hF1.form
    have hgX := World.grownBy_alloc w1 (.cells #[.slice C1 m1 e1, .slice C2 m2 e2, .slice C3 m3 e3, .slice C4 m4 e4] 27) none
    have hX := Blk.new w1 27 #[.slice C1 m1 e1, .slice C2 m2 e2, .slice C3 m3 e3, .slice C4 m4 e4]
    have B2 := (B0.new hg1).new hgX
    have hF2 := (hF1.new hgX).low B0.g.size
    clear B0 hg1 hgX hF1 d0 d1 d2 d3
    go_upto_region 2 with fail
    generalize w1.alloc (.cells #[.slice C1 m1 e1, .slice C2 m2 e2, .slice C3 m3 e3, .slice C4 m4 e4] 27) = w2 at B2 hF2 hX ⊢
    generalize w1.heap.size = X at hX ⊢
    have e0 : w2.cell? ⟨0, 0, none⟩ = some (.iface 205 (.pointer (some a))) := hE.new B2.g
    go_wp2_with fail
    refine (isNil_any a w2).mono ?_
    rintro e w3 ⟨rfl, rfl⟩
    have x0 := hX.cell 0
    have x1 := hX.cell 1
    have x2 := hX.cell 2
    have x3 := hX.cell 3
    have y0 := B2.res.cell 0
    have y1 := B2.res.cell 1
    have y2 := B2.res.cell 2
    have y3 := B2.res.cell 3
    have f0 := B2.res.frozen 0
    have f1 := B2.res.frozen 1
    have f2 := B2.res.frozen 2
    have f3 := B2.res.frozen 3
    have hfin := Lib.hid (turnGiveF (r := some c') B2.g B2.res rfl hF2)
    clear B2 e0 hF2 hX
    go_wp2_with fail
    refine bodyPost_ret (v := .tuple #[.agg #[.slice C1 m1 e1, .slice C2 m2 e2, .slice C3 m3 e3, .slice C4 m4 e4], .bool true]) (by simp [results, Tryz.results17, go_sem, y0, y1, y2, y3]) rfl ?_
    exact hfin.out
end Go.Proofs.YtihobnheficpjaaGreatDoor
namespace Go.Proofs.YtihobnheficpjaaGreatDoor
open Go.RowKit

theorem turnSteal_bad {plan : List Node} {c : Crew} {w f : Int} (h : crewValid plan c = false) : turnSteal plan c w f = none := by unfold turnSteal; rw [h]; rfl
theorem turnSteal_out {plan : List Node} {c : Crew} {w f : Int} (h : isWorker c w = false) : turnSteal plan c w f = none := by unfold turnSteal; rw [h, Bool.and_false]; rfl
theorem turnSteal_out2 {plan : List Node} {c : Crew} {w f : Int} (h : isWorker c f = false) : turnSteal plan c w f = none := by unfold turnSteal; rw [h, Bool.and_false]; rfl
theorem turnSteal_self {plan : List Node} {c : Crew} {w : Int} : turnSteal plan c w w = none := by unfold turnSteal; simp
theorem turnSteal_full {plan : List Node} {c : Crew} {k : Nat} {f : Int} {d : List Int} (hd : c.deques[k]? = some d) (h : d ≠ []) : turnSteal plan c (k : Int) f = none := by
  unfold turnSteal
  rw [Int.toNat_natCast, List.getD_eq_getElem?_getD, hd]
  simp [h]
theorem turnSteal_eq {plan : List Node} {c : Crew} {k f : Nat} (hv : crewValid plan c = true) (hk : k < c.deques.length) (hf : f < c.deques.length) (hne : k ≠ f) (he : c.deques[k]? = some []) {d : List Int} (hd : c.deques[f]? = some d) : turnSteal plan c (k : Int) (f : Int) = (dequeSteal d).map fun x => doNode plan { c with deques := c.deques.set f x.1 } k x.2 := by
  have H := crewValid_iff.1 hv
  have hw : isWorker c (k : Int) = true := isWorker_iff.2 ⟨Int.natCast_nonneg k, by omega⟩
  have hw2 : isWorker c (f : Int) = true := isWorker_iff.2 ⟨Int.natCast_nonneg f, by omega⟩
  have hne' : ¬ (k : Int) = (f : Int) := by omega
  unfold turnSteal dequeSteal
  rw [hv, hw, hw2, H.deque hd, Int.toNat_natCast, Int.toNat_natCast, List.getD_eq_getElem?_getD, he, List.getD_eq_getElem?_getD, hd, decide_eq_false hne']
  simp only [Option.getD_some, decide_true, Bool.not_false, Bool.and_self, if_true]
  cases d <;> rfl
set_option maxHeartbeats 6400000 in
set_option maxRecDepth 20000 in
theorem specTurnSteal_any (pv v : Value) (plan : List Node) (c : Crew) (wk fk : Int) (w : World) (hp : RN w pv plan) (h : CV w v c) (hpl : plan.length ≤ 1000000000) (hfit : c.deques.length ≤ 1048576 ∧ ∀ d ∈ c.deques, d.length ≤ 1048576) :
    Calls Tryz.prog 26 #[pv, v, .int .i64 wk, .int .i64 fk] w (TurnOut w (turnSteal plan c wk fk)) := by
  obtain ⟨A, n, cp, rfl, -, hn, -⟩ := hp.form'
  obtain ⟨A1, n1, c1, A2, n2, c2, A3, n3, c3, A4, n4, c4, rfl, h1, -, -, -⟩ := h.form
  have B0 := Begun.start h
  have hn1 := h1.len
  have hn1b : n1 ≤ 1048576 := by omega
  have Hn1 := Lib.hid hn1
  have Hfit := Lib.hid hfit.2
  clear hn hn1 h1 h hfit
  by_cases hv : crewValid plan c = true
  · have Hv := Lib.hid hv
    by_cases hin : 0 ≤ wk ∧ wk ≤ (n1 : Int) - 1
    · have Hin : Hid ((decide (0 ≤ wk) && decide (wk ≤ (n1 : Int) - 1)) = true) := by show _ = _; simp [hin.1, hin.2]
      by_cases hif : 0 ≤ fk ∧ fk ≤ (n1 : Int) - 1
      · have Hif : Hid ((decide (0 ≤ fk) && decide (fk ≤ (n1 : Int) - 1)) = true) := by show _ = _; simp [hif.1, hif.2]
        by_cases hsame : wk = fk
        · have hb : (wk == fk) = true := by simpa using hsame
          have Hr : Hid (turnSteal plan c wk fk = none) := by show _ = _; rw [hsame]; exact turnSteal_self
          clear hv hin hif hsame
          go_enter Tryz.func26, Tryz.ntmps26
          go_upto_region 1 with fail
          generalize ((w.alloc (.cells #[.slice A1 n1 c1, .slice A2 n2 c2, .slice A3 n3 c3, .slice A4 n4 c4] 27)).alloc (.cells #[.slice none 0 0, .slice none 0 0, .slice none 0 0, .slice none 0 0] 27)) = W at B0 ⊢
          have d0 := B0.b.d0
          have d1 := B0.b.d1
          have d2 := B0.b.d2
          have d3 := B0.b.d3
          go_wp2_with fail
          refine (specCrewValid_b _ _ plan c W (hp.new B0.g) B0.b.cv hpl Hfit.out Hv.out).mono ?_
          rintro e w1 ⟨rfl, hg1⟩
          have B1 := B0.new hg1
          clear B0 hg1 d0 d1 d2 d3
          have d0 := B1.b.d0
          have y0 := B1.res.cell 0
          have y1 := B1.res.cell 1
          have y2 := B1.res.cell 2
          have y3 := B1.res.cell 3
          have f0 := B1.res.frozen 0
          have f1 := B1.res.frozen 1
          have f2 := B1.res.frozen 2
          have f3 := B1.res.frozen 3
          have hfin := Lib.hid (turnFail B1.g)
          clear B1
          go_wp2_with fail
          refine (l6In_b _ _ _ _ Hin.out).mono ?_
          rintro e w2 ⟨rfl, rfl⟩
          go_wp2_with fail
          refine (l6In_b _ _ _ _ Hif.out).mono ?_
          rintro e w2 ⟨rfl, rfl⟩
          go_wp2_with fail
          refine bodyPost_ret (v := .tuple #[.agg #[.slice none 0 0, .slice none 0 0, .slice none 0 0, .slice none 0 0], .bool false]) (by simp [results, Tryz.results26, go_sem, y0, y1, y2, y3]) rfl ?_
          rw [Hr.out]
          exact hfin.out
        · have hb : (wk == fk) = false := by simpa using hsame
          obtain ⟨k, rfl⟩ := Int.eq_ofNat_of_zero_le hin.1
          obtain ⟨f, rfl⟩ := Int.eq_ofNat_of_zero_le hif.1
          have hk : k < n1 := by omega
          have hf : f < n1 := by omega
          have hkf : k ≠ f := fun e => hsame (by rw [e])
          clear hv hin hif hsame
          go_enter Tryz.func26, Tryz.ntmps26
          go_upto_region 1 with fail
          generalize ((w.alloc (.cells #[.slice A1 n1 c1, .slice A2 n2 c2, .slice A3 n3 c3, .slice A4 n4 c4] 27)).alloc (.cells #[.slice none 0 0, .slice none 0 0, .slice none 0 0, .slice none 0 0] 27)) = W at B0 ⊢
          have d0 := B0.b.d0
          have d1 := B0.b.d1
          have d2 := B0.b.d2
          have d3 := B0.b.d3
          go_wp2_with fail
          refine (specCrewValid_b _ _ plan c W (hp.new B0.g) B0.b.cv hpl Hfit.out Hv.out).mono ?_
          rintro e w1 ⟨rfl, hg1⟩
          have B1 := B0.new hg1
          clear B0 hg1 d0 d1 d2 d3
          have d0 := B1.b.d0
          have d1 := B1.b.d1
          have d2 := B1.b.d2
          have d3 := B1.b.d3
          have hkD : k < c.deques.length := by rw [← Hn1.out]; exact hk
          have hfD : f < c.deques.length := by rw [← Hn1.out]; exact hf
          obtain ⟨g, o, dw, Bw, mw, ew, rfl, hdw, qw, hrw, hmw, -, -⟩ := B1.b.dq.at_ hk
          obtain ⟨g2, o2, d, Bd, md, ed, e2, hd, q0, hrd, -, -, -⟩ := B1.b.dq.at_ hf
          injection e2 with e2
          injection e2 with e2 e3
          subst e2 e3
          have hki : (k : Int) < (n1 : Int) := by omega
          have hfi : (f : Int) < (n1 : Int) := by omega
          by_cases hm0 : mw = 0
          · have hgt : ¬ ((0 : Int) < (mw : Int)) := by omega
            have hdw0 : dw = [] := List.eq_nil_of_length_eq_zero (by omega)
            subst hdw0
            have Heq := Lib.hid (turnSteal_eq Hv.out hkD hfD hkf hdw hd)
            have Hd := Lib.hid hd
            clear hd hdw hmw hm0
            go_wp2_with fail
            refine (l6In_b _ _ _ _ Hin.out).mono ?_
            rintro e w2 ⟨rfl, rfl⟩
            go_wp2_with fail
            refine (l6In_b _ _ _ _ Hif.out).mono ?_
            rintro e w2 ⟨rfl, rfl⟩
            go_wp2_with fail
            refine (specDequeSteal_any _ d w1 hrd).mono ?_
            cases hpop : dequeSteal d with
            | none =>
              rintro e w2 ⟨u, y, rfl, hu, hg2⟩
              have B2 := B1.new hg2
              have Hr : Hid (turnSteal plan c (k : Int) (f : Int) = none) := by show _ = _; rw [Heq.out, hpop]; rfl
              have y0 := B2.res.cell 0
              have y1 := B2.res.cell 1
              have y2 := B2.res.cell 2
              have y3 := B2.res.cell 3
              have f0 := B2.res.frozen 0
              have f1 := B2.res.frozen 1
              have f2 := B2.res.frozen 2
              have f3 := B2.res.frozen 3
              have hfin := Lib.hid (turnFail B2.g)
              clear hpop B1 B2 d0 d1 d2 d3 hg2 q0 hrd qw hrw
              obtain ⟨Au, nu, cu, rfl⟩ := hu.val
              go_wp2_with fail
              refine bodyPost_ret (v := .tuple #[.agg #[.slice none 0 0, .slice none 0 0, .slice none 0 0, .slice none 0 0], .bool false]) (by simp [results, Tryz.results26, go_sem, y0, y1, y2, y3]) rfl ?_
              rw [Hr.out]
              exact hfin.out
            | some lx =>
              obtain ⟨l, x⟩ := lx
              rintro e w2 ⟨u, rfl, hu, hg2⟩
              have H := crewValid_iff.1 Hv.out
              obtain ⟨hxd, hll⟩ := steal_mem hpop
              have hl10 : l.length ≤ 10 := Nat.le_trans hll (deque_len H d (List.mem_of_getElem? Hd.out))
              obtain ⟨m, nd, rfl, hnd, hrdy, hmp⟩ := taken_node H Hd.out hxd
              have HH := Lib.hid H
              have Hr : Hid (turnSteal plan c (k : Int) (f : Int) = some (specDo plan { c with deques := c.deques.set f l } k m nd)) := by show _ = _; rw [Heq.out, hpop, specDo_eq H hnd hrdy]; rfl
              have Hnd := Lib.hid hnd
              have hDo : Hid (DoPre plan { c with deques := c.deques.set f l } k m) := doPre_of H hkD hmp hl10
              have B2 := B1.new hg2
              have hs1 : w.heap.size ≤ w1.heap.size := B1.g.size
              have hu' := hu.lower hs1
              obtain ⟨Au, nu, cu, rfl⟩ := hu.ri.val
              clear hpop H hxd hll hl10 hnd hrdy hmp hu B1 hg2 d0 d1 d2 d3 q0 hrd qw hrw
              have d0 := B2.b.d0
              have d1 := B2.b.d1
              have d2 := B2.b.d2
              have d3 := B2.b.d3
              go_wp2_with fail
              refine (l14Copy_any _ c w2 B2.b.cv (by have := HH.out.d4; omega) (fun l hl => by have := deque_len HH.out l hl; omega) (by have := HH.out.rl; have := planValid_len HH.out.pv; omega) (fun l hl => by have := row_len HH.out l hl; omega) (by have := HH.out.counts; rw [this, lefts_len]; have := planValid_len HH.out.pv; omega) (by have := done_le HH.out; have := planValid_len HH.out.pv; omega)).mono ?_
              rintro e w3 ⟨v3, rfl, ⟨dv, kv, ov, rv, xs, ys, rfl, q1, q2, q3, q4, q5, q6⟩, hg3⟩
              have B3 := B2.new hg3
              have hu3 := hu'.new hg3
              have hs2 : w.heap.size ≤ w2.heap.size := B2.g.size
              obtain ⟨gd, capd, rfl, hcd, hbd⟩ := q1.form Hn1.out.symm (by omega)
              obtain ⟨Ar, nr, cr, rfl⟩ := q4.rl.val
              obtain ⟨Ak, nk, ck, rfl⟩ := q2.val
              obtain ⟨Ao, no, co, rfl⟩ := q3.ri.val
              clear d0 d1 d2 d3 B2 hu' hg3
              go_upto_region 7 with fail
              have hO := BoxO.lay (k := .slice Ak nk ck) (q1.low hs2) (q3.lower hs2) (q4.low hs2) q5 q6
              have hgX := World.grownBy_alloc w3 (.cells #[.slice (some ⟨gd, 0, none⟩) n1 capd, .slice Ak nk ck, .slice Ao no co, .slice Ar nr cr] 27) none
              have q2' := q2.new hgX
              have hu4 := hu3.new hgX
              have B4 := B3.new hgX
              have hRX : w.heap.size + 1 < w3.heap.size := B3.res.lt
              generalize w3.alloc (.cells #[.slice (some ⟨gd, 0, none⟩) n1 capd, .slice Ak nk ck, .slice Ao no co, .slice Ar nr cr] 27) = w4 at hO hgX q2' hu4 B4 ⊢
              generalize w3.heap.size = X at hO hRX ⊢
              obtain ⟨⟨u0, cR, fR⟩, hst5, hE5, hbd5, hx5, hcv5⟩ := hO.setDeq hfD hu4 q2'
              have x0 := hO.x.cell 0
              have res5 := B4.res.past hst5 hE5
              have g5 := gb_new B4.g hst5 (fun g e => by cases e; exact .inl hbd5)
              clear q1 q2 q3 q4 q5 q6 hgX B3 hu3
              go_upto_region 8 with fail
              clear cR fR x0 hst5 hE5 q2' hu4 B4 hO
              generalize w4.setCell ⟨gd, f, none⟩ (.slice Au nu cu) = w5 at hx5 hcv5 res5 g5 ⊢
              have x0 := hx5.cell 0
              have x1 := hx5.cell 1
              have x2 := hx5.cell 2
              have x3 := hx5.cell 3
              go_wp2_with fail
              refine (l14Do_any _ _ plan { c with deques := c.deques.set f l } k m nd w5 (hp.new g5) hcv5 hDo.out Hnd.out).mono ?_
              rintro e w6 ⟨v6, rfl, hcv6, hg6⟩
              have res6 := res5.grown hg6 (by simp)
              have g6 := gb_trans g5 hg6
              obtain ⟨B1', m1', e1', B2', m2', e2', B3', m3', e3', B4', m4', e4', rfl, -, -, -, -⟩ := hcv6.form
              have hfin := Lib.hid (turnGive g6 res6 hcv6)
              have y0 := res6.cell 0
              have y1 := res6.cell 1
              have y2 := res6.cell 2
              have y3 := res6.cell 3
              have f0 := res6.frozen 0
              have f1 := res6.frozen 1
              have f2 := res6.frozen 2
              have f3 := res6.frozen 3
              clear x0 x1 x2 x3 hx5 hcv5 res5 g5 hg6 hcv6 res6 g6
              go_wp2_with fail
              refine bodyPost_ret (v := .tuple #[.agg #[.slice B1' m1' e1', .slice B2' m2' e2', .slice B3' m3' e3', .slice B4' m4' e4'], .bool true]) (by simp [results, Tryz.results26, go_sem, y0, y1, y2, y3]) rfl ?_
              rw [Hr.out]
              exact hfin.out
          · have hgt : (0 : Int) < (mw : Int) := by omega
            have Hr : Hid (turnSteal plan c (k : Int) (f : Int) = none) := turnSteal_full hdw (fun e => hm0 (by rw [hmw, e]; rfl))
            have y0 := B1.res.cell 0
            have y1 := B1.res.cell 1
            have y2 := B1.res.cell 2
            have y3 := B1.res.cell 3
            have f0 := B1.res.frozen 0
            have f1 := B1.res.frozen 1
            have f2 := B1.res.frozen 2
            have f3 := B1.res.frozen 3
            have hfin := Lib.hid (turnFail B1.g)
            clear B1 hd hdw hmw hm0 hrw hrd q0
            go_wp2_with fail
            refine (l6In_b _ _ _ _ Hin.out).mono ?_
            rintro e w2 ⟨rfl, rfl⟩
            go_wp2_with fail
            refine (l6In_b _ _ _ _ Hif.out).mono ?_
            rintro e w2 ⟨rfl, rfl⟩
            go_wp2_with fail
            refine bodyPost_ret (v := .tuple #[.agg #[.slice none 0 0, .slice none 0 0, .slice none 0 0, .slice none 0 0], .bool false]) (by simp [results, Tryz.results26, go_sem, y0, y1, y2, y3]) rfl ?_
            rw [Hr.out]
            exact hfin.out
      · have Hif : Hid ((decide (0 ≤ fk) && decide (fk ≤ (n1 : Int) - 1)) = false) := by
          show _ = _
          rw [Bool.and_eq_false_iff, decide_eq_false_iff_not, decide_eq_false_iff_not]
          omega
        have Hr : Hid (turnSteal plan c wk fk = none) := by
          show _ = _
          refine turnSteal_out2 ?_
          unfold isWorker
          rw [← Hn1.out, Bool.and_eq_false_iff, decide_eq_false_iff_not, decide_eq_false_iff_not]
          omega
        clear hv hin hif
        go_enter Tryz.func26, Tryz.ntmps26
        go_upto_region 1 with fail
        generalize ((w.alloc (.cells #[.slice A1 n1 c1, .slice A2 n2 c2, .slice A3 n3 c3, .slice A4 n4 c4] 27)).alloc (.cells #[.slice none 0 0, .slice none 0 0, .slice none 0 0, .slice none 0 0] 27)) = W at B0 ⊢
        have d0 := B0.b.d0
        have d1 := B0.b.d1
        have d2 := B0.b.d2
        have d3 := B0.b.d3
        go_wp2_with fail
        refine (specCrewValid_b _ _ plan c W (hp.new B0.g) B0.b.cv hpl Hfit.out Hv.out).mono ?_
        rintro e w1 ⟨rfl, hg1⟩
        have B1 := B0.new hg1
        clear B0 hg1 d0 d1 d2 d3
        have d0 := B1.b.d0
        have y0 := B1.res.cell 0
        have y1 := B1.res.cell 1
        have y2 := B1.res.cell 2
        have y3 := B1.res.cell 3
        have f0 := B1.res.frozen 0
        have f1 := B1.res.frozen 1
        have f2 := B1.res.frozen 2
        have f3 := B1.res.frozen 3
        have hfin := Lib.hid (turnFail B1.g)
        clear B1
        go_wp2_with fail
        refine (l6In_b _ _ _ _ Hin.out).mono ?_
        rintro e w2 ⟨rfl, rfl⟩
        go_wp2_with fail
        refine (l6In_b _ _ _ _ Hif.out).mono ?_
        rintro e w2 ⟨rfl, rfl⟩
        go_wp2_with fail
        refine bodyPost_ret (v := .tuple #[.agg #[.slice none 0 0, .slice none 0 0, .slice none 0 0, .slice none 0 0], .bool false]) (by simp [results, Tryz.results26, go_sem, y0, y1, y2, y3]) rfl ?_
        rw [Hr.out]
        exact hfin.out
    · have Hin : Hid ((decide (0 ≤ wk) && decide (wk ≤ (n1 : Int) - 1)) = false) := by
        show _ = _
        rw [Bool.and_eq_false_iff, decide_eq_false_iff_not, decide_eq_false_iff_not]
        omega
      have Hr : Hid (turnSteal plan c wk fk = none) := by
        show _ = _
        refine turnSteal_out ?_
        unfold isWorker
        rw [← Hn1.out, Bool.and_eq_false_iff, decide_eq_false_iff_not, decide_eq_false_iff_not]
        omega
      clear hv hin
      go_enter Tryz.func26, Tryz.ntmps26
      go_upto_region 1 with fail
      generalize ((w.alloc (.cells #[.slice A1 n1 c1, .slice A2 n2 c2, .slice A3 n3 c3, .slice A4 n4 c4] 27)).alloc (.cells #[.slice none 0 0, .slice none 0 0, .slice none 0 0, .slice none 0 0] 27)) = W at B0 ⊢
      have d0 := B0.b.d0
      have d1 := B0.b.d1
      have d2 := B0.b.d2
      have d3 := B0.b.d3
      go_wp2_with fail
      refine (specCrewValid_b _ _ plan c W (hp.new B0.g) B0.b.cv hpl Hfit.out Hv.out).mono ?_
      rintro e w1 ⟨rfl, hg1⟩
      have B1 := B0.new hg1
      clear B0 hg1 d0 d1 d2 d3
      have d0 := B1.b.d0
      have y0 := B1.res.cell 0
      have y1 := B1.res.cell 1
      have y2 := B1.res.cell 2
      have y3 := B1.res.cell 3
      have f0 := B1.res.frozen 0
      have f1 := B1.res.frozen 1
      have f2 := B1.res.frozen 2
      have f3 := B1.res.frozen 3
      have hfin := Lib.hid (turnFail B1.g)
      clear B1
      go_wp2_with fail
      refine (l6In_b _ _ _ _ Hin.out).mono ?_
      rintro e w2 ⟨rfl, rfl⟩
      go_wp2_with fail
      refine bodyPost_ret (v := .tuple #[.agg #[.slice none 0 0, .slice none 0 0, .slice none 0 0, .slice none 0 0], .bool false]) (by simp [results, Tryz.results26, go_sem, y0, y1, y2, y3]) rfl ?_
      rw [Hr.out]
      exact hfin.out
  · have hv' : crewValid plan c = false := by simpa using hv
    have Hv := Lib.hid hv'
    have Hr : Hid (turnSteal plan c wk fk = none) := turnSteal_bad hv'
    clear hv hv'
    go_enter Tryz.func26, Tryz.ntmps26
    go_upto_region 1 with fail
    generalize ((w.alloc (.cells #[.slice A1 n1 c1, .slice A2 n2 c2, .slice A3 n3 c3, .slice A4 n4 c4] 27)).alloc (.cells #[.slice none 0 0, .slice none 0 0, .slice none 0 0, .slice none 0 0] 27)) = W at B0 ⊢
    have d0 := B0.b.d0
    have d1 := B0.b.d1
    have d2 := B0.b.d2
    have d3 := B0.b.d3
    go_wp2_with fail
    refine (specCrewValid_b _ _ plan c W (hp.new B0.g) B0.b.cv hpl Hfit.out Hv.out).mono ?_
    rintro e w1 ⟨rfl, hg1⟩
    have B1 := B0.new hg1
    clear B0 hg1 d0 d1 d2 d3
    have y0 := B1.res.cell 0
    have y1 := B1.res.cell 1
    have y2 := B1.res.cell 2
    have y3 := B1.res.cell 3
    have f0 := B1.res.frozen 0
    have f1 := B1.res.frozen 1
    have f2 := B1.res.frozen 2
    have f3 := B1.res.frozen 3
    have hfin := Lib.hid (turnFail B1.g)
    clear B1
    go_wp2_with fail
    refine bodyPost_ret (v := .tuple #[.agg #[.slice none 0 0, .slice none 0 0, .slice none 0 0, .slice none 0 0], .bool false]) (by simp [results, Tryz.results26, go_sem, y0, y1, y2, y3]) rfl ?_
    rw [Hr.out]
    exact hfin.out
end Go.Proofs.YtihobnheficpjaaGreatDoor
