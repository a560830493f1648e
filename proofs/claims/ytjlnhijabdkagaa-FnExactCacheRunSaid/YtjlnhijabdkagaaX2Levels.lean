/- Walks: impl.levelList. -/
import Derived.Test.YtjlnhijabdkagaaX1Queue
import Derived.Test.YtjlnhijabdkagaaC6GraphOf
import Derived.Test.YtjlnhijabdkagaaG1Links
import Derived.Test.YtjlnhijabdkagaaA7Graph
import Derived.Test.YtjlnhijabdkagaaE2Args
import Derived.BigRegion
import Derived.RegionTactic
import Derived.Deep.LoopGhost
namespace Go.Proofs.Ytjlnhijabdkagaa
open Go.RowKit

theorem OwnI.made {w : World} {base n : Nat} {v : Value} (h : w.ownsRow base 3 1 v n (madeCells #[Value.int .i64 0] n).toList) : OwnI w base v (List.replicate n 0) := by
  unfold OwnI
  have e : (madeCells #[Value.int .i64 0] n).toList = (List.replicate n (0 : Int)).map (.int .i64) := by
    apply List.ext_getElem?
    intro j
    by_cases hj : j < n
    · simp [madeCells, hj, Nat.mod_one]
    · simp [madeCells, hj]
  rw [List.length_replicate, ← e]
  exact h
theorem OwnI.apart_ {w w' : World} {base : Nat} {v : Value} {l : List Int} {row : Option Nat} (h : OwnI w base v l) (hg : w.grownBy w' row) (hr : v.ownBlock = none ∨ v.ownBlock ≠ row) : OwnI w' base v l := World.ownsRow.kept h hg hr
/-- Memory while the levels are reckoned: the graph stands; two rows of integers in blocks gl, gf; the queue in block qb. -/
structure LMid (w1 wr : World) (n gl gf qb : Nat) (lev lf : List Int) (xs : List Value) : Prop where
  l : OwnI wr w1.heap.size (.slice (some ⟨gl, 0, none⟩) n n) lev
  f : OwnI wr w1.heap.size (.slice (some ⟨gf, 0, none⟩) n n) lf
  q : Qu wr w1.heap.size qb xs
  g : w1.grownBy wr none
theorem LMid.setF {w1 wr : World} {n gl gf qb : Nat} {lev lf : List Int} {xs : List Value} (M : LMid w1 wr n gl gf qb lev lf xs) (hne : gl ≠ gf) (hn : n = lf.length) (hpos : w1.heap.size ≤ gf) (hb : ∃ cs, Blk wr gf 3 cs) (k : Nat) (x : Int) :
    LMid w1 (wr.setCell ⟨gf, k, none⟩ (.int .i64 x)) n gl gf qb lev (lf.set k x) xs := by
  have hst : wr.grownBy (wr.setCell ⟨gf, k, none⟩ (.int .i64 x)) (some gf) := gb_set (p := ⟨gf, k, none⟩) (gb_refl wr (some gf)) (.inr rfl) _
  obtain ⟨cs, hb⟩ := hb
  exact ⟨M.l.apart_ hst (.inr (by simp [Value.ownBlock, hne])), M.f.set_ hn k x, M.q.grown hst (NotE.blk hb (by decide)) (NotE.blk hb (by decide)), gb_set (p := ⟨gf, k, none⟩) M.g (.inl hpos) _⟩
theorem LMid.setL {w1 wr : World} {n gl gf qb : Nat} {lev lf : List Int} {xs : List Value} (M : LMid w1 wr n gl gf qb lev lf xs) (hne : gl ≠ gf) (hn : n = lev.length) (hpos : w1.heap.size ≤ gl) (hb : ∃ cs, Blk wr gl 3 cs) (k : Nat) (x : Int) :
    LMid w1 (wr.setCell ⟨gl, k, none⟩ (.int .i64 x)) n gl gf qb (lev.set k x) lf xs := by
  have hst : wr.grownBy (wr.setCell ⟨gl, k, none⟩ (.int .i64 x)) (some gl) := gb_set (p := ⟨gl, k, none⟩) (gb_refl wr (some gl)) (.inr rfl) _
  obtain ⟨cs, hb⟩ := hb
  exact ⟨M.l.set_ hn k x, M.f.apart_ hst (.inr (by simp [Value.ownBlock, Ne.symm hne])), M.q.grown hst (NotE.blk hb (by decide)) (NotE.blk hb (by decide)), gb_set (p := ⟨gl, k, none⟩) M.g (.inl hpos) _⟩
theorem LMid.queue {w1 wr wy : World} {n gl gf qb : Nat} {lev lf : List Int} {xs ys : List Value} (M : LMid w1 wr n gl gf qb lev lf xs) (hq : Qu wy w1.heap.size qb ys) (hf : QFrame w1.heap.size wr wy) : LMid w1 wy n gl gf qb lev lf ys :=
  ⟨own_blk M.l (fun g cs h => hf.other g _ cs (by decide) (by decide) h), own_blk M.f (fun g cs h => hf.other g _ cs (by decide) (by decide) h), hq, gb_of_below ((gb_below M.g).trans hf.b) none⟩
theorem LMid.drew {w1 wr : World} {n gl gf qb : Nat} {lev lf : List Int} {xs : List Value} (M : LMid w1 wr n gl gf qb lev lf xs) : LMid w1 wr.drew n gl gf qb lev lf xs := ⟨M.l, M.f, M.q, gb_drew M.g⟩
/-- A cell of one of the rows. -/
theorem OwnI.cell {w : World} {base g n c : Nat} {l : List Int} (h : OwnI w base (.slice (some ⟨g, 0, none⟩) n c) l) {k : Nat} {x : Int} (hx : l[k]? = some x) : w.cell? ⟨g, k, none⟩ = some (.int .i64 x) ∧ w.frozen? ⟨g, k, none⟩ = false ∧ base ≤ g ∧ ∃ cs, Blk w g 3 cs := by
  obtain ⟨g', cap', cur, he, _, hbg, hbk, hcs⟩ := h.form (by have := (List.getElem?_eq_some_iff.1 hx).1; omega)
  obtain rfl : g = g' := slice_block he
  exact ⟨hcs k x hx, hbk.frozen k, hbg, cur, hbk⟩
def LevPost (w : World) (plan : List Node) (e : Ending) (w' : World) : Prop :=
  ∃ v, e = .returned (.tuple #[v, .bool (planValid plan)]) ∧ w.grownBy w' none ∧ OwnI w' w.heap.size v (if planValid plan then levels plan else [])
theorem Gr.users {w : World} {base k i : Nat} {B : Nat → Nat} {R : Nat → Value × List Nat} (h : Gr w base k B R) {l : List Nat} (ha : i < 2 * k + 1) (hl : (R i).2 = l) : ∃ A c, (R i).1 = .slice A l.length c ∧ l.length ≤ 1000 ∧ (∀ t u, l[t]? = some u → u < k ∧ ∃ g, A = some ⟨g, 0, none⟩ ∧ w.cell? ⟨g, t, none⟩ = some (.pointer (some ⟨B u, 0, none⟩))) := by
  subst hl
  obtain ⟨A, c, h1, h2⟩ := h.form ha
  refine ⟨A, c, h1, h.len i, fun t u hu => ⟨h.mem i ha u (List.mem_of_getElem? hu), ?_⟩⟩
  obtain ⟨g, hg, hc⟩ := h2 (by have := (List.getElem?_eq_some_iff.1 hu).1; omega)
  exact ⟨g, hg, hc t u hu⟩

set_option maxRecDepth 100000 in
set_option maxHeartbeats 1000000 in
theorem levelList_any (v : Value) (plan : List Node) (w : World) (h : RN w v plan) :
    Calls Try.prog 89 #[v] w (LevPost w plan) := by
  obtain ⟨A, n, c, rfl, -, hn, -⟩ := h.form'
  have Hn := Lib.hid hn
  clear hn
  by_cases hv : planValid plan = true
  · have Hv := Lib.hid hv
    have hn10 : n ≤ 10 := by have := planValid_len hv; rw [← Hn.out] at this; exact this
    clear hv
    obtain ⟨i0, hi, hz0, hz1, hz2⟩ := info_parts info3
    go_enter Try.func89, Try.ntmps89
    go_wp2_with fail
    refine (graphOf_all _ plan _ h).mono ?_
    rintro e w1 ⟨gv, rfl, hg1, hG⟩
    obtain ⟨B, R, G, hR0, hR⟩ := hG Hv.out
    clear hG
    rw [Hv.out]
    have hz : (R 0).2 = List.range n := by rw [hR 0, Hn.out]; exact graphTo_zero (Nat.le_refl _)
    rw [← Hn.out] at G
    obtain ⟨Ag, cg, hgv, -⟩ := G.form (a := 0) (by omega)
    rw [hz, List.length_range] at hgv
    have hgv' := hgv
    rw [hR0] at hgv
    subst hgv
    have Hgv := Lib.hid hgv'
    have Hz := Lib.hid hz
    have HR : Hid ((∀ i, i < n → (R (2 * i + 1)).2 = needsOf plan i) ∧ ∀ i, (R (2 * i + 2)).2 = usersOf plan i) :=
      ⟨fun i hi => by rw [hR, graphL_needs Hv.out (by rw [← Hn.out]; exact hi)], fun i => by rw [hR, graphL_users Hv.out]⟩
    clear hgv' hz hR hR0
    have hs1 := hg1.size
    go_wp2_with (at_make; go_must (refine wpList_make_full _ rfl _ _ 27 rfl w1.heap.size 3 i0 _ 1 Try.underlying27 hi hz0 hz1 _ _ _ _ n rfl rfl rfl rfl (by rw [hz2]; omega) (by unfold maxLen; omega) (Nat.le_refl _) ?_))
    intro w2 hown2 hg2
    have hl2 : OwnI w2 w1.heap.size (.slice (some ⟨w1.heap.size, 0, none⟩) n n) (List.replicate n 0) := OwnI.made (by simpa using hown2)
    have hs2 := (hown2.lt w1.heap.size rfl).2
    clear hown2
    go_wp2_with (at_make; go_must (refine wpList_make_full _ rfl _ _ 27 rfl w1.heap.size 3 i0 _ 1 Try.underlying27 hi hz0 hz1 _ _ _ _ n rfl rfl rfl rfl (by rw [hz2]; omega) (by unfold maxLen; omega) (by omega) ?_))
    intro w3 hown3 hg3
    have hf3 : OwnI w3 w1.heap.size (.slice (some ⟨w2.heap.size, 0, none⟩) n n) (List.replicate n 0) := OwnI.made (by simpa using hown3)
    have hs3 := (hown3.lt w2.heap.size rfl).2
    clear hown3
    have hl3 := hl2.new hg3
    have hg13 := gb_trans hg2 hg3
    clear hg2 hg3 hl2
    go_wp2_with fail
    have hM0 : LMid w1 (w3.alloc (.cells #[.slice none 0 0] 125)) n w1.heap.size w2.heap.size w3.heap.size (List.replicate n 0) (List.replicate n 0) [] :=
      ⟨hl3.alloc _, hf3.alloc _, ⟨by omega, _, Blk.new w3 _ _, QS.nil _ _ _⟩, gb_alloc hg13 _⟩
    clear hl3 hf3 hg13
    have hne : w1.heap.size ≠ w2.heap.size := by omega
    go_wp2_with fail
    go_loopg [29] (n + 1) (fun m i wr => ∃ k : Nat, k ≤ n ∧ m = n + 1 - k ∧ i = .int .i64 k ∧ Hid (LMid w1 wr n w1.heap.size w2.heap.size w3.heap.size (List.replicate n 0) (needsLen plan k ++ List.replicate (n - k) 0) ((firstQ plan k).map (fun j => Value.pointer (some ⟨B j, 0, none⟩)))))
    case atStart => exact ⟨0, Nat.zero_le _, by omega, rfl, hM0⟩
    case round =>
      clear hM0
      obtain ⟨k, hk, rfl, rfl, HM⟩ := hrel
      by_cases hlt : k < n
      · have Gk := G.new HM.out.g
        obtain ⟨gg, e, c0⟩ := Gk.at0 Hgv.out Hz.out hlt
        subst e
        obtain ⟨An, cn, hrn, hln, -⟩ := Gk.users (i := 2 * k + 1) (by omega) (HR.out.1 k hlt)
        have c1 : wr.cell? ⟨B k, 1, none⟩ = some (R (2 * k + 1)).1 := (Gk.blk k hlt).cell 1
        rw [hrn] at c1
        have hll : (needsLen plan k ++ List.replicate (n - k) (0 : Int)).length = n := by rw [List.length_append, needsLen_len, List.length_replicate]; omega
        have hx : (needsLen plan k ++ List.replicate (n - k) (0 : Int))[k]? = some 0 := by
          rw [List.getElem?_append_right (by rw [needsLen_len]; omega), needsLen_len, List.getElem?_replicate, if_pos (by omega)]
        obtain ⟨c2, f2, hb2, hbk2⟩ := HM.out.f.cell hx
        have hset : (needsLen plan k ++ List.replicate (n - k) (0 : Int)).set k ((needsOf plan k).length : Int) = needsLen plan (k + 1) ++ List.replicate (n - (k + 1)) 0 := by
          rw [needsLen_succ]
          rw [List.set_append_right _ _ (by rw [needsLen_len]; exact Nat.le_refl _), needsLen_len, Nat.sub_self, show n - k = n - (k + 1) + 1 by omega, List.replicate_succ, List.set_cons_zero, List.append_assoc]
          rfl
        have HM2 := HM.out.setF hne hll.symm hb2 hbk2 k ((needsOf plan k).length : Int)
        rw [hset] at HM2
        have HM2 := Lib.hid HM2
        have hqn := firstQ_len plan k
        clear Gk hrn hll hx hbk2 hset HM
        by_cases h0 : (needsOf plan k).length = 0
        · have HQ : Hid ((firstQ plan (k + 1)).map (fun j => Value.pointer (some ⟨B j, 0, none⟩)) = (firstQ plan k).map (fun j => Value.pointer (some ⟨B j, 0, none⟩)) ++ [.pointer (some ⟨B k, 0, none⟩)]) := by
            show _ = _
            rw [firstQ_succ, if_pos h0, List.map_append]
            rfl
          rw [h0] at c1 HM2
          clear h0 hln
          go_wp2_with fail
          refine (put_any HM2.out.q (by rw [List.length_map]; omega)).mono ?_
          rintro e w5 ⟨rfl, hq5, hf5⟩
          have HM5 := Lib.hid (HM2.out.queue hq5 hf5)
          clear HM2 hq5 hf5 c0 c1 c2 f2
          go_wp2_with fail
          go_roundg (n + 1 - (k + 1))
          case measure => omega
          case rel => exact ⟨k + 1, by omega, rfl, by go_num, by rw [HQ.out]; exact HM5⟩
        · have HQ : Hid ((firstQ plan (k + 1)).map (fun j => Value.pointer (some ⟨B j, 0, none⟩)) = (firstQ plan k).map (fun j => Value.pointer (some ⟨B j, 0, none⟩))) := by
            show _ = _
            rw [firstQ_succ, if_neg h0, List.append_nil]
          have hb0 : (((needsOf plan k).length : Int) == 0) = false := by simpa using h0
          clear h0
          generalize (needsOf plan k).length = ln at *
          go_wp2_with fail
          go_roundg (n + 1 - (k + 1))
          case measure => omega
          case rel => exact ⟨k + 1, by omega, rfl, by go_num, by rw [HQ.out]; exact HM2⟩
      · obtain rfl : k = n := by omega
        have HM2 : Hid (LMid w1 wr k w1.heap.size w2.heap.size w3.heap.size (List.replicate k 0) (needsLen plan k) ((firstQ plan k).map (fun j => Value.pointer (some ⟨B j, 0, none⟩)))) := by
          have := HM.out
          rw [Nat.sub_self, List.replicate_zero, List.append_nil] at this
          exact this
        have HI := Lib.hid (QHead.init plan)
        rw [← Hn.out] at HI
        clear HM
        obtain ⟨wo, rfl⟩ : ∃ wo : World, wo = wr := ⟨_, rfl⟩
        go_wp2_with fail
        go_loopg [11] (k + 1) (fun m _ wr => ∃ (order q : List Nat) (lev lf : List Int), order.length ≤ k ∧ m = k + 1 - order.length ∧ Hid (QHead plan order q lev lf) ∧ Hid (LMid w1 wr k w1.heap.size w2.heap.size w3.heap.size lev lf (q.map (fun j => Value.pointer (some ⟨B j, 0, none⟩)))))
        case atStart => exact ⟨[], _, _, _, by simp, rfl, HI, HM2⟩
        case round =>
          clear HM2 HI
          obtain ⟨order, q, lev, lf, hol, rfl, HQ, HM⟩ := hrel
          have hlen := QHead.len HQ.out
          rw [← Hn.out] at hlen
          obtain ⟨hqb, qv, hbq, hqs⟩ := HM.out.q
          obtain ⟨Aq, cq, rfl, hqc⟩ := hqs.ptr
          have c0 := hbq.cell 0
          clear hbq hqs
          cases q with
          | nil =>
            have HL : Hid (lev = levels plan) := QHead.done HQ.out Hv.out
            have hO := HM.out.l
            rw [HL.out] at hO
            have hgf := gb_trans hg1 HM.out.g
            have c0' : wr.cell? ⟨w3.heap.size, 0, none⟩ = some (.slice Aq 0 cq) := c0
            clear HQ HM hqc c0 hlen
            go_wp2_with fail
            go_ret2
            exact ⟨_, by rw [Hv.out]; rfl, hgf, by rw [Hv.out]; exact hO.low hs1⟩
          | cons x q =>
            have c0' : wr.cell? ⟨w3.heap.size, 0, none⟩ = some (.slice Aq (q.length + 1) cq) := c0
            have hlen' : order.length + (q.length + 1) ≤ k := hlen
            clear c0 hlen hqc
            go_wp2_with fail
            refine (take_any HM.out.q (by rw [List.length_map]; omega)).mono ?_
            rintro e w5 ⟨rfl, hq5, hf5⟩
            have HM5 := Lib.hid (HM.out.queue hq5 hf5)
            obtain ⟨hxo, hQ0⟩ := QHead.begin HQ.out
            have HQ0 := Lib.hid hQ0
            have Hxo := Lib.hid hxo
            have hxk : x < k := by
              have := HQ.out.lt x (by simp)
              rw [Hn.out]
              exact this
            clear HM HQ hq5 hf5 hQ0 hxo c0'
            have G5 := G.new HM5.out.g
            have d0 : w5.cell? ⟨B x, 2, none⟩ = some (R (2 * x + 2)).1 := (G5.blk x hxk).cell 2
            obtain ⟨Au, cu, hru, hlu, -⟩ := G5.users (i := 2 * x + 2) (by omega) (HR.out.2 x)
            rw [hru] at d0
            have Hru := Lib.hid hru
            clear hru G5
            go_wp2_with fail
            obtain ⟨wi, rfl⟩ : ∃ wi : World, wi = wr := ⟨_, rfl⟩
            go_loopg [60] ((usersOf plan x).length + 1) (fun m i wr => ∃ (t : Nat) (q : List Nat) (lev lf : List Int), t ≤ (usersOf plan x).length ∧ m = (usersOf plan x).length + 1 - t ∧ i = .int .i64 t ∧ Hid (QInv plan (sofar plan order x t) (order ++ [x]) q lev lf) ∧
              Hid (LMid w1 wr k w1.heap.size w2.heap.size w3.heap.size lev lf (q.map (fun j => Value.pointer (some ⟨B j, 0, none⟩)))))
            case atStart => exact ⟨0, q, lev, lf, Nat.zero_le _, rfl, rfl, HQ0, HM5⟩
            case round =>
              clear HM5 HQ0 d0
              obtain ⟨t, q, lev, lf, ht, rfl, rfl, HQ, HM⟩ := hrel
              have G6 := G.new HM.out.g
              obtain ⟨Au', cu', hru', -, hus⟩ := G6.users (i := 2 * x + 2) (by omega) (HR.out.2 x)
              obtain ⟨rfl, rfl⟩ : Au = Au' ∧ cu = cu' := by
                rw [Hru.out] at hru'
                injection hru' with e1 _ e2
                exact ⟨e1, e2⟩
              clear hru'
              by_cases hlt : t < (usersOf plan x).length
              · obtain ⟨u, hu⟩ : ∃ u, (usersOf plan x)[t]? = some u := ⟨_, List.getElem?_eq_getElem hlt⟩
                obtain ⟨huk, gu, rfl, e0⟩ := hus t u hu
                have hxu : x ∈ needsOf plan u := (mem_usersOf.1 (List.mem_of_getElem? hu)).2
                have e1 : wr.cell? ⟨B u, 0, none⟩ = some (.int .i64 (u : Nat)) := (G6.blk u huk).cell 0
                have e2 : wr.cell? ⟨B x, 0, none⟩ = some (.int .i64 (x : Nat)) := (G6.blk x hxk).cell 0
                have hux : u ≠ x := by
                  rintro rfl
                  exact absurd (needsOf_lt Hv.out hxu).1 (by omega)
                obtain ⟨a, b, ha, hb, hlx, ha0, hau, hb1, hb10, hv0, hvx, hQ⟩ := QInv.step HQ.out Hv.out hxu (sofar_no Hxo.out hu) (by simp)
                rw [← sofar_step hu] at hQ
                obtain ⟨c1, f1, hg1', hbk1⟩ := HM.out.l.cell ha
                obtain ⟨c2, f2, hg2', hbk2⟩ := HM.out.f.cell hb
                obtain ⟨c3, -, -, -⟩ := HM.out.l.cell hlx
                have hll : k = lev.length := by rw [HQ.out.ll]; exact Hn.out
                have hfl : k = lf.length := by rw [HQ.out.fl]; exact Hn.out
                have M1 := HM.out.setL hne hll hg1' hbk1 u (max a (lv plan x + 1))
                have hb2' : ∃ cs, Blk (wr.setCell ⟨w1.heap.size, u, none⟩ (.int .i64 (max a (lv plan x + 1)))) w2.heap.size 3 cs := by
                  obtain ⟨cs, hcs⟩ := hbk2
                  exact ⟨cs, hcs.far (p := ⟨w1.heap.size, u, none⟩) (Ne.symm hne) _⟩
                have M2 := M1.setF hne hfl hg2' hb2' u (b - 1)
                have HM2 := Lib.hid M2
                have HQ2 := Lib.hid hQ
                clear M1 M2 hQ hbk1 hbk2 hb2' hll hfl hu hxu HM HQ ha hb hlx hus G6
                generalize lv plan x = lx at *
                have hBu : B u < w1.heap.size := (G.blk u huk).lt
                have n1 : (⟨w1.heap.size, u, none⟩ : Addr) ≠ ⟨B u, 0, none⟩ := fun e => by injection e with e _; omega
                have n2 : (⟨w1.heap.size, u, none⟩ : Addr) ≠ ⟨w2.heap.size, u, none⟩ := fun e => by injection e with e _; exact hne e
                have n3 : (⟨w2.heap.size, u, none⟩ : Addr) ≠ ⟨B u, 0, none⟩ := fun e => by injection e with e _; omega
                have e1' : ∀ v, (wr.setCell ⟨w1.heap.size, u, none⟩ v).cell? ⟨B u, 0, none⟩ = some (.int .i64 (u : Nat)) := fun v => (World.cell?_setCell_other (h := n1) ..).trans e1
                have c2' : ∀ v, (wr.setCell ⟨w1.heap.size, u, none⟩ v).cell? ⟨w2.heap.size, u, none⟩ = some (.int .i64 b) := fun v => (World.cell?_setCell_other (h := n2) ..).trans c2
                have e1'' : ∀ v v', ((wr.setCell ⟨w1.heap.size, u, none⟩ v).setCell ⟨w2.heap.size, u, none⟩ v').cell? ⟨B u, 0, none⟩ = some (.int .i64 (u : Nat)) := fun v v' => (World.cell?_setCell_other (h := n3) ..).trans (e1' v)
                have f2' : ∀ v, (wr.setCell ⟨w1.heap.size, u, none⟩ v).frozen? ⟨w2.heap.size, u, none⟩ = false := fun v => by rw [World.frozen?_setCell]; exact f2
                clear n1 n2 n3
                obtain ⟨mx, Hmx, hcase⟩ : ∃ mx, Hid (max a (lx + 1) = mx) ∧ ((a < lx + 1 ∧ mx = lx + 1) ∨ (lx + 1 ≤ a ∧ mx = a)) := by
                  refine ⟨_, rfl, ?_⟩
                  omega
                rw [Hmx.out] at HM2 HQ2
                clear Hmx
                rcases hcase with ⟨hc, rfl⟩ | ⟨hc, rfl⟩
                · have E1 := e1' (.int .i64 (lx + 1))
                  have C2 := c2' (.int .i64 (lx + 1))
                  have F2 := f2' (.int .i64 (lx + 1))
                  have E2 := e1'' (.int .i64 (lx + 1)) (.int .i64 (b - 1))
                  clear e1' c2' f2' e1''
                  go_wp2_with fail
                  go_region
                  by_cases hb0 : b = 1
                  · subst hb0
                    rw [if_pos (by omega)] at HQ2
                    have hql := QInv.len HQ2.out
                    rw [List.length_append, List.length_append, ← Hn.out] at hql
                    rw [show (1 : Int) - 1 = 0 from rfl] at HQ2 HM2 E2
                    go_wp2_with fail
                    refine (put_any (HM2.out.drew.q) (by rw [List.length_map]; omega)).mono ?_
                    rintro e w7 ⟨rfl, hq7, hf7⟩
                    have HM7 := Lib.hid (HM2.out.drew.queue hq7 hf7)
                    clear HM2 hq7 hf7
                    go_wp2_with fail
                    go_roundg ((usersOf plan x).length + 1 - (t + 1))
                    case measure => omega
                    case rel => exact ⟨t + 1, _, _, _, by omega, rfl, by go_num, HQ2, by rw [List.map_append]; exact HM7⟩
                  · rw [if_neg (by omega)] at HQ2
                    have hb0' : (b - 1 == 0) = false := by rw [beq_eq_false_iff_ne]; omega
                    go_wp2_with fail
                    go_roundg ((usersOf plan x).length + 1 - (t + 1))
                    case measure => omega
                    case rel => exact ⟨t + 1, _, _, _, by omega, rfl, by go_num, HQ2, HM2.out.drew⟩
                · have E1 := e1' (.int .i64 mx)
                  have C2 := c2' (.int .i64 mx)
                  have F2 := f2' (.int .i64 mx)
                  have E2 := e1'' (.int .i64 mx) (.int .i64 (b - 1))
                  clear e1' c2' f2' e1''
                  go_wp2_with fail
                  go_region
                  by_cases hb0 : b = 1
                  · subst hb0
                    rw [if_pos (by omega)] at HQ2
                    have hql := QInv.len HQ2.out
                    rw [List.length_append, List.length_append, ← Hn.out] at hql
                    rw [show (1 : Int) - 1 = 0 from rfl] at HQ2 HM2 E2
                    go_wp2_with fail
                    refine (put_any (HM2.out.drew.q) (by rw [List.length_map]; omega)).mono ?_
                    rintro e w7 ⟨rfl, hq7, hf7⟩
                    have HM7 := Lib.hid (HM2.out.drew.queue hq7 hf7)
                    clear HM2 hq7 hf7
                    go_wp2_with fail
                    go_roundg ((usersOf plan x).length + 1 - (t + 1))
                    case measure => omega
                    case rel => exact ⟨t + 1, _, _, _, by omega, rfl, by go_num, HQ2, by rw [List.map_append]; exact HM7⟩
                  · rw [if_neg (by omega)] at HQ2
                    have hb0' : (b - 1 == 0) = false := by rw [beq_eq_false_iff_ne]; omega
                    go_wp2_with fail
                    go_roundg ((usersOf plan x).length + 1 - (t + 1))
                    case measure => omega
                    case rel => exact ⟨t + 1, _, _, _, by omega, rfl, by go_num, HQ2, HM2.out.drew⟩
              · obtain rfl : t = (usersOf plan x).length := by omega
                have HQ3 := Lib.hid (QHead.end_ HQ.out)
                clear HQ G6 hus
                go_wp2_with fail
                go_roundg (k + 1 - (order.length + 1))
                case measure => omega
                case rel => exact ⟨order ++ [x], q, lev, lf, by rw [List.length_append, List.length_singleton]; omega, by rw [List.length_append, List.length_singleton], HQ3, HM⟩
  · have hv' : planValid plan = false := by simpa using hv
    have Hv := Lib.hid hv'
    clear hv hv'
    go_enter Try.func89, Try.ntmps89
    go_wp2_with fail
    refine (graphOf_all _ plan _ h).mono ?_
    rintro e w1 ⟨gv, rfl, hg1, -⟩
    rw [Hv.out]
    go_wp2_with fail
    go_ret2
    exact ⟨_, by rw [Hv.out]; rfl, hg1, by rw [Hv.out]; exact OwnI.nil _ _⟩
end Go.Proofs.Ytjlnhijabdkagaa
