/- Walks: spec.l33Copy. -/
import Derived.Test.YtjlnhijabdkagaaS7Cache
import Derived.Test.YtjlnhijabdkagaaB5Node
import Derived.Deep.RegionLaw
import Derived.Deep.AppendLies
import Derived.Deep.DeepCutAuto
namespace Go.Proofs.Ytjlnhijabdkagaa
open Go.RowKit

/-- .. inside a region that draws its order. -/
theorem step_extend_ints {ops : Array Oper} {o : Oper} {a : Act} {K : Act → World → Prop} {Q : Exit → Act → World → Prop} {E : Prop} {w : World}
    (s x : Operand) (hgd : o.guard = none) (ho : o.op = .call { callee := .builtin .append, args := #[s, x], argTypes := #[27, 27] })
    {base : Nat} {v xv : Value} {l0 l : List Int} (hown : OwnI w base v l0) (hxv : RI w xv l) (hn : l0.length + l.length ≤ 1000000000) (hbase : base ≤ w.heap.size)
    (hs : a.eval s = v) (hx : a.eval x = xv)
    (h : ∀ v' w', OwnI w' base v' (l0 ++ l) → w.grownBy w' v.ownBlock → K (a.put o.dst v') w') :
    if Region.wanted o (yielded ops a.tmps) = true then Oper.wp Try.prog o a w K Q else E := by
  have hw : Region.wanted o (yielded ops a.tmps) = true := by simp [Region.wanted, hgd]
  rw [if_pos hw]
  obtain ⟨i, hi, hz0, hz1, hz2⟩ := info_parts info3
  obtain ⟨A, c, e, hc, hcm, hcn⟩ := TS.form hxv
  subst e
  match A, hcn with
  | none, hcn =>
    obtain rfl := hcn rfl
    have hl0 : l = [] := List.eq_nil_of_length_eq_zero (by omega)
    subst hl0
    have hrun := run_append_owned_none (P := Try.prog) (w := w) base 27 o.type 3 i 1 Try.underlying27 hi v _ _ hown
    unfold Oper.wp
    simp [execOp, ho, resolve, invoke, builtin, hs, hx, hrun, Result.andThen]
    rw [List.append_nil] at h
    exact h _ _ hown (gb_refl _ _)
  | some ad, hcn =>
    refine wp_append_own _ s x 27 ho base 3 i _ 1 8 Try.underlying27 hi hz0 hz1 hz2 rfl (by decide) v _ _ hs hown ad l.length c (l.map (.int .i64)) hx (by rw [List.length_map, Nat.mul_one]) ?_ (ints_one l) ?_ ?_ hbase ?_
    · intro j u hj
      have hjl := (List.getElem?_eq_some_iff.1 hj).1
      rw [List.length_map] at hjl
      obtain ⟨g, o', cur, e, _, hcell⟩ := TS.at_ hxv (by omega)
      have e2 : ad = ⟨g, o', none⟩ := Option.some.inj e
      rw [e2, Addr.add_lit]
      exact hcell j u hj
    · unfold maxLen; omega
    · omega
    · intro v' w' h1 h2 _
      refine h v' w' ?_ h2
      unfold OwnI
      simpa using h1
theorem step_push_list {ops : Array Oper} {o : Oper} {a : Act} {K : Act → World → Prop} {Q : Exit → Act → World → Prop} {E : Prop} {w : World} {l : List Int} {f : Value}
    (s x : Operand) (hgd : o.guard = none) (ho : o.op = .call { callee := .builtin .append, args := #[s, x], argTypes := #[45, 45] })
    {base : Nat} {v : Value} {ll : List (List Int)} (hown : OwnL w base v ll) (hf : RI w f l) (hn : ll.length ≤ 1000000000) (hbase : base ≤ w.heap.size)
    (hs : a.eval s = v) (hx : a.eval x = .slice (some ⟨w.heap.size, 0, none⟩) 1 1)
    (h : ∀ v' w', OwnL w' base v' (ll ++ [l]) → w.grownBy w' v.ownBlock → K (a.put o.dst v') w') :
    if Region.wanted o (yielded ops a.tmps) = true then Oper.wp Try.prog o a (w.alloc (.cells #[f] 27)) K Q else E := by
  have hw : Region.wanted o (yielded ops a.tmps) = true := by simp [Region.wanted, hgd]
  rw [if_pos hw]
  obtain ⟨i, hi, hz0, hz1, hz2⟩ := info_parts info27
  obtain ⟨xs, ho1, ho2⟩ := hown
  have hxl : xs.length = ll.length := by have := ho1.1; omega
  refine wp_append_own _ s x 45 ho base 27 i _ 1 24 Try.underlying45 hi hz0 hz1 hz2 rfl (by decide) v ll.length _ hs (World.ownsRow.alloc ho1 _) ⟨w.heap.size, 0, none⟩ 1 1 [f] hx rfl ?_ ?_ ?_ ?_ ?_ ?_
  · intro j u' hj
    match j, hj with
    | 0, hj => simp at hj; subst hj; simp [Addr.add]
  · intro u' hu
    simp only [List.mem_cons, List.not_mem_nil, or_false] at hu
    subst hu
    exact hf.oneCell
  · unfold maxLen; omega
  · omega
  · simp; omega
  · intro v' w' ho' hg _
    have h2 : w.grownBy w' v.ownBlock := ⟨hg.os, hg.tape, hg.output, Nat.le_trans (by simp) hg.size, fun k hk hne => (hg.block k (by simp; omega) hne).trans (Below.heap_alloc w _ k hk)⟩
    refine h v' w' ⟨_, by simpa using ho', ?_⟩ h2
    intro i' l' hi'
    have hne : NotE w 3 v.ownBlock := NotE.own ho1 (by decide)
    by_cases hl : i' < ll.length
    · rw [List.getElem?_append_left hl] at hi'
      obtain ⟨u, k1, k2⟩ := ho2 i' l' hi'
      exact ⟨u, by rw [List.getElem?_append_left (by omega)]; exact k1, k2.grown h2 hne⟩
    · rw [List.getElem?_append_right (by omega)] at hi'
      have h0 : i' - ll.length = 0 := by
        rcases Nat.eq_zero_or_pos (i' - ll.length) with h | h
        · exact h
        · rw [List.getElem?_eq_none (by simp; omega)] at hi'
          cases hi'
      rw [h0] at hi'
      obtain rfl : l = l' := by simpa using hi'
      exact ⟨f, by rw [List.getElem?_append_right (by omega), show i' - xs.length = 0 by omega]; rfl, hf.grown h2 hne⟩

/-- The entry in the making lies in block x3, the argument's box in xb, the result's cell in R. -/
structure EntMid (w wx : World) (xb R x3 : Nat) (kind : Int) (rv0 ov0 rv ov : Value) (rows done : List (List Int)) (out : List Int) : Prop where
  b : Blk wx xb 62 #[.int .i64 kind, rv0, ov0]
  res : Blk wx R 62 #[.int .i64 0, .slice none 0 0, .slice none 0 0]
  x : Blk wx x3 62 #[.int .i64 kind, rv, ov]
  rs : RL w rv0 rows
  f : OwnL wx w.heap.size rv done
  o : RI wx ov out
  g : w.grownBy wx none
  lx : w.heap.size ≤ x3
  nb : xb ≠ x3
  nr : R ≠ x3
  hR : w.heap.size ≤ R
theorem EntMid.new {w wx wy : World} {xb R x3 : Nat} {kind : Int} {rv0 ov0 rv ov : Value} {rows done : List (List Int)} {out : List Int} (M : EntMid w wx xb R x3 kind rv0 ov0 rv ov rows done out) (hg : wx.grownBy wy none) :
    EntMid w wy xb R x3 kind rv0 ov0 rv ov rows done out :=
  ⟨M.b.grown hg (by simp), M.res.grown hg (by simp), M.x.grown hg (by simp), M.rs, M.f.new hg, M.o.new hg, gb_trans M.g hg, M.lx, M.nb, M.nr, M.hR⟩
theorem EntMid.drew {w wx : World} {xb R x3 : Nat} {kind : Int} {rv0 ov0 rv ov : Value} {rows done : List (List Int)} {out : List Int} (M : EntMid w wx xb R x3 kind rv0 ov0 rv ov rows done out) : EntMid w wx.drew xb R x3 kind rv0 ov0 rv ov rows done out := M.new (gb_drew (gb_refl _ _))
theorem EntMid.alloc {w wx : World} {xb R x3 : Nat} {kind : Int} {rv0 ov0 rv ov : Value} {rows done : List (List Int)} {out : List Int} (M : EntMid w wx xb R x3 kind rv0 ov0 rv ov rows done out) (o : Obj) : EntMid w (wx.alloc o) xb R x3 kind rv0 ov0 rv ov rows done out := M.new (gb_alloc (gb_refl _ _) o)
theorem EntMid.push {w wx wy : World} {xb R x3 : Nat} {kind : Int} {rv0 ov0 rv ov v' : Value} {rows done done' : List (List Int)} {out : List Int} (M : EntMid w wx xb R x3 kind rv0 ov0 rv ov rows done out) (hg : wx.grownBy wy rv.ownBlock) (ho : OwnL wy w.heap.size v' done') :
    wy.cell? ⟨x3, 1, none⟩ = some rv ∧ wy.frozen? ⟨x3, 1, none⟩ = false ∧ EntMid w (wy.setCell ⟨x3, 1, none⟩ v') xb R x3 kind rv0 ov0 v' ov rows done' out := by
  have hne : ∀ {g : Nat} {cs : Array Value}, Blk wx g 62 cs → some g ≠ rv.ownBlock := fun hb e => M.f.notE (by decide) _ e.symm _ hb
  have hx := M.x.grown hg (hne M.x)
  have hst : wy.grownBy (wy.setCell ⟨x3, 1, none⟩ v') (some x3) := gb_set (gb_refl wy (some x3)) (.inr rfl) _
  have hg2 : w.grownBy wy none := M.f.gb M.g hg (Nat.le_refl _)
  have hn2 : NotE wy 3 (some x3) := NotE.blk hx (by decide)
  have hn3 : NotE wy 27 (some x3) := NotE.blk hx (by decide)
  have hn1 : NotE wx 3 rv.ownBlock := M.f.notE (by decide)
  have hn4 : NotE wy 62 (some x3) → False := fun h => h _ rfl _ hx
  refine ⟨hx.cell 1, hx.frozen 1, (M.b.grown hg (hne M.b)).far M.nb _, (M.res.grown hg (hne M.res)).far M.nr _, hx.set_ 1 v', M.rs, ?_, (M.o.grown hg hn1).grown hst hn2, gb_set hg2 (.inl M.lx) _, M.lx, M.nb, M.nr, M.hR⟩
  obtain ⟨xs, h1, h2⟩ := ho
  exact ⟨xs, own_grown h1 hst hn3, fun i l hi => let ⟨u, k1, k2⟩ := h2 i l hi; ⟨u, k1, k2.grown hst hn2⟩⟩
theorem EntMid.mkA {w W w4 : World} {kind : Int} {rv0 ov0 ov : Value} {rows : List (List Int)} {out : List Int} (hgW : w.grownBy W none) (hl1 : w.heap.size + 1 < W.heap.size) (hg5 : W.grownBy w4 none)
    (Bb : Blk W w.heap.size 62 #[.int .i64 kind, rv0, ov0]) (Br : Blk W (w.heap.size + 1) 62 #[.int .i64 0, .slice none 0 0, .slice none 0 0]) (hr : RL w rv0 rows) (ho : RI w4 ov out) :
    EntMid w (w4.alloc (.cells #[.int .i64 kind, .slice none 0 0, ov] 62)) w.heap.size (w.heap.size + 1) w4.heap.size kind rv0 ov0 (.slice none 0 0) ov rows [] out := by
  have hs := hg5.size
  exact ⟨(Bb.grown hg5 (by simp)).alloc _, (Br.grown hg5 (by simp)).alloc _, Blk.new w4 _ _, hr, OwnL.nil _ _, ho.alloc _, gb_alloc (gb_trans hgW hg5) _, by omega, by omega, by omega, by omega⟩
theorem EntMid.mkB {w W w4 : World} {kind : Int} {rv0 ov0 ov : Value} {rows : List (List Int)} {out : List Int} {x3 : Nat} (hgW : w.grownBy W none) (hl1 : w.heap.size + 1 < W.heap.size) (hg5 : W.grownBy w4 none)
    (Bb : Blk W w.heap.size 62 #[.int .i64 kind, rv0, ov0]) (Br : Blk W (w.heap.size + 1) 62 #[.int .i64 0, .slice none 0 0, .slice none 0 0]) (hr : RL w rv0 rows) (ho : RI w4 ov out)
    (Bx : Blk w4 x3 62 #[.int .i64 0, .slice none 0 0, .slice none 0 0]) (hx : W.heap.size ≤ x3) :
    EntMid w (((w4.setCell ⟨x3, 0, none⟩ (.int .i64 kind)).setCell ⟨x3, 1, none⟩ (.slice none 0 0)).setCell ⟨x3, 2, none⟩ ov) w.heap.size (w.heap.size + 1) x3 kind rv0 ov0 (.slice none 0 0) ov rows [] out := by
  have hs := hg5.size
  have hst := gb_set3 w4 x3 (.int .i64 kind) (.slice none 0 0) ov
  have hn : NotE w4 3 (some x3) := NotE.blk Bx (by decide)
  exact ⟨(Bb.grown hg5 (by simp)).grown hst (by simp; omega), (Br.grown hg5 (by simp)).grown hst (by simp; omega), ((Bx.set_ 0 _).set_ 1 _).set_ 2 _, hr, OwnL.nil _ _, ho.grown hst hn, gb_new (gb_trans hgW hg5) hst (fun g e => by cases e; exact .inl (by omega)), by omega, by omega, by omega, by omega⟩
def EntOut (w : World) (e : Ent) (r : Ending) (w' : World) : Prop := ∃ v, r = .returned v ∧ EV w' v e ∧ w.grownBy w' none
set_option maxHeartbeats 8000000 in
set_option maxRecDepth 20000 in
theorem l33Copy_any (rv ov : Value) (e : Ent) (w : World) (h : RL w rv e.rows) (ho : RI w ov e.out) (hrl : e.rows.length ≤ 1000) (hol : e.out.length ≤ 1000) (hll : ∀ l ∈ e.rows, l.length ≤ 1000) :
    Calls Try.prog 100 #[.agg #[.int .i64 e.kind, rv, ov]] w (EntOut w e) := by
  obtain ⟨A1, n1, c1, rfl, _, hn1, hnx⟩ := h.form'
  obtain ⟨A2, n2, c2, rfl⟩ := ho.val
  have Hn1 := Lib.hid hn1
  have hn1k : n1 ≤ 1000 := by omega
  have Hll := Lib.hid hll
  clear hn1 hll
  go_enter Try.func100, Try.ntmps100
  go_upto_region 1 with fail
  go_cut [3] (fun t3 wx => ∃ x3 ov', t3 = .pointer (some ⟨x3, 0, none⟩) ∧ EntMid w wx w.heap.size (w.heap.size + 1) x3 e.kind (.slice A1 n1 c1) (.slice A2 n2 c2) (.slice none 0 0) ov' e.rows [] e.out)
  case first =>
    have Bb : Blk ((w.alloc (.cells #[.int .i64 e.kind, .slice A1 n1 c1, .slice A2 n2 c2] 62)).alloc (.cells #[.int .i64 0, .slice none 0 0, .slice none 0 0] 62)) w.heap.size 62 #[.int .i64 e.kind, .slice A1 n1 c1, .slice A2 n2 c2] := (Blk.new w _ _).alloc _
    have Br : Blk ((w.alloc (.cells #[.int .i64 e.kind, .slice A1 n1 c1, .slice A2 n2 c2] 62)).alloc (.cells #[.int .i64 0, .slice none 0 0, .slice none 0 0] 62)) (w.heap.size + 1) 62 #[.int .i64 0, .slice none 0 0, .slice none 0 0] := by
      have := Blk.new (w.alloc (.cells #[.int .i64 e.kind, .slice A1 n1 c1, .slice A2 n2 c2] 62)) 62 #[.int .i64 0, .slice none 0 0, .slice none 0 0]
      rw [World.size_alloc] at this
      exact this
    have hgW : w.grownBy ((w.alloc (.cells #[.int .i64 e.kind, .slice A1 n1 c1, .slice A2 n2 c2] 62)).alloc (.cells #[.int .i64 0, .slice none 0 0, .slice none 0 0] 62)) none := gb_alloc (gb_alloc (gb_refl w none) _) _
    have hszW : ((w.alloc (.cells #[.int .i64 e.kind, .slice A1 n1 c1, .slice A2 n2 c2] 62)).alloc (.cells #[.int .i64 0, .slice none 0 0, .slice none 0 0] 62)).heap.size = w.heap.size + 1 + 1 := by rw [World.size_alloc, World.size_alloc]
    generalize ((w.alloc (.cells #[.int .i64 e.kind, .slice A1 n1 c1, .slice A2 n2 c2] 62)).alloc (.cells #[.int .i64 0, .slice none 0 0, .slice none 0 0] 62)) = W at *
    have hoW := ho.new hgW
    have HszW := Lib.hid hszW
    have hl0 : w.heap.size < W.heap.size := by omega
    have hl1 : w.heap.size + 1 < W.heap.size := by omega
    clear hszW
    have d0 : W.cell? ⟨w.heap.size, 0, none⟩ = some (.int .i64 e.kind) := Bb.cell 0
    have d2 : W.cell? ⟨w.heap.size, 2, none⟩ = some (.slice A2 n2 c2) := Bb.cell 2
    have hEA : OwnI (W.alloc (.cells #[] 3)).drew W.heap.size (.slice (some ⟨W.heap.size, 0, none⟩) 0 0) [] := OwnI.empty W (Nat.le_refl _)
    have hgAA : W.grownBy (W.alloc (.cells #[] 3)).drew none := gb_drew (World.grownBy_alloc W _ none)
    have hoWA : RI (W.alloc (.cells #[] 3)).drew (.slice A2 n2 c2) e.out := hoW.new hgAA
    have hszA : W.heap.size ≤ (W.alloc (.cells #[] 3)).drew.heap.size := hgAA.size
    have hEB : OwnI ((W.alloc (.cells #[] 3)).alloc (.cells #[.int .i64 0, .slice none 0 0, .slice none 0 0] 62)).drew W.heap.size (.slice (some ⟨W.heap.size, 0, none⟩) 0 0) [] := (OwnI.empty W (Nat.le_refl _)).alloc _
    have hgAB : W.grownBy ((W.alloc (.cells #[] 3)).alloc (.cells #[.int .i64 0, .slice none 0 0, .slice none 0 0] 62)).drew none := gb_drew (gb_alloc (World.grownBy_alloc W _ none) _)
    have hoWB : RI ((W.alloc (.cells #[] 3)).alloc (.cells #[.int .i64 0, .slice none 0 0, .slice none 0 0] 62)).drew (.slice A2 n2 c2) e.out := hoW.new hgAB
    have hszB : W.heap.size ≤ ((W.alloc (.cells #[] 3)).alloc (.cells #[.int .i64 0, .slice none 0 0, .slice none 0 0] 62)).drew.heap.size := hgAB.size
    have hEC : OwnI ((W.alloc (.cells #[.int .i64 0, .slice none 0 0, .slice none 0 0] 62)).alloc (.cells #[] 3)).drew W.heap.size (.slice (some ⟨W.heap.size + 1, 0, none⟩) 0 0) [] := by have := OwnI.empty (base := W.heap.size) (W.alloc (.cells #[.int .i64 0, .slice none 0 0, .slice none 0 0] 62)) (by rw [World.size_alloc]; omega); rw [World.size_alloc] at this; exact this
    have hgAC : W.grownBy ((W.alloc (.cells #[.int .i64 0, .slice none 0 0, .slice none 0 0] 62)).alloc (.cells #[] 3)).drew none := gb_drew (gb_alloc (World.grownBy_alloc W _ none) _)
    have hoWC : RI ((W.alloc (.cells #[.int .i64 0, .slice none 0 0, .slice none 0 0] 62)).alloc (.cells #[] 3)).drew (.slice A2 n2 c2) e.out := hoW.new hgAC
    have hszC : W.heap.size ≤ ((W.alloc (.cells #[.int .i64 0, .slice none 0 0, .slice none 0 0] 62)).alloc (.cells #[] 3)).drew.heap.size := hgAC.size
    have BxB : Blk ((W.alloc (.cells #[] 3)).alloc (.cells #[.int .i64 0, .slice none 0 0, .slice none 0 0] 62)).drew (W.heap.size + 1) 62 #[.int .i64 0, .slice none 0 0, .slice none 0 0] := by have := Blk.new (W.alloc (.cells #[] 3)) 62 #[.int .i64 0, .slice none 0 0, .slice none 0 0]; rw [World.size_alloc] at this; exact this
    have BxC : Blk ((W.alloc (.cells #[.int .i64 0, .slice none 0 0, .slice none 0 0] 62)).alloc (.cells #[] 3)).drew (W.heap.size) 62 #[.int .i64 0, .slice none 0 0, .slice none 0 0] := (Blk.new W _ _).alloc _
    have hlen : ([] : List Int).length + e.out.length ≤ 1000000000 := by simp only [List.length_nil]; omega
    go_region_law (first
      | (refine step_extend_ints (w := (W.alloc (.cells #[] 3)).drew) (base := W.heap.size) (v := .slice (some ⟨W.heap.size, 0, none⟩) 0 0) (xv := .slice A2 n2 c2) (l0 := []) (l := e.out) (.tmp 7) (.tmp 9) rfl rfl hEA hoWA hlen hszA rfl rfl ?_; intro v' w4 hown4 hg4; have hg5 := hEA.gb hgAA hg4 (Nat.le_refl _); have d04 : w4.cell? ⟨w.heap.size, 0, none⟩ = some (.int .i64 e.kind) := (Bb.grown hg5 (by simp)).cell 0; have hl4 : w.heap.size < w4.heap.size := Nat.lt_of_lt_of_le hl0 hg5.size; obtain ⟨A4, n4, c4, rfl⟩ := hown4.ri.val)
      | (refine step_extend_ints (w := ((W.alloc (.cells #[] 3)).alloc (.cells #[.int .i64 0, .slice none 0 0, .slice none 0 0] 62)).drew) (base := W.heap.size) (v := .slice (some ⟨W.heap.size, 0, none⟩) 0 0) (xv := .slice A2 n2 c2) (l0 := []) (l := e.out) (.tmp 7) (.tmp 9) rfl rfl hEB hoWB hlen hszB rfl rfl ?_; intro v' w4 hown4 hg4; have hg5 := hEB.gb hgAB hg4 (Nat.le_refl _); have d04 : w4.cell? ⟨w.heap.size, 0, none⟩ = some (.int .i64 e.kind) := (Bb.grown hg5 (by simp)).cell 0; have hl4 : w.heap.size < w4.heap.size := Nat.lt_of_lt_of_le hl0 hg5.size; obtain ⟨A4, n4, c4, rfl⟩ := hown4.ri.val; have Bx4 := BxB.grown hg4 (by simp [Value.ownBlock]); have x0 := Bx4.cell 0; have x1 := Bx4.cell 1; have x2 := Bx4.cell 2; have y0 := Bx4.frozen 0; have y1 := Bx4.frozen 1; have y2 := Bx4.frozen 2; have hx4 : W.heap.size ≤ W.heap.size + 1 := Nat.le_succ _)
      | (refine step_extend_ints (w := ((W.alloc (.cells #[.int .i64 0, .slice none 0 0, .slice none 0 0] 62)).alloc (.cells #[] 3)).drew) (base := W.heap.size) (v := .slice (some ⟨W.heap.size + 1, 0, none⟩) 0 0) (xv := .slice A2 n2 c2) (l0 := []) (l := e.out) (.tmp 7) (.tmp 9) rfl rfl hEC hoWC hlen hszC rfl rfl ?_; intro v' w4 hown4 hg4; have hg5 := hEC.gb hgAC hg4 (Nat.le_refl _); have d04 : w4.cell? ⟨w.heap.size, 0, none⟩ = some (.int .i64 e.kind) := (Bb.grown hg5 (by simp)).cell 0; have hl4 : w.heap.size < w4.heap.size := Nat.lt_of_lt_of_le hl0 hg5.size; obtain ⟨A4, n4, c4, rfl⟩ := hown4.ri.val; have Bx4 := BxC.grown hg4 (by simp [Value.ownBlock]); have x0 := Bx4.cell 0; have x1 := Bx4.cell 1; have x2 := Bx4.cell 2; have y0 := Bx4.frozen 0; have y1 := Bx4.frozen 1; have y2 := Bx4.frozen 2; have hx4 : W.heap.size ≤ W.heap.size := Nat.le_refl _))
    all_goals
      go_wp2_with fail
      go_meet
      first
        | exact ⟨_, _, rfl, EntMid.mkB hgW hl1 hg5 Bb Br h hown4.ri Bx4 hx4⟩
        | exact ⟨_, _, rfl, EntMid.mkA hgW hl1 hg5 Bb Br h hown4.ri⟩
  case rest =>
    obtain ⟨x3, ov', rfl, M⟩ := hcut
    have hs1 : w.heap.size ≤ w.heap.size + 1 := Nat.le_succ _
    generalize w.heap.size + 1 = R at M ⊢
    go_wp2_with fail
    go_loopg [4] (n1 + 1) (fun mm i wr => ∃ (k : Nat) (rv : Value), k ≤ n1 ∧ mm = n1 + 1 - k ∧ i = .int .i64 k ∧ EntMid w wr w.heap.size R x3 e.kind (.slice A1 n1 c1) (.slice A2 n2 c2) rv ov' e.rows (e.rows.take k) e.out)
    case atStart => exact ⟨0, _, Nat.zero_le _, rfl, rfl, M⟩
    case round =>
      clear M
      obtain ⟨k, rv, hk, rfl, rfl, M⟩ := hrel
      have e1 := M.b.cell 1
      by_cases hlt : k < n1
      · obtain ⟨g, o, l, B, m, e', rfl, hl, q0, hrl2, -, -, -⟩ := (h.new M.g).at_ hlt
        have hll2 : l.length ≤ 1000 := Hll.out l (List.mem_of_getElem? hl)
        have Ht : Hid (e.rows.take (k + 1) = e.rows.take k ++ [l]) := by
          show _ = _
          obtain ⟨hkl, rfl⟩ := List.getElem?_eq_some_iff.1 hl
          rw [List.take_succ_eq_append_getElem hkl]
        have htl : (e.rows.take k).length ≤ 1000 := by rw [List.length_take]; omega
        obtain ⟨Af, nf, cf, rfl⟩ := M.f.rl.val
        have hlb : w.heap.size < wr.heap.size := M.b.lt
        have hlx : x3 < wr.heap.size := M.x.lt
        have hlg : g < wr.heap.size := by
          obtain ⟨xs, hts, _⟩ := h.new M.g
          rw [← Hn1.out] at hts
          obtain ⟨g', o', cur, eA, hB, _⟩ := TS.at_ hts (by omega)
          injection eA with eA
          injection eA with eA
          rw [eA]
          exact hB.lt
        have x1 := M.x.cell 1
        have b1 := M.b.cell 1
        have M1 := (M.alloc (.cells #[] 3)).drew
        have hE : OwnI (wr.alloc (.cells #[] 3)).drew wr.heap.size (.slice (some ⟨wr.heap.size, 0, none⟩) 0 0) [] := OwnI.empty wr (Nat.le_refl _)
        have hgE : wr.grownBy (wr.alloc (.cells #[] 3)).drew none := gb_drew (World.grownBy_alloc wr _ none)
        have hrE : RI (wr.alloc (.cells #[] 3)).drew (.slice B m e') l := hrl2.new hgE
        have hlen : ([] : List Int).length + l.length ≤ 1000000000 := by simp only [List.length_nil]; omega
        go_wp2_with fail
        go_region_law (first
          | (refine step_extend_ints (w := (wr.alloc (.cells #[] 3)).drew) (base := wr.heap.size) (v := .slice (some ⟨wr.heap.size, 0, none⟩) 0 0) (xv := .slice B m e') (l0 := []) (l := l) (.tmp 21) (.tmp 26) rfl rfl hE hrE hlen hgE.size rfl rfl ?_; intro v' w4 hown4 hg4; have hg5 := hE.gb hgE hg4 (Nat.le_refl _); have M4 := M.new hg5; have x14 := M4.x.cell 1; have hl4 : x3 < w4.heap.size := Nat.lt_of_lt_of_le hlx hg5.size; obtain ⟨A4, n4, c4, rfl⟩ := hown4.ri.val; have r4 : RI w4 (.slice A4 n4 c4) l := by simpa using hown4.ri)
          | (refine step_push_list (w := w4) (base := w.heap.size) (v := .slice Af nf cf) (ll := e.rows.take k) (l := l) (f := .slice A4 n4 c4) (.tmp 20) (.tmp 28) rfl rfl M4.f r4 (by omega) M4.g.size rfl rfl ?_; intro v5 w5 hown5 hg6; obtain ⟨z1, z2, M5⟩ := M4.push hg6 hown5; obtain ⟨A5, n5, c5, rfl⟩ := hown5.rl.val))
        all_goals
          rw [← Ht.out] at M5
          go_wp2_with fail
          go_roundg (n1 + 1 - (k + 1))
          case measure => omega
          case rel => exact ⟨k + 1, _, by omega, rfl, by go_num, M5⟩
      · obtain rfl : k = n1 := by omega
        have hfl := M.f.rl
        rw [List.take_of_length_le (by rw [← Hn1.out]; exact Nat.le_refl _)] at hfl
        have hori := M.o
        obtain ⟨Af, nf, cf, rfl⟩ := hfl.val
        obtain ⟨Ar, nr, cr, rfl⟩ := hori.val
        have x0 := M.x.cell 0
        have x1 := M.x.cell 1
        have x2 := M.x.cell 2
        have d0 := M.res.cell 0
        have d1 := M.res.cell 1
        have d2 := M.res.cell 2
        have f0 := M.res.frozen 0
        have f1 := M.res.frozen 1
        have f2 := M.res.frozen 2
        go_wp2_with fail
        refine bodyPost_ret (v := .agg #[.int .i64 e.kind, .slice Af nf cf, .slice Ar nr cr]) (by simp [results, Try.results100, go_sem, d0, d1, d2]) rfl ?_
        have hst := gb_set3 wr R (.int .i64 e.kind) (.slice Af nf cf) (.slice Ar nr cr)
        have hne : NotE wr 3 (some R) := NotE.blk M.res (by decide)
        have hne2 : NotE wr 27 (some R) := NotE.blk M.res (by decide)
        exact ⟨_, rfl, ⟨_, _, rfl, hfl.grown hst hne hne2, hori.grown hst hne⟩, gb_new M.g hst (fun g e => by cases e; exact .inl M.hR)⟩
end Go.Proofs.Ytjlnhijabdkagaa
