/- Walks: spec.l11Done. · Steps inside regions that draw their order: appends. Conditions: none. · Walks: spec.DequeValid, spec.DequePop, spec.DequeSteal. -/
import Derived.Test.YtihobnheficpjaaGreatDoorM16
import Derived.Test.YtihobnheficpjaaGreatDoorM14
import Derived.Test.YtihobnheficpjaaGreatDoorM18
import Derived.Test.YtihobnheficpjaaGreatDoorM13
import Derived.Test.YtihobnheficpjaaGreatDoorM07
import Derived.Deep.RegionLaw
import Derived.Deep.AppendLies
import Derived.Deep.DeepCutAuto
namespace Go.Proofs.YtihobnheficpjaaGreatDoor
open Go.RowKit

/-- What a node done leaves: the counts and what is ready by it. -/
def DoneOut (w : World) (cs rd : List Int) (e : Ending) (w' : World) : Prop := ∃ v u, e = .returned (.tuple #[v, u]) ∧ OwnI w' w.heap.size v cs ∧ OwnI w' w.heap.size u rd ∧ w.grownBy w' none
/-- The two rows in the making. -/
structure DMid (w0 wr : World) (g n c b2 : Nat) (cs : List Int) (u : Value) (rd : List Int) : Prop where
  o : OwnI wr w0.heap.size (.slice (some ⟨g, 0, none⟩) n c) cs
  r : OwnI wr b2 u rd
  gl : g < b2
  lo : w0.heap.size ≤ b2
  hi : b2 ≤ wr.heap.size
  g : w0.grownBy wr none
theorem DMid.set_ {w0 wr : World} {g n c b2 k : Nat} {cs : List Int} {u : Value} {rd : List Int} {x : Int} (h : DMid w0 wr g n c b2 cs u rd) (hn : n = cs.length) (_hk : k < n) : DMid w0 (wr.setCell ⟨g, k, none⟩ (.int .i64 x)) g n c b2 (cs.set k x) u rd := by
  have hst : wr.grownBy (wr.setCell ⟨g, k, none⟩ (.int .i64 x)) (some g) := gb_set (p := ⟨g, k, none⟩) (gb_refl wr _) (.inr rfl) _
  have hb : w0.heap.size ≤ g := (h.o.lt g rfl).1
  refine ⟨h.o.set_ hn k x, h.r.apart_ hst ?_, h.gl, h.lo, Nat.le_trans h.hi hst.size, gb_new h.g hst (fun g' e => by cases e; exact .inl hb)⟩
  by_cases e : u.ownBlock = some g
  · have := (h.r.lt g e).1
    have := h.gl
    omega
  · exact .inr e
theorem DMid.push {w0 wr w2 : World} {g n c b2 : Nat} {cs : List Int} {u u' : Value} {rd rd' : List Int} (h : DMid w0 wr g n c b2 cs u rd) (hr : OwnI w2 b2 u' rd') (hg : wr.grownBy w2 u.ownBlock) : DMid w0 w2 g n c b2 cs u' rd' := by
  refine ⟨h.o.apart_ hg (.inr ?_), hr, h.gl, h.lo, Nat.le_trans h.hi hg.size, h.r.gb h.g hg h.lo⟩
  intro e
  have := (h.r.lt g e.symm).1
  have := h.gl
  omega
set_option maxHeartbeats 1600000 in
set_option maxRecDepth 20000 in
theorem l11Done_any (v v' : Value) (plan : List Node) (cs : List Int) (x : Int) (w : World) (h : RN w v plan) (h' : RI w v' cs) (hv : planValid plan = true) (hcl : cs.length = plan.length) (hcs : ∀ y ∈ cs, -1000 ≤ y ∧ y ≤ 1000) :
    Calls Tryz.prog 106 #[v, v', .int .i64 x] w (DoneOut w (takeCounts plan cs x) (newReady plan cs x)) := by
  obtain ⟨A, n, c, rfl, hnc, hn, -⟩ := h.form'
  obtain ⟨B, m, c', rfl, hmc, hm⟩ := h'.form'
  have hl10 := planValid_len hv
  have hn10 : n ≤ 10 := by omega
  obtain rfl : m = n := by omega
  have Hn := Lib.hid hn
  have Hm := Lib.hid hm
  have Hv := Lib.hid hv
  have Hcs := Lib.hid hcs
  have hE : OwnI (w.alloc (.cells #[] 3)) w.heap.size (.slice (some ⟨w.heap.size, 0, none⟩) 0 0) [] := OwnI.empty w (Nat.le_refl _)
  have hgE := World.grownBy_alloc w (.cells #[] 3) none
  have hoE := h'.new hgE
  have hlen : ([] : List Int).length + cs.length ≤ 1000000000 := by simp only [List.length_nil]; omega
  clear hn hm hv hcs hl10 hcl
  go_enter Tryz.func106, Tryz.ntmps106
  go_wp2_with (at_builtin; go_must (refine wp_extend_ints _ _ 25 Tryz.underlying25 rfl rfl hE hoE hlen hgE.size rfl rfl ?_))
  intro v4 w4 hown4 hg4
  have hg5 := hE.gb hgE hg4 (Nat.le_refl _)
  -- an empty plan has no counts: the slice may have no block
  by_cases h0 : m = 0
  · subst h0
    have hnil : cs = [] := List.eq_nil_of_length_eq_zero Hm.out.symm
    have hpn : plan.length = 0 := Hn.out.symm
    have ht : Hid (takeCounts plan cs x = cs) := by show _ = _; rw [hnil]; rfl
    have hr : Hid (newReady plan cs x = []) := by show _ = _; unfold newReady; rw [hpn]; rfl
    obtain ⟨A4, n4, c4, rfl⟩ := hown4.ri.val
    have hR0 : OwnI (w4.alloc (.cells #[] 3)) w4.heap.size (.slice (some ⟨w4.heap.size, 0, none⟩) 0 0) [] := OwnI.empty w4 (Nat.le_refl _)
    have ho4 := hown4.alloc (.cells #[] 3)
    have hg6 := gb_alloc hg5 (.cells #[] 3)
    have hb4 := hg5.size
    clear hnil hpn
    go_wp2_with fail
    go_loopg [9, 10] 1 (fun mm rd i wr => mm = 1 ∧ i = .int .i64 (0 : Nat) ∧ rd = .slice (some ⟨w4.heap.size, 0, none⟩) 0 0 ∧ wr = w4.alloc (.cells #[] 3))
    case atStart => exact ⟨rfl, rfl, rfl, rfl⟩
    case round =>
      obtain ⟨rfl, rfl, rfl, rfl⟩ := hrel
      go_wp2_with fail
      go_ret2
      exact ⟨_, _, rfl, by rw [ht.out]; exact ho4, by rw [hr.out]; exact hR0.low hb4, hg6⟩
  · obtain ⟨g, cap, cur, rfl, -, -, hB, -⟩ := hown4.form (by rw [← Hm.out]; omega)
    have e : cs.length = m := Hm.out.symm
    rw [e] at hown4
    have hR0 : OwnI (w4.alloc (.cells #[] 3)) w4.heap.size (.slice (some ⟨w4.heap.size, 0, none⟩) 0 0) [] := OwnI.empty w4 (Nat.le_refl _)
    have M0 : DMid w (w4.alloc (.cells #[] 3)) g m cap w4.heap.size (takeTo plan cs x 0) (.slice (some ⟨w4.heap.size, 0, none⟩) 0 0) (newReadyTo plan cs x 0) := by
      rw [takeTo_zero]
      exact ⟨hown4.alloc _, hR0, hB.lt, hg5.size, (World.grownBy_alloc w4 _ none).size, gb_alloc hg5 _⟩
    have hb4 := hg5.size
    rw [e]
    go_wp2_with fail
    go_loopg [9, 10] (m + 1) (fun mm rd i wr => ∃ k : Nat, k ≤ m ∧ mm = m + 1 - k ∧ i = .int .i64 k ∧ DMid w wr g m cap w4.heap.size (takeTo plan cs x k) rd (newReadyTo plan cs x k))
    case atStart => exact ⟨0, Nat.zero_le _, rfl, rfl, M0⟩
    case round =>
      clear M0
      obtain ⟨k, hk, rfl, rfl, M⟩ := hrel
      by_cases hlt : k < m
      · obtain ⟨g2, o2, nd, f, r, rfl, hx, c0, c1, c2, hf, -⟩ := (h.new M.g).at_ hlt
        obtain ⟨Af, nf, cf, rfl⟩ := hf.val
        have hfr := frmAt_get hx
        have hkc : k < cs.length := by rw [← Hm.out]; exact hlt
        have hy : cs[k]? = some cs[k] := List.getElem?_eq_getElem hkc
        have hyb := Hcs.out cs[k] (List.getElem_mem hkc)
        have hyd : cs.getD k 0 = cs[k] := by rw [List.getD_eq_getElem?_getD, hy]; rfl
        have hty : (takeTo plan cs x k)[k]? = some cs[k] := by rw [takeTo_get hy]; simp
        generalize cs[k] = y at hy hyb hyd hty
        obtain ⟨d0, f0, -, -⟩ := M.o.cell hty
        have htl : m = (takeTo plan cs x k).length := by rw [takeTo_len]; exact Hm.out
        clear hx c0 c2 hkc
        by_cases hh : x ∈ nd.frm
        · have Hh : Hid (decide (x ∈ nd.frm) = true) := decide_eq_true hh
          have hhas : has plan k x = true := by unfold has; rw [hfr]; exact decide_eq_true hh
          have M2 := M.set_ (x := y - 1) htl hlt
          rw [← takeTo_succ hy hhas] at M2
          have hnr := newReadyTo_succ plan cs x k
          rw [hhas, hyd] at hnr
          by_cases h1 : y = 1
          · have hq : (y - 1 == 0) = true := by rw [h1]; rfl
            have Hnr : Hid (newReadyTo plan cs x (k + 1) = newReadyTo plan cs x k ++ [(k : Int)]) := by show _ = _; rw [hnr, h1]; rfl
            have hrl : (newReadyTo plan cs x k).length ≤ 1000000000 := by
              have := List.length_filter_le (fun i => has plan i x && decide (cs.getD i 0 = 1)) (List.range k)
              unfold newReadyTo
              rw [List.length_map]
              rw [List.length_range] at this
              omega
            have hb2 := M2.hi
            clear hh hhas hnr h1 hfr hty htl hyd hy
            go_wp2_with fail
            refine (l3Has_b _ _ _ _ hf Hh.out).mono ?_
            rintro e' w' ⟨rfl, rfl⟩
            go_wp2_with (at_builtin; go_must (refine wp_push_int_n (.tmp 41) (.tmp 43) rfl rfl M2.r hrl hb2 rfl rfl (by simp [World.setCell]) ?_))
            intro v6 w6 hown6 hg6
            rw [← Hnr.out] at hown6
            have M3 := M2.push hown6 hg6
            obtain ⟨A6, n6, c6, rfl⟩ := hown6.ri.val
            go_wp2_with fail
            go_roundg (m + 1 - (k + 1))
            case measure => omega
            case rel => exact ⟨k + 1, by omega, rfl, by go_num, M3⟩
          · have hq : (y - 1 == 0) = false := by simp; omega
            have Hnr : Hid (newReadyTo plan cs x (k + 1) = newReadyTo plan cs x k) := by show _ = _; rw [hnr]; simp [h1]
            rw [← Hnr.out] at M2
            clear hh hhas hnr h1 hfr hty htl hyd hy
            go_wp2_with fail
            refine (l3Has_b _ _ _ _ hf Hh.out).mono ?_
            rintro e' w' ⟨rfl, rfl⟩
            go_wp2_with fail
            go_roundg (m + 1 - (k + 1))
            case measure => omega
            case rel => exact ⟨k + 1, by omega, rfl, by go_num, M2⟩
        · have Hh : Hid (decide (x ∈ nd.frm) = false) := decide_eq_false hh
          have hhas : has plan k x = false := by unfold has; rw [hfr]; exact decide_eq_false hh
          have Hnr : Hid (newReadyTo plan cs x (k + 1) = newReadyTo plan cs x k) := by show _ = _; rw [newReadyTo_succ, hhas]; simp
          rw [← takeTo_skip hhas, ← Hnr.out] at M
          clear hh hhas hfr hty htl hyd hy d0 f0
          go_wp2_with fail
          refine (l3Has_b _ _ _ _ hf Hh.out).mono ?_
          rintro e' w' ⟨rfl, rfl⟩
          go_wp2_with fail
          go_roundg (m + 1 - (k + 1))
          case measure => omega
          case rel => exact ⟨k + 1, by omega, rfl, by go_num, M⟩
      · obtain rfl : k = m := by omega
        have e1 : takeTo plan cs x k = takeCounts plan cs x := takeTo_all x (by rw [← Hm.out]; exact Nat.le_refl _)
        have e2 : newReadyTo plan cs x k = newReady plan cs x := by rw [Hn.out]; rfl
        rw [e1, e2] at M
        obtain ⟨A6, n6, c6, rfl⟩ := M.r.ri.val
        clear e1 e2
        go_wp2_with fail
        go_ret2
        exact ⟨_, _, rfl, M.o, M.r.low M.lo, M.g⟩
end Go.Proofs.YtihobnheficpjaaGreatDoor
namespace Go.Proofs.YtihobnheficpjaaGreatDoor
open Go.RowKit

/-- .. inside a region that draws its order. -/
theorem step_extend_ints {ops : Array Oper} {o : Oper} {a : Act} {K : Act → World → Prop} {Q : Exit → Act → World → Prop} {E : Prop} {w : World}
    (s x : Operand) (hgd : o.guard = none) (ho : o.op = .call { callee := .builtin .append, args := #[s, x], argTypes := #[25, 25] })
    {base : Nat} {v xv : Value} {l0 l : List Int} (hown : OwnI w base v l0) (hxv : RI w xv l) (hn : l0.length + l.length ≤ 1000000000) (hbase : base ≤ w.heap.size)
    (hs : a.eval s = v) (hx : a.eval x = xv)
    (h : ∀ v' w', OwnI w' base v' (l0 ++ l) → w.grownBy w' v.ownBlock → K (a.put o.dst v') w') :
    if Region.wanted o (yielded ops a.tmps) = true then Oper.wp Tryz.prog o a w K Q else E := by
  have hw : Region.wanted o (yielded ops a.tmps) = true := by simp [Region.wanted, hgd]
  rw [if_pos hw]
  obtain ⟨i, hi, hz0, hz1, hz2⟩ := info_parts info3
  obtain ⟨A, c, e, hc, hcm, hcn⟩ := TS.form hxv
  subst e
  match A, hcn with
  | none, hcn =>
    obtain rfl := hcn rfl
    have hl0 : l = [] := List.eq_nil_of_length_eq_zero (by omega)
    subst hl0
    have hrun := run_append_owned_none (P := Tryz.prog) (w := w) base 25 o.type 3 i 1 Tryz.underlying25 hi v _ _ hown
    unfold Oper.wp
    simp [execOp, ho, resolve, invoke, builtin, hs, hx, hrun, Result.andThen]
    rw [List.append_nil] at h
    exact h _ _ hown (gb_refl _ _)
  | some ad, hcn =>
    refine wp_append_own _ s x 25 ho base 3 i _ 1 8 Tryz.underlying25 hi hz0 hz1 hz2 rfl (by decide) v _ _ hs hown ad l.length c (l.map (.int .i64)) hx (by rw [List.length_map, Nat.mul_one]) ?_ (ints_one l) ?_ ?_ hbase ?_
    · intro j u hj
      have hjl := (List.getElem?_eq_some_iff.1 hj).1
      rw [List.length_map] at hjl
      obtain ⟨g, o', cur, e, _, hcell⟩ := TS.at_ hxv (by omega)
      have e2 : ad = ⟨g, o', none⟩ := Option.some.inj e
      rw [e2, Addr.add_lit]
      exact hcell j u hj
    · unfold maxLen; omega
    · omega
    · intro v' w' h1 h2 _
      refine h v' w' ?_ h2
      unfold OwnI
      simpa using h1
theorem step_push_list {ops : Array Oper} {o : Oper} {a : Act} {K : Act → World → Prop} {Q : Exit → Act → World → Prop} {E : Prop} {w : World} {l : List Int} {f : Value}
    (s x : Operand) (hgd : o.guard = none) (ho : o.op = .call { callee := .builtin .append, args := #[s, x], argTypes := #[24, 24] })
    {base : Nat} {v : Value} {ll : List (List Int)} (hown : OwnL w base v ll) (hf : RI w f l) (hn : ll.length ≤ 1000000000) (hbase : base ≤ w.heap.size)
    (hs : a.eval s = v) (hx : a.eval x = .slice (some ⟨w.heap.size, 0, none⟩) 1 1)
    (h : ∀ v' w', OwnL w' base v' (ll ++ [l]) → w.grownBy w' v.ownBlock → K (a.put o.dst v') w') :
    if Region.wanted o (yielded ops a.tmps) = true then Oper.wp Tryz.prog o a (w.alloc (.cells #[f] 25)) K Q else E := by
  have hw : Region.wanted o (yielded ops a.tmps) = true := by simp [Region.wanted, hgd]
  rw [if_pos hw]
  obtain ⟨i, hi, hz0, hz1, hz2⟩ := info_parts info25
  obtain ⟨xs, ho1, ho2⟩ := hown
  have hxl : xs.length = ll.length := by have := ho1.1; omega
  refine wp_append_own _ s x 24 ho base 25 i _ 1 24 Tryz.underlying24 hi hz0 hz1 hz2 rfl (by decide) v ll.length _ hs (World.ownsRow.alloc ho1 _) ⟨w.heap.size, 0, none⟩ 1 1 [f] hx rfl ?_ ?_ ?_ ?_ ?_ ?_
  · intro j u' hj
    match j, hj with
    | 0, hj => simp at hj; subst hj; simp [Addr.add]
  · intro u' hu
    simp only [List.mem_cons, List.not_mem_nil, or_false] at hu
    subst hu
    exact hf.oneCell
  · unfold maxLen; omega
  · omega
  · simp; omega
  · intro v' w' ho' hg _
    have h2 : w.grownBy w' v.ownBlock := ⟨hg.os, hg.tape, hg.output, Nat.le_trans (by simp) hg.size, fun k hk hne => (hg.block k (by simp; omega) hne).trans (Below.heap_alloc w _ k hk)⟩
    refine h v' w' ⟨_, by simpa using ho', ?_⟩ h2
    intro i' l' hi'
    have hne : NotE w 3 v.ownBlock := NotE.own ho1 (by decide)
    by_cases hl : i' < ll.length
    · rw [List.getElem?_append_left hl] at hi'
      obtain ⟨u, k1, k2⟩ := ho2 i' l' hi'
      exact ⟨u, by rw [List.getElem?_append_left (by omega)]; exact k1, k2.grown h2 hne⟩
    · rw [List.getElem?_append_right (by omega)] at hi'
      have h0 : i' - ll.length = 0 := by
        rcases Nat.eq_zero_or_pos (i' - ll.length) with h | h
        · exact h
        · rw [List.getElem?_eq_none (by simp; omega)] at hi'
          cases hi'
      rw [h0] at hi'
      obtain rfl : l = l' := by simpa using hi'
      exact ⟨f, by rw [List.getElem?_append_right (by omega), show i' - xs.length = 0 by omega]; rfl, hf.grown h2 hne⟩

theorem step_push_lx {ops : Array Oper} {o : Oper} {a : Act} {K : Act → World → Prop} {Q : Exit → Act → World → Prop} {E : Prop} {w : World} {l : List Int} {f : Value}
    (s x : Operand) (hgd : o.guard = none) (ho : o.op = .call { callee := .builtin .append, args := #[s, x], argTypes := #[24, 24] })
    {base : Nat} {v : Value} {ll : List (List Int)} {xs : List Value} (hown : LX w base v ll xs) (hf : OwnI w base f l) (hn : ll.length ≤ 1000000000) (hbase : base ≤ w.heap.size)
    (hs : a.eval s = v) (hx : a.eval x = .slice (some ⟨w.heap.size, 0, none⟩) 1 1)
    (h : ∀ v' w', LX w' base v' (ll ++ [l]) (xs ++ [f]) → w.grownBy w' v.ownBlock → K (a.put o.dst v') w') :
    if Region.wanted o (yielded ops a.tmps) = true then Oper.wp Tryz.prog o a (w.alloc (.cells #[f] 25)) K Q else E := by
  have hw : Region.wanted o (yielded ops a.tmps) = true := by simp [Region.wanted, hgd]
  rw [if_pos hw]
  obtain ⟨i, hi, hz0, hz1, hz2⟩ := info_parts info25
  obtain ⟨ho1, ho2⟩ := hown
  have hxl : xs.length = ll.length := by have := ho1.1; omega
  refine wp_append_own _ s x 24 ho base 25 i _ 1 24 Tryz.underlying24 hi hz0 hz1 hz2 rfl (by decide) v ll.length _ hs (World.ownsRow.alloc ho1 _) ⟨w.heap.size, 0, none⟩ 1 1 [f] hx rfl ?_ ?_ ?_ ?_ ?_ ?_
  · intro j u' hj
    match j, hj with
    | 0, hj => simp at hj; subst hj; simp [Addr.add]
  · intro u' hu
    simp only [List.mem_cons, List.not_mem_nil, or_false] at hu
    subst hu
    exact hf.ri.oneCell
  · unfold maxLen; omega
  · omega
  · simp; omega
  · intro v' w' ho' hg _
    have h2 : w.grownBy w' v.ownBlock := ⟨hg.os, hg.tape, hg.output, Nat.le_trans (by simp) hg.size, fun k hk hne => (hg.block k (by simp; omega) hne).trans (Below.heap_alloc w _ k hk)⟩
    refine h v' w' ⟨by simpa using ho', ?_⟩ h2
    intro i' l' hi'
    have hne : NotE w 3 v.ownBlock := NotE.own ho1 (by decide)
    by_cases hl : i' < ll.length
    · rw [List.getElem?_append_left hl] at hi'
      obtain ⟨u, k1, k2⟩ := ho2 i' l' hi'
      exact ⟨u, by rw [List.getElem?_append_left (by omega)]; exact k1, k2.grown h2 hne⟩
    · rw [List.getElem?_append_right (by omega)] at hi'
      have h0 : i' - ll.length = 0 := by
        rcases Nat.eq_zero_or_pos (i' - ll.length) with h | h
        · exact h
        · rw [List.getElem?_eq_none (by simp; omega)] at hi'
          cases hi'
      rw [h0] at hi'
      obtain rfl : l = l' := by simpa using hi'
      exact ⟨f, by rw [List.getElem?_append_right (by omega), show i' - xs.length = 0 by omega]; rfl, hf.grown h2 hne⟩

/-- 'append([]int{}, x...)': a copy; memory is only made. -/
theorem run_copy0 {w : World} {g base : Nat} {xv : Value} {l : List Int} (ty : TypeId) (hB : Blk w g 3 #[]) (hbg : base ≤ g) (hx : RI w xv l) (hn : l.length ≤ 1000000000) :
    ∃ v' w', (Builtin.append_ #[25, 25] ty #[.slice (some ⟨g, 0, none⟩) 0 0, xv]).run Tryz.prog w = .ok v' w' ∧ OwnI w' base v' l ∧ w.grownBy w' none := by
  obtain ⟨i, hi, hz0, hz1, hz2⟩ := info_parts info3
  have hE : OwnI w base (.slice (some ⟨g, 0, none⟩) 0 0) [] := ⟨rfl, .inr ⟨g, 0, #[], rfl, hbg, hB, Nat.le_refl _, by unfold maxLen; omega, rfl, rfl⟩⟩
  obtain ⟨A, c, e, hc, hcm, hcn⟩ := TS.form hx
  subst e
  match A, hcn with
  | none, hcn =>
    obtain rfl := hcn rfl
    have hl0 : l = [] := List.eq_nil_of_length_eq_zero (by omega)
    subst hl0
    exact ⟨_, w, run_append_owned_none (P := Tryz.prog) (w := w) base 25 ty 3 i 1 Tryz.underlying25 hi _ _ _ hE, hE, gb_refl _ _⟩
  | some ad, hcn =>
    by_cases h0 : l.length = 0
    · have hl0 : l = [] := List.eq_nil_of_length_eq_zero h0
      subst hl0
      refine ⟨.slice (some ⟨g, 0, none⟩) 0 0, w, ?_, hE, gb_refl _ _⟩
      simp [Builtin.append_, run_underlying Tryz.underlying25, sizeOf, typeInfo, hi, Builtin.lenOf, Builtin.firstCells, loadCells, loadCellsFrom, storeCells]
    · have hnews : ∀ j u, (l.map (Value.int .i64))[j]? = some u → w.cell? (ad.add j) = some u := by
        intro j u hj
        obtain ⟨g', o', cur, e, _, hcell⟩ := TS.at_ hx (by omega)
        have e2 : ad = ⟨g', o', none⟩ := Option.some.inj e
        rw [e2, Addr.add_lit]
        exact hcell j u hj
      have hr := run_append_grow (P := Tryz.prog) (w := w) 25 ty 3 i _ Tryz.underlying25 hi hz0 ⟨g, 0, none⟩ 0 0 [] (by simp) (fun j v h => by simp at h) ad l.length c (l.map (Value.int .i64)) (by rw [hz1, List.length_map, Nat.mul_one]) hnews (by omega) (by omega)
        (growslice_fits (by omega) (by rw [hz2]; omega))
      obtain ⟨v', w', hr2, h2, h3, _⟩ := run_append_own (P := Tryz.prog) w base 25 ty 3 i _ 1 8 Tryz.underlying25 hi hz0 hz1 hz2 rfl (by decide) _ 0 [] hE ad l.length c (l.map (Value.int .i64)) (by rw [List.length_map, Nat.mul_one]) hnews (ints_one l) (by unfold maxLen; omega) (by omega) (by have := hB.lt; omega)
      refine ⟨v', w', hr2, ?_, ?_⟩
      · unfold OwnI
        simpa using h2
      · rw [hr2] at hr
        injection hr with _ hw
        rw [hw]
        exact gb_alloc (gb_drew (gb_refl w none)) _
end Go.Proofs.YtihobnheficpjaaGreatDoor
namespace Go.Proofs.YtihobnheficpjaaGreatDoor
open Go.RowKit

theorem dequeValid_out {d : List Int} {k : Nat} {x : Int} (hx : d[k]? = some x) (h : ¬ (0 ≤ x ∧ x ≤ 9)) : dequeValid d = false := by
  rcases Bool.eq_false_or_eq_true (dequeValid d) with e | e
  · exact absurd ((dequeValid_iff.1 e).2.1 x (List.mem_of_getElem? hx)) h
  · exact e
theorem dequeValid_twice {d : List Int} {k : Nat} {x : Int} (hx : d[k]? = some x) (h : x ∈ d.take k) : dequeValid d = false := by
  rcases Bool.eq_false_or_eq_true (dequeValid d) with e | e
  · exfalso
    have hn := (dequeValid_iff.1 e).2.2
    obtain ⟨hk, rfl⟩ := List.getElem?_eq_some_iff.1 hx
    have h2 := hn.sublist (List.take_sublist (k + 1) d)
    rw [List.take_succ_eq_append_getElem hk, List.nodup_append] at h2
    exact h2.2.2 _ h _ (by simp) rfl
  · exact e
/-- The first k are in range and different. -/
def dqTo (d : List Int) (k : Nat) : Prop := (∀ x ∈ d.take k, 0 ≤ x ∧ x ≤ 9) ∧ (d.take k).Nodup
theorem dqTo_zero (d : List Int) : dqTo d 0 := by unfold dqTo; simp
theorem dqTo_succ {d : List Int} {k : Nat} {x : Int} (h : dqTo d k) (hx : d[k]? = some x) (hr : 0 ≤ x ∧ x ≤ 9) (hn : x ∉ d.take k) : dqTo d (k + 1) := by
  obtain ⟨hk, rfl⟩ := List.getElem?_eq_some_iff.1 hx
  unfold dqTo at h ⊢
  rw [List.take_succ_eq_append_getElem hk]
  refine ⟨fun y hy => ?_, ?_⟩
  · rcases List.mem_append.1 hy with hy | hy
    · exact h.1 y hy
    · obtain rfl : y = d[k] := by simpa using hy
      exact hr
  · rw [List.nodup_append]
    refine ⟨h.2, by simp, fun a ha b hb e => ?_⟩
    obtain rfl : b = d[k] := by simpa using hb
    exact hn (e ▸ ha)
theorem dqTo_all {d : List Int} {k : Nat} (h : dqTo d k) (hk : d.length ≤ k) : dequeValid d = decide (d.length ≤ 10) := by
  unfold dqTo at h
  rw [List.take_of_length_le hk] at h
  rw [Bool.eq_iff_iff, dequeValid_iff, decide_eq_true_eq]
  exact ⟨fun e => e.1, fun e => ⟨e, h.1, h.2⟩⟩
set_option maxHeartbeats 800000 in
set_option maxRecDepth 20000 in
theorem specDequeValid_b (v : Value) (d : List Int) (w : World) (h : RI w v d) {b : Bool} (hb : dequeValid d = b) :
    Calls Tryz.prog 104 #[v] w fun e w' => e = .returned (.bool b) ∧ w.grownBy w' none := by
  obtain ⟨A, n, c, rfl, hnc, hn⟩ := h.form'
  have hle := h.le
  rw [← hn] at hle
  have Hn := Lib.hid hn
  have Hb := Lib.hid hb
  clear hn hb
  go_enter Tryz.func104, Tryz.ntmps104
  go_wp2_with fail
  go_loopg [3] (n + 1) (fun mm i wr => ∃ k : Nat, k ≤ n ∧ mm = n + 1 - k ∧ i = .int .i64 k ∧ Hid (dqTo d k) ∧ w.grownBy wr none)
  case atStart => exact ⟨0, Nat.zero_le _, rfl, rfl, dqTo_zero d, gb_refl _ _⟩
  case round =>
    obtain ⟨k, hk, rfl, rfl, Hk, hg⟩ := hrel
    by_cases hlt : k < n
    · obtain ⟨g, o, x, rfl, hx, c0⟩ := (h.new hg).at_ hlt
      have Hx := Lib.hid hx
      have ht := (h.new hg).take (k := k) (by omega)
      have hkc : k ≤ c := by omega
      clear hx
      by_cases hin : 0 ≤ x ∧ x ≤ 9
      · have Hin : Hid ((decide (0 ≤ x) && decide (x ≤ 9)) = true) := by show _ = _; simp [hin.1, hin.2]
        by_cases hD : x ∈ d.take k
        · have HD : Hid (decide (x ∈ d.take k) = true) := decide_eq_true hD
          have Hr : Hid (b = false) := by
            show _ = _
            rw [← Hb.out]
            exact dequeValid_twice Hx.out hD
          clear hD Hk hin
          go_wp2_with fail
          go_quiet ((first
            | (go_at_call 53; exact quiet_l (l6In_b _ _ _ _ Hin.out))
            | (go_at_call 102; exact quiet_l (l3Has_b _ _ _ _ (by exact ht) HD.out))))
          go_wp2_with fail
          go_ret
          exact ⟨by rw [Hr.out]; rfl, gb_drewN hg _⟩
        · have HD : Hid (decide (x ∈ d.take k) = false) := decide_eq_false hD
          have Hs : Hid (dqTo d (k + 1)) := dqTo_succ Hk.out Hx.out hin hD
          clear hD Hk hin
          go_wp2_with fail
          go_quiet ((first
            | (go_at_call 53; exact quiet_l (l6In_b _ _ _ _ Hin.out))
            | (go_at_call 102; exact quiet_l (l3Has_b _ _ _ _ (by exact ht) HD.out))))
          go_wp2_with fail
          go_roundg (n + 1 - (k + 1))
          case measure => omega
          case rel => exact ⟨k + 1, by omega, rfl, by go_num, Hs, gb_drewN hg _⟩
      · have Hin : Hid ((decide (0 ≤ x) && decide (x ≤ 9)) = false) := by
          show _ = _
          rw [Bool.and_eq_false_iff, decide_eq_false_iff_not, decide_eq_false_iff_not]
          omega
        have Hr : Hid (b = false) := by
          show _ = _
          rw [← Hb.out]
          exact dequeValid_out Hx.out hin
        clear hin Hk
        go_wp2_with fail
        go_quiet ((first
          | (go_at_call 53; exact quiet_l (l6In_b _ _ _ _ Hin.out))))
        go_wp2_with fail
        go_ret
        exact ⟨by rw [Hr.out]; rfl, gb_drewN hg _⟩
    · obtain rfl : k = n := by omega
      have Hr : Hid (b = decide ((k : Int) ≤ 10)) := by
        show _ = _
        rw [← Hb.out, dqTo_all Hk.out (by rw [← Hn.out]; exact Nat.le_refl _), ← Hn.out, decide_eq_decide]
        omega
      clear Hk
      go_wp2_with fail
      go_ret
      exact ⟨by rw [Hr.out]; rfl, hg⟩
/-- A deque's rest and the node taken. -/
def TakenOut (w : World) (r : Option (List Int × Int)) (e : Ending) (w' : World) : Prop := match r with
  | some (l, x) => ∃ v, e = .returned (.tuple #[v, .int .i64 x, .bool true]) ∧ OwnI w' w.heap.size v l ∧ w.grownBy w' none
  | none => ∃ v y, e = .returned (.tuple #[v, .int .i64 y, .bool false]) ∧ RI w' v [] ∧ w.grownBy w' none
def dequePop (d : List Int) : Option (List Int × Int) := if dequeValid d then d.getLast?.map fun x => (d.dropLast, x) else none
def dequeSteal (d : List Int) : Option (List Int × Int) := if dequeValid d then d.head?.map fun x => (d.drop 1, x) else none
theorem dequePop_bad {d : List Int} (h : dequeValid d = false) : dequePop d = none := by unfold dequePop; rw [h]; rfl
theorem dequePop_nil : dequePop [] = none := by unfold dequePop; simp
theorem dequePop_some {d : List Int} (h : dequeValid d = true) (hl : 0 < d.length) : dequePop d = some (d.take (d.length - 1), d.getD (d.length - 1) 0) := by
  unfold dequePop
  rw [h, if_pos rfl, List.getLast?_eq_getElem?, List.getElem?_eq_getElem (by omega), List.getD_eq_getElem?_getD, List.getElem?_eq_getElem (by omega), List.dropLast_eq_take]
  rfl
theorem dequeSteal_bad {d : List Int} (h : dequeValid d = false) : dequeSteal d = none := by unfold dequeSteal; rw [h]; rfl
theorem dequeSteal_some {d : List Int} (h : dequeValid d = true) (hl : 0 < d.length) : dequeSteal d = some (d.drop 1, d.getD 0 0) := by
  unfold dequeSteal
  rw [h, if_pos rfl]
  cases d with
  | nil => simp at hl
  | cons x r => rfl
set_option maxHeartbeats 1600000 in
set_option maxRecDepth 20000 in
theorem specDequePop_any (v : Value) (d : List Int) (w : World) (h : RI w v d) : Calls Tryz.prog 54 #[v] w (TakenOut w (dequePop d)) := by
  obtain ⟨A, n, c, rfl, hnc, hn⟩ := h.form'
  have hle := h.le
  rw [← hn] at hle
  have Hn := Lib.hid hn
  by_cases hv : dequeValid d = true
  · have Hv := Lib.hid hv
    have hn10 : n ≤ 10 := by rw [hn]; exact (dequeValid_iff.1 hv).1
    by_cases h0 : n = 0
    · have hd : d = [] := List.eq_nil_of_length_eq_zero (by omega)
      have hlt : (n : Int) - 1 < 0 := by omega
      have Hr : Hid (dequePop d = none) := by show _ = _; rw [hd]; exact dequePop_nil
      clear hv hn hd h0
      go_enter Tryz.func54, Tryz.ntmps54
      go_wp2_with fail
      refine (specDequeValid_b _ d _ h Hv.out).mono ?_
      rintro e w1 ⟨rfl, hg1⟩
      go_wp2_with fail
      refine bodyPost_ret (v := .tuple #[.slice (some ⟨w1.heap.size, 0, none⟩) 0 0, .int .i64 0, .bool false]) (by simp [results, Tryz.results54, go_sem]) rfl ?_
      rw [Hr.out]
      exact ⟨_, 0, rfl, (OwnI.empty w1 (Nat.le_refl _)).ri, gb_alloc hg1 _⟩
    · have Hr : Hid (dequePop d = some (d.take (n - 1), d.getD (n - 1) 0)) := by show _ = _; rw [hn]; exact dequePop_some hv (by omega)
      have hge : ¬ ((n : Int) - 1 < 0) := by omega
      obtain ⟨m, rfl⟩ : ∃ m, n = m + 1 := ⟨n - 1, by omega⟩
      rw [Nat.add_sub_cancel] at Hr
      clear hv hn h0
      go_enter Tryz.func54, Tryz.ntmps54
      go_wp2_with fail
      refine (specDequeValid_b _ d _ h Hv.out).mono ?_
      rintro e w1 ⟨rfl, hg1⟩
      have h1 := h.new hg1
      obtain ⟨g, o, x, rfl, hx, c0⟩ := h1.at_ (k := m) (by omega)
      have Hx : Hid (d.getD m 0 = x) := by show _ = _; rw [List.getD_eq_getElem?_getD, hx]; rfl
      have hE : OwnI (w1.alloc (.cells #[] 3)).drew w1.heap.size (.slice (some ⟨w1.heap.size, 0, none⟩) 0 0) [] := OwnI.empty w1 (Nat.le_refl _)
      have hgE : w1.grownBy (w1.alloc (.cells #[] 3)).drew none := gb_drew (World.grownBy_alloc w1 _ none)
      have hrE : RI (w1.alloc (.cells #[] 3)).drew (.slice (some ⟨g, o, none⟩) m c) (d.take m) := (h1.take (k := m) (by omega)).new hgE
      have hlen : ([] : List Int).length + (d.take m).length ≤ 1000000000 := by simp only [List.length_nil, List.length_take]; omega
      have c0A := cell_new c0 (World.grownBy_alloc w1 (.cells #[] 3) none)
      have hmc : m ≤ c := by omega
      have hidx : (m : Int) < (m : Int) + 1 := by omega
      have hn1 : (((m + 1 : Nat) : Int) - 1) = (m : Int) := by omega
      clear hx
      go_wp2_with fail
      go_region_law (refine step_extend_ints (w := (w1.alloc (.cells #[] 3)).drew) (base := w1.heap.size) (v := .slice (some ⟨w1.heap.size, 0, none⟩) 0 0) (xv := .slice (some ⟨g, o, none⟩) m c) (l0 := []) (l := d.take m) (.tmp 17) (.tmp 20) rfl rfl hE hrE hlen hgE.size rfl rfl ?_; intro v' w4 hown4 hg4; have hg5 := hE.gb hgE hg4 (Nat.le_refl _); have c4 := cell_new c0 hg5; obtain ⟨A4, n4, c4', rfl⟩ := hown4.ri.val)
      all_goals
        go_wp2_with fail
        refine bodyPost_ret (v := .tuple #[.slice A4 n4 c4', .int .i64 x, .bool true]) (by simp [results, Tryz.results54, go_sem]) rfl ?_
        rw [Hr.out, Hx.out]
        exact ⟨_, rfl, (by simpa using hown4.low hg1.size), gb_trans hg1 hg5⟩
  · have hv' : dequeValid d = false := by simpa using hv
    have Hv := Lib.hid hv'
    have Hr := Lib.hid (dequePop_bad hv')
    clear hv hv' hn
    go_enter Tryz.func54, Tryz.ntmps54
    go_wp2_with fail
    refine (specDequeValid_b _ d _ h Hv.out).mono ?_
    rintro e w1 ⟨rfl, hg1⟩
    go_wp2_with fail
    refine bodyPost_ret (v := .tuple #[.slice (some ⟨w1.heap.size, 0, none⟩) 0 0, .int .i64 0, .bool false]) (by simp [results, Tryz.results54, go_sem]) rfl ?_
    rw [Hr.out]
    exact ⟨_, 0, rfl, (OwnI.empty w1 (Nat.le_refl _)).ri, gb_alloc hg1 _⟩
theorem RI.tail {w : World} {g o n c : Nat} {l : List Int} (h : RI w (.slice (some ⟨g, o, none⟩) n c) l) (h1 : 1 ≤ n) : ∃ ox, (if c = 1 then some (⟨g, o, none⟩ : Addr) else some ⟨g, o + 1, none⟩) = some ⟨g, ox, none⟩ ∧ RI w (.slice (some ⟨g, ox, none⟩) (n - 1) (c - 1)) (l.drop 1) := by
  obtain ⟨h0, A', c'', e, h2, h3, h4, h5⟩ := h
  injection e with e1 e2 e3
  subst e1 e3
  have hl : l.length = n := e2.symm
  by_cases hc1 : c = 1
  · refine ⟨o, by rw [if_pos hc1], by simp, _, c - 1, by rw [List.length_drop, hl], by rw [List.length_drop, hl]; omega, by omega, by simp, .inl (by rw [List.length_drop]; omega)⟩
  · refine ⟨o + 1, by rw [if_neg hc1], by simp, _, c - 1, by rw [List.length_drop, hl], by rw [List.length_drop, hl]; omega, by omega, by simp, ?_⟩
    rcases h5 with h5 | ⟨g', o', cur, hA', hb, hc⟩
    · omega
    · injection hA' with hA'
      injection hA' with q1 q2
      subst q1 q2
      refine .inr ⟨g, o + 1, cur, rfl, hb, fun j u hu => ?_⟩
      rw [List.map_drop, List.getElem?_drop] at hu
      have := hc (1 + j) u hu
      rw [show o + 1 + j = o + (1 + j) by omega]
      exact this
set_option maxHeartbeats 1600000 in
set_option maxRecDepth 20000 in
theorem specDequeSteal_any (v : Value) (d : List Int) (w : World) (h : RI w v d) : Calls Tryz.prog 70 #[v] w (TakenOut w (dequeSteal d)) := by
  obtain ⟨A, n, c, rfl, hnc, hn⟩ := h.form'
  have hle := h.le
  rw [← hn] at hle
  have Hn := Lib.hid hn
  by_cases hv : dequeValid d = true
  · have Hv := Lib.hid hv
    have hn10 : n ≤ 10 := by rw [hn]; exact (dequeValid_iff.1 hv).1
    by_cases h0 : n = 0
    · have hd : d = [] := List.eq_nil_of_length_eq_zero (by omega)
      have hlt : ((n : Int) == 0) = true := by simp [h0]
      have Hr : Hid (dequeSteal d = none) := by show _ = _; rw [hd]; unfold dequeSteal; simp
      clear hv hn hd h0
      go_enter Tryz.func70, Tryz.ntmps70
      go_wp2_with fail
      refine (specDequeValid_b _ d _ h Hv.out).mono ?_
      rintro e w1 ⟨rfl, hg1⟩
      go_wp2_with fail
      refine bodyPost_ret (v := .tuple #[.slice (some ⟨w1.heap.size, 0, none⟩) 0 0, .int .i64 0, .bool false]) (by simp [results, Tryz.results70, go_sem]) rfl ?_
      rw [Hr.out]
      exact ⟨_, 0, rfl, (OwnI.empty w1 (Nat.le_refl _)).ri, gb_alloc hg1 _⟩
    · have Hr : Hid (dequeSteal d = some (d.drop 1, d.getD 0 0)) := by show _ = _; exact dequeSteal_some hv (by omega)
      have hge : ((n : Int) == 0) = false := by simp [h0]
      have hn1 : 1 ≤ n := by omega
      clear hv hn h0
      go_enter Tryz.func70, Tryz.ntmps70
      go_wp2_with fail
      refine (specDequeValid_b _ d _ h Hv.out).mono ?_
      rintro e w1 ⟨rfl, hg1⟩
      have h1 := h.new hg1
      obtain ⟨g, o, x, rfl, hx, c0⟩ := h1.at_ (k := 0) (by omega)
      have Hx : Hid (d.getD 0 0 = x) := by show _ = _; rw [List.getD_eq_getElem?_getD, hx]; rfl
      have hE : OwnI (w1.alloc (.cells #[] 3)).drew w1.heap.size (.slice (some ⟨w1.heap.size, 0, none⟩) 0 0) [] := OwnI.empty w1 (Nat.le_refl _)
      have hgE : w1.grownBy (w1.alloc (.cells #[] 3)).drew none := gb_drew (World.grownBy_alloc w1 _ none)
      have hlen : ([] : List Int).length + (d.drop 1).length ≤ 1000000000 := by simp only [List.length_nil, List.length_drop]; have := Hn.out; omega
      have hmc : (1 : Int) ≤ (n : Int) := by omega
      have hidx : (0 : Int) < (n : Int) := by omega
      have hidx' : 0 < n := by omega
      rw [Nat.add_zero] at c0
      have hnc' : (n : Int) ≤ (c : Int) := by omega
      obtain ⟨ox, hox, hD⟩ := h1.tail hn1
      have c0A := cell_new c0 (World.grownBy_alloc w1 (.cells #[] 3) none)
      have hDE := hD.new hgE
      clear hx
      go_wp2_with fail
      go_region_law (refine step_extend_ints (w := (w1.alloc (.cells #[] 3)).drew) (base := w1.heap.size) (v := .slice (some ⟨w1.heap.size, 0, none⟩) 0 0) (xv := .slice (some ⟨g, ox, none⟩) (n - 1) (c - 1)) (l0 := []) (l := d.drop 1) (.tmp 14) (.tmp 16) rfl rfl hE hDE hlen hgE.size rfl rfl ?_; intro v' w4 hown4 hg4; have hg5 := hE.gb hgE hg4 (Nat.le_refl _); have c4 := cell_new c0 hg5; obtain ⟨A4, n4, c4', rfl⟩ := hown4.ri.val)
      all_goals
        go_wp2_with fail
        refine bodyPost_ret (v := .tuple #[.slice A4 n4 c4', .int .i64 x, .bool true]) (by simp [results, Tryz.results70, go_sem]) rfl ?_
        rw [Hr.out, Hx.out]
        exact ⟨_, rfl, (by simpa using hown4.low hg1.size), gb_trans hg1 hg5⟩
  · have hv' : dequeValid d = false := by simpa using hv
    have Hv := Lib.hid hv'
    have Hr := Lib.hid (dequeSteal_bad hv')
    clear hv hv' hn
    go_enter Tryz.func70, Tryz.ntmps70
    go_wp2_with fail
    refine (specDequeValid_b _ d _ h Hv.out).mono ?_
    rintro e w1 ⟨rfl, hg1⟩
    go_wp2_with fail
    refine bodyPost_ret (v := .tuple #[.slice (some ⟨w1.heap.size, 0, none⟩) 0 0, .int .i64 0, .bool false]) (by simp [results, Tryz.results70, go_sem]) rfl ?_
    rw [Hr.out]
    exact ⟨_, 0, rfl, (OwnI.empty w1 (Nat.le_refl _)).ri, gb_alloc hg1 _⟩
end Go.Proofs.YtihobnheficpjaaGreatDoor
