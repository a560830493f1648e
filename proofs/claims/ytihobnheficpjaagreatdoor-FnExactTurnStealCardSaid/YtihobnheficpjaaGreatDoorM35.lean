/- Walks: laws.sameCrew. · What the frames of the turns' laws share: the sentinel, arguments. -/
import Derived.Test.YtihobnheficpjaaGreatDoorM32
import Derived.Test.YtihobnheficpjaaGreatDoorM34
import Derived.Test.YtihobnheficpjaaGreatDoorM16
import Derived.Test.YtihobnheficpjaaGreatDoorM30
import Derived.Test.YtihobnheficpjaaGreatDoorM06
import Derived.Test.YtihobnheficpjaaGreatDoorRows
import Derived.WalkKit
import Derived.ProofKit
import Derived.OpenShut
import Derived.ShutString
import Derived.ChangeOld
import Derived.Below
import Derived.LaidMore
import Derived.LaidHandle
import Derived.MakeChecks
import Derived.Stop.LaidErr
import Derived.Stop.Joined
import Derived.Deep.Slices
import Derived.Deep.Fields
import Derived.Test.YtihobnheficpjaaGreatDoorCards
import Derived.SevenTiedAt
import Derived.ChangeVars
import Derived.WideKeyArgs
import Derived.Lib.SmallJoins
import Derived.LaidLaws
namespace Go.Proofs.YtihobnheficpjaaGreatDoor
open Go.RowKit

theorem drawnFit {plan : List Node} {c : Crew} (h : DrawnCrew plan c) : c.deques.length ≤ 1048576 ∧ ∀ d ∈ c.deques, d.length ≤ 1048576 := by
  rcases h with h | rfl
  · exact ⟨by have := h.d4; omega, fun d hd => by have := deque_len h d hd; omega⟩
  · exact ⟨by simp [crew0], fun d hd => by simp [crew0] at hd⟩
theorem crew_fit {plan : List Node} {c : Crew} (h : CrewOk plan c) : ∀ d ∈ c.deques, d.length ≤ 1048576 := (drawnFit (.inl h)).2
/-- An append of integers, guarded or not, inside a region that draws its order. -/
theorem step_extend_ints_w {ops : Array Oper} {o : Oper} {a : Act} {K : Act → World → Prop} {Q : Exit → Act → World → Prop} {E : Prop} {w : World}
    (s x : Operand) (hw : Region.wanted o (yielded ops a.tmps) = true) (ho : o.op = .call { callee := .builtin .append, args := #[s, x], argTypes := #[25, 25] })
    {base : Nat} {v xv : Value} {l0 l : List Int} (hown : OwnI w base v l0) (hxv : RI w xv l) (hn : l0.length + l.length ≤ 1000000000) (hbase : base ≤ w.heap.size)
    (hs : a.eval s = v) (hx : a.eval x = xv)
    (h : ∀ v' w', OwnI w' base v' (l0 ++ l) → w.grownBy w' v.ownBlock → K (a.put o.dst v') w') :
    if Region.wanted o (yielded ops a.tmps) = true then Oper.wp Tryz.prog o a w K Q else E := by
  rw [if_pos hw]
  obtain ⟨i, hi, hz0, hz1, hz2⟩ := info_parts info3
  obtain ⟨A, c, e, hc, hcm, hcn⟩ := TS.form hxv
  subst e
  match A, hcn with
  | none, hcn =>
    obtain rfl := hcn rfl
    have hl0 : l = [] := List.eq_nil_of_length_eq_zero (by omega)
    subst hl0
    have hrun := run_append_owned_none (P := Tryz.prog) (w := w) base 25 o.type 3 i 1 Tryz.underlying25 hi v _ _ hown
    unfold Oper.wp
    simp [execOp, ho, resolve, invoke, builtin, hs, hx, hrun, Result.andThen]
    rw [List.append_nil] at h
    exact h _ _ hown (gb_refl _ _)
  | some ad, hcn =>
    refine wp_append_own _ s x 25 ho base 3 i _ 1 8 Tryz.underlying25 hi hz0 hz1 hz2 rfl (by decide) v _ _ hs hown ad l.length c (l.map (.int .i64)) hx (by rw [List.length_map, Nat.mul_one]) ?_ (ints_one l) ?_ ?_ hbase ?_
    · intro j u hj
      have hjl := (List.getElem?_eq_some_iff.1 hj).1
      rw [List.length_map] at hjl
      obtain ⟨g, o', cur, e, _, hcell⟩ := TS.at_ hxv (by omega)
      have e2 : ad = ⟨g, o', none⟩ := Option.some.inj e
      rw [e2, Addr.add_lit]
      exact hcell j u hj
    · unfold maxLen; omega
    · omega
    · intro v' w' h1 h2 _
      refine h v' w' ?_ h2
      unfold OwnI
      simpa using h1
/-- Another crew is put into the block. -/
theorem BoxC.put {w : World} {V : Nat} {d k o r d' k' o' r' : Value} {c c' : Crew} (h : BoxC w V d k o r c) (hc : CV w (.agg #[d', k', o', r']) c') :
    BoxC ((((w.setCell ⟨V, 0, none⟩ d').setCell ⟨V, 1, none⟩ k').setCell ⟨V, 2, none⟩ o').setCell ⟨V, 3, none⟩ r') V d' k' o' r' c' := by
  have hst := gb_set4 w V d' k' o' r'
  have b1 := (((h.b.set_ 0 d').set_ 1 k').set_ 2 o').set_ 3 r'
  obtain ⟨e1, e2, e3, e4, e, h1, h2, h3, h4⟩ := hc.grown hst (NotE.blk h.b (by decide)) (NotE.blk h.b (by decide))
  injection e with e
  injection e with e
  injection e with ea e
  injection e with eb e
  injection e with ec e
  injection e with ed e
  subst ea eb ec ed
  exact ⟨b1, h1, h2, h3, h4⟩
set_option maxRecDepth 20000 in
theorem sameCrew_any (va vb : Value) (c : Crew) (w : World) (ha : CV w va c) (hb : CV w vb c) : Calls Tryz.prog 19 #[va, vb] w fun e w' => e = .returned (.bool true) ∧ w.grownBy w' none := by
  obtain ⟨A1, n1, c1, A2, n2, c2, A3, n3, c3, A4, n4, c4, rfl, -, -, -, -⟩ := ha.form
  obtain ⟨B1, m1, e1, B2, m2, e2, B3, m3, e3, B4, m4, e4, rfl, -, -, -, -⟩ := hb.form
  have hX := ha.box.new (World.grownBy_alloc _ (.cells #[.slice B1 m1 e1, .slice B2 m2 e2, .slice B3 m3 e3, .slice B4 m4 e4] 27) none)
  have hY := (hb.new (World.grownBy_alloc w (.cells #[.slice A1 n1 c1, .slice A2 n2 c2, .slice A3 n3 c3, .slice A4 n4 c4] 27) none)).box
  rw [World.size_alloc] at hY
  have g1 : w.grownBy ((w.alloc (.cells #[.slice A1 n1 c1, .slice A2 n2 c2, .slice A3 n3 c3, .slice A4 n4 c4] 27)).alloc (.cells #[.slice B1 m1 e1, .slice B2 m2 e2, .slice B3 m3 e3, .slice B4 m4 e4] 27)) none := gb_alloc (gb_alloc (gb_refl w none) _) _
  clear ha hb
  go_enter Tryz.func19, Tryz.ntmps19
  go_upto_region 1 with fail
  generalize ((w.alloc (.cells #[.slice A1 n1 c1, .slice A2 n2 c2, .slice A3 n3 c3, .slice A4 n4 c4] 27)).alloc (.cells #[.slice B1 m1 e1, .slice B2 m2 e2, .slice B3 m3 e3, .slice B4 m4 e4] 27)) = W at hX hY g1 ⊢
  have x0 := hX.d0
  have y0 := hY.d0
  go_wp2_with fail
  refine (sameRows_b _ _ c.deques c.deques W hX.dq hY.dq (c := true) (decide_eq_true rfl)).mono ?_
  rintro e w1 ⟨rfl, hg1⟩
  replace hX := hX.new hg1
  replace hY := hY.new hg1
  replace g1 := gb_trans g1 hg1
  clear x0 y0 hg1
  have x1 := hX.d1
  have y1 := hY.d1
  go_wp2_with fail
  refine (sameRow_b _ _ c.counts c.counts w1 hX.ct hY.ct (c := true) (decide_eq_true rfl)).mono ?_
  rintro e w2 ⟨rfl, hg1⟩
  replace hX := hX.new hg1
  replace hY := hY.new hg1
  replace g1 := gb_trans g1 hg1
  clear x1 y1 hg1
  have x2 := hX.d2
  have y2 := hY.d2
  go_wp2_with fail
  refine (sameRow_b _ _ c.done c.done w2 hX.dn hY.dn (c := true) (decide_eq_true rfl)).mono ?_
  rintro e w3 ⟨rfl, hg1⟩
  replace hX := hX.new hg1
  replace hY := hY.new hg1
  replace g1 := gb_trans g1 hg1
  clear x2 y2 hg1
  have x3 := hX.d3
  have y3 := hY.d3
  go_wp2_with fail
  refine (sameRows_b _ _ c.rows c.rows w3 hX.ro hY.ro (c := true) (decide_eq_true rfl)).mono ?_
  rintro e w4 ⟨rfl, hg1⟩
  go_wp2_with fail
  go_ret
  exact ⟨rfl, gb_trans g1 hg1⟩
end Go.Proofs.YtihobnheficpjaaGreatDoor
namespace Go.Proofs.YtihobnheficpjaaGreatDoor
open Go.ChangeShapes Go.WideShapes Go.ChangeAt Go.RowKit Go.Deep

theorem own_ : ownKnob Tryz.prog.godebug = none := by kernel_rfl
theorem laidOut_ : laidOutB Tryz.prog = true := by kernel_rfl
/-! The dump's head word, read once (each closed fact of a row reads it anew: too much for the kernel). -/
theorem order_ : Tryz.prog.initOrder = String.ofList (([104, 97, 114, 110, 101, 115, 115, 32, 48, 100, 57, 48, 99, 57, 57, 97, 98, 102, 98, 51, 50, 97, 52, 101, 56, 49, 48, 57, 49, 57, 97, 102, 97, 49, 98, 102, 50, 48, 102, 102, 49, 97, 50, 100, 55, 102, 56, 101, 54, 97, 98, 100, 55, 54, 53, 49, 101, 56, 52, 56, 57, 53, 53, 97, 52, 97, 55, 48, 53, 57, 57, 101, 32, 99, 117, 116, 32, 97, 116, 32, 108, 111, 111, 112, 46, 101, 120, 97, 109, 112, 108, 101, 47, 119, 111, 114, 107, 112, 108, 97, 110, 115, 47, 108, 97, 119, 115, 46, 70, 110, 84, 117, 114, 110, 82, 117, 110, 32, 108, 111, 111, 112, 46, 101, 120, 97, 109, 112, 108, 101, 47, 119, 111, 114, 107, 112, 108, 97, 110, 115, 47, 108, 97, 119, 115, 46, 70, 110, 84, 117, 114, 110, 82, 117, 110, 82, 101, 97, 100, 121, 32, 108, 111, 111, 112, 46, 101, 120, 97, 109, 112, 108, 101, 47, 119, 111, 114, 107, 112, 108, 97, 110, 115, 47, 108, 97, 119, 115, 46, 70, 110, 84, 117, 114, 110, 82, 117, 110, 82, 111, 119, 32, 108, 111, 111, 112, 46, 101, 120, 97, 109, 112, 108, 101, 47, 119, 111, 114, 107, 112, 108, 97, 110, 115, 47, 108, 97, 119, 115, 46, 70, 110, 84, 117, 114, 110, 83, 116, 101, 97, 108, 32, 108, 111, 111, 112, 46, 101, 120, 97, 109, 112, 108, 101, 47, 119, 111, 114, 107, 112, 108, 97, 110, 115, 47, 108, 97, 119, 115, 46, 70, 110, 84, 117, 114, 110, 83, 116, 101, 97, 108, 68, 101, 113, 117, 101, 115, 32, 108, 111, 111, 112, 46, 101, 120, 97, 109, 112, 108, 101, 47, 119, 111, 114, 107, 112, 108, 97, 110, 115, 47, 108, 97, 119, 115, 46, 70, 110, 69, 120, 97, 99, 116, 84, 117, 114, 110, 82, 117, 110, 32, 108, 111, 111, 112, 46, 101, 120, 97, 109, 112, 108, 101, 47, 119, 111, 114, 107, 112, 108, 97, 110, 115, 47, 108, 97, 119, 115, 46, 70, 110, 69, 120, 97, 99, 116, 84, 117, 114, 110, 83, 116, 101, 97, 108, 32, 108, 111, 111, 112, 46, 101, 120, 97, 109, 112, 108, 101, 47, 119, 111, 114, 107, 112, 108, 97, 110, 115, 47, 108, 97, 119, 115, 46, 70, 110, 84, 117, 114, 110, 78, 101, 120, 116, 82, 111, 119, 115, 32, 108, 111, 111, 112, 46, 101, 120, 97, 109, 112, 108, 101, 47, 119, 111, 114, 107, 112, 108, 97, 110, 115, 47, 108, 97, 119, 115, 46, 70, 110, 84, 117, 114, 110, 78, 101, 120, 116, 83, 97, 109, 101, 32, 108, 111, 111, 112, 46, 101, 120, 97, 109, 112, 108, 101, 47, 119, 111, 114, 107, 112, 108, 97, 110, 115, 47, 108, 97, 119, 115, 46, 70, 110, 84, 117, 114, 110, 78, 101, 120, 116, 32, 108, 111, 111, 112, 46, 101, 120, 97, 109, 112, 108, 101, 47, 119, 111, 114, 107, 112, 108, 97, 110, 115, 47, 108, 97, 119, 115, 46, 70, 110, 84, 117, 114, 110, 78, 101, 120, 116, 65, 108, 108, 32, 108, 111, 111, 112, 46, 101, 120, 97, 109, 112, 108, 101, 47, 119, 111, 114, 107, 112, 108, 97, 110, 115, 47, 108, 97, 119, 115, 46, 70, 110, 76, 111, 115, 101, 87, 111, 114, 107, 101, 114, 65, 108, 108, 32, 108, 111, 111, 112, 46, 101, 120, 97, 109, 112, 108, 101, 47, 119, 111, 114, 107, 112, 108, 97, 110, 115, 47, 108, 97, 119, 115, 46, 70, 110, 69, 120, 97, 99, 116, 84, 117, 114, 110, 78, 101, 120, 116] : List Nat).map Char.ofNat) := by kernel_rfl
theorem words_ : behindMainWord (wordsSigns Tryz.prog.initOrder.toList) = ([99, 117, 116] : List Nat).map Char.ofNat :: ([[97, 116], [108, 111, 111, 112, 46, 101, 120, 97, 109, 112, 108, 101, 47, 119, 111, 114, 107, 112, 108, 97, 110, 115, 47, 108, 97, 119, 115, 46, 70, 110, 84, 117, 114, 110, 82, 117, 110], [108, 111, 111, 112, 46, 101, 120, 97, 109, 112, 108, 101, 47, 119, 111, 114, 107, 112, 108, 97, 110, 115, 47, 108, 97, 119, 115, 46, 70, 110, 84, 117, 114, 110, 82, 117, 110, 82, 101, 97, 100, 121], [108, 111, 111, 112, 46, 101, 120, 97, 109, 112, 108, 101, 47, 119, 111, 114, 107, 112, 108, 97, 110, 115, 47, 108, 97, 119, 115, 46, 70, 110, 84, 117, 114, 110, 82, 117, 110, 82, 111, 119], [108, 111, 111, 112, 46, 101, 120, 97, 109, 112, 108, 101, 47, 119, 111, 114, 107, 112, 108, 97, 110, 115, 47, 108, 97, 119, 115, 46, 70, 110, 84, 117, 114, 110, 83, 116, 101, 97, 108], [108, 111, 111, 112, 46, 101, 120, 97, 109, 112, 108, 101, 47, 119, 111, 114, 107, 112, 108, 97, 110, 115, 47, 108, 97, 119, 115, 46, 70, 110, 84, 117, 114, 110, 83, 116, 101, 97, 108, 68, 101, 113, 117, 101, 115], [108, 111, 111, 112, 46, 101, 120, 97, 109, 112, 108, 101, 47, 119, 111, 114, 107, 112, 108, 97, 110, 115, 47, 108, 97, 119, 115, 46, 70, 110, 69, 120, 97, 99, 116, 84, 117, 114, 110, 82, 117, 110], [108, 111, 111, 112, 46, 101, 120, 97, 109, 112, 108, 101, 47, 119, 111, 114, 107, 112, 108, 97, 110, 115, 47, 108, 97, 119, 115, 46, 70, 110, 69, 120, 97, 99, 116, 84, 117, 114, 110, 83, 116, 101, 97, 108], [108, 111, 111, 112, 46, 101, 120, 97, 109, 112, 108, 101, 47, 119, 111, 114, 107, 112, 108, 97, 110, 115, 47, 108, 97, 119, 115, 46, 70, 110, 84, 117, 114, 110, 78, 101, 120, 116, 82, 111, 119, 115], [108, 111, 111, 112, 46, 101, 120, 97, 109, 112, 108, 101, 47, 119, 111, 114, 107, 112, 108, 97, 110, 115, 47, 108, 97, 119, 115, 46, 70, 110, 84, 117, 114, 110, 78, 101, 120, 116, 83, 97, 109, 101], [108, 111, 111, 112, 46, 101, 120, 97, 109, 112, 108, 101, 47, 119, 111, 114, 107, 112, 108, 97, 110, 115, 47, 108, 97, 119, 115, 46, 70, 110, 84, 117, 114, 110, 78, 101, 120, 116], [108, 111, 111, 112, 46, 101, 120, 97, 109, 112, 108, 101, 47, 119, 111, 114, 107, 112, 108, 97, 110, 115, 47, 108, 97, 119, 115, 46, 70, 110, 84, 117, 114, 110, 78, 101, 120, 116, 65, 108, 108], [108, 111, 111, 112, 46, 101, 120, 97, 109, 112, 108, 101, 47, 119, 111, 114, 107, 112, 108, 97, 110, 115, 47, 108, 97, 119, 115, 46, 70, 110, 76, 111, 115, 101, 87, 111, 114, 107, 101, 114, 65, 108, 108], [108, 111, 111, 112, 46, 101, 120, 97, 109, 112, 108, 101, 47, 119, 111, 114, 107, 112, 108, 97, 110, 115, 47, 108, 97, 119, 115, 46, 70, 110, 69, 120, 97, 99, 116, 84, 117, 114, 110, 78, 101, 120, 116]] : List (List Nat)).map (·.map Char.ofNat) := by
  rw [order_, String.toList_ofList]
  kernel_rfl
theorem strip_none (w : List Char) (ws : List (List Char)) : ∀ os : List String, os.all (fun o => !(w == o.toList)) = true → stripLifts os (w :: ws) = ([], w :: ws)
  | [], _ => rfl
  | o :: os, h => by
    simp only [List.all_cons, Bool.and_eq_true, Bool.not_eq_true'] at h
    unfold stripLifts
    rw [if_neg (by simp [h.1])]
    exact strip_none w ws os h.2
theorem strip_ (ws : List (List Char)) : stripLifts liftWords (([99, 117, 116] : List Nat).map Char.ofNat :: ws) = ([], ([99, 117, 116] : List Nat).map Char.ofNat :: ws) := strip_none _ ws liftWords (by kernel_rfl)
theorem mayEnter_gen {P : Program} {ws : List (List Char)} (h : behindMainWord (wordsSigns P.initOrder.toList) = ([99, 117, 116] : List Nat).map Char.ofNat :: ws) (h5 : P.laysLater = false) (h6 : P.bearsReflect = false) (h7 : P.doorFits [] = true) : P.mayEnter = true := by
  unfold Program.mayEnter
  rw [h]
  dsimp only
  rw [strip_]
  have h1 : (([99, 117, 116] : List Nat).map Char.ofNat == "gc".toList) = false := by kernel_rfl
  have h2 : (([99, 117, 116] : List Nat).map Char.ofNat == "spec".toList) = false := by kernel_rfl
  have h3 : (([99, 117, 116] : List Nat).map Char.ofNat == "carried".toList) = false := by kernel_rfl
  have h4 : (some (([99, 117, 116] : List Nat).map Char.ofNat) == some "cut".toList) = true := by kernel_rfl
  simp only [List.head?_cons, h1, h2, h3, h4, h5, h6, h7]
  simp
theorem mayEnter_ : Tryz.prog.mayEnter = true := mayEnter_gen words_ (by kernel_rfl) (by kernel_rfl) (by kernel_rfl)
theorem liftsFinal_gen {P : Program} {ws : List (List Char)} (h : behindMainWord (wordsSigns P.initOrder.toList) = ([99, 117, 116] : List Nat).map Char.ofNat :: ws) : P.liftsFinal = false := by
  unfold Program.liftsFinal Program.headLifts
  rw [h]
  dsimp only
  rw [strip_]
  simp [List.head?_cons]
theorem liftsFinal_ : Tryz.prog.liftsFinal = false := liftsFinal_gen words_
theorem make_gen {P : Program} {ws : List (List Char)} (h : behindMainWord (wordsSigns P.initOrder.toList) = ([99, 117, 116] : List Nat).map Char.ofNat :: ws) : P.make = some .cut := by
  unfold Program.make
  rw [h]
  rfl
theorem make_ : Tryz.prog.make = some .cut := make_gen words_
theorem joined_gen {P : Program} {f : FuncId} {fn : Func} {s : ChangeSpec} {c : OpenClaim} (k0 : c.wf (OpenSpec.ofChange s) = true) (k1 : laidOutB P = true) (k2 : mapsRowed P = true)
    (k3 : (fn.params.all (P.readableRec ·) && namedTie P c.named s.vars && (c.stops == []) && (P.stops == []) && (c.knobs == []) && (P.stopKnobs == [])) = true)
    (k4 : (c.inPlace == P.inPlace f) = true) (k5 : (c.unfollowed == P.unfollowed f) = true) (k6 : (c.recurses == P.recurses f) = true) (k7 : (c.named == P.varsNamed f) = true)
    (k8 : ((c.maps == (fn.params.toList ++ s.plain.varTypes P).any (P.mapsRec ·)) && (c.ifaces == (fn.params.toList ++ s.plain.varTypes P).any (P.ifacesRec ·)) && (c.mapsOut == P.mapsAmong fn.resultTypes.toList) &&
      (c.loops == (fn.params.toList ++ s.plain.varTypes P).any (P.loopsFrom ·)) && (c.wideKeys == (fn.params.toList ++ s.plain.varTypes P ++ fn.resultTypes.toList).any (P.wideKeysFrom ·))) = true)
    (k9 : (s.vars.all (P.varReadable ·) && fn.resultTypes.all (fun t => P.readableRec t && decide (t < P.types.size)) && (c.ifacesOut == fn.resultTypes.toList.any (P.ifacesRec ·)) && (c.loopsOut == fn.resultTypes.toList.any (P.loopsFrom ·))) = true)
    (k10 : ((c.plainKeys == P.plainKeys) && c.shortTexts.isNone && P.stopsHeard) = true) (k11 : P.mayEnter = true) (k12 : (c.lifted == P.liftsFinal) = true) (k13 : (P.make == some c.make) = true)
    (k14 : ((c.kinds == (if c.domain.isEmpty then [] else fn.params.toList.map fun t => match P.underlying t with | some (.int k) => some k | _ => none)) && (c.pinned == c.pinnedBy)) = true)
    (k15 : ((c.veiled == (fn.params.toList ++ s.plain.varTypes P ++ fn.resultTypes.toList).any (P.veiledRec ·)) && c.veiledFits P fn.params.toList (fn.params.toList ++ s.plain.varTypes P ++ fn.resultTypes.toList)) = true) :
    joinedFacts P f fn s c = true := by
  unfold joinedFacts
  simp only [Bool.and_eq_true] at k3 k8 k9 k10 k14 k15 ⊢
  obtain ⟨⟨⟨⟨⟨a1, a2⟩, a3⟩, a4⟩, a5⟩, a6⟩ := k3
  obtain ⟨⟨⟨⟨b1, b2⟩, b3⟩, b4⟩, b5⟩ := k8
  obtain ⟨⟨⟨c1, c2⟩, c3⟩, c4⟩ := k9
  obtain ⟨⟨d1, d2⟩, d3⟩ := k10
  obtain ⟨e1, e2⟩ := k14
  obtain ⟨f1, f2⟩ := k15
  exact ⟨⟨⟨⟨⟨⟨⟨⟨⟨⟨⟨⟨⟨⟨⟨⟨⟨⟨⟨⟨⟨⟨⟨⟨⟨⟨⟨⟨⟨⟨⟨k0, k1⟩, k2⟩, a1⟩, a2⟩, a3⟩, a4⟩, a5⟩, a6⟩, k4⟩, k5⟩, k6⟩, k7⟩, b1⟩, b2⟩, b3⟩, b4⟩, b5⟩, c1⟩, c2⟩, c3⟩, c4⟩, d1⟩, d2⟩, d3⟩, k11⟩, k12⟩, k13⟩, e1⟩, e2⟩, f1⟩, f2⟩

theorem inst_gen {P : Program} {fn : Func} (h1 : fn.origin = "") (h2 : fn.targs = #[]) (h3 : fn.name.toList.contains (Char.ofNat 91) = false) : fn.isInstance P "" [] :=
  ⟨h1, by rw [h2]; rfl, by rw [if_pos rfl]; exact ⟨rfl, h3⟩⟩
theorem wrap_gen (P : Program) (fn : Func) (h : Check.packageOf fn.name ≠ "main") : fn.isWrapper P false "" := by
  unfold Func.isWrapper
  rw [if_neg h]
  exact ⟨rfl, rfl⟩
theorem lt_of_cell_ {w : World} {a : Addr} {v : Value} (h : w.cell? a = some v) : a.block < w.heap.size := by
  unfold World.cell? at h
  split at h
  · rename_i hb; exact (Array.getElem?_eq_some_iff.1 hb).1
  · cases h

theorem bytes_of_arg {H : Type} {enc : TypeId × Value → H} {W : World} {a0 : Option Addr} {len0 cap0 : Nat} {d0 : DataW H} {p0 : List MemPlace}
    (h0 : DataW.Trod enc Tryz.prog W 0 (fun _ => true) true 22 (.slice a0 len0 cap0) d0 p0) : Bytes W W.heap.size (.slice a0 len0 cap0) len0 ∧ len0 ≤ 9223372036854775807 := by
  obtain ⟨fuel, hf⟩ := h0
  rcases open_ints Tryz.underlying22 Tryz.underlying5 (by kernel_rfl) hf with ⟨hcs, _⟩ | ⟨x, l, c, zs, hcs, _, hl, hm, hz, _, hcell, hwz⟩
  · simp [Value.cells] at hcs
    obtain ⟨rfl, rfl, rfl⟩ := hcs
    exact ⟨⟨none, 0, rfl, Nat.le_refl _, fun h => absurd h (by omega)⟩, by omega⟩
  · simp [Value.cells] at hcs
    obtain ⟨rfl, rfl, rfl⟩ := hcs
    refine ⟨⟨_, _, rfl, hl, fun h => ⟨x, rfl, ?_, fun j hj => ?_⟩⟩, by unfold maxLen at hm; omega⟩
    · have h1 := hcell 0 (by simp at hz; omega)
      simpa [Addr.add] using lt_of_cell_ h1
    · have hj' : j < zs.length := by simp at hz; omega
      have hw := hwz (zs.getD j 0) (by rw [List.getD_eq_getElem?_getD, List.getElem?_eq_getElem hj']; simp)
      have hb := bounds_u8 hw
      exact ⟨zs.getD j 0, hb.1, hb.2, hcell j hj'⟩
section
variable {H : Type} {enc : TypeId × Value → H} {W : World} {base : Nat} {spare : Nat → Bool} {held : Bool}
theorem addr_of_cell {a : Addr} {v : Value} {j : Nat} (h0 : ∃ u, W.cell? a = some u) (h : W.cell? (a.add j) = some v) : ∃ g o, a = ⟨g, o, none⟩ ∧ g < W.heap.size ∧ W.cell? ⟨g, o + j, none⟩ = some v := by
  obtain ⟨g, o, s⟩ := a
  obtain ⟨u, hu⟩ := h0
  have hs : s = none := World.cell?_spot hu
  subst hs
  refine ⟨g, o, rfl, lt_of_cell_ hu, ?_⟩
  have e : (⟨g, o, none⟩ : Addr).add j = ⟨g, o + j, none⟩ := by unfold Addr.add; split <;> simp_all
  rw [← e]
  exact h
theorem ints_of_cell {n : Nat} {v : Value} {y : DataW H × List MemPlace} (h : DataW.trod enc Tryz.prog W base spare held n 25 [v] = some y) : ∃ l, ArgI W.heap.size W v l := by
  rcases open_ints Tryz.underlying25 Tryz.underlying3 (by kernel_rfl) h with ⟨hcs, _⟩ | ⟨a, len, cap, zs, hcs, _, hl, hm, hz, _, hcell, _⟩
  · obtain rfl : v = .slice none 0 0 := by simpa using hcs
    exact ⟨[], none, 0, 0, rfl, Nat.le_refl _, rfl, by omega, fun j x hx => by simp at hx⟩
  · obtain rfl : v = .slice (some a) len cap := by simpa using hcs
    have hlz : len ≤ zs.length := by rw [hz]; split <;> omega
    refine ⟨zs.take len, some a, len, cap, rfl, hl, by simp; omega, by unfold maxLen at hm; omega, fun j x hx => ?_⟩
    have hj : j < (zs.take len).length := (List.getElem?_eq_some_iff.1 hx).1
    simp only [List.length_take] at hj
    have hx2 : zs.getD j 0 = x := by
      rw [List.getElem?_take] at hx
      split at hx
      · rw [List.getD_eq_getElem?_getD, hx]; rfl
      · cases hx
    have hc := hcell j (by omega)
    rw [hx2] at hc
    have hc0 := hcell 0 (by omega)
    obtain ⟨g, o, rfl, hg, hcg⟩ := addr_of_cell ⟨_, by simpa [Addr.add] using hc0⟩ hc
    exact ⟨g, o, rfl, hg, hcg⟩

theorem ints_of_arg {a0 : Option Addr} {len0 cap0 : Nat} {d0 : DataW H} {p0 : List MemPlace}
    (h0 : DataW.Trod enc Tryz.prog W 0 (fun _ => true) true 25 (.slice a0 len0 cap0) d0 p0) : ∃ l, ArgI W.heap.size W (.slice a0 len0 cap0) l := by
  obtain ⟨fuel, hf⟩ := h0
  exact ints_of_cell hf
end
/-- A named variable of the program's reads behind the call as it did. -/
theorem vars1_kept {H : Type} {enc : TypeId × Value → H} {W W' : World} {n : String} {t : TypeId} {g : Nat} {gs : List (DataW H)} {q : List MemPlace} (hg : Tryz.prog.globalNamed n = some g) (ht : (Tryz.prog.globals[g]?).map (·.type) = some t)
    (hr : Tryz.prog.readableRec t = true) (hrow : t < Tryz.prog.types.size) (h : DataW.TrodVars enc Tryz.prog W (fun _ => true) [n] gs q) (hb : Below W.heap.size W W') :
    ∃ pv, DataW.TrodVars enc Tryz.prog W' (fun b => decide (b < W.heap.size)) [n] gs pv := by
  obtain ⟨g', t', cs, fuel, d, p, rfl, h1, h2, h3, h4, _⟩ := trodVars_one h
  obtain rfl := Option.some.inj (hg.symm.trans h1)
  obtain rfl := Option.some.inj (ht.symm.trans h2)
  have hlt : ∀ x ∈ p, x.block < W.heap.size := DataW.trod_lt fuel _ _ _ h4
  have h3' : W'.var? Tryz.prog n = some cs := by
    simp only [World.var?, h1, Option.bind_some] at h3 ⊢
    have hgl : g < W.heap.size := by
      rcases Nat.lt_or_ge g W.heap.size with hh | hh
      · exact hh
      · rw [Array.getElem?_eq_none hh] at h3
        cases h3
    rw [hb.block g hgl]
    exact h3
  exact ⟨_, trodVars_mk1 h1 h2 h3' (DataW.trod_stays (kids_book laidOut_ hr) (book_sized hr) (fun h => by cases h) ⟨hrow, book_self t⟩ h4 (fun x hx => hb.same (hlt x hx)) (fun x hx => by simpa using hlt x hx))⟩

section
variable {H : Type} {enc : TypeId × Value → H} {W : World} {base : Nat} {spare : Nat → Bool} {held : Bool}
theorem nodes_of_arg {a0 : Option Addr} {len0 cap0 : Nat} {d0 : DataW H} {p0 : List MemPlace}
    (h0 : DataW.Trod enc Tryz.prog W 0 (fun _ => true) true 43 (.slice a0 len0 cap0) d0 p0) : ∃ plan, ArgN W.heap.size W (.slice a0 len0 cap0) plan := by
  obtain ⟨fuel, hf⟩ := h0
  have k3 : Tryz.prog.cellsOf 3 = 1 := by kernel_rfl
  have k27 : Tryz.prog.cellsOf 25 = 1 := by kernel_rfl
  have kN : Tryz.prog.cellsOf 91 = 3 := by kernel_rfl
  rcases open_slice Tryz.underlying43 hf with ⟨hcs, _⟩ | ⟨a, len, cap, m, n, D, Pl, hcs, _, hl, hm, hmm, _, hi⟩
  · simp [Value.cells] at hcs
    obtain ⟨rfl, rfl, rfl⟩ := hcs
    exact ⟨[], none, 0, 0, rfl, Nat.le_refl _, rfl, by omega, fun j x hx => by simp at hx⟩
  · simp [Value.cells] at hcs
    obtain ⟨rfl, rfl, rfl⟩ := hcs
    have key : ∀ i, i < len0 → ∃ nd : Node, ∃ g o f r, a = ⟨g, o, none⟩ ∧ g < W.heap.size ∧ W.cell? ⟨g, o + i * 3, none⟩ = some (.int .i64 nd.kind) ∧ W.cell? ⟨g, o + i * 3 + 1, none⟩ = some f ∧ W.cell? ⟨g, o + i * 3 + 2, none⟩ = some r ∧
        ArgI W.heap.size W f nd.frm ∧ ArgI W.heap.size W r nd.row := by
      intro i hil
      have hcell0 : ∀ i, i < len0 → ∃ c0 c1 c2, ∃ k : Int, ∃ fl rl, c0 = .int .i64 k ∧ W.cell? (a.add (i * 3)) = some c0 ∧ W.cell? (a.add (i * 3 + 1)) = some c1 ∧ W.cell? (a.add (i * 3 + 2)) = some c2 ∧ ArgI W.heap.size W c1 fl ∧ ArgI W.heap.size W c2 rl := by
        intro i hil
        obtain ⟨cs', hc, ht⟩ := hi i (by rw [hmm]; split <;> omega)
        rw [kN] at hc
        obtain ⟨_, hcl, hat⟩ := World.cells?_some hc
        match cs', hcl with
        | [c0, c1, c2], _ =>
          obtain ⟨xs, n', _, _, _, hlen, hg⟩ := DataW.trod_struct Tryz.underlying91 ht
          have g0 := hg 0 _ rfl
          have g1 := hg 1 _ rfl
          have g2 := hg 2 _ rfl
          match xs, hlen with
          | [y0, y1, y2], _ =>
            simp [k3, k27] at g0 g1 g2
            obtain ⟨k, e0, _, _⟩ := DataW.trod_int Tryz.underlying3 g0
            obtain ⟨fl, h1⟩ := ints_of_cell g1
            obtain ⟨rl, h2⟩ := ints_of_cell g2
            have a0 := hat 0 (by omega)
            have a1 := hat 1 (by omega)
            have a2 := hat 2 (by omega)
            rw [Go.Deep.add_add] at a0 a1 a2
            exact ⟨c0, c1, c2, k, fl, rl, by simpa using e0, by simpa using a0, by simpa using a1, by simpa using a2, h1, h2⟩
      obtain ⟨c0, c1, c2, k, fl, rl, rfl, a0, a1, a2, h1, h2⟩ := hcell0 i hil
      obtain ⟨_, _, _, _, _, _, _, z0, _⟩ := hcell0 0 (by omega)
      have hz : ∃ u, W.cell? a = some u := ⟨_, by simpa [Addr.add] using z0⟩
      obtain ⟨g, o, rfl, hgl, b0⟩ := addr_of_cell hz a0
      obtain ⟨g', o', e1, _, b1⟩ := addr_of_cell hz a1
      obtain ⟨g2, o2, e2, _, b2⟩ := addr_of_cell hz a2
      obtain ⟨rfl, rfl⟩ : g' = g ∧ o' = o := by injection e1 with q1 q2 _; exact ⟨q1.symm, q2.symm⟩
      obtain ⟨rfl, rfl⟩ : g2 = g' ∧ o2 = o' := by injection e2 with q1 q2 _; exact ⟨q1.symm, q2.symm⟩
      exact ⟨⟨k, fl, rl⟩, _, _, c1, c2, rfl, hgl, b0, b1, b2, h1, h2⟩
    refine ⟨List.ofFn (fun i : Fin len0 => Classical.choose (key i.1 i.2)), some a, len0, cap0, rfl, hl, by simp, by unfold maxLen at hm; omega, fun k nd hx => ?_⟩
    have hk : k < len0 := by have := (List.getElem?_eq_some_iff.1 hx).1; simpa using this
    have he : nd = Classical.choose (key k hk) := by
      rw [List.getElem?_ofFn] at hx
      rw [dif_pos hk] at hx
      exact (Option.some.inj hx).symm
    subst he
    obtain ⟨g, o, f, r, h1, h2, h3, h4, h5, h6, h7⟩ := Classical.choose_spec (key k hk)
    exact ⟨g, o, f, r, by rw [h1], h2, h3, h4, h5, h6, h7⟩
end
theorem gEt : Tryz.prog.globalNamed "loop.example/workplans/impl.errTurn" = some 0 := by kernel_rfl
theorem gEtT : (Tryz.prog.globals[0]?).map (·.type) = some 64 := by kernel_rfl
theorem etStar : "*" ++ "errors.errorString" = "*errors.errorString" := by decide
theorem etRow (u : TypeId) (h : Tryz.prog.typeName? 3 u = some "*errors.errorString") : u = 205 :=
  typeName_ptr_named (nm := "errors.errorString") (by rw [etStar]; kernel_rfl) (by kernel_rfl) (by decide) u (by rw [etStar]; exact h)
theorem errTurn_of {rest : List (String × DataW Unit)} {W : World} (h : laidMet Tryz.prog (("loop.example/workplans/impl.errTurn", Rows.laid_loop_example_workplans_impl_errTurn) :: rest) W) : ∃ a, ErrTurn W a := by
  obtain ⟨a, s, hv, _⟩ := laid_sentinel h gEt gEtT Tryz.underlying64 etRow Tryz.underlying205 Tryz.underlying229 rfl rfl Tryz.underlying9 (by kernel_rfl) (by kernel_rfl)
  refine ⟨a, ?_⟩
  show W.cell? _ = _
  rw [World.var?_cell gEt hv 0]
  rfl
theorem et_kept {H : Type} {enc : TypeId × Value → H} {W W' : World} {gs : List (DataW H)} {q : List MemPlace} (h : DataW.TrodVars enc Tryz.prog W (fun _ => true) ["loop.example/workplans/impl.errTurn"] gs q) (hb : Below W.heap.size W W') :
    ∃ pv, DataW.TrodVars enc Tryz.prog W' (fun b => decide (b < W.heap.size)) ["loop.example/workplans/impl.errTurn"] gs pv :=
  vars1_kept gEt gEtT (by kernel_rfl) (of_decide_eq_true (by kernel_rfl)) h hb
/-! What all rows ask of the program, shown once. -/
def laidEt : List (String × DataW Unit) := [("loop.example/workplans/impl.errTurn", Rows.laid_loop_example_workplans_impl_errTurn)]
theorem doorRun (os : Os) : laidMet Tryz.prog laidEt (World.doorLaid Tryz.prog 400 os) := laidMet_of_run' 8 (by kernel_rfl) (by kernel_rfl)
theorem doorMet (os : Os) (args : Array Value) : laidMetH Tryz.prog laidEt ((World.doorLaid Tryz.prog 400 os).forCall (fun _ _ => 0) ⟨#[], args, []⟩).memory :=
  laidMetH_of_parts3 (fuel := 8) ((doorRun os).of_heap (by simp [World.memory, World.forCall, Input.heap])) (by kernel_rfl) (by kernel_rfl)
theorem doorShaped (os : Os) (args : Array Value) : ((World.doorLaid Tryz.prog 400 os).forCall (fun _ _ => 0) ⟨#[], args, []⟩).Shaped Tryz.prog := World.shaped_of_RefB (by kernel_rfl) (by kernel_rfl)
theorem mainIs_ : Tryz.pinned.checked.prog.mainIs = some (Rows.fnTurnRunCard.stood.harness.1, Rows.fnTurnRunCard.stood.harness.2.toList) := by kernel_rfl
theorem looks_ : true = Tryz.pinned.checked.prog.looks [] := by kernel_rfl
theorem mapsRowed_ : mapsRowed Tryz.prog = true := by kernel_rfl
end Go.Proofs.YtihobnheficpjaaGreatDoor
