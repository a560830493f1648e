/- What the frames of the laws share: an argument of bytes. -/
import Derived.Test.YtjlnhijabdkagaaB3Open
import Derived.Test.YtjlnhijabdkagaaRows
import Derived.WalkKit
import Derived.ProofKit
import Derived.OpenShut
import Derived.ShutString
import Derived.ChangeOld
import Derived.Below
namespace Go.Proofs.Ytjlnhijabdkagaa
open Go.ChangeShapes Go.WideShapes Go.ChangeAt Go.RowKit

theorem own_ : ownKnob Try.prog.godebug = none := by kernel_rfl
theorem laidOut_ : laidOutB Try.prog = true := by kernel_rfl

/-! The dump's head word, read once (each closed fact of a row reads it anew: too much for the kernel). -/
theorem order_ : Try.prog.initOrder = String.ofList (([104, 97, 114, 110, 101, 115, 115, 32, 98, 52, 57, 52, 99, 50, 54, 55, 99, 53, 51, 53, 99, 55, 54, 57, 98, 54, 102, 57, 99, 101, 52, 52, 53, 52, 52, 101, 48, 97, 53, 98, 102, 97, 100, 54, 101, 57, 51, 49, 48, 54, 99, 100, 51, 51, 101, 98, 98, 57, 97, 56, 100, 51, 51, 53, 55, 48, 98, 98, 53, 101, 49, 101, 32, 99, 117, 116, 32, 97, 116, 32, 108, 111, 111, 112, 46, 101, 120, 97, 109, 112, 108, 101, 47, 119, 111, 114, 107, 112, 108, 97, 110, 115, 47, 108, 97, 119, 115, 46, 70, 110, 78, 101, 101, 100, 115, 75, 105, 110, 100, 115, 32, 108, 111, 111, 112, 46, 101, 120, 97, 109, 112, 108, 101, 47, 119, 111, 114, 107, 112, 108, 97, 110, 115, 47, 108, 97, 119, 115, 46, 70, 110, 75, 105, 110, 100, 115, 32, 108, 111, 111, 112, 46, 101, 120, 97, 109, 112, 108, 101, 47, 119, 111, 114, 107, 112, 108, 97, 110, 115, 47, 108, 97, 119, 115, 46, 70, 110, 78, 101, 101, 100, 115, 85, 115, 101, 100, 32, 108, 111, 111, 112, 46, 101, 120, 97, 109, 112, 108, 101, 47, 119, 111, 114, 107, 112, 108, 97, 110, 115, 47, 108, 97, 119, 115, 46, 70, 110, 69, 120, 97, 99, 116, 67, 111, 117, 110, 116, 78, 101, 101, 100, 115, 32, 108, 111, 111, 112, 46, 101, 120, 97, 109, 112, 108, 101, 47, 119, 111, 114, 107, 112, 108, 97, 110, 115, 47, 108, 97, 119, 115, 46, 70, 110, 75, 105, 110, 100, 115, 67, 111, 115, 116, 32, 108, 111, 111, 112, 46, 101, 120, 97, 109, 112, 108, 101, 47, 119, 111, 114, 107, 112, 108, 97, 110, 115, 47, 108, 97, 119, 115, 46, 70, 110, 69, 120, 97, 99, 116, 67, 111, 117, 110, 116, 75, 105, 110, 100, 115, 32, 108, 111, 111, 112, 46, 101, 120, 97, 109, 112, 108, 101, 47, 119, 111, 114, 107, 112, 108, 97, 110, 115, 47, 108, 97, 119, 115, 46, 70, 110, 67, 97, 99, 104, 101, 80, 97, 114, 116, 32, 108, 111, 111, 112, 46, 101, 120, 97, 109, 112, 108, 101, 47, 119, 111, 114, 107, 112, 108, 97, 110, 115, 47, 108, 97, 119, 115, 46, 70, 110, 87, 105, 100, 101, 32, 108, 111, 111, 112, 46, 101, 120, 97, 109, 112, 108, 101, 47, 119, 111, 114, 107, 112, 108, 97, 110, 115, 47, 108, 97, 119, 115, 46, 70, 110, 87, 105, 100, 101, 76, 101, 118, 101, 108, 115, 32, 108, 111, 111, 112, 46, 101, 120, 97, 109, 112, 108, 101, 47, 119, 111, 114, 107, 112, 108, 97, 110, 115, 47, 108, 97, 119, 115, 46, 70, 110, 69, 120, 97, 99, 116, 67, 111, 117, 110, 116, 87, 105, 100, 101, 32, 108, 111, 111, 112, 46, 101, 120, 97, 109, 112, 108, 101, 47, 119, 111, 114, 107, 112, 108, 97, 110, 115, 47, 108, 97, 119, 115, 46, 70, 110, 67, 97, 99, 104, 101, 70, 105, 110, 100, 32, 108, 111, 111, 112, 46, 101, 120, 97, 109, 112, 108, 101, 47, 119, 111, 114, 107, 112, 108, 97, 110, 115, 47, 108, 97, 119, 115, 46, 70, 110, 69, 120, 97, 99, 116, 67, 97, 99, 104, 101, 86, 97, 108, 105, 100, 32, 108, 111, 111, 112, 46, 101, 120, 97, 109, 112, 108, 101, 47, 119, 111, 114, 107, 112, 108, 97, 110, 115, 47, 108, 97, 119, 115, 46, 70, 110, 87, 105, 100, 101, 82, 111, 117, 110, 100, 115, 32, 108, 111, 111, 112, 46, 101, 120, 97, 109, 112, 108, 101, 47, 119, 111, 114, 107, 112, 108, 97, 110, 115, 47, 108, 97, 119, 115, 46, 70, 110, 67, 97, 99, 104, 101, 72, 105, 116, 32, 108, 111, 111, 112, 46, 101, 120, 97, 109, 112, 108, 101, 47, 119, 111, 114, 107, 112, 108, 97, 110, 115, 47, 108, 97, 119, 115, 46, 70, 110, 67, 97, 99, 104, 101, 79, 114, 100, 101, 114, 32, 108, 111, 111, 112, 46, 101, 120, 97, 109, 112, 108, 101, 47, 119, 111, 114, 107, 112, 108, 97, 110, 115, 47, 108, 97, 119, 115, 46, 70, 110, 67, 97, 99, 104, 101, 82, 117, 110, 32, 108, 111, 111, 112, 46, 101, 120, 97, 109, 112, 108, 101, 47, 119, 111, 114, 107, 112, 108, 97, 110, 115, 47, 108, 97, 119, 115, 46, 70, 110, 67, 97, 99, 104, 101, 83, 105, 122, 101, 32, 108, 111, 111, 112, 46, 101, 120, 97, 109, 112, 108, 101, 47, 119, 111, 114, 107, 112, 108, 97, 110, 115, 47, 108, 97, 119, 115, 46, 70, 110, 67, 97, 99, 104, 101, 84, 119, 105, 99, 101, 32, 108, 111, 111, 112, 46, 101, 120, 97, 109, 112, 108, 101, 47, 119, 111, 114, 107, 112, 108, 97, 110, 115, 47, 108, 97, 119, 115, 46, 70, 110, 69, 120, 97, 99, 116, 67, 97, 99, 104, 101, 70, 105, 110, 100, 32, 108, 111, 111, 112, 46, 101, 120, 97, 109, 112, 108, 101, 47, 119, 111, 114, 107, 112, 108, 97, 110, 115, 47, 108, 97, 119, 115, 46, 70, 110, 69, 120, 97, 99, 116, 67, 97, 99, 104, 101, 82, 117, 110] : List Nat).map Char.ofNat) := by kernel_rfl
theorem words_ : behindMainWord (wordsSigns Try.prog.initOrder.toList) = ([99, 117, 116] : List Nat).map Char.ofNat :: ([[97, 116], [108, 111, 111, 112, 46, 101, 120, 97, 109, 112, 108, 101, 47, 119, 111, 114, 107, 112, 108, 97, 110, 115, 47, 108, 97, 119, 115, 46, 70, 110, 78, 101, 101, 100, 115, 75, 105, 110, 100, 115], [108, 111, 111, 112, 46, 101, 120, 97, 109, 112, 108, 101, 47, 119, 111, 114, 107, 112, 108, 97, 110, 115, 47, 108, 97, 119, 115, 46, 70, 110, 75, 105, 110, 100, 115], [108, 111, 111, 112, 46, 101, 120, 97, 109, 112, 108, 101, 47, 119, 111, 114, 107, 112, 108, 97, 110, 115, 47, 108, 97, 119, 115, 46, 70, 110, 78, 101, 101, 100, 115, 85, 115, 101, 100], [108, 111, 111, 112, 46, 101, 120, 97, 109, 112, 108, 101, 47, 119, 111, 114, 107, 112, 108, 97, 110, 115, 47, 108, 97, 119, 115, 46, 70, 110, 69, 120, 97, 99, 116, 67, 111, 117, 110, 116, 78, 101, 101, 100, 115], [108, 111, 111, 112, 46, 101, 120, 97, 109, 112, 108, 101, 47, 119, 111, 114, 107, 112, 108, 97, 110, 115, 47, 108, 97, 119, 115, 46, 70, 110, 75, 105, 110, 100, 115, 67, 111, 115, 116], [108, 111, 111, 112, 46, 101, 120, 97, 109, 112, 108, 101, 47, 119, 111, 114, 107, 112, 108, 97, 110, 115, 47, 108, 97, 119, 115, 46, 70, 110, 69, 120, 97, 99, 116, 67, 111, 117, 110, 116, 75, 105, 110, 100, 115], [108, 111, 111, 112, 46, 101, 120, 97, 109, 112, 108, 101, 47, 119, 111, 114, 107, 112, 108, 97, 110, 115, 47, 108, 97, 119, 115, 46, 70, 110, 67, 97, 99, 104, 101, 80, 97, 114, 116], [108, 111, 111, 112, 46, 101, 120, 97, 109, 112, 108, 101, 47, 119, 111, 114, 107, 112, 108, 97, 110, 115, 47, 108, 97, 119, 115, 46, 70, 110, 87, 105, 100, 101], [108, 111, 111, 112, 46, 101, 120, 97, 109, 112, 108, 101, 47, 119, 111, 114, 107, 112, 108, 97, 110, 115, 47, 108, 97, 119, 115, 46, 70, 110, 87, 105, 100, 101, 76, 101, 118, 101, 108, 115], [108, 111, 111, 112, 46, 101, 120, 97, 109, 112, 108, 101, 47, 119, 111, 114, 107, 112, 108, 97, 110, 115, 47, 108, 97, 119, 115, 46, 70, 110, 69, 120, 97, 99, 116, 67, 111, 117, 110, 116, 87, 105, 100, 101], [108, 111, 111, 112, 46, 101, 120, 97, 109, 112, 108, 101, 47, 119, 111, 114, 107, 112, 108, 97, 110, 115, 47, 108, 97, 119, 115, 46, 70, 110, 67, 97, 99, 104, 101, 70, 105, 110, 100], [108, 111, 111, 112, 46, 101, 120, 97, 109, 112, 108, 101, 47, 119, 111, 114, 107, 112, 108, 97, 110, 115, 47, 108, 97, 119, 115, 46, 70, 110, 69, 120, 97, 99, 116, 67, 97, 99, 104, 101, 86, 97, 108, 105, 100], [108, 111, 111, 112, 46, 101, 120, 97, 109, 112, 108, 101, 47, 119, 111, 114, 107, 112, 108, 97, 110, 115, 47, 108, 97, 119, 115, 46, 70, 110, 87, 105, 100, 101, 82, 111, 117, 110, 100, 115], [108, 111, 111, 112, 46, 101, 120, 97, 109, 112, 108, 101, 47, 119, 111, 114, 107, 112, 108, 97, 110, 115, 47, 108, 97, 119, 115, 46, 70, 110, 67, 97, 99, 104, 101, 72, 105, 116], [108, 111, 111, 112, 46, 101, 120, 97, 109, 112, 108, 101, 47, 119, 111, 114, 107, 112, 108, 97, 110, 115, 47, 108, 97, 119, 115, 46, 70, 110, 67, 97, 99, 104, 101, 79, 114, 100, 101, 114], [108, 111, 111, 112, 46, 101, 120, 97, 109, 112, 108, 101, 47, 119, 111, 114, 107, 112, 108, 97, 110, 115, 47, 108, 97, 119, 115, 46, 70, 110, 67, 97, 99, 104, 101, 82, 117, 110], [108, 111, 111, 112, 46, 101, 120, 97, 109, 112, 108, 101, 47, 119, 111, 114, 107, 112, 108, 97, 110, 115, 47, 108, 97, 119, 115, 46, 70, 110, 67, 97, 99, 104, 101, 83, 105, 122, 101], [108, 111, 111, 112, 46, 101, 120, 97, 109, 112, 108, 101, 47, 119, 111, 114, 107, 112, 108, 97, 110, 115, 47, 108, 97, 119, 115, 46, 70, 110, 67, 97, 99, 104, 101, 84, 119, 105, 99, 101], [108, 111, 111, 112, 46, 101, 120, 97, 109, 112, 108, 101, 47, 119, 111, 114, 107, 112, 108, 97, 110, 115, 47, 108, 97, 119, 115, 46, 70, 110, 69, 120, 97, 99, 116, 67, 97, 99, 104, 101, 70, 105, 110, 100], [108, 111, 111, 112, 46, 101, 120, 97, 109, 112, 108, 101, 47, 119, 111, 114, 107, 112, 108, 97, 110, 115, 47, 108, 97, 119, 115, 46, 70, 110, 69, 120, 97, 99, 116, 67, 97, 99, 104, 101, 82, 117, 110]] : List (List Nat)).map (·.map Char.ofNat) := by
  rw [order_, String.toList_ofList]
  kernel_rfl
theorem strip_none (w : List Char) (ws : List (List Char)) : ∀ os : List String, os.all (fun o => !(w == o.toList)) = true → stripLifts os (w :: ws) = ([], w :: ws)
  | [], _ => rfl
  | o :: os, h => by
    simp only [List.all_cons, Bool.and_eq_true, Bool.not_eq_true'] at h
    unfold stripLifts
    rw [if_neg (by simp [h.1])]
    exact strip_none w ws os h.2
theorem strip_ (ws : List (List Char)) : stripLifts liftWords (([99, 117, 116] : List Nat).map Char.ofNat :: ws) = ([], ([99, 117, 116] : List Nat).map Char.ofNat :: ws) := strip_none _ ws liftWords (by kernel_rfl)
theorem mayEnter_gen {P : Program} {ws : List (List Char)} (h : behindMainWord (wordsSigns P.initOrder.toList) = ([99, 117, 116] : List Nat).map Char.ofNat :: ws) (h5 : P.laysLater = false) (h6 : P.bearsReflect = false) (h7 : P.doorFits [] = true) : P.mayEnter = true := by
  unfold Program.mayEnter
  rw [h]
  dsimp only
  rw [strip_]
  have h1 : (([99, 117, 116] : List Nat).map Char.ofNat == "gc".toList) = false := by kernel_rfl
  have h2 : (([99, 117, 116] : List Nat).map Char.ofNat == "spec".toList) = false := by kernel_rfl
  have h3 : (([99, 117, 116] : List Nat).map Char.ofNat == "carried".toList) = false := by kernel_rfl
  have h4 : (some (([99, 117, 116] : List Nat).map Char.ofNat) == some "cut".toList) = true := by kernel_rfl
  simp only [List.head?_cons, h1, h2, h3, h4, h5, h6, h7]
  simp
theorem mayEnter_ : Try.prog.mayEnter = true := mayEnter_gen words_ (by kernel_rfl) (by kernel_rfl) (by kernel_rfl)
theorem liftsFinal_gen {P : Program} {ws : List (List Char)} (h : behindMainWord (wordsSigns P.initOrder.toList) = ([99, 117, 116] : List Nat).map Char.ofNat :: ws) : P.liftsFinal = false := by
  unfold Program.liftsFinal Program.headLifts
  rw [h]
  dsimp only
  rw [strip_]
  simp [List.head?_cons]
theorem liftsFinal_ : Try.prog.liftsFinal = false := liftsFinal_gen words_
theorem make_gen {P : Program} {ws : List (List Char)} (h : behindMainWord (wordsSigns P.initOrder.toList) = ([99, 117, 116] : List Nat).map Char.ofNat :: ws) : P.make = some .cut := by
  unfold Program.make
  rw [h]
  rfl
theorem make_ : Try.prog.make = some .cut := make_gen words_
theorem joined_gen {P : Program} {f : FuncId} {fn : Func} {s : ChangeSpec} {c : OpenClaim} (k0 : c.wf (OpenSpec.ofChange s) = true) (k1 : laidOutB P = true) (k2 : mapsRowed P = true)
    (k3 : (fn.params.all (P.readableRec ·) && namedTie P c.named s.vars && (c.stops == []) && (P.stops == []) && (c.knobs == []) && (P.stopKnobs == [])) = true)
    (k4 : (c.inPlace == P.inPlace f) = true) (k5 : (c.unfollowed == P.unfollowed f) = true) (k6 : (c.recurses == P.recurses f) = true) (k7 : (c.named == P.varsNamed f) = true)
    (k8 : ((c.maps == (fn.params.toList ++ s.plain.varTypes P).any (P.mapsRec ·)) && (c.ifaces == (fn.params.toList ++ s.plain.varTypes P).any (P.ifacesRec ·)) && (c.mapsOut == P.mapsAmong fn.resultTypes.toList) &&
      (c.loops == (fn.params.toList ++ s.plain.varTypes P).any (P.loopsFrom ·)) && (c.wideKeys == (fn.params.toList ++ s.plain.varTypes P ++ fn.resultTypes.toList).any (P.wideKeysFrom ·))) = true)
    (k9 : (s.vars.all (P.varReadable ·) && fn.resultTypes.all (fun t => P.readableRec t && decide (t < P.types.size)) && (c.ifacesOut == fn.resultTypes.toList.any (P.ifacesRec ·)) && (c.loopsOut == fn.resultTypes.toList.any (P.loopsFrom ·))) = true)
    (k10 : ((c.plainKeys == P.plainKeys) && c.shortTexts.isNone && P.stopsHeard) = true) (k11 : P.mayEnter = true) (k12 : (c.lifted == P.liftsFinal) = true) (k13 : (P.make == some c.make) = true)
    (k14 : ((c.kinds == (if c.domain.isEmpty then [] else fn.params.toList.map fun t => match P.underlying t with | some (.int k) => some k | _ => none)) && (c.pinned == c.pinnedBy)) = true)
    (k15 : ((c.veiled == (fn.params.toList ++ s.plain.varTypes P ++ fn.resultTypes.toList).any (P.veiledRec ·)) && c.veiledFits P fn.params.toList (fn.params.toList ++ s.plain.varTypes P ++ fn.resultTypes.toList)) = true) :
    joinedFacts P f fn s c = true := by
  unfold joinedFacts
  simp only [Bool.and_eq_true] at k3 k8 k9 k10 k14 k15 ⊢
  obtain ⟨⟨⟨⟨⟨a1, a2⟩, a3⟩, a4⟩, a5⟩, a6⟩ := k3
  obtain ⟨⟨⟨⟨b1, b2⟩, b3⟩, b4⟩, b5⟩ := k8
  obtain ⟨⟨⟨c1, c2⟩, c3⟩, c4⟩ := k9
  obtain ⟨⟨d1, d2⟩, d3⟩ := k10
  obtain ⟨e1, e2⟩ := k14
  obtain ⟨f1, f2⟩ := k15
  exact ⟨⟨⟨⟨⟨⟨⟨⟨⟨⟨⟨⟨⟨⟨⟨⟨⟨⟨⟨⟨⟨⟨⟨⟨⟨⟨⟨⟨⟨⟨⟨k0, k1⟩, k2⟩, a1⟩, a2⟩, a3⟩, a4⟩, a5⟩, a6⟩, k4⟩, k5⟩, k6⟩, k7⟩, b1⟩, b2⟩, b3⟩, b4⟩, b5⟩, c1⟩, c2⟩, c3⟩, c4⟩, d1⟩, d2⟩, d3⟩, k11⟩, k12⟩, k13⟩, e1⟩, e2⟩, f1⟩, f2⟩

theorem inst_gen {P : Program} {fn : Func} (h1 : fn.origin = "") (h2 : fn.targs = #[]) (h3 : fn.name.toList.contains (Char.ofNat 91) = false) : fn.isInstance P "" [] :=
  ⟨h1, by rw [h2]; rfl, by rw [if_pos rfl]; exact ⟨rfl, h3⟩⟩
theorem wrap_gen (P : Program) (fn : Func) (h : Check.packageOf fn.name ≠ "main") : fn.isWrapper P false "" := by
  unfold Func.isWrapper
  rw [if_neg h]
  exact ⟨rfl, rfl⟩

theorem lt_of_cell_ {w : World} {a : Addr} {v : Value} (h : w.cell? a = some v) : a.block < w.heap.size := by
  unfold World.cell? at h
  split at h
  · rename_i hb; exact (Array.getElem?_eq_some_iff.1 hb).1
  · cases h

theorem bytes_of_arg {H : Type} {enc : TypeId × Value → H} {W : World} {a0 : Option Addr} {len0 cap0 : Nat} {d0 : DataW H} {p0 : List MemPlace}
    (h0 : DataW.Trod enc Try.prog W 0 (fun _ => true) true 22 (.slice a0 len0 cap0) d0 p0) : Bytes W W.heap.size (.slice a0 len0 cap0) len0 ∧ len0 ≤ 9223372036854775807 := by
  obtain ⟨fuel, hf⟩ := h0
  rcases open_ints Try.underlying22 Try.underlying5 (by kernel_rfl) hf with ⟨hcs, _⟩ | ⟨x, l, c, zs, hcs, _, hl, hm, hz, _, hcell, hwz⟩
  · simp [Value.cells] at hcs
    obtain ⟨rfl, rfl, rfl⟩ := hcs
    exact ⟨⟨none, 0, rfl, Nat.le_refl _, fun h => absurd h (by omega)⟩, by omega⟩
  · simp [Value.cells] at hcs
    obtain ⟨rfl, rfl, rfl⟩ := hcs
    refine ⟨⟨_, _, rfl, hl, fun h => ⟨x, rfl, ?_, fun j hj => ?_⟩⟩, by unfold maxLen at hm; omega⟩
    · have h1 := hcell 0 (by simp at hz; omega)
      simpa [Addr.add] using lt_of_cell_ h1
    · have hj' : j < zs.length := by simp at hz; omega
      have hw := hwz (zs.getD j 0) (by rw [List.getD_eq_getElem?_getD, List.getElem?_eq_getElem hj']; simp)
      have hb := bounds_u8 hw
      exact ⟨zs.getD j 0, hb.1, hb.2, hcell j hj'⟩
end Go.Proofs.Ytjlnhijabdkagaa
