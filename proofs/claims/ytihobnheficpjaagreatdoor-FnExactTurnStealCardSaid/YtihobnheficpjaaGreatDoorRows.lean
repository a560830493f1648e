/-
  NARROWER THAN 'FOR EVERY INPUT', by the rows' own cells (each row's printed sentence says how): FnTurnRun: ifaces, laid · FnTurnRunReady: ifaces, laid · FnTurnRunRow: ifaces, laid · FnTurnSteal: ifaces, laid · FnTurnStealDeques: ifaces, laid · FnExactTurnRun: ifaces, laid · FnExactTurnSteal: ifaces, laid · FnTurnNextRows: ifaces, laid · FnTurnNextSame: ifaces, laid · FnTurnNext: ifaces, laid · FnTurnNextAll: ifaces, laid · FnLoseWorkerAll: ifaces, laid · FnExactTurnNext: ifaces, laid.
  DERIVED. THE GIVEN ROWS OF THIS SEAT. 13 by the template 'for every input the law returns true; each argument reads behind the call as it read before'; 0 by the template 'total and deterministic' (their statements: YtihobnheficpjaaGreatDoorTotals.lean).
  GIVEN WITH THE SEED: the statements are not yours to turn. If you find one false, say at which input.
  Laid BY PROGRAM, IN A SANDBOX (cutbox-rows.mjs): the forced cells as the released guide's own fill.sh prints them over the translation 0101188a3b56bec1… (all of the seat's roots in one cut). By AI agents, Wed Nov 11 2026. No macro, syntax, notation, axiom, sorry.
-/
import Derived.Test.YtihobnheficpjaaGreatDoorChecked
import GoSem.Claim
import GoSem.ClaimJoined
import GoSem.ClaimMapViews
import Derived.JoinedTies
import Derived.KernelRfl
namespace Go.Proofs.YtihobnheficpjaaGreatDoor
/- THE CELL 'sum', in the pinned program and in every row, IS THE sha256 OF THE DUMP (.gsa) THAT YtihobnheficpjaaGreatDoorProg.lean LOADS. Nothing in Lean hashes anything: it is a label: what it is worth is what the hold of that sum in a sandbox is worth. -/
noncomputable def Tryz.pinned : Pinned := { name := "ytihobnheficpjaagreatdoor", sum := "0101188a3b56bec146d3857b8a8a7202abcca036c7e504c3068f9ba8b9f5dccf", checked := Tryz.checked }
namespace Rows
def none {H : Type} : Left H := { results := [], args := [] }

/- WHAT THE LISTED PACKAGE-LEVEL VARIABLES READ AS WHEN THE CALL BEGINS. Each datum BY PROGRAM (the guide's laid-datum.mjs) off the statement by which the dump's own 'gosem.cut.vars' lays the variable. In a bare row this is a premise. The card (YtihobnheficpjaaGreatDoorCards.lean) ties it to the program's text. -/
def laid_loop_example_workplans_impl_errTurn {H : Type} : DataW H := .iface "*errors.errorString" (.ptr (.agg [.lit (.string [116, 117, 114, 110, 32, 99, 97, 110, 32, 110, 111, 116, 32, 98, 101, 32, 100, 111, 110, 101])]))

/-- 'laws.FnTurnRun': WHATEVER THE INPUT: true; the input reads as it did. -/
def fnTurnRunSpec : ChangeSpec := { name := "fnTurnRun", vars := ["loop.example/workplans/impl.errTurn"], fn := fun _ => fun
  | [d, g1] => { results := [.lit (.bool true)], args := [d], vars := [g1] }
  | _ => none }
def fnTurnRunRow : OpenClaim := { program := "ytihobnheficpjaagreatdoor", sum := "0101188a3b56bec146d3857b8a8a7202abcca036c7e504c3068f9ba8b9f5dccf", func := "loop.example/workplans/laws.FnTurnRun", spec := "fnTurnRun", inPlace := ["internal/reflectlite.TypeOf"], unfollowed := true, recurses := true, named := ["loop.example/workplans/impl.errTurn"], ifaces := true, apart := false, laid := [("loop.example/workplans/impl.errTurn", laid_loop_example_workplans_impl_errTurn)] }
def FnTurnRunSaid : Prop := fnTurnRunRow.holds Tryz.pinned (OpenSpec.ofChange fnTurnRunSpec)

/-- ITS FALSE NEIGHBOUR: 'it returns false'. Refute it at one input. -/
def fnTurnRunWrong : ChangeSpec := { name := "fnTurnRun", vars := ["loop.example/workplans/impl.errTurn"], fn := fun _ => fun
  | [d, g1] => { results := [.lit (.bool false)], args := [d], vars := [g1] }
  | _ => none }
def FnTurnRunWrongFalsely : Prop := fnTurnRunRow.holds Tryz.pinned (OpenSpec.ofChange fnTurnRunWrong)

/-- 'laws.FnTurnRunReady': WHATEVER THE INPUT: true; the input reads as it did. -/
def fnTurnRunReadySpec : ChangeSpec := { name := "fnTurnRunReady", vars := ["loop.example/workplans/impl.errTurn"], fn := fun _ => fun
  | [d, g1] => { results := [.lit (.bool true)], args := [d], vars := [g1] }
  | _ => none }
def fnTurnRunReadyRow : OpenClaim := { program := "ytihobnheficpjaagreatdoor", sum := "0101188a3b56bec146d3857b8a8a7202abcca036c7e504c3068f9ba8b9f5dccf", func := "loop.example/workplans/laws.FnTurnRunReady", spec := "fnTurnRunReady", inPlace := ["internal/reflectlite.TypeOf"], unfollowed := true, recurses := true, named := ["loop.example/workplans/impl.errTurn"], ifaces := true, apart := false, laid := [("loop.example/workplans/impl.errTurn", laid_loop_example_workplans_impl_errTurn)] }
def FnTurnRunReadySaid : Prop := fnTurnRunReadyRow.holds Tryz.pinned (OpenSpec.ofChange fnTurnRunReadySpec)

/-- ITS FALSE NEIGHBOUR: 'it returns false'. Refute it at one input. -/
def fnTurnRunReadyWrong : ChangeSpec := { name := "fnTurnRunReady", vars := ["loop.example/workplans/impl.errTurn"], fn := fun _ => fun
  | [d, g1] => { results := [.lit (.bool false)], args := [d], vars := [g1] }
  | _ => none }
def FnTurnRunReadyWrongFalsely : Prop := fnTurnRunReadyRow.holds Tryz.pinned (OpenSpec.ofChange fnTurnRunReadyWrong)

/-- 'laws.FnTurnRunRow': WHATEVER THE INPUT: true; the input reads as it did. -/
def fnTurnRunRowSpec : ChangeSpec := { name := "fnTurnRunRow", vars := ["loop.example/workplans/impl.errTurn"], fn := fun _ => fun
  | [d, g1] => { results := [.lit (.bool true)], args := [d], vars := [g1] }
  | _ => none }
def fnTurnRunRowRow : OpenClaim := { program := "ytihobnheficpjaagreatdoor", sum := "0101188a3b56bec146d3857b8a8a7202abcca036c7e504c3068f9ba8b9f5dccf", func := "loop.example/workplans/laws.FnTurnRunRow", spec := "fnTurnRunRow", inPlace := ["internal/reflectlite.TypeOf"], unfollowed := true, recurses := true, named := ["loop.example/workplans/impl.errTurn"], ifaces := true, apart := false, laid := [("loop.example/workplans/impl.errTurn", laid_loop_example_workplans_impl_errTurn)] }
def FnTurnRunRowSaid : Prop := fnTurnRunRowRow.holds Tryz.pinned (OpenSpec.ofChange fnTurnRunRowSpec)

/-- ITS FALSE NEIGHBOUR: 'it returns false'. Refute it at one input. -/
def fnTurnRunRowWrong : ChangeSpec := { name := "fnTurnRunRow", vars := ["loop.example/workplans/impl.errTurn"], fn := fun _ => fun
  | [d, g1] => { results := [.lit (.bool false)], args := [d], vars := [g1] }
  | _ => none }
def FnTurnRunRowWrongFalsely : Prop := fnTurnRunRowRow.holds Tryz.pinned (OpenSpec.ofChange fnTurnRunRowWrong)

/-- 'laws.FnTurnSteal': WHATEVER THE INPUT: true; the input reads as it did. -/
def fnTurnStealSpec : ChangeSpec := { name := "fnTurnSteal", vars := ["loop.example/workplans/impl.errTurn"], fn := fun _ => fun
  | [d, g1] => { results := [.lit (.bool true)], args := [d], vars := [g1] }
  | _ => none }
def fnTurnStealRow : OpenClaim := { program := "ytihobnheficpjaagreatdoor", sum := "0101188a3b56bec146d3857b8a8a7202abcca036c7e504c3068f9ba8b9f5dccf", func := "loop.example/workplans/laws.FnTurnSteal", spec := "fnTurnSteal", inPlace := ["internal/reflectlite.TypeOf"], unfollowed := true, recurses := true, named := ["loop.example/workplans/impl.errTurn"], ifaces := true, apart := false, laid := [("loop.example/workplans/impl.errTurn", laid_loop_example_workplans_impl_errTurn)] }
def FnTurnStealSaid : Prop := fnTurnStealRow.holds Tryz.pinned (OpenSpec.ofChange fnTurnStealSpec)

/-- ITS FALSE NEIGHBOUR: 'it returns false'. Refute it at one input. -/
def fnTurnStealWrong : ChangeSpec := { name := "fnTurnSteal", vars := ["loop.example/workplans/impl.errTurn"], fn := fun _ => fun
  | [d, g1] => { results := [.lit (.bool false)], args := [d], vars := [g1] }
  | _ => none }
def FnTurnStealWrongFalsely : Prop := fnTurnStealRow.holds Tryz.pinned (OpenSpec.ofChange fnTurnStealWrong)

/-- 'laws.FnTurnStealDeques': WHATEVER THE INPUT: true; the input reads as it did. -/
def fnTurnStealDequesSpec : ChangeSpec := { name := "fnTurnStealDeques", vars := ["loop.example/workplans/impl.errTurn"], fn := fun _ => fun
  | [d, g1] => { results := [.lit (.bool true)], args := [d], vars := [g1] }
  | _ => none }
def fnTurnStealDequesRow : OpenClaim := { program := "ytihobnheficpjaagreatdoor", sum := "0101188a3b56bec146d3857b8a8a7202abcca036c7e504c3068f9ba8b9f5dccf", func := "loop.example/workplans/laws.FnTurnStealDeques", spec := "fnTurnStealDeques", inPlace := ["internal/reflectlite.TypeOf"], unfollowed := true, recurses := true, named := ["loop.example/workplans/impl.errTurn"], ifaces := true, apart := false, laid := [("loop.example/workplans/impl.errTurn", laid_loop_example_workplans_impl_errTurn)] }
def FnTurnStealDequesSaid : Prop := fnTurnStealDequesRow.holds Tryz.pinned (OpenSpec.ofChange fnTurnStealDequesSpec)

/-- ITS FALSE NEIGHBOUR: 'it returns false'. Refute it at one input. -/
def fnTurnStealDequesWrong : ChangeSpec := { name := "fnTurnStealDeques", vars := ["loop.example/workplans/impl.errTurn"], fn := fun _ => fun
  | [d, g1] => { results := [.lit (.bool false)], args := [d], vars := [g1] }
  | _ => none }
def FnTurnStealDequesWrongFalsely : Prop := fnTurnStealDequesRow.holds Tryz.pinned (OpenSpec.ofChange fnTurnStealDequesWrong)

/-- 'laws.FnExactTurnRun': WHATEVER THE INPUT: true; the input reads as it did. -/
def fnExactTurnRunSpec : ChangeSpec := { name := "fnExactTurnRun", vars := ["loop.example/workplans/impl.errTurn"], fn := fun _ => fun
  | [d1, d2, d3, g1] => { results := [.lit (.bool true)], args := [d1, d2, d3], vars := [g1] }
  | _ => none }
def fnExactTurnRunRow : OpenClaim := { program := "ytihobnheficpjaagreatdoor", sum := "0101188a3b56bec146d3857b8a8a7202abcca036c7e504c3068f9ba8b9f5dccf", func := "loop.example/workplans/laws.FnExactTurnRun", spec := "fnExactTurnRun", inPlace := ["internal/reflectlite.TypeOf"], unfollowed := true, recurses := true, named := ["loop.example/workplans/impl.errTurn"], ifaces := true, apart := false, laid := [("loop.example/workplans/impl.errTurn", laid_loop_example_workplans_impl_errTurn)] }
def FnExactTurnRunSaid : Prop := fnExactTurnRunRow.holds Tryz.pinned (OpenSpec.ofChange fnExactTurnRunSpec)

/-- ITS FALSE NEIGHBOUR: 'it returns false'. Refute it at one input. -/
def fnExactTurnRunWrong : ChangeSpec := { name := "fnExactTurnRun", vars := ["loop.example/workplans/impl.errTurn"], fn := fun _ => fun
  | [d1, d2, d3, g1] => { results := [.lit (.bool false)], args := [d1, d2, d3], vars := [g1] }
  | _ => none }
def FnExactTurnRunWrongFalsely : Prop := fnExactTurnRunRow.holds Tryz.pinned (OpenSpec.ofChange fnExactTurnRunWrong)

/-- 'laws.FnExactTurnSteal': WHATEVER THE INPUT: true; the input reads as it did. -/
def fnExactTurnStealSpec : ChangeSpec := { name := "fnExactTurnSteal", vars := ["loop.example/workplans/impl.errTurn"], fn := fun _ => fun
  | [d1, d2, d3, d4, g1] => { results := [.lit (.bool true)], args := [d1, d2, d3, d4], vars := [g1] }
  | _ => none }
def fnExactTurnStealRow : OpenClaim := { program := "ytihobnheficpjaagreatdoor", sum := "0101188a3b56bec146d3857b8a8a7202abcca036c7e504c3068f9ba8b9f5dccf", func := "loop.example/workplans/laws.FnExactTurnSteal", spec := "fnExactTurnSteal", inPlace := ["internal/reflectlite.TypeOf"], unfollowed := true, recurses := true, named := ["loop.example/workplans/impl.errTurn"], ifaces := true, apart := false, laid := [("loop.example/workplans/impl.errTurn", laid_loop_example_workplans_impl_errTurn)] }
def FnExactTurnStealSaid : Prop := fnExactTurnStealRow.holds Tryz.pinned (OpenSpec.ofChange fnExactTurnStealSpec)

/-- ITS FALSE NEIGHBOUR: 'it returns false'. Refute it at one input. -/
def fnExactTurnStealWrong : ChangeSpec := { name := "fnExactTurnSteal", vars := ["loop.example/workplans/impl.errTurn"], fn := fun _ => fun
  | [d1, d2, d3, d4, g1] => { results := [.lit (.bool false)], args := [d1, d2, d3, d4], vars := [g1] }
  | _ => none }
def FnExactTurnStealWrongFalsely : Prop := fnExactTurnStealRow.holds Tryz.pinned (OpenSpec.ofChange fnExactTurnStealWrong)

/-- 'laws.FnTurnNextRows': WHATEVER THE INPUT: true; the input reads as it did. -/
def fnTurnNextRowsSpec : ChangeSpec := { name := "fnTurnNextRows", vars := ["loop.example/workplans/impl.errTurn"], fn := fun _ => fun
  | [d, g1] => { results := [.lit (.bool true)], args := [d], vars := [g1] }
  | _ => none }
def fnTurnNextRowsRow : OpenClaim := { program := "ytihobnheficpjaagreatdoor", sum := "0101188a3b56bec146d3857b8a8a7202abcca036c7e504c3068f9ba8b9f5dccf", func := "loop.example/workplans/laws.FnTurnNextRows", spec := "fnTurnNextRows", inPlace := ["internal/reflectlite.TypeOf"], unfollowed := true, recurses := true, named := ["loop.example/workplans/impl.errTurn"], ifaces := true, apart := false, laid := [("loop.example/workplans/impl.errTurn", laid_loop_example_workplans_impl_errTurn)] }
def FnTurnNextRowsSaid : Prop := fnTurnNextRowsRow.holds Tryz.pinned (OpenSpec.ofChange fnTurnNextRowsSpec)

/-- ITS FALSE NEIGHBOUR: 'it returns false'. Refute it at one input. -/
def fnTurnNextRowsWrong : ChangeSpec := { name := "fnTurnNextRows", vars := ["loop.example/workplans/impl.errTurn"], fn := fun _ => fun
  | [d, g1] => { results := [.lit (.bool false)], args := [d], vars := [g1] }
  | _ => none }
def FnTurnNextRowsWrongFalsely : Prop := fnTurnNextRowsRow.holds Tryz.pinned (OpenSpec.ofChange fnTurnNextRowsWrong)

/-- 'laws.FnTurnNextSame': WHATEVER THE INPUT: true; the input reads as it did. -/
def fnTurnNextSameSpec : ChangeSpec := { name := "fnTurnNextSame", vars := ["loop.example/workplans/impl.errTurn"], fn := fun _ => fun
  | [d, g1] => { results := [.lit (.bool true)], args := [d], vars := [g1] }
  | _ => none }
def fnTurnNextSameRow : OpenClaim := { program := "ytihobnheficpjaagreatdoor", sum := "0101188a3b56bec146d3857b8a8a7202abcca036c7e504c3068f9ba8b9f5dccf", func := "loop.example/workplans/laws.FnTurnNextSame", spec := "fnTurnNextSame", inPlace := ["internal/reflectlite.TypeOf"], unfollowed := true, recurses := true, named := ["loop.example/workplans/impl.errTurn"], ifaces := true, apart := false, laid := [("loop.example/workplans/impl.errTurn", laid_loop_example_workplans_impl_errTurn)] }
def FnTurnNextSameSaid : Prop := fnTurnNextSameRow.holds Tryz.pinned (OpenSpec.ofChange fnTurnNextSameSpec)

/-- ITS FALSE NEIGHBOUR: 'it returns false'. Refute it at one input. -/
def fnTurnNextSameWrong : ChangeSpec := { name := "fnTurnNextSame", vars := ["loop.example/workplans/impl.errTurn"], fn := fun _ => fun
  | [d, g1] => { results := [.lit (.bool false)], args := [d], vars := [g1] }
  | _ => none }
def FnTurnNextSameWrongFalsely : Prop := fnTurnNextSameRow.holds Tryz.pinned (OpenSpec.ofChange fnTurnNextSameWrong)

/-- 'laws.FnTurnNext': WHATEVER THE INPUT: true; the input reads as it did. -/
def fnTurnNextSpec : ChangeSpec := { name := "fnTurnNext", vars := ["loop.example/workplans/impl.errTurn"], fn := fun _ => fun
  | [d, g1] => { results := [.lit (.bool true)], args := [d], vars := [g1] }
  | _ => none }
def fnTurnNextRow : OpenClaim := { program := "ytihobnheficpjaagreatdoor", sum := "0101188a3b56bec146d3857b8a8a7202abcca036c7e504c3068f9ba8b9f5dccf", func := "loop.example/workplans/laws.FnTurnNext", spec := "fnTurnNext", inPlace := ["internal/reflectlite.TypeOf"], unfollowed := true, recurses := true, named := ["loop.example/workplans/impl.errTurn"], ifaces := true, apart := false, laid := [("loop.example/workplans/impl.errTurn", laid_loop_example_workplans_impl_errTurn)] }
def FnTurnNextSaid : Prop := fnTurnNextRow.holds Tryz.pinned (OpenSpec.ofChange fnTurnNextSpec)

/-- ITS FALSE NEIGHBOUR: 'it returns false'. Refute it at one input. -/
def fnTurnNextWrong : ChangeSpec := { name := "fnTurnNext", vars := ["loop.example/workplans/impl.errTurn"], fn := fun _ => fun
  | [d, g1] => { results := [.lit (.bool false)], args := [d], vars := [g1] }
  | _ => none }
def FnTurnNextWrongFalsely : Prop := fnTurnNextRow.holds Tryz.pinned (OpenSpec.ofChange fnTurnNextWrong)

/-- 'laws.FnTurnNextAll': WHATEVER THE INPUT: true; the input reads as it did. -/
def fnTurnNextAllSpec : ChangeSpec := { name := "fnTurnNextAll", vars := ["loop.example/workplans/impl.errTurn"], fn := fun _ => fun
  | [d, g1] => { results := [.lit (.bool true)], args := [d], vars := [g1] }
  | _ => none }
def fnTurnNextAllRow : OpenClaim := { program := "ytihobnheficpjaagreatdoor", sum := "0101188a3b56bec146d3857b8a8a7202abcca036c7e504c3068f9ba8b9f5dccf", func := "loop.example/workplans/laws.FnTurnNextAll", spec := "fnTurnNextAll", inPlace := ["internal/reflectlite.TypeOf"], unfollowed := true, recurses := true, named := ["loop.example/workplans/impl.errTurn"], ifaces := true, apart := false, laid := [("loop.example/workplans/impl.errTurn", laid_loop_example_workplans_impl_errTurn)] }
def FnTurnNextAllSaid : Prop := fnTurnNextAllRow.holds Tryz.pinned (OpenSpec.ofChange fnTurnNextAllSpec)

/-- ITS FALSE NEIGHBOUR: 'it returns false'. Refute it at one input. -/
def fnTurnNextAllWrong : ChangeSpec := { name := "fnTurnNextAll", vars := ["loop.example/workplans/impl.errTurn"], fn := fun _ => fun
  | [d, g1] => { results := [.lit (.bool false)], args := [d], vars := [g1] }
  | _ => none }
def FnTurnNextAllWrongFalsely : Prop := fnTurnNextAllRow.holds Tryz.pinned (OpenSpec.ofChange fnTurnNextAllWrong)

/-- 'laws.FnLoseWorkerAll': WHATEVER THE INPUT: true; the input reads as it did. -/
def fnLoseWorkerAllSpec : ChangeSpec := { name := "fnLoseWorkerAll", vars := ["loop.example/workplans/impl.errTurn"], fn := fun _ => fun
  | [d, g1] => { results := [.lit (.bool true)], args := [d], vars := [g1] }
  | _ => none }
def fnLoseWorkerAllRow : OpenClaim := { program := "ytihobnheficpjaagreatdoor", sum := "0101188a3b56bec146d3857b8a8a7202abcca036c7e504c3068f9ba8b9f5dccf", func := "loop.example/workplans/laws.FnLoseWorkerAll", spec := "fnLoseWorkerAll", inPlace := ["internal/reflectlite.TypeOf"], unfollowed := true, recurses := true, named := ["loop.example/workplans/impl.errTurn"], ifaces := true, apart := false, laid := [("loop.example/workplans/impl.errTurn", laid_loop_example_workplans_impl_errTurn)] }
def FnLoseWorkerAllSaid : Prop := fnLoseWorkerAllRow.holds Tryz.pinned (OpenSpec.ofChange fnLoseWorkerAllSpec)

/-- ITS FALSE NEIGHBOUR: 'it returns false'. Refute it at one input. -/
def fnLoseWorkerAllWrong : ChangeSpec := { name := "fnLoseWorkerAll", vars := ["loop.example/workplans/impl.errTurn"], fn := fun _ => fun
  | [d, g1] => { results := [.lit (.bool false)], args := [d], vars := [g1] }
  | _ => none }
def FnLoseWorkerAllWrongFalsely : Prop := fnLoseWorkerAllRow.holds Tryz.pinned (OpenSpec.ofChange fnLoseWorkerAllWrong)

/-- 'laws.FnExactTurnNext': WHATEVER THE INPUT: true; the input reads as it did. -/
def fnExactTurnNextSpec : ChangeSpec := { name := "fnExactTurnNext", vars := ["loop.example/workplans/impl.errTurn"], fn := fun _ => fun
  | [d1, d2, d3, g1] => { results := [.lit (.bool true)], args := [d1, d2, d3], vars := [g1] }
  | _ => none }
def fnExactTurnNextRow : OpenClaim := { program := "ytihobnheficpjaagreatdoor", sum := "0101188a3b56bec146d3857b8a8a7202abcca036c7e504c3068f9ba8b9f5dccf", func := "loop.example/workplans/laws.FnExactTurnNext", spec := "fnExactTurnNext", inPlace := ["internal/reflectlite.TypeOf"], unfollowed := true, recurses := true, named := ["loop.example/workplans/impl.errTurn"], ifaces := true, apart := false, laid := [("loop.example/workplans/impl.errTurn", laid_loop_example_workplans_impl_errTurn)] }
def FnExactTurnNextSaid : Prop := fnExactTurnNextRow.holds Tryz.pinned (OpenSpec.ofChange fnExactTurnNextSpec)

/-- ITS FALSE NEIGHBOUR: 'it returns false'. Refute it at one input. -/
def fnExactTurnNextWrong : ChangeSpec := { name := "fnExactTurnNext", vars := ["loop.example/workplans/impl.errTurn"], fn := fun _ => fun
  | [d1, d2, d3, g1] => { results := [.lit (.bool false)], args := [d1, d2, d3], vars := [g1] }
  | _ => none }
def FnExactTurnNextWrongFalsely : Prop := fnExactTurnNextRow.holds Tryz.pinned (OpenSpec.ofChange fnExactTurnNextWrong)

/- THE SECOND FORM. 'bulk': how many values and letters a reading holds, each counted each time it is reached (what is shared counts as often as it is met; a slice's spare places count too). A statement '..UptoSaid' is the law's where the arguments, and the package variables that the reading takes, are together of bulk at most 1048576: NARROWER than '..Said'. Prove '..Said' where nothing that the law and all that it calls make is longer than what came in: it says more and counts as full. Else prove '..UptoSaid'. A law counts once. -/
mutual
def uptoBulk {H : Type} : DataW H → Nat
  | .lit (.string bytes) => bytes.length + 1
  | .lit _ => 1
  | .nil => 1
  | .ptr d => uptoBulk d + 1
  | .slice elems spare => uptoBulkAll elems + uptoBulkAll spare + 1
  | .agg parts => uptoBulkAll parts + 1
  | .iface _ d => uptoBulk d + 1
  | .map entries => uptoBulkEntries entries + 1
  | .held _ => 1
def uptoBulkAll {H : Type} : List (DataW H) → Nat
  | [] => 0
  | d :: r => uptoBulk d + uptoBulkAll r
def uptoBulkEntries {H : Type} : List (Lit × DataW H) → Nat
  | [] => 0
  | x :: r => uptoBulkEntry x + uptoBulkEntries r
def uptoBulkEntry {H : Type} : Lit × DataW H → Nat
  | (.string bytes, d) => bytes.length + uptoBulk d + 1
  | (_, d) => uptoBulk d + 1
 end
def uptoSmall : (H : Type) → List (DataW H) → Bool := fun _ ds => decide (uptoBulkAll ds ≤ 1048576)
def OpenSpec.upto (s : _root_.Go.ChangeSpec) : _root_.Go.OpenSpec := { _root_.Go.OpenSpec.ofChange s with cond := some uptoSmall }

/-- 'laws.FnTurnRun', WHERE WHAT IT READS IS OF BULK AT MOST 1048576: true; the input reads as it did. -/
def fnTurnRunUptoRow : OpenClaim := { program := "ytihobnheficpjaagreatdoor", sum := "0101188a3b56bec146d3857b8a8a7202abcca036c7e504c3068f9ba8b9f5dccf", func := "loop.example/workplans/laws.FnTurnRun", spec := "fnTurnRun", inPlace := ["internal/reflectlite.TypeOf"], unfollowed := true, recurses := true, named := ["loop.example/workplans/impl.errTurn"], ifaces := true, apart := false, laid := [("loop.example/workplans/impl.errTurn", laid_loop_example_workplans_impl_errTurn)], narrowed := true }
def FnTurnRunUptoSaid : Prop := fnTurnRunUptoRow.holds Tryz.pinned (OpenSpec.upto fnTurnRunSpec)

/-- 'laws.FnTurnRunReady', WHERE WHAT IT READS IS OF BULK AT MOST 1048576: true; the input reads as it did. -/
def fnTurnRunReadyUptoRow : OpenClaim := { program := "ytihobnheficpjaagreatdoor", sum := "0101188a3b56bec146d3857b8a8a7202abcca036c7e504c3068f9ba8b9f5dccf", func := "loop.example/workplans/laws.FnTurnRunReady", spec := "fnTurnRunReady", inPlace := ["internal/reflectlite.TypeOf"], unfollowed := true, recurses := true, named := ["loop.example/workplans/impl.errTurn"], ifaces := true, apart := false, laid := [("loop.example/workplans/impl.errTurn", laid_loop_example_workplans_impl_errTurn)], narrowed := true }
def FnTurnRunReadyUptoSaid : Prop := fnTurnRunReadyUptoRow.holds Tryz.pinned (OpenSpec.upto fnTurnRunReadySpec)

/-- 'laws.FnTurnRunRow', WHERE WHAT IT READS IS OF BULK AT MOST 1048576: true; the input reads as it did. -/
def fnTurnRunRowUptoRow : OpenClaim := { program := "ytihobnheficpjaagreatdoor", sum := "0101188a3b56bec146d3857b8a8a7202abcca036c7e504c3068f9ba8b9f5dccf", func := "loop.example/workplans/laws.FnTurnRunRow", spec := "fnTurnRunRow", inPlace := ["internal/reflectlite.TypeOf"], unfollowed := true, recurses := true, named := ["loop.example/workplans/impl.errTurn"], ifaces := true, apart := false, laid := [("loop.example/workplans/impl.errTurn", laid_loop_example_workplans_impl_errTurn)], narrowed := true }
def FnTurnRunRowUptoSaid : Prop := fnTurnRunRowUptoRow.holds Tryz.pinned (OpenSpec.upto fnTurnRunRowSpec)

/-- 'laws.FnTurnSteal', WHERE WHAT IT READS IS OF BULK AT MOST 1048576: true; the input reads as it did. -/
def fnTurnStealUptoRow : OpenClaim := { program := "ytihobnheficpjaagreatdoor", sum := "0101188a3b56bec146d3857b8a8a7202abcca036c7e504c3068f9ba8b9f5dccf", func := "loop.example/workplans/laws.FnTurnSteal", spec := "fnTurnSteal", inPlace := ["internal/reflectlite.TypeOf"], unfollowed := true, recurses := true, named := ["loop.example/workplans/impl.errTurn"], ifaces := true, apart := false, laid := [("loop.example/workplans/impl.errTurn", laid_loop_example_workplans_impl_errTurn)], narrowed := true }
def FnTurnStealUptoSaid : Prop := fnTurnStealUptoRow.holds Tryz.pinned (OpenSpec.upto fnTurnStealSpec)

/-- 'laws.FnTurnStealDeques', WHERE WHAT IT READS IS OF BULK AT MOST 1048576: true; the input reads as it did. -/
def fnTurnStealDequesUptoRow : OpenClaim := { program := "ytihobnheficpjaagreatdoor", sum := "0101188a3b56bec146d3857b8a8a7202abcca036c7e504c3068f9ba8b9f5dccf", func := "loop.example/workplans/laws.FnTurnStealDeques", spec := "fnTurnStealDeques", inPlace := ["internal/reflectlite.TypeOf"], unfollowed := true, recurses := true, named := ["loop.example/workplans/impl.errTurn"], ifaces := true, apart := false, laid := [("loop.example/workplans/impl.errTurn", laid_loop_example_workplans_impl_errTurn)], narrowed := true }
def FnTurnStealDequesUptoSaid : Prop := fnTurnStealDequesUptoRow.holds Tryz.pinned (OpenSpec.upto fnTurnStealDequesSpec)

/-- 'laws.FnExactTurnRun', WHERE WHAT IT READS IS OF BULK AT MOST 1048576: true; the input reads as it did. -/
def fnExactTurnRunUptoRow : OpenClaim := { program := "ytihobnheficpjaagreatdoor", sum := "0101188a3b56bec146d3857b8a8a7202abcca036c7e504c3068f9ba8b9f5dccf", func := "loop.example/workplans/laws.FnExactTurnRun", spec := "fnExactTurnRun", inPlace := ["internal/reflectlite.TypeOf"], unfollowed := true, recurses := true, named := ["loop.example/workplans/impl.errTurn"], ifaces := true, apart := false, laid := [("loop.example/workplans/impl.errTurn", laid_loop_example_workplans_impl_errTurn)], narrowed := true }
def FnExactTurnRunUptoSaid : Prop := fnExactTurnRunUptoRow.holds Tryz.pinned (OpenSpec.upto fnExactTurnRunSpec)

/-- 'laws.FnExactTurnSteal', WHERE WHAT IT READS IS OF BULK AT MOST 1048576: true; the input reads as it did. -/
def fnExactTurnStealUptoRow : OpenClaim := { program := "ytihobnheficpjaagreatdoor", sum := "0101188a3b56bec146d3857b8a8a7202abcca036c7e504c3068f9ba8b9f5dccf", func := "loop.example/workplans/laws.FnExactTurnSteal", spec := "fnExactTurnSteal", inPlace := ["internal/reflectlite.TypeOf"], unfollowed := true, recurses := true, named := ["loop.example/workplans/impl.errTurn"], ifaces := true, apart := false, laid := [("loop.example/workplans/impl.errTurn", laid_loop_example_workplans_impl_errTurn)], narrowed := true }
def FnExactTurnStealUptoSaid : Prop := fnExactTurnStealUptoRow.holds Tryz.pinned (OpenSpec.upto fnExactTurnStealSpec)

/-- 'laws.FnTurnNextRows', WHERE WHAT IT READS IS OF BULK AT MOST 1048576: true; the input reads as it did. -/
def fnTurnNextRowsUptoRow : OpenClaim := { program := "ytihobnheficpjaagreatdoor", sum := "0101188a3b56bec146d3857b8a8a7202abcca036c7e504c3068f9ba8b9f5dccf", func := "loop.example/workplans/laws.FnTurnNextRows", spec := "fnTurnNextRows", inPlace := ["internal/reflectlite.TypeOf"], unfollowed := true, recurses := true, named := ["loop.example/workplans/impl.errTurn"], ifaces := true, apart := false, laid := [("loop.example/workplans/impl.errTurn", laid_loop_example_workplans_impl_errTurn)], narrowed := true }
def FnTurnNextRowsUptoSaid : Prop := fnTurnNextRowsUptoRow.holds Tryz.pinned (OpenSpec.upto fnTurnNextRowsSpec)

/-- 'laws.FnTurnNextSame', WHERE WHAT IT READS IS OF BULK AT MOST 1048576: true; the input reads as it did. -/
def fnTurnNextSameUptoRow : OpenClaim := { program := "ytihobnheficpjaagreatdoor", sum := "0101188a3b56bec146d3857b8a8a7202abcca036c7e504c3068f9ba8b9f5dccf", func := "loop.example/workplans/laws.FnTurnNextSame", spec := "fnTurnNextSame", inPlace := ["internal/reflectlite.TypeOf"], unfollowed := true, recurses := true, named := ["loop.example/workplans/impl.errTurn"], ifaces := true, apart := false, laid := [("loop.example/workplans/impl.errTurn", laid_loop_example_workplans_impl_errTurn)], narrowed := true }
def FnTurnNextSameUptoSaid : Prop := fnTurnNextSameUptoRow.holds Tryz.pinned (OpenSpec.upto fnTurnNextSameSpec)

/-- 'laws.FnTurnNext', WHERE WHAT IT READS IS OF BULK AT MOST 1048576: true; the input reads as it did. -/
def fnTurnNextUptoRow : OpenClaim := { program := "ytihobnheficpjaagreatdoor", sum := "0101188a3b56bec146d3857b8a8a7202abcca036c7e504c3068f9ba8b9f5dccf", func := "loop.example/workplans/laws.FnTurnNext", spec := "fnTurnNext", inPlace := ["internal/reflectlite.TypeOf"], unfollowed := true, recurses := true, named := ["loop.example/workplans/impl.errTurn"], ifaces := true, apart := false, laid := [("loop.example/workplans/impl.errTurn", laid_loop_example_workplans_impl_errTurn)], narrowed := true }
def FnTurnNextUptoSaid : Prop := fnTurnNextUptoRow.holds Tryz.pinned (OpenSpec.upto fnTurnNextSpec)

/-- 'laws.FnTurnNextAll', WHERE WHAT IT READS IS OF BULK AT MOST 1048576: true; the input reads as it did. -/
def fnTurnNextAllUptoRow : OpenClaim := { program := "ytihobnheficpjaagreatdoor", sum := "0101188a3b56bec146d3857b8a8a7202abcca036c7e504c3068f9ba8b9f5dccf", func := "loop.example/workplans/laws.FnTurnNextAll", spec := "fnTurnNextAll", inPlace := ["internal/reflectlite.TypeOf"], unfollowed := true, recurses := true, named := ["loop.example/workplans/impl.errTurn"], ifaces := true, apart := false, laid := [("loop.example/workplans/impl.errTurn", laid_loop_example_workplans_impl_errTurn)], narrowed := true }
def FnTurnNextAllUptoSaid : Prop := fnTurnNextAllUptoRow.holds Tryz.pinned (OpenSpec.upto fnTurnNextAllSpec)

/-- 'laws.FnLoseWorkerAll', WHERE WHAT IT READS IS OF BULK AT MOST 1048576: true; the input reads as it did. -/
def fnLoseWorkerAllUptoRow : OpenClaim := { program := "ytihobnheficpjaagreatdoor", sum := "0101188a3b56bec146d3857b8a8a7202abcca036c7e504c3068f9ba8b9f5dccf", func := "loop.example/workplans/laws.FnLoseWorkerAll", spec := "fnLoseWorkerAll", inPlace := ["internal/reflectlite.TypeOf"], unfollowed := true, recurses := true, named := ["loop.example/workplans/impl.errTurn"], ifaces := true, apart := false, laid := [("loop.example/workplans/impl.errTurn", laid_loop_example_workplans_impl_errTurn)], narrowed := true }
def FnLoseWorkerAllUptoSaid : Prop := fnLoseWorkerAllUptoRow.holds Tryz.pinned (OpenSpec.upto fnLoseWorkerAllSpec)

/-- 'laws.FnExactTurnNext', WHERE WHAT IT READS IS OF BULK AT MOST 1048576: true; the input reads as it did. -/
def fnExactTurnNextUptoRow : OpenClaim := { program := "ytihobnheficpjaagreatdoor", sum := "0101188a3b56bec146d3857b8a8a7202abcca036c7e504c3068f9ba8b9f5dccf", func := "loop.example/workplans/laws.FnExactTurnNext", spec := "fnExactTurnNext", inPlace := ["internal/reflectlite.TypeOf"], unfollowed := true, recurses := true, named := ["loop.example/workplans/impl.errTurn"], ifaces := true, apart := false, laid := [("loop.example/workplans/impl.errTurn", laid_loop_example_workplans_impl_errTurn)], narrowed := true }
def FnExactTurnNextUptoSaid : Prop := fnExactTurnNextUptoRow.holds Tryz.pinned (OpenSpec.upto fnExactTurnNextSpec)

end Rows
end Go.Proofs.YtihobnheficpjaaGreatDoor
