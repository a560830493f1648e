/-
  NARROWER THAN 'FOR EVERY INPUT', by the rows' own cells (each row's printed sentence says how): FnScheduleRest: ifaces, calm, laid · FnScheduleRun: ifaces, calm, laid · FnScheduleRunPart: ifaces, calm, laid · FnScheduleAll: ifaces, calm, laid · FnScheduleBegin: ifaces, calm, laid · FnScheduleOrder: ifaces, calm, laid · FnScheduleOther: ifaces, calm, laid · FnExactScheduleAll: ifaces, calm, laid · FnExactScheduleRun: ifaces, calm, laid.
  DERIVED. THE GIVEN ROWS OF THIS SEAT. 9 by the template 'for every input the law returns true; each argument reads behind the call as it read before'; 0 by the template 'total and deterministic' (their statements: YtacemdoejblgaaaGreatDoorTotals.lean).
  GIVEN WITH THE SEED: the statements are not yours to turn. If you find one false, say at which input.
  Laid BY PROGRAM, IN A SANDBOX (cutbox-rows.mjs): the forced cells as the released guide's own fill.sh prints them over the translation 2c69c2a8db1df98c… (all of the seat's roots in one cut). By AI agents, Wed Nov 11 2026. No macro, syntax, notation, axiom, sorry.
-/
import Derived.Test.YtacemdoejblgaaaGreatDoorChecked
import GoSem.Claim
import GoSem.ClaimJoined
import GoSem.ClaimMapViews
import Derived.JoinedTies
import Derived.KernelRfl
namespace Go.Proofs.YtacemdoejblgaaaGreatDoor
/- THE CELL 'sum', in the pinned program and in every row, IS THE sha256 OF THE DUMP (.gsa) THAT YtacemdoejblgaaaGreatDoorProg.lean LOADS. Nothing in Lean hashes anything: it is a label: what it is worth is what the hold of that sum in a sandbox is worth. -/
noncomputable def Tryz.pinned : Pinned := { name := "ytacemdoejblgaaagreatdoor", sum := "2c69c2a8db1df98c3dc4b186ebb9880625f7e552398111e8de5732168bbe9d6c", checked := Tryz.checked }
namespace Rows
def none {H : Type} : Left H := { results := [], args := [] }

/- WHAT THE LISTED PACKAGE-LEVEL VARIABLES READ AS WHEN THE CALL BEGINS. Each datum BY PROGRAM (the guide's laid-datum.mjs) off the statement by which the dump's own 'gosem.cut.vars' lays the variable. In a bare row this is a premise. The card (YtacemdoejblgaaaGreatDoorCards.lean) ties it to the program's text. -/
def laid_loop_example_workplans_impl_errTurn {H : Type} : DataW H := .iface "*errors.errorString" (.ptr (.agg [.lit (.string [116, 117, 114, 110, 32, 99, 97, 110, 32, 110, 111, 116, 32, 98, 101, 32, 100, 111, 110, 101])]))

/-- 'laws.FnScheduleRest': WHATEVER THE INPUT: true; the input reads as it did. -/
def fnScheduleRestSpec : ChangeSpec := { name := "fnScheduleRest", vars := ["loop.example/workplans/impl.errTurn"], fn := fun _ => fun
  | [d, g1] => { results := [.lit (.bool true)], args := [d], vars := [g1] }
  | _ => none }
def fnScheduleRestRow : OpenClaim := { program := "ytacemdoejblgaaagreatdoor", sum := "2c69c2a8db1df98c3dc4b186ebb9880625f7e552398111e8de5732168bbe9d6c", func := "loop.example/workplans/laws.FnScheduleRest", spec := "fnScheduleRest", inPlace := ["(*sync.WaitGroup).Add", "internal/race.ReleaseMerge", "internal/race.Disable", "internal/race.Enable", "internal/synctest.IsInBubble", "internal/synctest.Associate[sync.WaitGroup]", "sync.fatal", "sync/atomic.OrUint64", "sync/atomic.AddUint64", "internal/race.Read", "sync/atomic.LoadUint64", "sync/atomic.StoreUint64", "internal/synctest.Disassociate[sync.WaitGroup]", "sync.runtime_Semrelease", "(*sync.WaitGroup).Done", "(*internal/sync.Mutex).Lock", "sync/atomic.CompareAndSwapInt32", "internal/race.Acquire", "(*internal/sync.Mutex).lockSlow", "internal/sync.runtime_canSpin", "internal/sync.runtime_doSpin", "internal/sync.throw", "internal/sync.runtime_nanotime", "internal/sync.runtime_SemacquireMutex", "sync/atomic.AddInt32", "(*internal/sync.Mutex).Unlock", "(*internal/sync.Mutex).unlockSlow", "internal/sync.fatal", "internal/sync.runtime_Semrelease", "internal/reflectlite.TypeOf", "(*sync.WaitGroup).Wait", "internal/synctest.IsAssociated[sync.WaitGroup]", "sync/atomic.CompareAndSwapUint64", "internal/race.Write", "sync.runtime_SemacquireWaitGroup"], unfollowed := true, recurses := true, named := ["loop.example/workplans/impl.errTurn"], ifaces := true, leaving := true, apart := false, calm := true, outside := [.timePasses], laid := [("loop.example/workplans/impl.errTurn", laid_loop_example_workplans_impl_errTurn)] }
def FnScheduleRestSaid : Prop := fnScheduleRestRow.holds Tryz.pinned (OpenSpec.ofChange fnScheduleRestSpec)

/-- ITS FALSE NEIGHBOUR: 'it returns false'. Refute it at one input. -/
def fnScheduleRestWrong : ChangeSpec := { name := "fnScheduleRest", vars := ["loop.example/workplans/impl.errTurn"], fn := fun _ => fun
  | [d, g1] => { results := [.lit (.bool false)], args := [d], vars := [g1] }
  | _ => none }
def FnScheduleRestWrongFalsely : Prop := fnScheduleRestRow.holds Tryz.pinned (OpenSpec.ofChange fnScheduleRestWrong)

/-- 'laws.FnScheduleRun': WHATEVER THE INPUT: true; the input reads as it did. -/
def fnScheduleRunSpec : ChangeSpec := { name := "fnScheduleRun", vars := ["loop.example/workplans/impl.errTurn"], fn := fun _ => fun
  | [d, g1] => { results := [.lit (.bool true)], args := [d], vars := [g1] }
  | _ => none }
def fnScheduleRunRow : OpenClaim := { program := "ytacemdoejblgaaagreatdoor", sum := "2c69c2a8db1df98c3dc4b186ebb9880625f7e552398111e8de5732168bbe9d6c", func := "loop.example/workplans/laws.FnScheduleRun", spec := "fnScheduleRun", inPlace := ["(*sync.WaitGroup).Add", "internal/race.ReleaseMerge", "internal/race.Disable", "internal/race.Enable", "internal/synctest.IsInBubble", "internal/synctest.Associate[sync.WaitGroup]", "sync.fatal", "sync/atomic.OrUint64", "sync/atomic.AddUint64", "internal/race.Read", "sync/atomic.LoadUint64", "sync/atomic.StoreUint64", "internal/synctest.Disassociate[sync.WaitGroup]", "sync.runtime_Semrelease", "(*sync.WaitGroup).Done", "(*internal/sync.Mutex).Lock", "sync/atomic.CompareAndSwapInt32", "internal/race.Acquire", "(*internal/sync.Mutex).lockSlow", "internal/sync.runtime_canSpin", "internal/sync.runtime_doSpin", "internal/sync.throw", "internal/sync.runtime_nanotime", "internal/sync.runtime_SemacquireMutex", "sync/atomic.AddInt32", "(*internal/sync.Mutex).Unlock", "(*internal/sync.Mutex).unlockSlow", "internal/sync.fatal", "internal/sync.runtime_Semrelease", "internal/reflectlite.TypeOf", "(*sync.WaitGroup).Wait", "internal/synctest.IsAssociated[sync.WaitGroup]", "sync/atomic.CompareAndSwapUint64", "internal/race.Write", "sync.runtime_SemacquireWaitGroup"], unfollowed := true, recurses := true, named := ["loop.example/workplans/impl.errTurn"], ifaces := true, leaving := true, apart := false, calm := true, outside := [.timePasses], laid := [("loop.example/workplans/impl.errTurn", laid_loop_example_workplans_impl_errTurn)] }
def FnScheduleRunSaid : Prop := fnScheduleRunRow.holds Tryz.pinned (OpenSpec.ofChange fnScheduleRunSpec)

/-- ITS FALSE NEIGHBOUR: 'it returns false'. Refute it at one input. -/
def fnScheduleRunWrong : ChangeSpec := { name := "fnScheduleRun", vars := ["loop.example/workplans/impl.errTurn"], fn := fun _ => fun
  | [d, g1] => { results := [.lit (.bool false)], args := [d], vars := [g1] }
  | _ => none }
def FnScheduleRunWrongFalsely : Prop := fnScheduleRunRow.holds Tryz.pinned (OpenSpec.ofChange fnScheduleRunWrong)

/-- 'laws.FnScheduleRunPart': WHATEVER THE INPUT: true; the input reads as it did. -/
def fnScheduleRunPartSpec : ChangeSpec := { name := "fnScheduleRunPart", vars := ["loop.example/workplans/impl.errTurn"], fn := fun _ => fun
  | [d, g1] => { results := [.lit (.bool true)], args := [d], vars := [g1] }
  | _ => none }
def fnScheduleRunPartRow : OpenClaim := { program := "ytacemdoejblgaaagreatdoor", sum := "2c69c2a8db1df98c3dc4b186ebb9880625f7e552398111e8de5732168bbe9d6c", func := "loop.example/workplans/laws.FnScheduleRunPart", spec := "fnScheduleRunPart", inPlace := ["(*sync.WaitGroup).Add", "internal/race.ReleaseMerge", "internal/race.Disable", "internal/race.Enable", "internal/synctest.IsInBubble", "internal/synctest.Associate[sync.WaitGroup]", "sync.fatal", "sync/atomic.OrUint64", "sync/atomic.AddUint64", "internal/race.Read", "sync/atomic.LoadUint64", "sync/atomic.StoreUint64", "internal/synctest.Disassociate[sync.WaitGroup]", "sync.runtime_Semrelease", "(*sync.WaitGroup).Done", "(*internal/sync.Mutex).Lock", "sync/atomic.CompareAndSwapInt32", "internal/race.Acquire", "(*internal/sync.Mutex).lockSlow", "internal/sync.runtime_canSpin", "internal/sync.runtime_doSpin", "internal/sync.throw", "internal/sync.runtime_nanotime", "internal/sync.runtime_SemacquireMutex", "sync/atomic.AddInt32", "(*internal/sync.Mutex).Unlock", "(*internal/sync.Mutex).unlockSlow", "internal/sync.fatal", "internal/sync.runtime_Semrelease", "internal/reflectlite.TypeOf", "(*sync.WaitGroup).Wait", "internal/synctest.IsAssociated[sync.WaitGroup]", "sync/atomic.CompareAndSwapUint64", "internal/race.Write", "sync.runtime_SemacquireWaitGroup"], unfollowed := true, recurses := true, named := ["loop.example/workplans/impl.errTurn"], ifaces := true, leaving := true, apart := false, calm := true, outside := [.timePasses], laid := [("loop.example/workplans/impl.errTurn", laid_loop_example_workplans_impl_errTurn)] }
def FnScheduleRunPartSaid : Prop := fnScheduleRunPartRow.holds Tryz.pinned (OpenSpec.ofChange fnScheduleRunPartSpec)

/-- ITS FALSE NEIGHBOUR: 'it returns false'. Refute it at one input. -/
def fnScheduleRunPartWrong : ChangeSpec := { name := "fnScheduleRunPart", vars := ["loop.example/workplans/impl.errTurn"], fn := fun _ => fun
  | [d, g1] => { results := [.lit (.bool false)], args := [d], vars := [g1] }
  | _ => none }
def FnScheduleRunPartWrongFalsely : Prop := fnScheduleRunPartRow.holds Tryz.pinned (OpenSpec.ofChange fnScheduleRunPartWrong)

/-- 'laws.FnScheduleAll': WHATEVER THE INPUT: true; the input reads as it did. -/
def fnScheduleAllSpec : ChangeSpec := { name := "fnScheduleAll", vars := ["loop.example/workplans/impl.errTurn"], fn := fun _ => fun
  | [d, g1] => { results := [.lit (.bool true)], args := [d], vars := [g1] }
  | _ => none }
def fnScheduleAllRow : OpenClaim := { program := "ytacemdoejblgaaagreatdoor", sum := "2c69c2a8db1df98c3dc4b186ebb9880625f7e552398111e8de5732168bbe9d6c", func := "loop.example/workplans/laws.FnScheduleAll", spec := "fnScheduleAll", inPlace := ["(*sync.WaitGroup).Add", "internal/race.ReleaseMerge", "internal/race.Disable", "internal/race.Enable", "internal/synctest.IsInBubble", "internal/synctest.Associate[sync.WaitGroup]", "sync.fatal", "sync/atomic.OrUint64", "sync/atomic.AddUint64", "internal/race.Read", "sync/atomic.LoadUint64", "sync/atomic.StoreUint64", "internal/synctest.Disassociate[sync.WaitGroup]", "sync.runtime_Semrelease", "(*sync.WaitGroup).Done", "(*internal/sync.Mutex).Lock", "sync/atomic.CompareAndSwapInt32", "internal/race.Acquire", "(*internal/sync.Mutex).lockSlow", "internal/sync.runtime_canSpin", "internal/sync.runtime_doSpin", "internal/sync.throw", "internal/sync.runtime_nanotime", "internal/sync.runtime_SemacquireMutex", "sync/atomic.AddInt32", "(*internal/sync.Mutex).Unlock", "(*internal/sync.Mutex).unlockSlow", "internal/sync.fatal", "internal/sync.runtime_Semrelease", "internal/reflectlite.TypeOf", "(*sync.WaitGroup).Wait", "internal/synctest.IsAssociated[sync.WaitGroup]", "sync/atomic.CompareAndSwapUint64", "internal/race.Write", "sync.runtime_SemacquireWaitGroup"], unfollowed := true, recurses := true, named := ["loop.example/workplans/impl.errTurn"], ifaces := true, leaving := true, apart := false, calm := true, outside := [.timePasses], laid := [("loop.example/workplans/impl.errTurn", laid_loop_example_workplans_impl_errTurn)] }
def FnScheduleAllSaid : Prop := fnScheduleAllRow.holds Tryz.pinned (OpenSpec.ofChange fnScheduleAllSpec)

/-- ITS FALSE NEIGHBOUR: 'it returns false'. Refute it at one input. -/
def fnScheduleAllWrong : ChangeSpec := { name := "fnScheduleAll", vars := ["loop.example/workplans/impl.errTurn"], fn := fun _ => fun
  | [d, g1] => { results := [.lit (.bool false)], args := [d], vars := [g1] }
  | _ => none }
def FnScheduleAllWrongFalsely : Prop := fnScheduleAllRow.holds Tryz.pinned (OpenSpec.ofChange fnScheduleAllWrong)

/-- 'laws.FnScheduleBegin': WHATEVER THE INPUT: true; the input reads as it did. -/
def fnScheduleBeginSpec : ChangeSpec := { name := "fnScheduleBegin", vars := ["loop.example/workplans/impl.errTurn"], fn := fun _ => fun
  | [d, g1] => { results := [.lit (.bool true)], args := [d], vars := [g1] }
  | _ => none }
def fnScheduleBeginRow : OpenClaim := { program := "ytacemdoejblgaaagreatdoor", sum := "2c69c2a8db1df98c3dc4b186ebb9880625f7e552398111e8de5732168bbe9d6c", func := "loop.example/workplans/laws.FnScheduleBegin", spec := "fnScheduleBegin", inPlace := ["(*sync.WaitGroup).Add", "internal/race.ReleaseMerge", "internal/race.Disable", "internal/race.Enable", "internal/synctest.IsInBubble", "internal/synctest.Associate[sync.WaitGroup]", "sync.fatal", "sync/atomic.OrUint64", "sync/atomic.AddUint64", "internal/race.Read", "sync/atomic.LoadUint64", "sync/atomic.StoreUint64", "internal/synctest.Disassociate[sync.WaitGroup]", "sync.runtime_Semrelease", "(*sync.WaitGroup).Done", "(*internal/sync.Mutex).Lock", "sync/atomic.CompareAndSwapInt32", "internal/race.Acquire", "(*internal/sync.Mutex).lockSlow", "internal/sync.runtime_canSpin", "internal/sync.runtime_doSpin", "internal/sync.throw", "internal/sync.runtime_nanotime", "internal/sync.runtime_SemacquireMutex", "sync/atomic.AddInt32", "(*internal/sync.Mutex).Unlock", "(*internal/sync.Mutex).unlockSlow", "internal/sync.fatal", "internal/sync.runtime_Semrelease", "internal/reflectlite.TypeOf", "(*sync.WaitGroup).Wait", "internal/synctest.IsAssociated[sync.WaitGroup]", "sync/atomic.CompareAndSwapUint64", "internal/race.Write", "sync.runtime_SemacquireWaitGroup"], unfollowed := true, recurses := true, named := ["loop.example/workplans/impl.errTurn"], ifaces := true, leaving := true, apart := false, calm := true, outside := [.timePasses], laid := [("loop.example/workplans/impl.errTurn", laid_loop_example_workplans_impl_errTurn)] }
def FnScheduleBeginSaid : Prop := fnScheduleBeginRow.holds Tryz.pinned (OpenSpec.ofChange fnScheduleBeginSpec)

/-- ITS FALSE NEIGHBOUR: 'it returns false'. Refute it at one input. -/
def fnScheduleBeginWrong : ChangeSpec := { name := "fnScheduleBegin", vars := ["loop.example/workplans/impl.errTurn"], fn := fun _ => fun
  | [d, g1] => { results := [.lit (.bool false)], args := [d], vars := [g1] }
  | _ => none }
def FnScheduleBeginWrongFalsely : Prop := fnScheduleBeginRow.holds Tryz.pinned (OpenSpec.ofChange fnScheduleBeginWrong)

/-- 'laws.FnScheduleOrder': WHATEVER THE INPUT: true; the input reads as it did. -/
def fnScheduleOrderSpec : ChangeSpec := { name := "fnScheduleOrder", vars := ["loop.example/workplans/impl.errTurn"], fn := fun _ => fun
  | [d, g1] => { results := [.lit (.bool true)], args := [d], vars := [g1] }
  | _ => none }
def fnScheduleOrderRow : OpenClaim := { program := "ytacemdoejblgaaagreatdoor", sum := "2c69c2a8db1df98c3dc4b186ebb9880625f7e552398111e8de5732168bbe9d6c", func := "loop.example/workplans/laws.FnScheduleOrder", spec := "fnScheduleOrder", inPlace := ["(*sync.WaitGroup).Add", "internal/race.ReleaseMerge", "internal/race.Disable", "internal/race.Enable", "internal/synctest.IsInBubble", "internal/synctest.Associate[sync.WaitGroup]", "sync.fatal", "sync/atomic.OrUint64", "sync/atomic.AddUint64", "internal/race.Read", "sync/atomic.LoadUint64", "sync/atomic.StoreUint64", "internal/synctest.Disassociate[sync.WaitGroup]", "sync.runtime_Semrelease", "(*sync.WaitGroup).Done", "(*internal/sync.Mutex).Lock", "sync/atomic.CompareAndSwapInt32", "internal/race.Acquire", "(*internal/sync.Mutex).lockSlow", "internal/sync.runtime_canSpin", "internal/sync.runtime_doSpin", "internal/sync.throw", "internal/sync.runtime_nanotime", "internal/sync.runtime_SemacquireMutex", "sync/atomic.AddInt32", "(*internal/sync.Mutex).Unlock", "(*internal/sync.Mutex).unlockSlow", "internal/sync.fatal", "internal/sync.runtime_Semrelease", "internal/reflectlite.TypeOf", "(*sync.WaitGroup).Wait", "internal/synctest.IsAssociated[sync.WaitGroup]", "sync/atomic.CompareAndSwapUint64", "internal/race.Write", "sync.runtime_SemacquireWaitGroup"], unfollowed := true, recurses := true, named := ["loop.example/workplans/impl.errTurn"], ifaces := true, leaving := true, apart := false, calm := true, outside := [.timePasses], laid := [("loop.example/workplans/impl.errTurn", laid_loop_example_workplans_impl_errTurn)] }
def FnScheduleOrderSaid : Prop := fnScheduleOrderRow.holds Tryz.pinned (OpenSpec.ofChange fnScheduleOrderSpec)

/-- ITS FALSE NEIGHBOUR: 'it returns false'. Refute it at one input. -/
def fnScheduleOrderWrong : ChangeSpec := { name := "fnScheduleOrder", vars := ["loop.example/workplans/impl.errTurn"], fn := fun _ => fun
  | [d, g1] => { results := [.lit (.bool false)], args := [d], vars := [g1] }
  | _ => none }
def FnScheduleOrderWrongFalsely : Prop := fnScheduleOrderRow.holds Tryz.pinned (OpenSpec.ofChange fnScheduleOrderWrong)

/-- 'laws.FnScheduleOther': WHATEVER THE INPUT: true; the input reads as it did. -/
def fnScheduleOtherSpec : ChangeSpec := { name := "fnScheduleOther", vars := ["loop.example/workplans/impl.errTurn"], fn := fun _ => fun
  | [d, g1] => { results := [.lit (.bool true)], args := [d], vars := [g1] }
  | _ => none }
def fnScheduleOtherRow : OpenClaim := { program := "ytacemdoejblgaaagreatdoor", sum := "2c69c2a8db1df98c3dc4b186ebb9880625f7e552398111e8de5732168bbe9d6c", func := "loop.example/workplans/laws.FnScheduleOther", spec := "fnScheduleOther", inPlace := ["(*sync.WaitGroup).Add", "internal/race.ReleaseMerge", "internal/race.Disable", "internal/race.Enable", "internal/synctest.IsInBubble", "internal/synctest.Associate[sync.WaitGroup]", "sync.fatal", "sync/atomic.OrUint64", "sync/atomic.AddUint64", "internal/race.Read", "sync/atomic.LoadUint64", "sync/atomic.StoreUint64", "internal/synctest.Disassociate[sync.WaitGroup]", "sync.runtime_Semrelease", "(*sync.WaitGroup).Done", "(*internal/sync.Mutex).Lock", "sync/atomic.CompareAndSwapInt32", "internal/race.Acquire", "(*internal/sync.Mutex).lockSlow", "internal/sync.runtime_canSpin", "internal/sync.runtime_doSpin", "internal/sync.throw", "internal/sync.runtime_nanotime", "internal/sync.runtime_SemacquireMutex", "sync/atomic.AddInt32", "(*internal/sync.Mutex).Unlock", "(*internal/sync.Mutex).unlockSlow", "internal/sync.fatal", "internal/sync.runtime_Semrelease", "internal/reflectlite.TypeOf", "(*sync.WaitGroup).Wait", "internal/synctest.IsAssociated[sync.WaitGroup]", "sync/atomic.CompareAndSwapUint64", "internal/race.Write", "sync.runtime_SemacquireWaitGroup"], unfollowed := true, recurses := true, named := ["loop.example/workplans/impl.errTurn"], ifaces := true, leaving := true, apart := false, calm := true, outside := [.timePasses], laid := [("loop.example/workplans/impl.errTurn", laid_loop_example_workplans_impl_errTurn)] }
def FnScheduleOtherSaid : Prop := fnScheduleOtherRow.holds Tryz.pinned (OpenSpec.ofChange fnScheduleOtherSpec)

/-- ITS FALSE NEIGHBOUR: 'it returns false'. Refute it at one input. -/
def fnScheduleOtherWrong : ChangeSpec := { name := "fnScheduleOther", vars := ["loop.example/workplans/impl.errTurn"], fn := fun _ => fun
  | [d, g1] => { results := [.lit (.bool false)], args := [d], vars := [g1] }
  | _ => none }
def FnScheduleOtherWrongFalsely : Prop := fnScheduleOtherRow.holds Tryz.pinned (OpenSpec.ofChange fnScheduleOtherWrong)

/-- 'laws.FnExactScheduleAll': WHATEVER THE INPUT: true; the input reads as it did. -/
def fnExactScheduleAllSpec : ChangeSpec := { name := "fnExactScheduleAll", vars := ["loop.example/workplans/impl.errTurn"], fn := fun _ => fun
  | [d1, d2, d3, g1] => { results := [.lit (.bool true)], args := [d1, d2, d3], vars := [g1] }
  | _ => none }
def fnExactScheduleAllRow : OpenClaim := { program := "ytacemdoejblgaaagreatdoor", sum := "2c69c2a8db1df98c3dc4b186ebb9880625f7e552398111e8de5732168bbe9d6c", func := "loop.example/workplans/laws.FnExactScheduleAll", spec := "fnExactScheduleAll", inPlace := ["(*sync.WaitGroup).Add", "internal/race.ReleaseMerge", "internal/race.Disable", "internal/race.Enable", "internal/synctest.IsInBubble", "internal/synctest.Associate[sync.WaitGroup]", "sync.fatal", "sync/atomic.OrUint64", "sync/atomic.AddUint64", "internal/race.Read", "sync/atomic.LoadUint64", "sync/atomic.StoreUint64", "internal/synctest.Disassociate[sync.WaitGroup]", "sync.runtime_Semrelease", "(*sync.WaitGroup).Done", "(*internal/sync.Mutex).Lock", "sync/atomic.CompareAndSwapInt32", "internal/race.Acquire", "(*internal/sync.Mutex).lockSlow", "internal/sync.runtime_canSpin", "internal/sync.runtime_doSpin", "internal/sync.throw", "internal/sync.runtime_nanotime", "internal/sync.runtime_SemacquireMutex", "sync/atomic.AddInt32", "(*internal/sync.Mutex).Unlock", "(*internal/sync.Mutex).unlockSlow", "internal/sync.fatal", "internal/sync.runtime_Semrelease", "internal/reflectlite.TypeOf", "(*sync.WaitGroup).Wait", "internal/synctest.IsAssociated[sync.WaitGroup]", "sync/atomic.CompareAndSwapUint64", "internal/race.Write", "sync.runtime_SemacquireWaitGroup"], unfollowed := true, recurses := true, named := ["loop.example/workplans/impl.errTurn"], ifaces := true, leaving := true, apart := false, calm := true, outside := [.timePasses], laid := [("loop.example/workplans/impl.errTurn", laid_loop_example_workplans_impl_errTurn)] }
def FnExactScheduleAllSaid : Prop := fnExactScheduleAllRow.holds Tryz.pinned (OpenSpec.ofChange fnExactScheduleAllSpec)

/-- ITS FALSE NEIGHBOUR: 'it returns false'. Refute it at one input. -/
def fnExactScheduleAllWrong : ChangeSpec := { name := "fnExactScheduleAll", vars := ["loop.example/workplans/impl.errTurn"], fn := fun _ => fun
  | [d1, d2, d3, g1] => { results := [.lit (.bool false)], args := [d1, d2, d3], vars := [g1] }
  | _ => none }
def FnExactScheduleAllWrongFalsely : Prop := fnExactScheduleAllRow.holds Tryz.pinned (OpenSpec.ofChange fnExactScheduleAllWrong)

/-- 'laws.FnExactScheduleRun': WHATEVER THE INPUT: true; the input reads as it did. -/
def fnExactScheduleRunSpec : ChangeSpec := { name := "fnExactScheduleRun", vars := ["loop.example/workplans/impl.errTurn"], fn := fun _ => fun
  | [d1, d2, d3, g1] => { results := [.lit (.bool true)], args := [d1, d2, d3], vars := [g1] }
  | _ => none }
def fnExactScheduleRunRow : OpenClaim := { program := "ytacemdoejblgaaagreatdoor", sum := "2c69c2a8db1df98c3dc4b186ebb9880625f7e552398111e8de5732168bbe9d6c", func := "loop.example/workplans/laws.FnExactScheduleRun", spec := "fnExactScheduleRun", inPlace := ["(*sync.WaitGroup).Add", "internal/race.ReleaseMerge", "internal/race.Disable", "internal/race.Enable", "internal/synctest.IsInBubble", "internal/synctest.Associate[sync.WaitGroup]", "sync.fatal", "sync/atomic.OrUint64", "sync/atomic.AddUint64", "internal/race.Read", "sync/atomic.LoadUint64", "sync/atomic.StoreUint64", "internal/synctest.Disassociate[sync.WaitGroup]", "sync.runtime_Semrelease", "(*sync.WaitGroup).Done", "(*internal/sync.Mutex).Lock", "sync/atomic.CompareAndSwapInt32", "internal/race.Acquire", "(*internal/sync.Mutex).lockSlow", "internal/sync.runtime_canSpin", "internal/sync.runtime_doSpin", "internal/sync.throw", "internal/sync.runtime_nanotime", "internal/sync.runtime_SemacquireMutex", "sync/atomic.AddInt32", "(*internal/sync.Mutex).Unlock", "(*internal/sync.Mutex).unlockSlow", "internal/sync.fatal", "internal/sync.runtime_Semrelease", "internal/reflectlite.TypeOf", "(*sync.WaitGroup).Wait", "internal/synctest.IsAssociated[sync.WaitGroup]", "sync/atomic.CompareAndSwapUint64", "internal/race.Write", "sync.runtime_SemacquireWaitGroup"], unfollowed := true, recurses := true, named := ["loop.example/workplans/impl.errTurn"], ifaces := true, leaving := true, apart := false, calm := true, outside := [.timePasses], laid := [("loop.example/workplans/impl.errTurn", laid_loop_example_workplans_impl_errTurn)] }
def FnExactScheduleRunSaid : Prop := fnExactScheduleRunRow.holds Tryz.pinned (OpenSpec.ofChange fnExactScheduleRunSpec)

/-- ITS FALSE NEIGHBOUR: 'it returns false'. Refute it at one input. -/
def fnExactScheduleRunWrong : ChangeSpec := { name := "fnExactScheduleRun", vars := ["loop.example/workplans/impl.errTurn"], fn := fun _ => fun
  | [d1, d2, d3, g1] => { results := [.lit (.bool false)], args := [d1, d2, d3], vars := [g1] }
  | _ => none }
def FnExactScheduleRunWrongFalsely : Prop := fnExactScheduleRunRow.holds Tryz.pinned (OpenSpec.ofChange fnExactScheduleRunWrong)

end Rows
end Go.Proofs.YtacemdoejblgaaaGreatDoor
