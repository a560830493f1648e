/-
  No cell of these rows narrows 'for every input' (looked for: loops, veiled, ifaces, maps, wideKeys, modest, calm, conditions, laid).
  DERIVED. THE GIVEN ROWS OF THIS SEAT. 20 by the template 'for every input the law returns true; each argument reads behind the call as it read before'; 0 by the template 'total and deterministic' (their statements: YtjlnhijabdkagaaTotals.lean).
  GIVEN WITH THE SEED: the statements are not yours to turn. If you find one false, say at which input.
  Laid BY PROGRAM, IN A SANDBOX (cutbox-rows.mjs): the forced cells as the released guide's own fill.sh prints them over the translation cd6a5364f7e272bc… (all of the seat's roots in one cut). By AI agents, Wed Nov 11 2026. No macro, syntax, notation, axiom, sorry.
-/
import Derived.Test.YtjlnhijabdkagaaChecked
import GoSem.Claim
import GoSem.ClaimJoined
import GoSem.ClaimMapViews
import Derived.JoinedTies
import Derived.KernelRfl
namespace Go.Proofs.Ytjlnhijabdkagaa
/- THE CELL 'sum', in the pinned program and in every row, IS THE sha256 OF THE DUMP (.gsa) THAT YtjlnhijabdkagaaProg.lean LOADS. Nothing in Lean hashes anything: it is a label: what it is worth is what the hold of that sum in a sandbox is worth. -/
noncomputable def Try.pinned : Pinned := { name := "ytjlnhijabdkagaa", sum := "cd6a5364f7e272bc2f005a0cb19a6e346838d05e5aac7be1509c15a341c9a5a1", checked := Try.checked }
namespace Rows
def none {H : Type} : Left H := { results := [], args := [] }

/-- 'laws.FnNeedsKinds': WHATEVER THE INPUT: true; the input reads as it did. -/
def fnNeedsKindsSpec : ChangeSpec := { name := "fnNeedsKinds", fn := fun _ => fun
  | [d] => { results := [.lit (.bool true)], args := [d] }
  | _ => none }
def fnNeedsKindsRow : OpenClaim := { program := "ytjlnhijabdkagaa", sum := "cd6a5364f7e272bc2f005a0cb19a6e346838d05e5aac7be1509c15a341c9a5a1", func := "loop.example/workplans/laws.FnNeedsKinds", spec := "fnNeedsKinds", unfollowed := true, recurses := true, apart := false }
def FnNeedsKindsSaid : Prop := fnNeedsKindsRow.holds Try.pinned (OpenSpec.ofChange fnNeedsKindsSpec)

/-- ITS FALSE NEIGHBOUR: 'it returns false'. Refute it at one input. -/
def fnNeedsKindsWrong : ChangeSpec := { name := "fnNeedsKinds", fn := fun _ => fun
  | [d] => { results := [.lit (.bool false)], args := [d] }
  | _ => none }
def FnNeedsKindsWrongFalsely : Prop := fnNeedsKindsRow.holds Try.pinned (OpenSpec.ofChange fnNeedsKindsWrong)

/-- 'laws.FnKinds': WHATEVER THE INPUT: true; the input reads as it did. -/
def fnKindsSpec : ChangeSpec := { name := "fnKinds", fn := fun _ => fun
  | [d] => { results := [.lit (.bool true)], args := [d] }
  | _ => none }
def fnKindsRow : OpenClaim := { program := "ytjlnhijabdkagaa", sum := "cd6a5364f7e272bc2f005a0cb19a6e346838d05e5aac7be1509c15a341c9a5a1", func := "loop.example/workplans/laws.FnKinds", spec := "fnKinds", unfollowed := true, recurses := true, apart := false }
def FnKindsSaid : Prop := fnKindsRow.holds Try.pinned (OpenSpec.ofChange fnKindsSpec)

/-- ITS FALSE NEIGHBOUR: 'it returns false'. Refute it at one input. -/
def fnKindsWrong : ChangeSpec := { name := "fnKinds", fn := fun _ => fun
  | [d] => { results := [.lit (.bool false)], args := [d] }
  | _ => none }
def FnKindsWrongFalsely : Prop := fnKindsRow.holds Try.pinned (OpenSpec.ofChange fnKindsWrong)

/-- 'laws.FnNeedsUsed': WHATEVER THE INPUT: true; the input reads as it did. -/
def fnNeedsUsedSpec : ChangeSpec := { name := "fnNeedsUsed", fn := fun _ => fun
  | [d] => { results := [.lit (.bool true)], args := [d] }
  | _ => none }
def fnNeedsUsedRow : OpenClaim := { program := "ytjlnhijabdkagaa", sum := "cd6a5364f7e272bc2f005a0cb19a6e346838d05e5aac7be1509c15a341c9a5a1", func := "loop.example/workplans/laws.FnNeedsUsed", spec := "fnNeedsUsed", unfollowed := true, recurses := true, apart := false }
def FnNeedsUsedSaid : Prop := fnNeedsUsedRow.holds Try.pinned (OpenSpec.ofChange fnNeedsUsedSpec)

/-- ITS FALSE NEIGHBOUR: 'it returns false'. Refute it at one input. -/
def fnNeedsUsedWrong : ChangeSpec := { name := "fnNeedsUsed", fn := fun _ => fun
  | [d] => { results := [.lit (.bool false)], args := [d] }
  | _ => none }
def FnNeedsUsedWrongFalsely : Prop := fnNeedsUsedRow.holds Try.pinned (OpenSpec.ofChange fnNeedsUsedWrong)

/-- 'laws.FnExactCountNeeds': WHATEVER THE INPUT: true; the input reads as it did. -/
def fnExactCountNeedsSpec : ChangeSpec := { name := "fnExactCountNeeds", fn := fun _ => fun
  | [d] => { results := [.lit (.bool true)], args := [d] }
  | _ => none }
def fnExactCountNeedsRow : OpenClaim := { program := "ytjlnhijabdkagaa", sum := "cd6a5364f7e272bc2f005a0cb19a6e346838d05e5aac7be1509c15a341c9a5a1", func := "loop.example/workplans/laws.FnExactCountNeeds", spec := "fnExactCountNeeds", unfollowed := true, recurses := true, apart := false }
def FnExactCountNeedsSaid : Prop := fnExactCountNeedsRow.holds Try.pinned (OpenSpec.ofChange fnExactCountNeedsSpec)

/-- ITS FALSE NEIGHBOUR: 'it returns false'. Refute it at one input. -/
def fnExactCountNeedsWrong : ChangeSpec := { name := "fnExactCountNeeds", fn := fun _ => fun
  | [d] => { results := [.lit (.bool false)], args := [d] }
  | _ => none }
def FnExactCountNeedsWrongFalsely : Prop := fnExactCountNeedsRow.holds Try.pinned (OpenSpec.ofChange fnExactCountNeedsWrong)

/-- 'laws.FnKindsCost': WHATEVER THE INPUT: true; the input reads as it did. -/
def fnKindsCostSpec : ChangeSpec := { name := "fnKindsCost", fn := fun _ => fun
  | [d] => { results := [.lit (.bool true)], args := [d] }
  | _ => none }
def fnKindsCostRow : OpenClaim := { program := "ytjlnhijabdkagaa", sum := "cd6a5364f7e272bc2f005a0cb19a6e346838d05e5aac7be1509c15a341c9a5a1", func := "loop.example/workplans/laws.FnKindsCost", spec := "fnKindsCost", unfollowed := true, recurses := true, apart := false }
def FnKindsCostSaid : Prop := fnKindsCostRow.holds Try.pinned (OpenSpec.ofChange fnKindsCostSpec)

/-- ITS FALSE NEIGHBOUR: 'it returns false'. Refute it at one input. -/
def fnKindsCostWrong : ChangeSpec := { name := "fnKindsCost", fn := fun _ => fun
  | [d] => { results := [.lit (.bool false)], args := [d] }
  | _ => none }
def FnKindsCostWrongFalsely : Prop := fnKindsCostRow.holds Try.pinned (OpenSpec.ofChange fnKindsCostWrong)

/-- 'laws.FnExactCountKinds': WHATEVER THE INPUT: true; the input reads as it did. -/
def fnExactCountKindsSpec : ChangeSpec := { name := "fnExactCountKinds", fn := fun _ => fun
  | [d] => { results := [.lit (.bool true)], args := [d] }
  | _ => none }
def fnExactCountKindsRow : OpenClaim := { program := "ytjlnhijabdkagaa", sum := "cd6a5364f7e272bc2f005a0cb19a6e346838d05e5aac7be1509c15a341c9a5a1", func := "loop.example/workplans/laws.FnExactCountKinds", spec := "fnExactCountKinds", unfollowed := true, recurses := true, apart := false }
def FnExactCountKindsSaid : Prop := fnExactCountKindsRow.holds Try.pinned (OpenSpec.ofChange fnExactCountKindsSpec)

/-- ITS FALSE NEIGHBOUR: 'it returns false'. Refute it at one input. -/
def fnExactCountKindsWrong : ChangeSpec := { name := "fnExactCountKinds", fn := fun _ => fun
  | [d] => { results := [.lit (.bool false)], args := [d] }
  | _ => none }
def FnExactCountKindsWrongFalsely : Prop := fnExactCountKindsRow.holds Try.pinned (OpenSpec.ofChange fnExactCountKindsWrong)

/-- 'laws.FnCachePart': WHATEVER THE INPUT: true; the input reads as it did. -/
def fnCachePartSpec : ChangeSpec := { name := "fnCachePart", fn := fun _ => fun
  | [d1, d2] => { results := [.lit (.bool true)], args := [d1, d2] }
  | _ => none }
def fnCachePartRow : OpenClaim := { program := "ytjlnhijabdkagaa", sum := "cd6a5364f7e272bc2f005a0cb19a6e346838d05e5aac7be1509c15a341c9a5a1", func := "loop.example/workplans/laws.FnCachePart", spec := "fnCachePart", unfollowed := true, recurses := true, apart := false }
def FnCachePartSaid : Prop := fnCachePartRow.holds Try.pinned (OpenSpec.ofChange fnCachePartSpec)

/-- ITS FALSE NEIGHBOUR: 'it returns false'. Refute it at one input. -/
def fnCachePartWrong : ChangeSpec := { name := "fnCachePart", fn := fun _ => fun
  | [d1, d2] => { results := [.lit (.bool false)], args := [d1, d2] }
  | _ => none }
def FnCachePartWrongFalsely : Prop := fnCachePartRow.holds Try.pinned (OpenSpec.ofChange fnCachePartWrong)

/-- 'laws.FnWide': WHATEVER THE INPUT: true; the input reads as it did. -/
def fnWideSpec : ChangeSpec := { name := "fnWide", fn := fun _ => fun
  | [d] => { results := [.lit (.bool true)], args := [d] }
  | _ => none }
def fnWideRow : OpenClaim := { program := "ytjlnhijabdkagaa", sum := "cd6a5364f7e272bc2f005a0cb19a6e346838d05e5aac7be1509c15a341c9a5a1", func := "loop.example/workplans/laws.FnWide", spec := "fnWide", unfollowed := true, recurses := true, apart := false }
def FnWideSaid : Prop := fnWideRow.holds Try.pinned (OpenSpec.ofChange fnWideSpec)

/-- ITS FALSE NEIGHBOUR: 'it returns false'. Refute it at one input. -/
def fnWideWrong : ChangeSpec := { name := "fnWide", fn := fun _ => fun
  | [d] => { results := [.lit (.bool false)], args := [d] }
  | _ => none }
def FnWideWrongFalsely : Prop := fnWideRow.holds Try.pinned (OpenSpec.ofChange fnWideWrong)

/-- 'laws.FnWideLevels': WHATEVER THE INPUT: true; the input reads as it did. -/
def fnWideLevelsSpec : ChangeSpec := { name := "fnWideLevels", fn := fun _ => fun
  | [d] => { results := [.lit (.bool true)], args := [d] }
  | _ => none }
def fnWideLevelsRow : OpenClaim := { program := "ytjlnhijabdkagaa", sum := "cd6a5364f7e272bc2f005a0cb19a6e346838d05e5aac7be1509c15a341c9a5a1", func := "loop.example/workplans/laws.FnWideLevels", spec := "fnWideLevels", unfollowed := true, recurses := true, apart := false }
def FnWideLevelsSaid : Prop := fnWideLevelsRow.holds Try.pinned (OpenSpec.ofChange fnWideLevelsSpec)

/-- ITS FALSE NEIGHBOUR: 'it returns false'. Refute it at one input. -/
def fnWideLevelsWrong : ChangeSpec := { name := "fnWideLevels", fn := fun _ => fun
  | [d] => { results := [.lit (.bool false)], args := [d] }
  | _ => none }
def FnWideLevelsWrongFalsely : Prop := fnWideLevelsRow.holds Try.pinned (OpenSpec.ofChange fnWideLevelsWrong)

/-- 'laws.FnExactCountWide': WHATEVER THE INPUT: true; the input reads as it did. -/
def fnExactCountWideSpec : ChangeSpec := { name := "fnExactCountWide", fn := fun _ => fun
  | [d] => { results := [.lit (.bool true)], args := [d] }
  | _ => none }
def fnExactCountWideRow : OpenClaim := { program := "ytjlnhijabdkagaa", sum := "cd6a5364f7e272bc2f005a0cb19a6e346838d05e5aac7be1509c15a341c9a5a1", func := "loop.example/workplans/laws.FnExactCountWide", spec := "fnExactCountWide", unfollowed := true, recurses := true, apart := false }
def FnExactCountWideSaid : Prop := fnExactCountWideRow.holds Try.pinned (OpenSpec.ofChange fnExactCountWideSpec)

/-- ITS FALSE NEIGHBOUR: 'it returns false'. Refute it at one input. -/
def fnExactCountWideWrong : ChangeSpec := { name := "fnExactCountWide", fn := fun _ => fun
  | [d] => { results := [.lit (.bool false)], args := [d] }
  | _ => none }
def FnExactCountWideWrongFalsely : Prop := fnExactCountWideRow.holds Try.pinned (OpenSpec.ofChange fnExactCountWideWrong)

/-- 'laws.FnCacheFind': WHATEVER THE INPUT: true; the input reads as it did. -/
def fnCacheFindSpec : ChangeSpec := { name := "fnCacheFind", fn := fun _ => fun
  | [d] => { results := [.lit (.bool true)], args := [d] }
  | _ => none }
def fnCacheFindRow : OpenClaim := { program := "ytjlnhijabdkagaa", sum := "cd6a5364f7e272bc2f005a0cb19a6e346838d05e5aac7be1509c15a341c9a5a1", func := "loop.example/workplans/laws.FnCacheFind", spec := "fnCacheFind", unfollowed := true, recurses := true, apart := false }
def FnCacheFindSaid : Prop := fnCacheFindRow.holds Try.pinned (OpenSpec.ofChange fnCacheFindSpec)

/-- ITS FALSE NEIGHBOUR: 'it returns false'. Refute it at one input. -/
def fnCacheFindWrong : ChangeSpec := { name := "fnCacheFind", fn := fun _ => fun
  | [d] => { results := [.lit (.bool false)], args := [d] }
  | _ => none }
def FnCacheFindWrongFalsely : Prop := fnCacheFindRow.holds Try.pinned (OpenSpec.ofChange fnCacheFindWrong)

/-- 'laws.FnExactCacheValid': WHATEVER THE INPUT: true; the input reads as it did. -/
def fnExactCacheValidSpec : ChangeSpec := { name := "fnExactCacheValid", fn := fun _ => fun
  | [d] => { results := [.lit (.bool true)], args := [d] }
  | _ => none }
def fnExactCacheValidRow : OpenClaim := { program := "ytjlnhijabdkagaa", sum := "cd6a5364f7e272bc2f005a0cb19a6e346838d05e5aac7be1509c15a341c9a5a1", func := "loop.example/workplans/laws.FnExactCacheValid", spec := "fnExactCacheValid", unfollowed := true, recurses := true, apart := false }
def FnExactCacheValidSaid : Prop := fnExactCacheValidRow.holds Try.pinned (OpenSpec.ofChange fnExactCacheValidSpec)

/-- ITS FALSE NEIGHBOUR: 'it returns false'. Refute it at one input. -/
def fnExactCacheValidWrong : ChangeSpec := { name := "fnExactCacheValid", fn := fun _ => fun
  | [d] => { results := [.lit (.bool false)], args := [d] }
  | _ => none }
def FnExactCacheValidWrongFalsely : Prop := fnExactCacheValidRow.holds Try.pinned (OpenSpec.ofChange fnExactCacheValidWrong)

/-- 'laws.FnWideRounds': WHATEVER THE INPUT: true; the input reads as it did. -/
def fnWideRoundsSpec : ChangeSpec := { name := "fnWideRounds", fn := fun _ => fun
  | [d] => { results := [.lit (.bool true)], args := [d] }
  | _ => none }
def fnWideRoundsRow : OpenClaim := { program := "ytjlnhijabdkagaa", sum := "cd6a5364f7e272bc2f005a0cb19a6e346838d05e5aac7be1509c15a341c9a5a1", func := "loop.example/workplans/laws.FnWideRounds", spec := "fnWideRounds", unfollowed := true, recurses := true, apart := false }
def FnWideRoundsSaid : Prop := fnWideRoundsRow.holds Try.pinned (OpenSpec.ofChange fnWideRoundsSpec)

/-- ITS FALSE NEIGHBOUR: 'it returns false'. Refute it at one input. -/
def fnWideRoundsWrong : ChangeSpec := { name := "fnWideRounds", fn := fun _ => fun
  | [d] => { results := [.lit (.bool false)], args := [d] }
  | _ => none }
def FnWideRoundsWrongFalsely : Prop := fnWideRoundsRow.holds Try.pinned (OpenSpec.ofChange fnWideRoundsWrong)

/-- 'laws.FnCacheHit': WHATEVER THE INPUT: true; the input reads as it did. -/
def fnCacheHitSpec : ChangeSpec := { name := "fnCacheHit", fn := fun _ => fun
  | [d] => { results := [.lit (.bool true)], args := [d] }
  | _ => none }
def fnCacheHitRow : OpenClaim := { program := "ytjlnhijabdkagaa", sum := "cd6a5364f7e272bc2f005a0cb19a6e346838d05e5aac7be1509c15a341c9a5a1", func := "loop.example/workplans/laws.FnCacheHit", spec := "fnCacheHit", unfollowed := true, recurses := true, apart := false }
def FnCacheHitSaid : Prop := fnCacheHitRow.holds Try.pinned (OpenSpec.ofChange fnCacheHitSpec)

/-- ITS FALSE NEIGHBOUR: 'it returns false'. Refute it at one input. -/
def fnCacheHitWrong : ChangeSpec := { name := "fnCacheHit", fn := fun _ => fun
  | [d] => { results := [.lit (.bool false)], args := [d] }
  | _ => none }
def FnCacheHitWrongFalsely : Prop := fnCacheHitRow.holds Try.pinned (OpenSpec.ofChange fnCacheHitWrong)

/-- 'laws.FnCacheOrder': WHATEVER THE INPUT: true; the input reads as it did. -/
def fnCacheOrderSpec : ChangeSpec := { name := "fnCacheOrder", fn := fun _ => fun
  | [d] => { results := [.lit (.bool true)], args := [d] }
  | _ => none }
def fnCacheOrderRow : OpenClaim := { program := "ytjlnhijabdkagaa", sum := "cd6a5364f7e272bc2f005a0cb19a6e346838d05e5aac7be1509c15a341c9a5a1", func := "loop.example/workplans/laws.FnCacheOrder", spec := "fnCacheOrder", unfollowed := true, recurses := true, apart := false }
def FnCacheOrderSaid : Prop := fnCacheOrderRow.holds Try.pinned (OpenSpec.ofChange fnCacheOrderSpec)

/-- ITS FALSE NEIGHBOUR: 'it returns false'. Refute it at one input. -/
def fnCacheOrderWrong : ChangeSpec := { name := "fnCacheOrder", fn := fun _ => fun
  | [d] => { results := [.lit (.bool false)], args := [d] }
  | _ => none }
def FnCacheOrderWrongFalsely : Prop := fnCacheOrderRow.holds Try.pinned (OpenSpec.ofChange fnCacheOrderWrong)

/-- 'laws.FnCacheRun': WHATEVER THE INPUT: true; the input reads as it did. -/
def fnCacheRunSpec : ChangeSpec := { name := "fnCacheRun", fn := fun _ => fun
  | [d] => { results := [.lit (.bool true)], args := [d] }
  | _ => none }
def fnCacheRunRow : OpenClaim := { program := "ytjlnhijabdkagaa", sum := "cd6a5364f7e272bc2f005a0cb19a6e346838d05e5aac7be1509c15a341c9a5a1", func := "loop.example/workplans/laws.FnCacheRun", spec := "fnCacheRun", unfollowed := true, recurses := true, apart := false }
def FnCacheRunSaid : Prop := fnCacheRunRow.holds Try.pinned (OpenSpec.ofChange fnCacheRunSpec)

/-- ITS FALSE NEIGHBOUR: 'it returns false'. Refute it at one input. -/
def fnCacheRunWrong : ChangeSpec := { name := "fnCacheRun", fn := fun _ => fun
  | [d] => { results := [.lit (.bool false)], args := [d] }
  | _ => none }
def FnCacheRunWrongFalsely : Prop := fnCacheRunRow.holds Try.pinned (OpenSpec.ofChange fnCacheRunWrong)

/-- 'laws.FnCacheSize': WHATEVER THE INPUT: true; the input reads as it did. -/
def fnCacheSizeSpec : ChangeSpec := { name := "fnCacheSize", fn := fun _ => fun
  | [d] => { results := [.lit (.bool true)], args := [d] }
  | _ => none }
def fnCacheSizeRow : OpenClaim := { program := "ytjlnhijabdkagaa", sum := "cd6a5364f7e272bc2f005a0cb19a6e346838d05e5aac7be1509c15a341c9a5a1", func := "loop.example/workplans/laws.FnCacheSize", spec := "fnCacheSize", unfollowed := true, recurses := true, apart := false }
def FnCacheSizeSaid : Prop := fnCacheSizeRow.holds Try.pinned (OpenSpec.ofChange fnCacheSizeSpec)

/-- ITS FALSE NEIGHBOUR: 'it returns false'. Refute it at one input. -/
def fnCacheSizeWrong : ChangeSpec := { name := "fnCacheSize", fn := fun _ => fun
  | [d] => { results := [.lit (.bool false)], args := [d] }
  | _ => none }
def FnCacheSizeWrongFalsely : Prop := fnCacheSizeRow.holds Try.pinned (OpenSpec.ofChange fnCacheSizeWrong)

/-- 'laws.FnCacheTwice': WHATEVER THE INPUT: true; the input reads as it did. -/
def fnCacheTwiceSpec : ChangeSpec := { name := "fnCacheTwice", fn := fun _ => fun
  | [d] => { results := [.lit (.bool true)], args := [d] }
  | _ => none }
def fnCacheTwiceRow : OpenClaim := { program := "ytjlnhijabdkagaa", sum := "cd6a5364f7e272bc2f005a0cb19a6e346838d05e5aac7be1509c15a341c9a5a1", func := "loop.example/workplans/laws.FnCacheTwice", spec := "fnCacheTwice", unfollowed := true, recurses := true, apart := false }
def FnCacheTwiceSaid : Prop := fnCacheTwiceRow.holds Try.pinned (OpenSpec.ofChange fnCacheTwiceSpec)

/-- ITS FALSE NEIGHBOUR: 'it returns false'. Refute it at one input. -/
def fnCacheTwiceWrong : ChangeSpec := { name := "fnCacheTwice", fn := fun _ => fun
  | [d] => { results := [.lit (.bool false)], args := [d] }
  | _ => none }
def FnCacheTwiceWrongFalsely : Prop := fnCacheTwiceRow.holds Try.pinned (OpenSpec.ofChange fnCacheTwiceWrong)

/-- 'laws.FnExactCacheFind': WHATEVER THE INPUT: true; the input reads as it did. -/
def fnExactCacheFindSpec : ChangeSpec := { name := "fnExactCacheFind", fn := fun _ => fun
  | [d1, d2, d3] => { results := [.lit (.bool true)], args := [d1, d2, d3] }
  | _ => none }
def fnExactCacheFindRow : OpenClaim := { program := "ytjlnhijabdkagaa", sum := "cd6a5364f7e272bc2f005a0cb19a6e346838d05e5aac7be1509c15a341c9a5a1", func := "loop.example/workplans/laws.FnExactCacheFind", spec := "fnExactCacheFind", unfollowed := true, recurses := true, apart := false }
def FnExactCacheFindSaid : Prop := fnExactCacheFindRow.holds Try.pinned (OpenSpec.ofChange fnExactCacheFindSpec)

/-- ITS FALSE NEIGHBOUR: 'it returns false'. Refute it at one input. -/
def fnExactCacheFindWrong : ChangeSpec := { name := "fnExactCacheFind", fn := fun _ => fun
  | [d1, d2, d3] => { results := [.lit (.bool false)], args := [d1, d2, d3] }
  | _ => none }
def FnExactCacheFindWrongFalsely : Prop := fnExactCacheFindRow.holds Try.pinned (OpenSpec.ofChange fnExactCacheFindWrong)

/-- 'laws.FnExactCacheRun': WHATEVER THE INPUT: true; the input reads as it did. -/
def fnExactCacheRunSpec : ChangeSpec := { name := "fnExactCacheRun", fn := fun _ => fun
  | [d1, d2, d3] => { results := [.lit (.bool true)], args := [d1, d2, d3] }
  | _ => none }
def fnExactCacheRunRow : OpenClaim := { program := "ytjlnhijabdkagaa", sum := "cd6a5364f7e272bc2f005a0cb19a6e346838d05e5aac7be1509c15a341c9a5a1", func := "loop.example/workplans/laws.FnExactCacheRun", spec := "fnExactCacheRun", unfollowed := true, recurses := true, apart := false }
def FnExactCacheRunSaid : Prop := fnExactCacheRunRow.holds Try.pinned (OpenSpec.ofChange fnExactCacheRunSpec)

/-- ITS FALSE NEIGHBOUR: 'it returns false'. Refute it at one input. -/
def fnExactCacheRunWrong : ChangeSpec := { name := "fnExactCacheRun", fn := fun _ => fun
  | [d1, d2, d3] => { results := [.lit (.bool false)], args := [d1, d2, d3] }
  | _ => none }
def FnExactCacheRunWrongFalsely : Prop := fnExactCacheRunRow.holds Try.pinned (OpenSpec.ofChange fnExactCacheRunWrong)

/- THE SECOND FORM. 'bulk': how many values and letters a reading holds, each counted each time it is reached (what is shared counts as often as it is met; a slice's spare places count too). A statement '..UptoSaid' is the law's where the arguments, and the package variables that the reading takes, are together of bulk at most 1048576: NARROWER than '..Said'. Prove '..Said' where nothing that the law and all that it calls make is longer than what came in: it says more and counts as full. Else prove '..UptoSaid'. A law counts once. -/
mutual
def uptoBulk {H : Type} : DataW H → Nat
  | .lit (.string bytes) => bytes.length + 1
  | .lit _ => 1
  | .nil => 1
  | .ptr d => uptoBulk d + 1
  | .slice elems spare => uptoBulkAll elems + uptoBulkAll spare + 1
  | .agg parts => uptoBulkAll parts + 1
  | .iface _ d => uptoBulk d + 1
  | .map entries => uptoBulkEntries entries + 1
  | .held _ => 1
def uptoBulkAll {H : Type} : List (DataW H) → Nat
  | [] => 0
  | d :: r => uptoBulk d + uptoBulkAll r
def uptoBulkEntries {H : Type} : List (Lit × DataW H) → Nat
  | [] => 0
  | x :: r => uptoBulkEntry x + uptoBulkEntries r
def uptoBulkEntry {H : Type} : Lit × DataW H → Nat
  | (.string bytes, d) => bytes.length + uptoBulk d + 1
  | (_, d) => uptoBulk d + 1
 end
def uptoSmall : (H : Type) → List (DataW H) → Bool := fun _ ds => decide (uptoBulkAll ds ≤ 1048576)
def OpenSpec.upto (s : _root_.Go.ChangeSpec) : _root_.Go.OpenSpec := { _root_.Go.OpenSpec.ofChange s with cond := some uptoSmall }

/-- 'laws.FnNeedsKinds', WHERE WHAT IT READS IS OF BULK AT MOST 1048576: true; the input reads as it did. -/
def fnNeedsKindsUptoRow : OpenClaim := { program := "ytjlnhijabdkagaa", sum := "cd6a5364f7e272bc2f005a0cb19a6e346838d05e5aac7be1509c15a341c9a5a1", func := "loop.example/workplans/laws.FnNeedsKinds", spec := "fnNeedsKinds", unfollowed := true, recurses := true, apart := false, narrowed := true }
def FnNeedsKindsUptoSaid : Prop := fnNeedsKindsUptoRow.holds Try.pinned (OpenSpec.upto fnNeedsKindsSpec)

/-- 'laws.FnKinds', WHERE WHAT IT READS IS OF BULK AT MOST 1048576: true; the input reads as it did. -/
def fnKindsUptoRow : OpenClaim := { program := "ytjlnhijabdkagaa", sum := "cd6a5364f7e272bc2f005a0cb19a6e346838d05e5aac7be1509c15a341c9a5a1", func := "loop.example/workplans/laws.FnKinds", spec := "fnKinds", unfollowed := true, recurses := true, apart := false, narrowed := true }
def FnKindsUptoSaid : Prop := fnKindsUptoRow.holds Try.pinned (OpenSpec.upto fnKindsSpec)

/-- 'laws.FnNeedsUsed', WHERE WHAT IT READS IS OF BULK AT MOST 1048576: true; the input reads as it did. -/
def fnNeedsUsedUptoRow : OpenClaim := { program := "ytjlnhijabdkagaa", sum := "cd6a5364f7e272bc2f005a0cb19a6e346838d05e5aac7be1509c15a341c9a5a1", func := "loop.example/workplans/laws.FnNeedsUsed", spec := "fnNeedsUsed", unfollowed := true, recurses := true, apart := false, narrowed := true }
def FnNeedsUsedUptoSaid : Prop := fnNeedsUsedUptoRow.holds Try.pinned (OpenSpec.upto fnNeedsUsedSpec)

/-- 'laws.FnExactCountNeeds', WHERE WHAT IT READS IS OF BULK AT MOST 1048576: true; the input reads as it did. -/
def fnExactCountNeedsUptoRow : OpenClaim := { program := "ytjlnhijabdkagaa", sum := "cd6a5364f7e272bc2f005a0cb19a6e346838d05e5aac7be1509c15a341c9a5a1", func := "loop.example/workplans/laws.FnExactCountNeeds", spec := "fnExactCountNeeds", unfollowed := true, recurses := true, apart := false, narrowed := true }
def FnExactCountNeedsUptoSaid : Prop := fnExactCountNeedsUptoRow.holds Try.pinned (OpenSpec.upto fnExactCountNeedsSpec)

/-- 'laws.FnKindsCost', WHERE WHAT IT READS IS OF BULK AT MOST 1048576: true; the input reads as it did. -/
def fnKindsCostUptoRow : OpenClaim := { program := "ytjlnhijabdkagaa", sum := "cd6a5364f7e272bc2f005a0cb19a6e346838d05e5aac7be1509c15a341c9a5a1", func := "loop.example/workplans/laws.FnKindsCost", spec := "fnKindsCost", unfollowed := true, recurses := true, apart := false, narrowed := true }
def FnKindsCostUptoSaid : Prop := fnKindsCostUptoRow.holds Try.pinned (OpenSpec.upto fnKindsCostSpec)

/-- 'laws.FnExactCountKinds', WHERE WHAT IT READS IS OF BULK AT MOST 1048576: true; the input reads as it did. -/
def fnExactCountKindsUptoRow : OpenClaim := { program := "ytjlnhijabdkagaa", sum := "cd6a5364f7e272bc2f005a0cb19a6e346838d05e5aac7be1509c15a341c9a5a1", func := "loop.example/workplans/laws.FnExactCountKinds", spec := "fnExactCountKinds", unfollowed := true, recurses := true, apart := false, narrowed := true }
def FnExactCountKindsUptoSaid : Prop := fnExactCountKindsUptoRow.holds Try.pinned (OpenSpec.upto fnExactCountKindsSpec)

/-- 'laws.FnCachePart', WHERE WHAT IT READS IS OF BULK AT MOST 1048576: true; the input reads as it did. -/
def fnCachePartUptoRow : OpenClaim := { program := "ytjlnhijabdkagaa", sum := "cd6a5364f7e272bc2f005a0cb19a6e346838d05e5aac7be1509c15a341c9a5a1", func := "loop.example/workplans/laws.FnCachePart", spec := "fnCachePart", unfollowed := true, recurses := true, apart := false, narrowed := true }
def FnCachePartUptoSaid : Prop := fnCachePartUptoRow.holds Try.pinned (OpenSpec.upto fnCachePartSpec)

/-- 'laws.FnWide', WHERE WHAT IT READS IS OF BULK AT MOST 1048576: true; the input reads as it did. -/
def fnWideUptoRow : OpenClaim := { program := "ytjlnhijabdkagaa", sum := "cd6a5364f7e272bc2f005a0cb19a6e346838d05e5aac7be1509c15a341c9a5a1", func := "loop.example/workplans/laws.FnWide", spec := "fnWide", unfollowed := true, recurses := true, apart := false, narrowed := true }
def FnWideUptoSaid : Prop := fnWideUptoRow.holds Try.pinned (OpenSpec.upto fnWideSpec)

/-- 'laws.FnWideLevels', WHERE WHAT IT READS IS OF BULK AT MOST 1048576: true; the input reads as it did. -/
def fnWideLevelsUptoRow : OpenClaim := { program := "ytjlnhijabdkagaa", sum := "cd6a5364f7e272bc2f005a0cb19a6e346838d05e5aac7be1509c15a341c9a5a1", func := "loop.example/workplans/laws.FnWideLevels", spec := "fnWideLevels", unfollowed := true, recurses := true, apart := false, narrowed := true }
def FnWideLevelsUptoSaid : Prop := fnWideLevelsUptoRow.holds Try.pinned (OpenSpec.upto fnWideLevelsSpec)

/-- 'laws.FnExactCountWide', WHERE WHAT IT READS IS OF BULK AT MOST 1048576: true; the input reads as it did. -/
def fnExactCountWideUptoRow : OpenClaim := { program := "ytjlnhijabdkagaa", sum := "cd6a5364f7e272bc2f005a0cb19a6e346838d05e5aac7be1509c15a341c9a5a1", func := "loop.example/workplans/laws.FnExactCountWide", spec := "fnExactCountWide", unfollowed := true, recurses := true, apart := false, narrowed := true }
def FnExactCountWideUptoSaid : Prop := fnExactCountWideUptoRow.holds Try.pinned (OpenSpec.upto fnExactCountWideSpec)

/-- 'laws.FnCacheFind', WHERE WHAT IT READS IS OF BULK AT MOST 1048576: true; the input reads as it did. -/
def fnCacheFindUptoRow : OpenClaim := { program := "ytjlnhijabdkagaa", sum := "cd6a5364f7e272bc2f005a0cb19a6e346838d05e5aac7be1509c15a341c9a5a1", func := "loop.example/workplans/laws.FnCacheFind", spec := "fnCacheFind", unfollowed := true, recurses := true, apart := false, narrowed := true }
def FnCacheFindUptoSaid : Prop := fnCacheFindUptoRow.holds Try.pinned (OpenSpec.upto fnCacheFindSpec)

/-- 'laws.FnExactCacheValid', WHERE WHAT IT READS IS OF BULK AT MOST 1048576: true; the input reads as it did. -/
def fnExactCacheValidUptoRow : OpenClaim := { program := "ytjlnhijabdkagaa", sum := "cd6a5364f7e272bc2f005a0cb19a6e346838d05e5aac7be1509c15a341c9a5a1", func := "loop.example/workplans/laws.FnExactCacheValid", spec := "fnExactCacheValid", unfollowed := true, recurses := true, apart := false, narrowed := true }
def FnExactCacheValidUptoSaid : Prop := fnExactCacheValidUptoRow.holds Try.pinned (OpenSpec.upto fnExactCacheValidSpec)

/-- 'laws.FnWideRounds', WHERE WHAT IT READS IS OF BULK AT MOST 1048576: true; the input reads as it did. -/
def fnWideRoundsUptoRow : OpenClaim := { program := "ytjlnhijabdkagaa", sum := "cd6a5364f7e272bc2f005a0cb19a6e346838d05e5aac7be1509c15a341c9a5a1", func := "loop.example/workplans/laws.FnWideRounds", spec := "fnWideRounds", unfollowed := true, recurses := true, apart := false, narrowed := true }
def FnWideRoundsUptoSaid : Prop := fnWideRoundsUptoRow.holds Try.pinned (OpenSpec.upto fnWideRoundsSpec)

/-- 'laws.FnCacheHit', WHERE WHAT IT READS IS OF BULK AT MOST 1048576: true; the input reads as it did. -/
def fnCacheHitUptoRow : OpenClaim := { program := "ytjlnhijabdkagaa", sum := "cd6a5364f7e272bc2f005a0cb19a6e346838d05e5aac7be1509c15a341c9a5a1", func := "loop.example/workplans/laws.FnCacheHit", spec := "fnCacheHit", unfollowed := true, recurses := true, apart := false, narrowed := true }
def FnCacheHitUptoSaid : Prop := fnCacheHitUptoRow.holds Try.pinned (OpenSpec.upto fnCacheHitSpec)

/-- 'laws.FnCacheOrder', WHERE WHAT IT READS IS OF BULK AT MOST 1048576: true; the input reads as it did. -/
def fnCacheOrderUptoRow : OpenClaim := { program := "ytjlnhijabdkagaa", sum := "cd6a5364f7e272bc2f005a0cb19a6e346838d05e5aac7be1509c15a341c9a5a1", func := "loop.example/workplans/laws.FnCacheOrder", spec := "fnCacheOrder", unfollowed := true, recurses := true, apart := false, narrowed := true }
def FnCacheOrderUptoSaid : Prop := fnCacheOrderUptoRow.holds Try.pinned (OpenSpec.upto fnCacheOrderSpec)

/-- 'laws.FnCacheRun', WHERE WHAT IT READS IS OF BULK AT MOST 1048576: true; the input reads as it did. -/
def fnCacheRunUptoRow : OpenClaim := { program := "ytjlnhijabdkagaa", sum := "cd6a5364f7e272bc2f005a0cb19a6e346838d05e5aac7be1509c15a341c9a5a1", func := "loop.example/workplans/laws.FnCacheRun", spec := "fnCacheRun", unfollowed := true, recurses := true, apart := false, narrowed := true }
def FnCacheRunUptoSaid : Prop := fnCacheRunUptoRow.holds Try.pinned (OpenSpec.upto fnCacheRunSpec)

/-- 'laws.FnCacheSize', WHERE WHAT IT READS IS OF BULK AT MOST 1048576: true; the input reads as it did. -/
def fnCacheSizeUptoRow : OpenClaim := { program := "ytjlnhijabdkagaa", sum := "cd6a5364f7e272bc2f005a0cb19a6e346838d05e5aac7be1509c15a341c9a5a1", func := "loop.example/workplans/laws.FnCacheSize", spec := "fnCacheSize", unfollowed := true, recurses := true, apart := false, narrowed := true }
def FnCacheSizeUptoSaid : Prop := fnCacheSizeUptoRow.holds Try.pinned (OpenSpec.upto fnCacheSizeSpec)

/-- 'laws.FnCacheTwice', WHERE WHAT IT READS IS OF BULK AT MOST 1048576: true; the input reads as it did. -/
def fnCacheTwiceUptoRow : OpenClaim := { program := "ytjlnhijabdkagaa", sum := "cd6a5364f7e272bc2f005a0cb19a6e346838d05e5aac7be1509c15a341c9a5a1", func := "loop.example/workplans/laws.FnCacheTwice", spec := "fnCacheTwice", unfollowed := true, recurses := true, apart := false, narrowed := true }
def FnCacheTwiceUptoSaid : Prop := fnCacheTwiceUptoRow.holds Try.pinned (OpenSpec.upto fnCacheTwiceSpec)

/-- 'laws.FnExactCacheFind', WHERE WHAT IT READS IS OF BULK AT MOST 1048576: true; the input reads as it did. -/
def fnExactCacheFindUptoRow : OpenClaim := { program := "ytjlnhijabdkagaa", sum := "cd6a5364f7e272bc2f005a0cb19a6e346838d05e5aac7be1509c15a341c9a5a1", func := "loop.example/workplans/laws.FnExactCacheFind", spec := "fnExactCacheFind", unfollowed := true, recurses := true, apart := false, narrowed := true }
def FnExactCacheFindUptoSaid : Prop := fnExactCacheFindUptoRow.holds Try.pinned (OpenSpec.upto fnExactCacheFindSpec)

/-- 'laws.FnExactCacheRun', WHERE WHAT IT READS IS OF BULK AT MOST 1048576: true; the input reads as it did. -/
def fnExactCacheRunUptoRow : OpenClaim := { program := "ytjlnhijabdkagaa", sum := "cd6a5364f7e272bc2f005a0cb19a6e346838d05e5aac7be1509c15a341c9a5a1", func := "loop.example/workplans/laws.FnExactCacheRun", spec := "fnExactCacheRun", unfollowed := true, recurses := true, apart := false, narrowed := true }
def FnExactCacheRunUptoSaid : Prop := fnExactCacheRunUptoRow.holds Try.pinned (OpenSpec.upto fnExactCacheRunSpec)

end Rows
end Go.Proofs.Ytjlnhijabdkagaa
