/-
  No cell of these rows narrows 'for every input' (looked for: loops, veiled, ifaces, maps, wideKeys, modest, calm, conditions, laid).
  DERIVED. THE GIVEN ROWS OF THIS SEAT. 12 by the template 'for every input the law returns true; each argument reads behind the call as it read before'; 0 by the template 'total and deterministic' (their statements: YtmjfekgbbjojdacTotals.lean).
  GIVEN WITH THE SEED: the statements are not yours to turn. If you find one false, say at which input.
  Laid BY PROGRAM, IN A SANDBOX (cutbox-rows.mjs): the forced cells as the released guide's own fill.sh prints them over the translation a2372900e4a29f0d… (all of the seat's roots in one cut). By AI agents, Wed Nov 11 2026. No macro, syntax, notation, axiom, sorry.
-/
import Derived.Test.YtmjfekgbbjojdacChecked
import GoSem.Claim
import GoSem.ClaimJoined
import GoSem.ClaimMapViews
import Derived.JoinedTies
import Derived.KernelRfl
namespace Go.Proofs.Ytmjfekgbbjojdac
/- THE CELL 'sum', in the pinned program and in every row, IS THE sha256 OF THE DUMP (.gsa) THAT YtmjfekgbbjojdacProg.lean LOADS. Nothing in Lean hashes anything: it is a label: what it is worth is what the hold of that sum in a sandbox is worth. -/
noncomputable def Try.pinned : Pinned := { name := "ytmjfekgbbjojdac", sum := "a2372900e4a29f0ddd683568380a2e305fa351c0c195a13291518cee815a62ee", checked := Try.checked }
namespace Rows
def none {H : Type} : Left H := { results := [], args := [] }

/-- 'laws.FnExactColumnsOf': WHATEVER THE INPUT: true; the input reads as it did. -/
def fnExactColumnsOfSpec : ChangeSpec := { name := "fnExactColumnsOf", fn := fun _ => fun
  | [d1, d2] => { results := [.lit (.bool true)], args := [d1, d2] }
  | _ => none }
def fnExactColumnsOfRow : OpenClaim := { program := "ytmjfekgbbjojdac", sum := "a2372900e4a29f0ddd683568380a2e305fa351c0c195a13291518cee815a62ee", func := "loop.example/g01343/laws.FnExactColumnsOf", spec := "fnExactColumnsOf", unfollowed := true, recurses := true, apart := false }
def FnExactColumnsOfSaid : Prop := fnExactColumnsOfRow.holds Try.pinned (OpenSpec.ofChange fnExactColumnsOfSpec)

/-- ITS FALSE NEIGHBOUR: 'it returns false'. Refute it at one input. -/
def fnExactColumnsOfWrong : ChangeSpec := { name := "fnExactColumnsOf", fn := fun _ => fun
  | [d1, d2] => { results := [.lit (.bool false)], args := [d1, d2] }
  | _ => none }
def FnExactColumnsOfWrongFalsely : Prop := fnExactColumnsOfRow.holds Try.pinned (OpenSpec.ofChange fnExactColumnsOfWrong)

/-- 'laws.FnExactDeterminantOf': WHATEVER THE INPUT: true; the input reads as it did. -/
def fnExactDeterminantOfSpec : ChangeSpec := { name := "fnExactDeterminantOf", fn := fun _ => fun
  | [d1, d2] => { results := [.lit (.bool true)], args := [d1, d2] }
  | _ => none }
def fnExactDeterminantOfRow : OpenClaim := { program := "ytmjfekgbbjojdac", sum := "a2372900e4a29f0ddd683568380a2e305fa351c0c195a13291518cee815a62ee", func := "loop.example/g01343/laws.FnExactDeterminantOf", spec := "fnExactDeterminantOf", unfollowed := true, recurses := true, apart := false }
def FnExactDeterminantOfSaid : Prop := fnExactDeterminantOfRow.holds Try.pinned (OpenSpec.ofChange fnExactDeterminantOfSpec)

/-- ITS FALSE NEIGHBOUR: 'it returns false'. Refute it at one input. -/
def fnExactDeterminantOfWrong : ChangeSpec := { name := "fnExactDeterminantOf", fn := fun _ => fun
  | [d1, d2] => { results := [.lit (.bool false)], args := [d1, d2] }
  | _ => none }
def FnExactDeterminantOfWrongFalsely : Prop := fnExactDeterminantOfRow.holds Try.pinned (OpenSpec.ofChange fnExactDeterminantOfWrong)

/-- 'laws.FnExactPivotMinor': WHATEVER THE INPUT: true; the input reads as it did. -/
def fnExactPivotMinorSpec : ChangeSpec := { name := "fnExactPivotMinor", fn := fun _ => fun
  | [d1, d2, d3] => { results := [.lit (.bool true)], args := [d1, d2, d3] }
  | _ => none }
def fnExactPivotMinorRow : OpenClaim := { program := "ytmjfekgbbjojdac", sum := "a2372900e4a29f0ddd683568380a2e305fa351c0c195a13291518cee815a62ee", func := "loop.example/g01343/laws.FnExactPivotMinor", spec := "fnExactPivotMinor", unfollowed := true, recurses := true, apart := false }
def FnExactPivotMinorSaid : Prop := fnExactPivotMinorRow.holds Try.pinned (OpenSpec.ofChange fnExactPivotMinorSpec)

/-- ITS FALSE NEIGHBOUR: 'it returns false'. Refute it at one input. -/
def fnExactPivotMinorWrong : ChangeSpec := { name := "fnExactPivotMinor", fn := fun _ => fun
  | [d1, d2, d3] => { results := [.lit (.bool false)], args := [d1, d2, d3] }
  | _ => none }
def FnExactPivotMinorWrongFalsely : Prop := fnExactPivotMinorRow.holds Try.pinned (OpenSpec.ofChange fnExactPivotMinorWrong)

/-- 'laws.FnExactIsSolution': WHATEVER THE INPUT: true; the input reads as it did. -/
def fnExactIsSolutionSpec : ChangeSpec := { name := "fnExactIsSolution", fn := fun _ => fun
  | [d1, d2] => { results := [.lit (.bool true)], args := [d1, d2] }
  | _ => none }
def fnExactIsSolutionRow : OpenClaim := { program := "ytmjfekgbbjojdac", sum := "a2372900e4a29f0ddd683568380a2e305fa351c0c195a13291518cee815a62ee", func := "loop.example/g01343/laws.FnExactIsSolution", spec := "fnExactIsSolution", unfollowed := true, recurses := true, apart := false }
def FnExactIsSolutionSaid : Prop := fnExactIsSolutionRow.holds Try.pinned (OpenSpec.ofChange fnExactIsSolutionSpec)

/-- ITS FALSE NEIGHBOUR: 'it returns false'. Refute it at one input. -/
def fnExactIsSolutionWrong : ChangeSpec := { name := "fnExactIsSolution", fn := fun _ => fun
  | [d1, d2] => { results := [.lit (.bool false)], args := [d1, d2] }
  | _ => none }
def FnExactIsSolutionWrongFalsely : Prop := fnExactIsSolutionRow.holds Try.pinned (OpenSpec.ofChange fnExactIsSolutionWrong)

/-- 'laws.FnExactBasicSets': WHATEVER THE INPUT: true; the input reads as it did. -/
def fnExactBasicSetsSpec : ChangeSpec := { name := "fnExactBasicSets", fn := fun _ => fun
  | [d] => { results := [.lit (.bool true)], args := [d] }
  | _ => none }
def fnExactBasicSetsRow : OpenClaim := { program := "ytmjfekgbbjojdac", sum := "a2372900e4a29f0ddd683568380a2e305fa351c0c195a13291518cee815a62ee", func := "loop.example/g01343/laws.FnExactBasicSets", spec := "fnExactBasicSets", unfollowed := true, recurses := true, apart := false }
def FnExactBasicSetsSaid : Prop := fnExactBasicSetsRow.holds Try.pinned (OpenSpec.ofChange fnExactBasicSetsSpec)

/-- ITS FALSE NEIGHBOUR: 'it returns false'. Refute it at one input. -/
def fnExactBasicSetsWrong : ChangeSpec := { name := "fnExactBasicSets", fn := fun _ => fun
  | [d] => { results := [.lit (.bool false)], args := [d] }
  | _ => none }
def FnExactBasicSetsWrongFalsely : Prop := fnExactBasicSetsRow.holds Try.pinned (OpenSpec.ofChange fnExactBasicSetsWrong)

/-- 'laws.FnExactGapOf': WHATEVER THE INPUT: true; the input reads as it did. -/
def fnExactGapOfSpec : ChangeSpec := { name := "fnExactGapOf", fn := fun _ => fun
  | [d1, d2] => { results := [.lit (.bool true)], args := [d1, d2] }
  | _ => none }
def fnExactGapOfRow : OpenClaim := { program := "ytmjfekgbbjojdac", sum := "a2372900e4a29f0ddd683568380a2e305fa351c0c195a13291518cee815a62ee", func := "loop.example/g01343/laws.FnExactGapOf", spec := "fnExactGapOf", unfollowed := true, recurses := true, apart := false }
def FnExactGapOfSaid : Prop := fnExactGapOfRow.holds Try.pinned (OpenSpec.ofChange fnExactGapOfSpec)

/-- ITS FALSE NEIGHBOUR: 'it returns false'. Refute it at one input. -/
def fnExactGapOfWrong : ChangeSpec := { name := "fnExactGapOf", fn := fun _ => fun
  | [d1, d2] => { results := [.lit (.bool false)], args := [d1, d2] }
  | _ => none }
def FnExactGapOfWrongFalsely : Prop := fnExactGapOfRow.holds Try.pinned (OpenSpec.ofChange fnExactGapOfWrong)

/-- 'laws.FnExactIsDegenerate': WHATEVER THE INPUT: true; the input reads as it did. -/
def fnExactIsDegenerateSpec : ChangeSpec := { name := "fnExactIsDegenerate", fn := fun _ => fun
  | [d] => { results := [.lit (.bool true)], args := [d] }
  | _ => none }
def fnExactIsDegenerateRow : OpenClaim := { program := "ytmjfekgbbjojdac", sum := "a2372900e4a29f0ddd683568380a2e305fa351c0c195a13291518cee815a62ee", func := "loop.example/g01343/laws.FnExactIsDegenerate", spec := "fnExactIsDegenerate", unfollowed := true, recurses := true, apart := false }
def FnExactIsDegenerateSaid : Prop := fnExactIsDegenerateRow.holds Try.pinned (OpenSpec.ofChange fnExactIsDegenerateSpec)

/-- ITS FALSE NEIGHBOUR: 'it returns false'. Refute it at one input. -/
def fnExactIsDegenerateWrong : ChangeSpec := { name := "fnExactIsDegenerate", fn := fun _ => fun
  | [d] => { results := [.lit (.bool false)], args := [d] }
  | _ => none }
def FnExactIsDegenerateWrongFalsely : Prop := fnExactIsDegenerateRow.holds Try.pinned (OpenSpec.ofChange fnExactIsDegenerateWrong)

/-- 'laws.FnExactFeasibleSets': WHATEVER THE INPUT: true; the input reads as it did. -/
def fnExactFeasibleSetsSpec : ChangeSpec := { name := "fnExactFeasibleSets", fn := fun _ => fun
  | [d] => { results := [.lit (.bool true)], args := [d] }
  | _ => none }
def fnExactFeasibleSetsRow : OpenClaim := { program := "ytmjfekgbbjojdac", sum := "a2372900e4a29f0ddd683568380a2e305fa351c0c195a13291518cee815a62ee", func := "loop.example/g01343/laws.FnExactFeasibleSets", spec := "fnExactFeasibleSets", unfollowed := true, recurses := true, apart := false }
def FnExactFeasibleSetsSaid : Prop := fnExactFeasibleSetsRow.holds Try.pinned (OpenSpec.ofChange fnExactFeasibleSetsSpec)

/-- ITS FALSE NEIGHBOUR: 'it returns false'. Refute it at one input. -/
def fnExactFeasibleSetsWrong : ChangeSpec := { name := "fnExactFeasibleSets", fn := fun _ => fun
  | [d] => { results := [.lit (.bool false)], args := [d] }
  | _ => none }
def FnExactFeasibleSetsWrongFalsely : Prop := fnExactFeasibleSetsRow.holds Try.pinned (OpenSpec.ofChange fnExactFeasibleSetsWrong)

/-- 'laws.FnExactRemainderOf': WHATEVER THE INPUT: true; the input reads as it did. -/
def fnExactRemainderOfSpec : ChangeSpec := { name := "fnExactRemainderOf", fn := fun _ => fun
  | [d1, d2] => { results := [.lit (.bool true)], args := [d1, d2] }
  | _ => none }
def fnExactRemainderOfRow : OpenClaim := { program := "ytmjfekgbbjojdac", sum := "a2372900e4a29f0ddd683568380a2e305fa351c0c195a13291518cee815a62ee", func := "loop.example/g01343/laws.FnExactRemainderOf", spec := "fnExactRemainderOf", unfollowed := true, recurses := true, apart := false }
def FnExactRemainderOfSaid : Prop := fnExactRemainderOfRow.holds Try.pinned (OpenSpec.ofChange fnExactRemainderOfSpec)

/-- ITS FALSE NEIGHBOUR: 'it returns false'. Refute it at one input. -/
def fnExactRemainderOfWrong : ChangeSpec := { name := "fnExactRemainderOf", fn := fun _ => fun
  | [d1, d2] => { results := [.lit (.bool false)], args := [d1, d2] }
  | _ => none }
def FnExactRemainderOfWrongFalsely : Prop := fnExactRemainderOfRow.holds Try.pinned (OpenSpec.ofChange fnExactRemainderOfWrong)

/-- 'laws.FnExactSignsOfSet': WHATEVER THE INPUT: true; the input reads as it did. -/
def fnExactSignsOfSetSpec : ChangeSpec := { name := "fnExactSignsOfSet", fn := fun _ => fun
  | [d1, d2] => { results := [.lit (.bool true)], args := [d1, d2] }
  | _ => none }
def fnExactSignsOfSetRow : OpenClaim := { program := "ytmjfekgbbjojdac", sum := "a2372900e4a29f0ddd683568380a2e305fa351c0c195a13291518cee815a62ee", func := "loop.example/g01343/laws.FnExactSignsOfSet", spec := "fnExactSignsOfSet", unfollowed := true, recurses := true, apart := false }
def FnExactSignsOfSetSaid : Prop := fnExactSignsOfSetRow.holds Try.pinned (OpenSpec.ofChange fnExactSignsOfSetSpec)

/-- ITS FALSE NEIGHBOUR: 'it returns false'. Refute it at one input. -/
def fnExactSignsOfSetWrong : ChangeSpec := { name := "fnExactSignsOfSet", fn := fun _ => fun
  | [d1, d2] => { results := [.lit (.bool false)], args := [d1, d2] }
  | _ => none }
def FnExactSignsOfSetWrongFalsely : Prop := fnExactSignsOfSetRow.holds Try.pinned (OpenSpec.ofChange fnExactSignsOfSetWrong)

/-- 'laws.FnExactIsAllowed': WHATEVER THE INPUT: true; the input reads as it did. -/
def fnExactIsAllowedSpec : ChangeSpec := { name := "fnExactIsAllowed", fn := fun _ => fun
  | [d1, d2] => { results := [.lit (.bool true)], args := [d1, d2] }
  | _ => none }
def fnExactIsAllowedRow : OpenClaim := { program := "ytmjfekgbbjojdac", sum := "a2372900e4a29f0ddd683568380a2e305fa351c0c195a13291518cee815a62ee", func := "loop.example/g01343/laws.FnExactIsAllowed", spec := "fnExactIsAllowed", unfollowed := true, recurses := true, apart := false }
def FnExactIsAllowedSaid : Prop := fnExactIsAllowedRow.holds Try.pinned (OpenSpec.ofChange fnExactIsAllowedSpec)

/-- ITS FALSE NEIGHBOUR: 'it returns false'. Refute it at one input. -/
def fnExactIsAllowedWrong : ChangeSpec := { name := "fnExactIsAllowed", fn := fun _ => fun
  | [d1, d2] => { results := [.lit (.bool false)], args := [d1, d2] }
  | _ => none }
def FnExactIsAllowedWrongFalsely : Prop := fnExactIsAllowedRow.holds Try.pinned (OpenSpec.ofChange fnExactIsAllowedWrong)

/-- 'laws.FnExactPointOf': WHATEVER THE INPUT: true; the input reads as it did. -/
def fnExactPointOfSpec : ChangeSpec := { name := "fnExactPointOf", fn := fun _ => fun
  | [d1, d2] => { results := [.lit (.bool true)], args := [d1, d2] }
  | _ => none }
def fnExactPointOfRow : OpenClaim := { program := "ytmjfekgbbjojdac", sum := "a2372900e4a29f0ddd683568380a2e305fa351c0c195a13291518cee815a62ee", func := "loop.example/g01343/laws.FnExactPointOf", spec := "fnExactPointOf", unfollowed := true, recurses := true, apart := false }
def FnExactPointOfSaid : Prop := fnExactPointOfRow.holds Try.pinned (OpenSpec.ofChange fnExactPointOfSpec)

/-- ITS FALSE NEIGHBOUR: 'it returns false'. Refute it at one input. -/
def fnExactPointOfWrong : ChangeSpec := { name := "fnExactPointOf", fn := fun _ => fun
  | [d1, d2] => { results := [.lit (.bool false)], args := [d1, d2] }
  | _ => none }
def FnExactPointOfWrongFalsely : Prop := fnExactPointOfRow.holds Try.pinned (OpenSpec.ofChange fnExactPointOfWrong)

/- THE SECOND FORM. 'bulk': how many values and letters a reading holds, each counted each time it is reached (what is shared counts as often as it is met; a slice's spare places count too). A statement '..UptoSaid' is the law's where the arguments, and the package variables that the reading takes, are together of bulk at most 1048576: NARROWER than '..Said'. Prove '..Said' where nothing that the law and all that it calls make is longer than what came in: it says more and counts as full. Else prove '..UptoSaid'. A law counts once. -/
mutual
def uptoBulk {H : Type} : DataW H → Nat
  | .lit (.string bytes) => bytes.length + 1
  | .lit _ => 1
  | .nil => 1
  | .ptr d => uptoBulk d + 1
  | .slice elems spare => uptoBulkAll elems + uptoBulkAll spare + 1
  | .agg parts => uptoBulkAll parts + 1
  | .iface _ d => uptoBulk d + 1
  | .map entries => uptoBulkEntries entries + 1
  | .held _ => 1
def uptoBulkAll {H : Type} : List (DataW H) → Nat
  | [] => 0
  | d :: r => uptoBulk d + uptoBulkAll r
def uptoBulkEntries {H : Type} : List (Lit × DataW H) → Nat
  | [] => 0
  | x :: r => uptoBulkEntry x + uptoBulkEntries r
def uptoBulkEntry {H : Type} : Lit × DataW H → Nat
  | (.string bytes, d) => bytes.length + uptoBulk d + 1
  | (_, d) => uptoBulk d + 1
 end
def uptoSmall : (H : Type) → List (DataW H) → Bool := fun _ ds => decide (uptoBulkAll ds ≤ 1048576)
def OpenSpec.upto (s : _root_.Go.ChangeSpec) : _root_.Go.OpenSpec := { _root_.Go.OpenSpec.ofChange s with cond := some uptoSmall }

/-- 'laws.FnExactColumnsOf', WHERE WHAT IT READS IS OF BULK AT MOST 1048576: true; the input reads as it did. -/
def fnExactColumnsOfUptoRow : OpenClaim := { program := "ytmjfekgbbjojdac", sum := "a2372900e4a29f0ddd683568380a2e305fa351c0c195a13291518cee815a62ee", func := "loop.example/g01343/laws.FnExactColumnsOf", spec := "fnExactColumnsOf", unfollowed := true, recurses := true, apart := false, narrowed := true }
def FnExactColumnsOfUptoSaid : Prop := fnExactColumnsOfUptoRow.holds Try.pinned (OpenSpec.upto fnExactColumnsOfSpec)

/-- 'laws.FnExactDeterminantOf', WHERE WHAT IT READS IS OF BULK AT MOST 1048576: true; the input reads as it did. -/
def fnExactDeterminantOfUptoRow : OpenClaim := { program := "ytmjfekgbbjojdac", sum := "a2372900e4a29f0ddd683568380a2e305fa351c0c195a13291518cee815a62ee", func := "loop.example/g01343/laws.FnExactDeterminantOf", spec := "fnExactDeterminantOf", unfollowed := true, recurses := true, apart := false, narrowed := true }
def FnExactDeterminantOfUptoSaid : Prop := fnExactDeterminantOfUptoRow.holds Try.pinned (OpenSpec.upto fnExactDeterminantOfSpec)

/-- 'laws.FnExactPivotMinor', WHERE WHAT IT READS IS OF BULK AT MOST 1048576: true; the input reads as it did. -/
def fnExactPivotMinorUptoRow : OpenClaim := { program := "ytmjfekgbbjojdac", sum := "a2372900e4a29f0ddd683568380a2e305fa351c0c195a13291518cee815a62ee", func := "loop.example/g01343/laws.FnExactPivotMinor", spec := "fnExactPivotMinor", unfollowed := true, recurses := true, apart := false, narrowed := true }
def FnExactPivotMinorUptoSaid : Prop := fnExactPivotMinorUptoRow.holds Try.pinned (OpenSpec.upto fnExactPivotMinorSpec)

/-- 'laws.FnExactIsSolution', WHERE WHAT IT READS IS OF BULK AT MOST 1048576: true; the input reads as it did. -/
def fnExactIsSolutionUptoRow : OpenClaim := { program := "ytmjfekgbbjojdac", sum := "a2372900e4a29f0ddd683568380a2e305fa351c0c195a13291518cee815a62ee", func := "loop.example/g01343/laws.FnExactIsSolution", spec := "fnExactIsSolution", unfollowed := true, recurses := true, apart := false, narrowed := true }
def FnExactIsSolutionUptoSaid : Prop := fnExactIsSolutionUptoRow.holds Try.pinned (OpenSpec.upto fnExactIsSolutionSpec)

/-- 'laws.FnExactBasicSets', WHERE WHAT IT READS IS OF BULK AT MOST 1048576: true; the input reads as it did. -/
def fnExactBasicSetsUptoRow : OpenClaim := { program := "ytmjfekgbbjojdac", sum := "a2372900e4a29f0ddd683568380a2e305fa351c0c195a13291518cee815a62ee", func := "loop.example/g01343/laws.FnExactBasicSets", spec := "fnExactBasicSets", unfollowed := true, recurses := true, apart := false, narrowed := true }
def FnExactBasicSetsUptoSaid : Prop := fnExactBasicSetsUptoRow.holds Try.pinned (OpenSpec.upto fnExactBasicSetsSpec)

/-- 'laws.FnExactGapOf', WHERE WHAT IT READS IS OF BULK AT MOST 1048576: true; the input reads as it did. -/
def fnExactGapOfUptoRow : OpenClaim := { program := "ytmjfekgbbjojdac", sum := "a2372900e4a29f0ddd683568380a2e305fa351c0c195a13291518cee815a62ee", func := "loop.example/g01343/laws.FnExactGapOf", spec := "fnExactGapOf", unfollowed := true, recurses := true, apart := false, narrowed := true }
def FnExactGapOfUptoSaid : Prop := fnExactGapOfUptoRow.holds Try.pinned (OpenSpec.upto fnExactGapOfSpec)

/-- 'laws.FnExactIsDegenerate', WHERE WHAT IT READS IS OF BULK AT MOST 1048576: true; the input reads as it did. -/
def fnExactIsDegenerateUptoRow : OpenClaim := { program := "ytmjfekgbbjojdac", sum := "a2372900e4a29f0ddd683568380a2e305fa351c0c195a13291518cee815a62ee", func := "loop.example/g01343/laws.FnExactIsDegenerate", spec := "fnExactIsDegenerate", unfollowed := true, recurses := true, apart := false, narrowed := true }
def FnExactIsDegenerateUptoSaid : Prop := fnExactIsDegenerateUptoRow.holds Try.pinned (OpenSpec.upto fnExactIsDegenerateSpec)

/-- 'laws.FnExactFeasibleSets', WHERE WHAT IT READS IS OF BULK AT MOST 1048576: true; the input reads as it did. -/
def fnExactFeasibleSetsUptoRow : OpenClaim := { program := "ytmjfekgbbjojdac", sum := "a2372900e4a29f0ddd683568380a2e305fa351c0c195a13291518cee815a62ee", func := "loop.example/g01343/laws.FnExactFeasibleSets", spec := "fnExactFeasibleSets", unfollowed := true, recurses := true, apart := false, narrowed := true }
def FnExactFeasibleSetsUptoSaid : Prop := fnExactFeasibleSetsUptoRow.holds Try.pinned (OpenSpec.upto fnExactFeasibleSetsSpec)

/-- 'laws.FnExactRemainderOf', WHERE WHAT IT READS IS OF BULK AT MOST 1048576: true; the input reads as it did. -/
def fnExactRemainderOfUptoRow : OpenClaim := { program := "ytmjfekgbbjojdac", sum := "a2372900e4a29f0ddd683568380a2e305fa351c0c195a13291518cee815a62ee", func := "loop.example/g01343/laws.FnExactRemainderOf", spec := "fnExactRemainderOf", unfollowed := true, recurses := true, apart := false, narrowed := true }
def FnExactRemainderOfUptoSaid : Prop := fnExactRemainderOfUptoRow.holds Try.pinned (OpenSpec.upto fnExactRemainderOfSpec)

/-- 'laws.FnExactSignsOfSet', WHERE WHAT IT READS IS OF BULK AT MOST 1048576: true; the input reads as it did. -/
def fnExactSignsOfSetUptoRow : OpenClaim := { program := "ytmjfekgbbjojdac", sum := "a2372900e4a29f0ddd683568380a2e305fa351c0c195a13291518cee815a62ee", func := "loop.example/g01343/laws.FnExactSignsOfSet", spec := "fnExactSignsOfSet", unfollowed := true, recurses := true, apart := false, narrowed := true }
def FnExactSignsOfSetUptoSaid : Prop := fnExactSignsOfSetUptoRow.holds Try.pinned (OpenSpec.upto fnExactSignsOfSetSpec)

/-- 'laws.FnExactIsAllowed', WHERE WHAT IT READS IS OF BULK AT MOST 1048576: true; the input reads as it did. -/
def fnExactIsAllowedUptoRow : OpenClaim := { program := "ytmjfekgbbjojdac", sum := "a2372900e4a29f0ddd683568380a2e305fa351c0c195a13291518cee815a62ee", func := "loop.example/g01343/laws.FnExactIsAllowed", spec := "fnExactIsAllowed", unfollowed := true, recurses := true, apart := false, narrowed := true }
def FnExactIsAllowedUptoSaid : Prop := fnExactIsAllowedUptoRow.holds Try.pinned (OpenSpec.upto fnExactIsAllowedSpec)

/-- 'laws.FnExactPointOf', WHERE WHAT IT READS IS OF BULK AT MOST 1048576: true; the input reads as it did. -/
def fnExactPointOfUptoRow : OpenClaim := { program := "ytmjfekgbbjojdac", sum := "a2372900e4a29f0ddd683568380a2e305fa351c0c195a13291518cee815a62ee", func := "loop.example/g01343/laws.FnExactPointOf", spec := "fnExactPointOf", unfollowed := true, recurses := true, apart := false, narrowed := true }
def FnExactPointOfUptoSaid : Prop := fnExactPointOfUptoRow.holds Try.pinned (OpenSpec.upto fnExactPointOfSpec)

end Rows
end Go.Proofs.Ytmjfekgbbjojdac
