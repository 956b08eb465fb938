/-
  No cell of these rows narrows 'for every input' (looked for: loops, veiled, ifaces, maps, wideKeys, modest, calm, conditions, laid).
  DERIVED. THE GIVEN ROWS OF THIS SEAT. 12 by the template 'for every input the law returns true; each argument reads behind the call as it read before'; 0 by the template 'total and deterministic' (their statements: YtmjfekgbbjojdabTotals.lean).
  GIVEN WITH THE SEED: the statements are not yours to turn. If you find one false, say at which input.
  Laid BY PROGRAM, IN A SANDBOX (cutbox-rows.mjs): the forced cells as the released guide's own fill.sh prints them over the translation e00d854a60cc34c8… (all of the seat's roots in one cut). By AI agents, Wed Nov 11 2026. No macro, syntax, notation, axiom, sorry.
-/
import Derived.Test.YtmjfekgbbjojdabChecked
import GoSem.Claim
import GoSem.ClaimJoined
import GoSem.ClaimMapViews
import Derived.JoinedTies
import Derived.KernelRfl
namespace Go.Proofs.Ytmjfekgbbjojdab
/- THE CELL 'sum', in the pinned program and in every row, IS THE sha256 OF THE DUMP (.gsa) THAT YtmjfekgbbjojdabProg.lean LOADS. Nothing in Lean hashes anything: it is a label: what it is worth is what the hold of that sum in a sandbox is worth. -/
noncomputable def Try.pinned : Pinned := { name := "ytmjfekgbbjojdab", sum := "e00d854a60cc34c8dd27ff9da7cbe01430aead85b8effa00b60d1f19fe8c9f9f", checked := Try.checked }
namespace Rows
def none {H : Type} : Left H := { results := [], args := [] }

/-- 'laws.FnExactSignsOf': WHATEVER THE INPUT: true; the input reads as it did. -/
def fnExactSignsOfSpec : ChangeSpec := { name := "fnExactSignsOf", fn := fun _ => fun
  | [d] => { results := [.lit (.bool true)], args := [d] }
  | _ => none }
def fnExactSignsOfRow : OpenClaim := { program := "ytmjfekgbbjojdab", sum := "e00d854a60cc34c8dd27ff9da7cbe01430aead85b8effa00b60d1f19fe8c9f9f", func := "loop.example/g01343/laws.FnExactSignsOf", spec := "fnExactSignsOf", unfollowed := true, recurses := true, apart := false }
def FnExactSignsOfSaid : Prop := fnExactSignsOfRow.holds Try.pinned (OpenSpec.ofChange fnExactSignsOfSpec)

/-- ITS FALSE NEIGHBOUR: 'it returns false'. Refute it at one input. -/
def fnExactSignsOfWrong : ChangeSpec := { name := "fnExactSignsOf", fn := fun _ => fun
  | [d] => { results := [.lit (.bool false)], args := [d] }
  | _ => none }
def FnExactSignsOfWrongFalsely : Prop := fnExactSignsOfRow.holds Try.pinned (OpenSpec.ofChange fnExactSignsOfWrong)

/-- 'laws.FnExactSymmetricPart': WHATEVER THE INPUT: true; the input reads as it did. -/
def fnExactSymmetricPartSpec : ChangeSpec := { name := "fnExactSymmetricPart", fn := fun _ => fun
  | [d] => { results := [.lit (.bool true)], args := [d] }
  | _ => none }
def fnExactSymmetricPartRow : OpenClaim := { program := "ytmjfekgbbjojdab", sum := "e00d854a60cc34c8dd27ff9da7cbe01430aead85b8effa00b60d1f19fe8c9f9f", func := "loop.example/g01343/laws.FnExactSymmetricPart", spec := "fnExactSymmetricPart", unfollowed := true, recurses := true, apart := false }
def FnExactSymmetricPartSaid : Prop := fnExactSymmetricPartRow.holds Try.pinned (OpenSpec.ofChange fnExactSymmetricPartSpec)

/-- ITS FALSE NEIGHBOUR: 'it returns false'. Refute it at one input. -/
def fnExactSymmetricPartWrong : ChangeSpec := { name := "fnExactSymmetricPart", fn := fun _ => fun
  | [d] => { results := [.lit (.bool false)], args := [d] }
  | _ => none }
def FnExactSymmetricPartWrongFalsely : Prop := fnExactSymmetricPartRow.holds Try.pinned (OpenSpec.ofChange fnExactSymmetricPartWrong)

/-- 'laws.FnExactComparisonOf': WHATEVER THE INPUT: true; the input reads as it did. -/
def fnExactComparisonOfSpec : ChangeSpec := { name := "fnExactComparisonOf", fn := fun _ => fun
  | [d] => { results := [.lit (.bool true)], args := [d] }
  | _ => none }
def fnExactComparisonOfRow : OpenClaim := { program := "ytmjfekgbbjojdab", sum := "e00d854a60cc34c8dd27ff9da7cbe01430aead85b8effa00b60d1f19fe8c9f9f", func := "loop.example/g01343/laws.FnExactComparisonOf", spec := "fnExactComparisonOf", unfollowed := true, recurses := true, apart := false }
def FnExactComparisonOfSaid : Prop := fnExactComparisonOfRow.holds Try.pinned (OpenSpec.ofChange fnExactComparisonOfSpec)

/-- ITS FALSE NEIGHBOUR: 'it returns false'. Refute it at one input. -/
def fnExactComparisonOfWrong : ChangeSpec := { name := "fnExactComparisonOf", fn := fun _ => fun
  | [d] => { results := [.lit (.bool false)], args := [d] }
  | _ => none }
def FnExactComparisonOfWrongFalsely : Prop := fnExactComparisonOfRow.holds Try.pinned (OpenSpec.ofChange fnExactComparisonOfWrong)

/-- 'laws.FnExactMinorOf': WHATEVER THE INPUT: true; the input reads as it did. -/
def fnExactMinorOfSpec : ChangeSpec := { name := "fnExactMinorOf", fn := fun _ => fun
  | [d1, d2] => { results := [.lit (.bool true)], args := [d1, d2] }
  | _ => none }
def fnExactMinorOfRow : OpenClaim := { program := "ytmjfekgbbjojdab", sum := "e00d854a60cc34c8dd27ff9da7cbe01430aead85b8effa00b60d1f19fe8c9f9f", func := "loop.example/g01343/laws.FnExactMinorOf", spec := "fnExactMinorOf", unfollowed := true, recurses := true, apart := false }
def FnExactMinorOfSaid : Prop := fnExactMinorOfRow.holds Try.pinned (OpenSpec.ofChange fnExactMinorOfSpec)

/-- ITS FALSE NEIGHBOUR: 'it returns false'. Refute it at one input. -/
def fnExactMinorOfWrong : ChangeSpec := { name := "fnExactMinorOf", fn := fun _ => fun
  | [d1, d2] => { results := [.lit (.bool false)], args := [d1, d2] }
  | _ => none }
def FnExactMinorOfWrongFalsely : Prop := fnExactMinorOfRow.holds Try.pinned (OpenSpec.ofChange fnExactMinorOfWrong)

/-- 'laws.FnExactMinorBy': WHATEVER THE INPUT: true; the input reads as it did. -/
def fnExactMinorBySpec : ChangeSpec := { name := "fnExactMinorBy", fn := fun _ => fun
  | [d1, d2, d3] => { results := [.lit (.bool true)], args := [d1, d2, d3] }
  | _ => none }
def fnExactMinorByRow : OpenClaim := { program := "ytmjfekgbbjojdab", sum := "e00d854a60cc34c8dd27ff9da7cbe01430aead85b8effa00b60d1f19fe8c9f9f", func := "loop.example/g01343/laws.FnExactMinorBy", spec := "fnExactMinorBy", unfollowed := true, recurses := true, apart := false }
def FnExactMinorBySaid : Prop := fnExactMinorByRow.holds Try.pinned (OpenSpec.ofChange fnExactMinorBySpec)

/-- ITS FALSE NEIGHBOUR: 'it returns false'. Refute it at one input. -/
def fnExactMinorByWrong : ChangeSpec := { name := "fnExactMinorBy", fn := fun _ => fun
  | [d1, d2, d3] => { results := [.lit (.bool false)], args := [d1, d2, d3] }
  | _ => none }
def FnExactMinorByWrongFalsely : Prop := fnExactMinorByRow.holds Try.pinned (OpenSpec.ofChange fnExactMinorByWrong)

/-- 'laws.FnExactMinorsOf': WHATEVER THE INPUT: true; the input reads as it did. -/
def fnExactMinorsOfSpec : ChangeSpec := { name := "fnExactMinorsOf", fn := fun _ => fun
  | [d] => { results := [.lit (.bool true)], args := [d] }
  | _ => none }
def fnExactMinorsOfRow : OpenClaim := { program := "ytmjfekgbbjojdab", sum := "e00d854a60cc34c8dd27ff9da7cbe01430aead85b8effa00b60d1f19fe8c9f9f", func := "loop.example/g01343/laws.FnExactMinorsOf", spec := "fnExactMinorsOf", unfollowed := true, recurses := true, apart := false }
def FnExactMinorsOfSaid : Prop := fnExactMinorsOfRow.holds Try.pinned (OpenSpec.ofChange fnExactMinorsOfSpec)

/-- ITS FALSE NEIGHBOUR: 'it returns false'. Refute it at one input. -/
def fnExactMinorsOfWrong : ChangeSpec := { name := "fnExactMinorsOf", fn := fun _ => fun
  | [d] => { results := [.lit (.bool false)], args := [d] }
  | _ => none }
def FnExactMinorsOfWrongFalsely : Prop := fnExactMinorsOfRow.holds Try.pinned (OpenSpec.ofChange fnExactMinorsOfWrong)

/-- 'laws.FnExactCountNegative': WHATEVER THE INPUT: true; the input reads as it did. -/
def fnExactCountNegativeSpec : ChangeSpec := { name := "fnExactCountNegative", fn := fun _ => fun
  | [d] => { results := [.lit (.bool true)], args := [d] }
  | _ => none }
def fnExactCountNegativeRow : OpenClaim := { program := "ytmjfekgbbjojdab", sum := "e00d854a60cc34c8dd27ff9da7cbe01430aead85b8effa00b60d1f19fe8c9f9f", func := "loop.example/g01343/laws.FnExactCountNegative", spec := "fnExactCountNegative", unfollowed := true, recurses := true, apart := false }
def FnExactCountNegativeSaid : Prop := fnExactCountNegativeRow.holds Try.pinned (OpenSpec.ofChange fnExactCountNegativeSpec)

/-- ITS FALSE NEIGHBOUR: 'it returns false'. Refute it at one input. -/
def fnExactCountNegativeWrong : ChangeSpec := { name := "fnExactCountNegative", fn := fun _ => fun
  | [d] => { results := [.lit (.bool false)], args := [d] }
  | _ => none }
def FnExactCountNegativeWrongFalsely : Prop := fnExactCountNegativeRow.holds Try.pinned (OpenSpec.ofChange fnExactCountNegativeWrong)

/-- 'laws.FnExactNegativeSets': WHATEVER THE INPUT: true; the input reads as it did. -/
def fnExactNegativeSetsSpec : ChangeSpec := { name := "fnExactNegativeSets", fn := fun _ => fun
  | [d] => { results := [.lit (.bool true)], args := [d] }
  | _ => none }
def fnExactNegativeSetsRow : OpenClaim := { program := "ytmjfekgbbjojdab", sum := "e00d854a60cc34c8dd27ff9da7cbe01430aead85b8effa00b60d1f19fe8c9f9f", func := "loop.example/g01343/laws.FnExactNegativeSets", spec := "fnExactNegativeSets", unfollowed := true, recurses := true, apart := false }
def FnExactNegativeSetsSaid : Prop := fnExactNegativeSetsRow.holds Try.pinned (OpenSpec.ofChange fnExactNegativeSetsSpec)

/-- ITS FALSE NEIGHBOUR: 'it returns false'. Refute it at one input. -/
def fnExactNegativeSetsWrong : ChangeSpec := { name := "fnExactNegativeSets", fn := fun _ => fun
  | [d] => { results := [.lit (.bool false)], args := [d] }
  | _ => none }
def FnExactNegativeSetsWrongFalsely : Prop := fnExactNegativeSetsRow.holds Try.pinned (OpenSpec.ofChange fnExactNegativeSetsWrong)

/-- 'laws.FnExactIsOfKind': WHATEVER THE INPUT: true; the input reads as it did. -/
def fnExactIsOfKindSpec : ChangeSpec := { name := "fnExactIsOfKind", fn := fun _ => fun
  | [d1, d2] => { results := [.lit (.bool true)], args := [d1, d2] }
  | _ => none }
def fnExactIsOfKindRow : OpenClaim := { program := "ytmjfekgbbjojdab", sum := "e00d854a60cc34c8dd27ff9da7cbe01430aead85b8effa00b60d1f19fe8c9f9f", func := "loop.example/g01343/laws.FnExactIsOfKind", spec := "fnExactIsOfKind", unfollowed := true, recurses := true, apart := false }
def FnExactIsOfKindSaid : Prop := fnExactIsOfKindRow.holds Try.pinned (OpenSpec.ofChange fnExactIsOfKindSpec)

/-- ITS FALSE NEIGHBOUR: 'it returns false'. Refute it at one input. -/
def fnExactIsOfKindWrong : ChangeSpec := { name := "fnExactIsOfKind", fn := fun _ => fun
  | [d1, d2] => { results := [.lit (.bool false)], args := [d1, d2] }
  | _ => none }
def FnExactIsOfKindWrongFalsely : Prop := fnExactIsOfKindRow.holds Try.pinned (OpenSpec.ofChange fnExactIsOfKindWrong)

/-- 'laws.FnExactKindsOf': WHATEVER THE INPUT: true; the input reads as it did. -/
def fnExactKindsOfSpec : ChangeSpec := { name := "fnExactKindsOf", fn := fun _ => fun
  | [d] => { results := [.lit (.bool true)], args := [d] }
  | _ => none }
def fnExactKindsOfRow : OpenClaim := { program := "ytmjfekgbbjojdab", sum := "e00d854a60cc34c8dd27ff9da7cbe01430aead85b8effa00b60d1f19fe8c9f9f", func := "loop.example/g01343/laws.FnExactKindsOf", spec := "fnExactKindsOf", unfollowed := true, recurses := true, apart := false }
def FnExactKindsOfSaid : Prop := fnExactKindsOfRow.holds Try.pinned (OpenSpec.ofChange fnExactKindsOfSpec)

/-- ITS FALSE NEIGHBOUR: 'it returns false'. Refute it at one input. -/
def fnExactKindsOfWrong : ChangeSpec := { name := "fnExactKindsOf", fn := fun _ => fun
  | [d] => { results := [.lit (.bool false)], args := [d] }
  | _ => none }
def FnExactKindsOfWrongFalsely : Prop := fnExactKindsOfRow.holds Try.pinned (OpenSpec.ofChange fnExactKindsOfWrong)

/-- 'laws.FnMinors': WHATEVER THE INPUT: true; the input reads as it did. -/
def fnMinorsSpec : ChangeSpec := { name := "fnMinors", fn := fun _ => fun
  | [d] => { results := [.lit (.bool true)], args := [d] }
  | _ => none }
def fnMinorsRow : OpenClaim := { program := "ytmjfekgbbjojdab", sum := "e00d854a60cc34c8dd27ff9da7cbe01430aead85b8effa00b60d1f19fe8c9f9f", func := "loop.example/g01343/laws.FnMinors", spec := "fnMinors", unfollowed := true, recurses := true, apart := false }
def FnMinorsSaid : Prop := fnMinorsRow.holds Try.pinned (OpenSpec.ofChange fnMinorsSpec)

/-- ITS FALSE NEIGHBOUR: 'it returns false'. Refute it at one input. -/
def fnMinorsWrong : ChangeSpec := { name := "fnMinors", fn := fun _ => fun
  | [d] => { results := [.lit (.bool false)], args := [d] }
  | _ => none }
def FnMinorsWrongFalsely : Prop := fnMinorsRow.holds Try.pinned (OpenSpec.ofChange fnMinorsWrong)

/-- 'laws.FnKinds': WHATEVER THE INPUT: true; the input reads as it did. -/
def fnKindsSpec : ChangeSpec := { name := "fnKinds", fn := fun _ => fun
  | [d] => { results := [.lit (.bool true)], args := [d] }
  | _ => none }
def fnKindsRow : OpenClaim := { program := "ytmjfekgbbjojdab", sum := "e00d854a60cc34c8dd27ff9da7cbe01430aead85b8effa00b60d1f19fe8c9f9f", func := "loop.example/g01343/laws.FnKinds", spec := "fnKinds", unfollowed := true, recurses := true, apart := false }
def FnKindsSaid : Prop := fnKindsRow.holds Try.pinned (OpenSpec.ofChange fnKindsSpec)

/-- ITS FALSE NEIGHBOUR: 'it returns false'. Refute it at one input. -/
def fnKindsWrong : ChangeSpec := { name := "fnKinds", fn := fun _ => fun
  | [d] => { results := [.lit (.bool false)], args := [d] }
  | _ => none }
def FnKindsWrongFalsely : Prop := fnKindsRow.holds Try.pinned (OpenSpec.ofChange fnKindsWrong)

/- THE SECOND FORM. 'bulk': how many values and letters a reading holds, each counted each time it is reached (what is shared counts as often as it is met; a slice's spare places count too). A statement '..UptoSaid' is the law's where the arguments, and the package variables that the reading takes, are together of bulk at most 1048576: NARROWER than '..Said'. Prove '..Said' where nothing that the law and all that it calls make is longer than what came in: it says more and counts as full. Else prove '..UptoSaid'. A law counts once. -/
mutual
def uptoBulk {H : Type} : DataW H → Nat
  | .lit (.string bytes) => bytes.length + 1
  | .lit _ => 1
  | .nil => 1
  | .ptr d => uptoBulk d + 1
  | .slice elems spare => uptoBulkAll elems + uptoBulkAll spare + 1
  | .agg parts => uptoBulkAll parts + 1
  | .iface _ d => uptoBulk d + 1
  | .map entries => uptoBulkEntries entries + 1
  | .held _ => 1
def uptoBulkAll {H : Type} : List (DataW H) → Nat
  | [] => 0
  | d :: r => uptoBulk d + uptoBulkAll r
def uptoBulkEntries {H : Type} : List (Lit × DataW H) → Nat
  | [] => 0
  | x :: r => uptoBulkEntry x + uptoBulkEntries r
def uptoBulkEntry {H : Type} : Lit × DataW H → Nat
  | (.string bytes, d) => bytes.length + uptoBulk d + 1
  | (_, d) => uptoBulk d + 1
 end
def uptoSmall : (H : Type) → List (DataW H) → Bool := fun _ ds => decide (uptoBulkAll ds ≤ 1048576)
def OpenSpec.upto (s : _root_.Go.ChangeSpec) : _root_.Go.OpenSpec := { _root_.Go.OpenSpec.ofChange s with cond := some uptoSmall }

/-- 'laws.FnExactSignsOf', WHERE WHAT IT READS IS OF BULK AT MOST 1048576: true; the input reads as it did. -/
def fnExactSignsOfUptoRow : OpenClaim := { program := "ytmjfekgbbjojdab", sum := "e00d854a60cc34c8dd27ff9da7cbe01430aead85b8effa00b60d1f19fe8c9f9f", func := "loop.example/g01343/laws.FnExactSignsOf", spec := "fnExactSignsOf", unfollowed := true, recurses := true, apart := false, narrowed := true }
def FnExactSignsOfUptoSaid : Prop := fnExactSignsOfUptoRow.holds Try.pinned (OpenSpec.upto fnExactSignsOfSpec)

/-- 'laws.FnExactSymmetricPart', WHERE WHAT IT READS IS OF BULK AT MOST 1048576: true; the input reads as it did. -/
def fnExactSymmetricPartUptoRow : OpenClaim := { program := "ytmjfekgbbjojdab", sum := "e00d854a60cc34c8dd27ff9da7cbe01430aead85b8effa00b60d1f19fe8c9f9f", func := "loop.example/g01343/laws.FnExactSymmetricPart", spec := "fnExactSymmetricPart", unfollowed := true, recurses := true, apart := false, narrowed := true }
def FnExactSymmetricPartUptoSaid : Prop := fnExactSymmetricPartUptoRow.holds Try.pinned (OpenSpec.upto fnExactSymmetricPartSpec)

/-- 'laws.FnExactComparisonOf', WHERE WHAT IT READS IS OF BULK AT MOST 1048576: true; the input reads as it did. -/
def fnExactComparisonOfUptoRow : OpenClaim := { program := "ytmjfekgbbjojdab", sum := "e00d854a60cc34c8dd27ff9da7cbe01430aead85b8effa00b60d1f19fe8c9f9f", func := "loop.example/g01343/laws.FnExactComparisonOf", spec := "fnExactComparisonOf", unfollowed := true, recurses := true, apart := false, narrowed := true }
def FnExactComparisonOfUptoSaid : Prop := fnExactComparisonOfUptoRow.holds Try.pinned (OpenSpec.upto fnExactComparisonOfSpec)

/-- 'laws.FnExactMinorOf', WHERE WHAT IT READS IS OF BULK AT MOST 1048576: true; the input reads as it did. -/
def fnExactMinorOfUptoRow : OpenClaim := { program := "ytmjfekgbbjojdab", sum := "e00d854a60cc34c8dd27ff9da7cbe01430aead85b8effa00b60d1f19fe8c9f9f", func := "loop.example/g01343/laws.FnExactMinorOf", spec := "fnExactMinorOf", unfollowed := true, recurses := true, apart := false, narrowed := true }
def FnExactMinorOfUptoSaid : Prop := fnExactMinorOfUptoRow.holds Try.pinned (OpenSpec.upto fnExactMinorOfSpec)

/-- 'laws.FnExactMinorBy', WHERE WHAT IT READS IS OF BULK AT MOST 1048576: true; the input reads as it did. -/
def fnExactMinorByUptoRow : OpenClaim := { program := "ytmjfekgbbjojdab", sum := "e00d854a60cc34c8dd27ff9da7cbe01430aead85b8effa00b60d1f19fe8c9f9f", func := "loop.example/g01343/laws.FnExactMinorBy", spec := "fnExactMinorBy", unfollowed := true, recurses := true, apart := false, narrowed := true }
def FnExactMinorByUptoSaid : Prop := fnExactMinorByUptoRow.holds Try.pinned (OpenSpec.upto fnExactMinorBySpec)

/-- 'laws.FnExactMinorsOf', WHERE WHAT IT READS IS OF BULK AT MOST 1048576: true; the input reads as it did. -/
def fnExactMinorsOfUptoRow : OpenClaim := { program := "ytmjfekgbbjojdab", sum := "e00d854a60cc34c8dd27ff9da7cbe01430aead85b8effa00b60d1f19fe8c9f9f", func := "loop.example/g01343/laws.FnExactMinorsOf", spec := "fnExactMinorsOf", unfollowed := true, recurses := true, apart := false, narrowed := true }
def FnExactMinorsOfUptoSaid : Prop := fnExactMinorsOfUptoRow.holds Try.pinned (OpenSpec.upto fnExactMinorsOfSpec)

/-- 'laws.FnExactCountNegative', WHERE WHAT IT READS IS OF BULK AT MOST 1048576: true; the input reads as it did. -/
def fnExactCountNegativeUptoRow : OpenClaim := { program := "ytmjfekgbbjojdab", sum := "e00d854a60cc34c8dd27ff9da7cbe01430aead85b8effa00b60d1f19fe8c9f9f", func := "loop.example/g01343/laws.FnExactCountNegative", spec := "fnExactCountNegative", unfollowed := true, recurses := true, apart := false, narrowed := true }
def FnExactCountNegativeUptoSaid : Prop := fnExactCountNegativeUptoRow.holds Try.pinned (OpenSpec.upto fnExactCountNegativeSpec)

/-- 'laws.FnExactNegativeSets', WHERE WHAT IT READS IS OF BULK AT MOST 1048576: true; the input reads as it did. -/
def fnExactNegativeSetsUptoRow : OpenClaim := { program := "ytmjfekgbbjojdab", sum := "e00d854a60cc34c8dd27ff9da7cbe01430aead85b8effa00b60d1f19fe8c9f9f", func := "loop.example/g01343/laws.FnExactNegativeSets", spec := "fnExactNegativeSets", unfollowed := true, recurses := true, apart := false, narrowed := true }
def FnExactNegativeSetsUptoSaid : Prop := fnExactNegativeSetsUptoRow.holds Try.pinned (OpenSpec.upto fnExactNegativeSetsSpec)

/-- 'laws.FnExactIsOfKind', WHERE WHAT IT READS IS OF BULK AT MOST 1048576: true; the input reads as it did. -/
def fnExactIsOfKindUptoRow : OpenClaim := { program := "ytmjfekgbbjojdab", sum := "e00d854a60cc34c8dd27ff9da7cbe01430aead85b8effa00b60d1f19fe8c9f9f", func := "loop.example/g01343/laws.FnExactIsOfKind", spec := "fnExactIsOfKind", unfollowed := true, recurses := true, apart := false, narrowed := true }
def FnExactIsOfKindUptoSaid : Prop := fnExactIsOfKindUptoRow.holds Try.pinned (OpenSpec.upto fnExactIsOfKindSpec)

/-- 'laws.FnExactKindsOf', WHERE WHAT IT READS IS OF BULK AT MOST 1048576: true; the input reads as it did. -/
def fnExactKindsOfUptoRow : OpenClaim := { program := "ytmjfekgbbjojdab", sum := "e00d854a60cc34c8dd27ff9da7cbe01430aead85b8effa00b60d1f19fe8c9f9f", func := "loop.example/g01343/laws.FnExactKindsOf", spec := "fnExactKindsOf", unfollowed := true, recurses := true, apart := false, narrowed := true }
def FnExactKindsOfUptoSaid : Prop := fnExactKindsOfUptoRow.holds Try.pinned (OpenSpec.upto fnExactKindsOfSpec)

/-- 'laws.FnMinors', WHERE WHAT IT READS IS OF BULK AT MOST 1048576: true; the input reads as it did. -/
def fnMinorsUptoRow : OpenClaim := { program := "ytmjfekgbbjojdab", sum := "e00d854a60cc34c8dd27ff9da7cbe01430aead85b8effa00b60d1f19fe8c9f9f", func := "loop.example/g01343/laws.FnMinors", spec := "fnMinors", unfollowed := true, recurses := true, apart := false, narrowed := true }
def FnMinorsUptoSaid : Prop := fnMinorsUptoRow.holds Try.pinned (OpenSpec.upto fnMinorsSpec)

/-- 'laws.FnKinds', WHERE WHAT IT READS IS OF BULK AT MOST 1048576: true; the input reads as it did. -/
def fnKindsUptoRow : OpenClaim := { program := "ytmjfekgbbjojdab", sum := "e00d854a60cc34c8dd27ff9da7cbe01430aead85b8effa00b60d1f19fe8c9f9f", func := "loop.example/g01343/laws.FnKinds", spec := "fnKinds", unfollowed := true, recurses := true, apart := false, narrowed := true }
def FnKindsUptoSaid : Prop := fnKindsUptoRow.holds Try.pinned (OpenSpec.upto fnKindsSpec)

end Rows
end Go.Proofs.Ytmjfekgbbjojdab
