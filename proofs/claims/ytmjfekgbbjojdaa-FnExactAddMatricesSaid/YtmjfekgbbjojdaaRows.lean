/-
  No cell of these rows narrows 'for every input' (looked for: loops, veiled, ifaces, maps, wideKeys, modest, calm, conditions, laid).
  DERIVED. THE GIVEN ROWS OF THIS SEAT. 10 by the template 'for every input the law returns true; each argument reads behind the call as it read before'; 0 by the template 'total and deterministic' (their statements: YtmjfekgbbjojdaaTotals.lean).
  GIVEN WITH THE SEED: the statements are not yours to turn. If you find one false, say at which input.
  Laid BY PROGRAM, IN A SANDBOX (cutbox-rows.mjs): the forced cells as the released guide's own fill.sh prints them over the translation 5b8c99b1c2ade20b… (all of the seat's roots in one cut). By AI agents, Wed Nov 11 2026. No macro, syntax, notation, axiom, sorry.
-/
import Derived.Test.YtmjfekgbbjojdaaChecked
import GoSem.Claim
import GoSem.ClaimJoined
import GoSem.ClaimMapViews
import Derived.JoinedTies
import Derived.KernelRfl
namespace Go.Proofs.Ytmjfekgbbjojdaa
/- THE CELL 'sum', in the pinned program and in every row, IS THE sha256 OF THE DUMP (.gsa) THAT YtmjfekgbbjojdaaProg.lean LOADS. Nothing in Lean hashes anything: it is a label: what it is worth is what the hold of that sum in a sandbox is worth. -/
noncomputable def Try.pinned : Pinned := { name := "ytmjfekgbbjojdaa", sum := "5b8c99b1c2ade20bce8c28e6523da9646ba66704388d521a972ce2561e3ada71", checked := Try.checked }
namespace Rows
def none {H : Type} : Left H := { results := [], args := [] }

/-- 'laws.FnExactConstants': WHATEVER THE INPUT: true; the input reads as it did. -/
def fnExactConstantsSpec : ChangeSpec := { name := "fnExactConstants", fn := fun _ => fun
  | [] => { results := [.lit (.bool true)], args := [] }
  | _ => none }
def fnExactConstantsRow : OpenClaim := { program := "ytmjfekgbbjojdaa", sum := "5b8c99b1c2ade20bce8c28e6523da9646ba66704388d521a972ce2561e3ada71", func := "loop.example/g01343/laws.FnExactConstants", spec := "fnExactConstants", apart := false }
def FnExactConstantsSaid : Prop := fnExactConstantsRow.holds Try.pinned (OpenSpec.ofChange fnExactConstantsSpec)

/-- ITS FALSE NEIGHBOUR: 'it returns false'. Refute it at one input. -/
def fnExactConstantsWrong : ChangeSpec := { name := "fnExactConstants", fn := fun _ => fun
  | [] => { results := [.lit (.bool false)], args := [] }
  | _ => none }
def FnExactConstantsWrongFalsely : Prop := fnExactConstantsRow.holds Try.pinned (OpenSpec.ofChange fnExactConstantsWrong)

/-- 'laws.FnExactIsFrac': WHATEVER THE INPUT: true; the input reads as it did. -/
def fnExactIsFracSpec : ChangeSpec := { name := "fnExactIsFrac", fn := fun _ => fun
  | [d] => { results := [.lit (.bool true)], args := [d] }
  | _ => none }
def fnExactIsFracRow : OpenClaim := { program := "ytmjfekgbbjojdaa", sum := "5b8c99b1c2ade20bce8c28e6523da9646ba66704388d521a972ce2561e3ada71", func := "loop.example/g01343/laws.FnExactIsFrac", spec := "fnExactIsFrac", apart := false }
def FnExactIsFracSaid : Prop := fnExactIsFracRow.holds Try.pinned (OpenSpec.ofChange fnExactIsFracSpec)

/-- ITS FALSE NEIGHBOUR: 'it returns false'. Refute it at one input. -/
def fnExactIsFracWrong : ChangeSpec := { name := "fnExactIsFrac", fn := fun _ => fun
  | [d] => { results := [.lit (.bool false)], args := [d] }
  | _ => none }
def FnExactIsFracWrongFalsely : Prop := fnExactIsFracRow.holds Try.pinned (OpenSpec.ofChange fnExactIsFracWrong)

/-- 'laws.FnExactFracOf': WHATEVER THE INPUT: true; the input reads as it did. -/
def fnExactFracOfSpec : ChangeSpec := { name := "fnExactFracOf", fn := fun _ => fun
  | [d1, d2] => { results := [.lit (.bool true)], args := [d1, d2] }
  | _ => none }
def fnExactFracOfRow : OpenClaim := { program := "ytmjfekgbbjojdaa", sum := "5b8c99b1c2ade20bce8c28e6523da9646ba66704388d521a972ce2561e3ada71", func := "loop.example/g01343/laws.FnExactFracOf", spec := "fnExactFracOf", apart := false }
def FnExactFracOfSaid : Prop := fnExactFracOfRow.holds Try.pinned (OpenSpec.ofChange fnExactFracOfSpec)

/-- ITS FALSE NEIGHBOUR: 'it returns false'. Refute it at one input. -/
def fnExactFracOfWrong : ChangeSpec := { name := "fnExactFracOf", fn := fun _ => fun
  | [d1, d2] => { results := [.lit (.bool false)], args := [d1, d2] }
  | _ => none }
def FnExactFracOfWrongFalsely : Prop := fnExactFracOfRow.holds Try.pinned (OpenSpec.ofChange fnExactFracOfWrong)

/-- 'laws.FnExactCompareFracs': WHATEVER THE INPUT: true; the input reads as it did. -/
def fnExactCompareFracsSpec : ChangeSpec := { name := "fnExactCompareFracs", fn := fun _ => fun
  | [d1, d2] => { results := [.lit (.bool true)], args := [d1, d2] }
  | _ => none }
def fnExactCompareFracsRow : OpenClaim := { program := "ytmjfekgbbjojdaa", sum := "5b8c99b1c2ade20bce8c28e6523da9646ba66704388d521a972ce2561e3ada71", func := "loop.example/g01343/laws.FnExactCompareFracs", spec := "fnExactCompareFracs", unfollowed := true, recurses := true, apart := false }
def FnExactCompareFracsSaid : Prop := fnExactCompareFracsRow.holds Try.pinned (OpenSpec.ofChange fnExactCompareFracsSpec)

/-- ITS FALSE NEIGHBOUR: 'it returns false'. Refute it at one input. -/
def fnExactCompareFracsWrong : ChangeSpec := { name := "fnExactCompareFracs", fn := fun _ => fun
  | [d1, d2] => { results := [.lit (.bool false)], args := [d1, d2] }
  | _ => none }
def FnExactCompareFracsWrongFalsely : Prop := fnExactCompareFracsRow.holds Try.pinned (OpenSpec.ofChange fnExactCompareFracsWrong)

/-- 'laws.FnExactMultiplyFracs': WHATEVER THE INPUT: true; the input reads as it did. -/
def fnExactMultiplyFracsSpec : ChangeSpec := { name := "fnExactMultiplyFracs", fn := fun _ => fun
  | [d1, d2] => { results := [.lit (.bool true)], args := [d1, d2] }
  | _ => none }
def fnExactMultiplyFracsRow : OpenClaim := { program := "ytmjfekgbbjojdaa", sum := "5b8c99b1c2ade20bce8c28e6523da9646ba66704388d521a972ce2561e3ada71", func := "loop.example/g01343/laws.FnExactMultiplyFracs", spec := "fnExactMultiplyFracs", unfollowed := true, recurses := true, apart := false }
def FnExactMultiplyFracsSaid : Prop := fnExactMultiplyFracsRow.holds Try.pinned (OpenSpec.ofChange fnExactMultiplyFracsSpec)

/-- ITS FALSE NEIGHBOUR: 'it returns false'. Refute it at one input. -/
def fnExactMultiplyFracsWrong : ChangeSpec := { name := "fnExactMultiplyFracs", fn := fun _ => fun
  | [d1, d2] => { results := [.lit (.bool false)], args := [d1, d2] }
  | _ => none }
def FnExactMultiplyFracsWrongFalsely : Prop := fnExactMultiplyFracsRow.holds Try.pinned (OpenSpec.ofChange fnExactMultiplyFracsWrong)

/-- 'laws.FnExactAddFracs': WHATEVER THE INPUT: true; the input reads as it did. -/
def fnExactAddFracsSpec : ChangeSpec := { name := "fnExactAddFracs", fn := fun _ => fun
  | [d1, d2, d3] => { results := [.lit (.bool true)], args := [d1, d2, d3] }
  | _ => none }
def fnExactAddFracsRow : OpenClaim := { program := "ytmjfekgbbjojdaa", sum := "5b8c99b1c2ade20bce8c28e6523da9646ba66704388d521a972ce2561e3ada71", func := "loop.example/g01343/laws.FnExactAddFracs", spec := "fnExactAddFracs", unfollowed := true, recurses := true, apart := false }
def FnExactAddFracsSaid : Prop := fnExactAddFracsRow.holds Try.pinned (OpenSpec.ofChange fnExactAddFracsSpec)

/-- ITS FALSE NEIGHBOUR: 'it returns false'. Refute it at one input. -/
def fnExactAddFracsWrong : ChangeSpec := { name := "fnExactAddFracs", fn := fun _ => fun
  | [d1, d2, d3] => { results := [.lit (.bool false)], args := [d1, d2, d3] }
  | _ => none }
def FnExactAddFracsWrongFalsely : Prop := fnExactAddFracsRow.holds Try.pinned (OpenSpec.ofChange fnExactAddFracsWrong)

/-- 'laws.FnExactIsMatrix': WHATEVER THE INPUT: true; the input reads as it did. -/
def fnExactIsMatrixSpec : ChangeSpec := { name := "fnExactIsMatrix", fn := fun _ => fun
  | [d] => { results := [.lit (.bool true)], args := [d] }
  | _ => none }
def fnExactIsMatrixRow : OpenClaim := { program := "ytmjfekgbbjojdaa", sum := "5b8c99b1c2ade20bce8c28e6523da9646ba66704388d521a972ce2561e3ada71", func := "loop.example/g01343/laws.FnExactIsMatrix", spec := "fnExactIsMatrix", unfollowed := true, recurses := true, apart := false }
def FnExactIsMatrixSaid : Prop := fnExactIsMatrixRow.holds Try.pinned (OpenSpec.ofChange fnExactIsMatrixSpec)

/-- ITS FALSE NEIGHBOUR: 'it returns false'. Refute it at one input. -/
def fnExactIsMatrixWrong : ChangeSpec := { name := "fnExactIsMatrix", fn := fun _ => fun
  | [d] => { results := [.lit (.bool false)], args := [d] }
  | _ => none }
def FnExactIsMatrixWrongFalsely : Prop := fnExactIsMatrixRow.holds Try.pinned (OpenSpec.ofChange fnExactIsMatrixWrong)

/-- 'laws.FnExactIsProblem': WHATEVER THE INPUT: true; the input reads as it did. -/
def fnExactIsProblemSpec : ChangeSpec := { name := "fnExactIsProblem", fn := fun _ => fun
  | [d] => { results := [.lit (.bool true)], args := [d] }
  | _ => none }
def fnExactIsProblemRow : OpenClaim := { program := "ytmjfekgbbjojdaa", sum := "5b8c99b1c2ade20bce8c28e6523da9646ba66704388d521a972ce2561e3ada71", func := "loop.example/g01343/laws.FnExactIsProblem", spec := "fnExactIsProblem", unfollowed := true, recurses := true, apart := false }
def FnExactIsProblemSaid : Prop := fnExactIsProblemRow.holds Try.pinned (OpenSpec.ofChange fnExactIsProblemSpec)

/-- ITS FALSE NEIGHBOUR: 'it returns false'. Refute it at one input. -/
def fnExactIsProblemWrong : ChangeSpec := { name := "fnExactIsProblem", fn := fun _ => fun
  | [d] => { results := [.lit (.bool false)], args := [d] }
  | _ => none }
def FnExactIsProblemWrongFalsely : Prop := fnExactIsProblemRow.holds Try.pinned (OpenSpec.ofChange fnExactIsProblemWrong)

/-- 'laws.FnExactFormAt': WHATEVER THE INPUT: true; the input reads as it did. -/
def fnExactFormAtSpec : ChangeSpec := { name := "fnExactFormAt", fn := fun _ => fun
  | [d1, d2] => { results := [.lit (.bool true)], args := [d1, d2] }
  | _ => none }
def fnExactFormAtRow : OpenClaim := { program := "ytmjfekgbbjojdaa", sum := "5b8c99b1c2ade20bce8c28e6523da9646ba66704388d521a972ce2561e3ada71", func := "loop.example/g01343/laws.FnExactFormAt", spec := "fnExactFormAt", unfollowed := true, recurses := true, apart := false }
def FnExactFormAtSaid : Prop := fnExactFormAtRow.holds Try.pinned (OpenSpec.ofChange fnExactFormAtSpec)

/-- ITS FALSE NEIGHBOUR: 'it returns false'. Refute it at one input. -/
def fnExactFormAtWrong : ChangeSpec := { name := "fnExactFormAt", fn := fun _ => fun
  | [d1, d2] => { results := [.lit (.bool false)], args := [d1, d2] }
  | _ => none }
def FnExactFormAtWrongFalsely : Prop := fnExactFormAtRow.holds Try.pinned (OpenSpec.ofChange fnExactFormAtWrong)

/-- 'laws.FnExactAddMatrices': WHATEVER THE INPUT: true; the input reads as it did. -/
def fnExactAddMatricesSpec : ChangeSpec := { name := "fnExactAddMatrices", fn := fun _ => fun
  | [d1, d2] => { results := [.lit (.bool true)], args := [d1, d2] }
  | _ => none }
def fnExactAddMatricesRow : OpenClaim := { program := "ytmjfekgbbjojdaa", sum := "5b8c99b1c2ade20bce8c28e6523da9646ba66704388d521a972ce2561e3ada71", func := "loop.example/g01343/laws.FnExactAddMatrices", spec := "fnExactAddMatrices", unfollowed := true, recurses := true, apart := false }
def FnExactAddMatricesSaid : Prop := fnExactAddMatricesRow.holds Try.pinned (OpenSpec.ofChange fnExactAddMatricesSpec)

/-- ITS FALSE NEIGHBOUR: 'it returns false'. Refute it at one input. -/
def fnExactAddMatricesWrong : ChangeSpec := { name := "fnExactAddMatrices", fn := fun _ => fun
  | [d1, d2] => { results := [.lit (.bool false)], args := [d1, d2] }
  | _ => none }
def FnExactAddMatricesWrongFalsely : Prop := fnExactAddMatricesRow.holds Try.pinned (OpenSpec.ofChange fnExactAddMatricesWrong)

/- THE SECOND FORM. 'bulk': how many values and letters a reading holds, each counted each time it is reached (what is shared counts as often as it is met; a slice's spare places count too). A statement '..UptoSaid' is the law's where the arguments, and the package variables that the reading takes, are together of bulk at most 1048576: NARROWER than '..Said'. Prove '..Said' where nothing that the law and all that it calls make is longer than what came in: it says more and counts as full. Else prove '..UptoSaid'. A law counts once. -/
mutual
def uptoBulk {H : Type} : DataW H → Nat
  | .lit (.string bytes) => bytes.length + 1
  | .lit _ => 1
  | .nil => 1
  | .ptr d => uptoBulk d + 1
  | .slice elems spare => uptoBulkAll elems + uptoBulkAll spare + 1
  | .agg parts => uptoBulkAll parts + 1
  | .iface _ d => uptoBulk d + 1
  | .map entries => uptoBulkEntries entries + 1
  | .held _ => 1
def uptoBulkAll {H : Type} : List (DataW H) → Nat
  | [] => 0
  | d :: r => uptoBulk d + uptoBulkAll r
def uptoBulkEntries {H : Type} : List (Lit × DataW H) → Nat
  | [] => 0
  | x :: r => uptoBulkEntry x + uptoBulkEntries r
def uptoBulkEntry {H : Type} : Lit × DataW H → Nat
  | (.string bytes, d) => bytes.length + uptoBulk d + 1
  | (_, d) => uptoBulk d + 1
 end
def uptoSmall : (H : Type) → List (DataW H) → Bool := fun _ ds => decide (uptoBulkAll ds ≤ 1048576)
def OpenSpec.upto (s : _root_.Go.ChangeSpec) : _root_.Go.OpenSpec := { _root_.Go.OpenSpec.ofChange s with cond := some uptoSmall }

/-- 'laws.FnExactConstants', WHERE WHAT IT READS IS OF BULK AT MOST 1048576: true; the input reads as it did. -/
def fnExactConstantsUptoRow : OpenClaim := { program := "ytmjfekgbbjojdaa", sum := "5b8c99b1c2ade20bce8c28e6523da9646ba66704388d521a972ce2561e3ada71", func := "loop.example/g01343/laws.FnExactConstants", spec := "fnExactConstants", apart := false, narrowed := true }
def FnExactConstantsUptoSaid : Prop := fnExactConstantsUptoRow.holds Try.pinned (OpenSpec.upto fnExactConstantsSpec)

/-- 'laws.FnExactIsFrac', WHERE WHAT IT READS IS OF BULK AT MOST 1048576: true; the input reads as it did. -/
def fnExactIsFracUptoRow : OpenClaim := { program := "ytmjfekgbbjojdaa", sum := "5b8c99b1c2ade20bce8c28e6523da9646ba66704388d521a972ce2561e3ada71", func := "loop.example/g01343/laws.FnExactIsFrac", spec := "fnExactIsFrac", apart := false, narrowed := true }
def FnExactIsFracUptoSaid : Prop := fnExactIsFracUptoRow.holds Try.pinned (OpenSpec.upto fnExactIsFracSpec)

/-- 'laws.FnExactFracOf', WHERE WHAT IT READS IS OF BULK AT MOST 1048576: true; the input reads as it did. -/
def fnExactFracOfUptoRow : OpenClaim := { program := "ytmjfekgbbjojdaa", sum := "5b8c99b1c2ade20bce8c28e6523da9646ba66704388d521a972ce2561e3ada71", func := "loop.example/g01343/laws.FnExactFracOf", spec := "fnExactFracOf", apart := false, narrowed := true }
def FnExactFracOfUptoSaid : Prop := fnExactFracOfUptoRow.holds Try.pinned (OpenSpec.upto fnExactFracOfSpec)

/-- 'laws.FnExactCompareFracs', WHERE WHAT IT READS IS OF BULK AT MOST 1048576: true; the input reads as it did. -/
def fnExactCompareFracsUptoRow : OpenClaim := { program := "ytmjfekgbbjojdaa", sum := "5b8c99b1c2ade20bce8c28e6523da9646ba66704388d521a972ce2561e3ada71", func := "loop.example/g01343/laws.FnExactCompareFracs", spec := "fnExactCompareFracs", unfollowed := true, recurses := true, apart := false, narrowed := true }
def FnExactCompareFracsUptoSaid : Prop := fnExactCompareFracsUptoRow.holds Try.pinned (OpenSpec.upto fnExactCompareFracsSpec)

/-- 'laws.FnExactMultiplyFracs', WHERE WHAT IT READS IS OF BULK AT MOST 1048576: true; the input reads as it did. -/
def fnExactMultiplyFracsUptoRow : OpenClaim := { program := "ytmjfekgbbjojdaa", sum := "5b8c99b1c2ade20bce8c28e6523da9646ba66704388d521a972ce2561e3ada71", func := "loop.example/g01343/laws.FnExactMultiplyFracs", spec := "fnExactMultiplyFracs", unfollowed := true, recurses := true, apart := false, narrowed := true }
def FnExactMultiplyFracsUptoSaid : Prop := fnExactMultiplyFracsUptoRow.holds Try.pinned (OpenSpec.upto fnExactMultiplyFracsSpec)

/-- 'laws.FnExactAddFracs', WHERE WHAT IT READS IS OF BULK AT MOST 1048576: true; the input reads as it did. -/
def fnExactAddFracsUptoRow : OpenClaim := { program := "ytmjfekgbbjojdaa", sum := "5b8c99b1c2ade20bce8c28e6523da9646ba66704388d521a972ce2561e3ada71", func := "loop.example/g01343/laws.FnExactAddFracs", spec := "fnExactAddFracs", unfollowed := true, recurses := true, apart := false, narrowed := true }
def FnExactAddFracsUptoSaid : Prop := fnExactAddFracsUptoRow.holds Try.pinned (OpenSpec.upto fnExactAddFracsSpec)

/-- 'laws.FnExactIsMatrix', WHERE WHAT IT READS IS OF BULK AT MOST 1048576: true; the input reads as it did. -/
def fnExactIsMatrixUptoRow : OpenClaim := { program := "ytmjfekgbbjojdaa", sum := "5b8c99b1c2ade20bce8c28e6523da9646ba66704388d521a972ce2561e3ada71", func := "loop.example/g01343/laws.FnExactIsMatrix", spec := "fnExactIsMatrix", unfollowed := true, recurses := true, apart := false, narrowed := true }
def FnExactIsMatrixUptoSaid : Prop := fnExactIsMatrixUptoRow.holds Try.pinned (OpenSpec.upto fnExactIsMatrixSpec)

/-- 'laws.FnExactIsProblem', WHERE WHAT IT READS IS OF BULK AT MOST 1048576: true; the input reads as it did. -/
def fnExactIsProblemUptoRow : OpenClaim := { program := "ytmjfekgbbjojdaa", sum := "5b8c99b1c2ade20bce8c28e6523da9646ba66704388d521a972ce2561e3ada71", func := "loop.example/g01343/laws.FnExactIsProblem", spec := "fnExactIsProblem", unfollowed := true, recurses := true, apart := false, narrowed := true }
def FnExactIsProblemUptoSaid : Prop := fnExactIsProblemUptoRow.holds Try.pinned (OpenSpec.upto fnExactIsProblemSpec)

/-- 'laws.FnExactFormAt', WHERE WHAT IT READS IS OF BULK AT MOST 1048576: true; the input reads as it did. -/
def fnExactFormAtUptoRow : OpenClaim := { program := "ytmjfekgbbjojdaa", sum := "5b8c99b1c2ade20bce8c28e6523da9646ba66704388d521a972ce2561e3ada71", func := "loop.example/g01343/laws.FnExactFormAt", spec := "fnExactFormAt", unfollowed := true, recurses := true, apart := false, narrowed := true }
def FnExactFormAtUptoSaid : Prop := fnExactFormAtUptoRow.holds Try.pinned (OpenSpec.upto fnExactFormAtSpec)

/-- 'laws.FnExactAddMatrices', WHERE WHAT IT READS IS OF BULK AT MOST 1048576: true; the input reads as it did. -/
def fnExactAddMatricesUptoRow : OpenClaim := { program := "ytmjfekgbbjojdaa", sum := "5b8c99b1c2ade20bce8c28e6523da9646ba66704388d521a972ce2561e3ada71", func := "loop.example/g01343/laws.FnExactAddMatrices", spec := "fnExactAddMatrices", unfollowed := true, recurses := true, apart := false, narrowed := true }
def FnExactAddMatricesUptoSaid : Prop := fnExactAddMatricesUptoRow.holds Try.pinned (OpenSpec.upto fnExactAddMatricesSpec)

end Rows
end Go.Proofs.Ytmjfekgbbjojdaa
