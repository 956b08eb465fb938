/-
  No cell of these rows narrows 'for every input' (looked for: loops, veiled, ifaces, maps, wideKeys, modest, calm, conditions, laid).
  DERIVED. THE GIVEN ROWS OF THIS SEAT. 4 by the template 'for every input the law returns true; each argument reads behind the call as it read before'; 0 by the template 'total and deterministic' (their statements: YtkpibnhddhdooaaTotals.lean).
  GIVEN WITH THE SEED: the statements are not yours to turn. If you find one false, say at which input.
  Laid BY PROGRAM, IN A SANDBOX (cutbox-rows.mjs): the forced cells as the released guide's own fill.sh prints them over the translation 00b4f29df21198ca… (all of the seat's roots in one cut). By AI agents, Wed Nov 11 2026. No macro, syntax, notation, axiom, sorry.
-/
import Derived.Test.YtkpibnhddhdooaaChecked
import GoSem.Claim
import GoSem.ClaimJoined
import GoSem.ClaimMapViews
import Derived.JoinedTies
import Derived.KernelRfl
namespace Go.Proofs.Ytkpibnhddhdooaa
/- THE CELL 'sum', in the pinned program and in every row, IS THE sha256 OF THE DUMP (.gsa) THAT YtkpibnhddhdooaaProg.lean LOADS. Nothing in Lean hashes anything: it is a label: what it is worth is what the hold of that sum in a sandbox is worth. -/
noncomputable def Try.pinned : Pinned := { name := "ytkpibnhddhdooaa", sum := "00b4f29df21198ca584e4104d62dbf13dd1942910ce6c2607fab34eb72622b32", checked := Try.checked }
namespace Rows
def none {H : Type} : Left H := { results := [], args := [] }

/-- 'laws.FnExactIsOfKind': WHATEVER THE INPUT: true; the input reads as it did. -/
def fnExactIsOfKindSpec : ChangeSpec := { name := "fnExactIsOfKind", fn := fun _ => fun
  | [d1, d2] => { results := [.lit (.bool true)], args := [d1, d2] }
  | _ => none }
def fnExactIsOfKindRow : OpenClaim := { program := "ytkpibnhddhdooaa", sum := "00b4f29df21198ca584e4104d62dbf13dd1942910ce6c2607fab34eb72622b32", func := "loop.example/g01343/laws.FnExactIsOfKind", spec := "fnExactIsOfKind", unfollowed := true, recurses := true, apart := false }
def FnExactIsOfKindSaid : Prop := fnExactIsOfKindRow.holds Try.pinned (OpenSpec.ofChange fnExactIsOfKindSpec)

/-- ITS FALSE NEIGHBOUR: 'it returns false'. Refute it at one input. -/
def fnExactIsOfKindWrong : ChangeSpec := { name := "fnExactIsOfKind", fn := fun _ => fun
  | [d1, d2] => { results := [.lit (.bool false)], args := [d1, d2] }
  | _ => none }
def FnExactIsOfKindWrongFalsely : Prop := fnExactIsOfKindRow.holds Try.pinned (OpenSpec.ofChange fnExactIsOfKindWrong)

/-- 'laws.FnExactKindsOf': WHATEVER THE INPUT: true; the input reads as it did. -/
def fnExactKindsOfSpec : ChangeSpec := { name := "fnExactKindsOf", fn := fun _ => fun
  | [d] => { results := [.lit (.bool true)], args := [d] }
  | _ => none }
def fnExactKindsOfRow : OpenClaim := { program := "ytkpibnhddhdooaa", sum := "00b4f29df21198ca584e4104d62dbf13dd1942910ce6c2607fab34eb72622b32", func := "loop.example/g01343/laws.FnExactKindsOf", spec := "fnExactKindsOf", unfollowed := true, recurses := true, apart := false }
def FnExactKindsOfSaid : Prop := fnExactKindsOfRow.holds Try.pinned (OpenSpec.ofChange fnExactKindsOfSpec)

/-- ITS FALSE NEIGHBOUR: 'it returns false'. Refute it at one input. -/
def fnExactKindsOfWrong : ChangeSpec := { name := "fnExactKindsOf", fn := fun _ => fun
  | [d] => { results := [.lit (.bool false)], args := [d] }
  | _ => none }
def FnExactKindsOfWrongFalsely : Prop := fnExactKindsOfRow.holds Try.pinned (OpenSpec.ofChange fnExactKindsOfWrong)

/-- 'laws.FnMinors': WHATEVER THE INPUT: true; the input reads as it did. -/
def fnMinorsSpec : ChangeSpec := { name := "fnMinors", fn := fun _ => fun
  | [d] => { results := [.lit (.bool true)], args := [d] }
  | _ => none }
def fnMinorsRow : OpenClaim := { program := "ytkpibnhddhdooaa", sum := "00b4f29df21198ca584e4104d62dbf13dd1942910ce6c2607fab34eb72622b32", func := "loop.example/g01343/laws.FnMinors", spec := "fnMinors", unfollowed := true, recurses := true, apart := false }
def FnMinorsSaid : Prop := fnMinorsRow.holds Try.pinned (OpenSpec.ofChange fnMinorsSpec)

/-- ITS FALSE NEIGHBOUR: 'it returns false'. Refute it at one input. -/
def fnMinorsWrong : ChangeSpec := { name := "fnMinors", fn := fun _ => fun
  | [d] => { results := [.lit (.bool false)], args := [d] }
  | _ => none }
def FnMinorsWrongFalsely : Prop := fnMinorsRow.holds Try.pinned (OpenSpec.ofChange fnMinorsWrong)

/-- 'laws.FnKinds': WHATEVER THE INPUT: true; the input reads as it did. -/
def fnKindsSpec : ChangeSpec := { name := "fnKinds", fn := fun _ => fun
  | [d] => { results := [.lit (.bool true)], args := [d] }
  | _ => none }
def fnKindsRow : OpenClaim := { program := "ytkpibnhddhdooaa", sum := "00b4f29df21198ca584e4104d62dbf13dd1942910ce6c2607fab34eb72622b32", func := "loop.example/g01343/laws.FnKinds", spec := "fnKinds", unfollowed := true, recurses := true, apart := false }
def FnKindsSaid : Prop := fnKindsRow.holds Try.pinned (OpenSpec.ofChange fnKindsSpec)

/-- ITS FALSE NEIGHBOUR: 'it returns false'. Refute it at one input. -/
def fnKindsWrong : ChangeSpec := { name := "fnKinds", fn := fun _ => fun
  | [d] => { results := [.lit (.bool false)], args := [d] }
  | _ => none }
def FnKindsWrongFalsely : Prop := fnKindsRow.holds Try.pinned (OpenSpec.ofChange fnKindsWrong)

/- THE SECOND FORM. 'bulk': how many values and letters a reading holds, each counted each time it is reached (what is shared counts as often as it is met; a slice's spare places count too). A statement '..UptoSaid' is the law's where the arguments, and the package variables that the reading takes, are together of bulk at most 1048576: NARROWER than '..Said'. Prove '..Said' where nothing that the law and all that it calls make is longer than what came in: it says more and counts as full. Else prove '..UptoSaid'. A law counts once. -/
mutual
def uptoBulk {H : Type} : DataW H → Nat
  | .lit (.string bytes) => bytes.length + 1
  | .lit _ => 1
  | .nil => 1
  | .ptr d => uptoBulk d + 1
  | .slice elems spare => uptoBulkAll elems + uptoBulkAll spare + 1
  | .agg parts => uptoBulkAll parts + 1
  | .iface _ d => uptoBulk d + 1
  | .map entries => uptoBulkEntries entries + 1
  | .held _ => 1
def uptoBulkAll {H : Type} : List (DataW H) → Nat
  | [] => 0
  | d :: r => uptoBulk d + uptoBulkAll r
def uptoBulkEntries {H : Type} : List (Lit × DataW H) → Nat
  | [] => 0
  | x :: r => uptoBulkEntry x + uptoBulkEntries r
def uptoBulkEntry {H : Type} : Lit × DataW H → Nat
  | (.string bytes, d) => bytes.length + uptoBulk d + 1
  | (_, d) => uptoBulk d + 1
 end
def uptoSmall : (H : Type) → List (DataW H) → Bool := fun _ ds => decide (uptoBulkAll ds ≤ 1048576)
def OpenSpec.upto (s : _root_.Go.ChangeSpec) : _root_.Go.OpenSpec := { _root_.Go.OpenSpec.ofChange s with cond := some uptoSmall }

/-- 'laws.FnExactIsOfKind', WHERE WHAT IT READS IS OF BULK AT MOST 1048576: true; the input reads as it did. -/
def fnExactIsOfKindUptoRow : OpenClaim := { program := "ytkpibnhddhdooaa", sum := "00b4f29df21198ca584e4104d62dbf13dd1942910ce6c2607fab34eb72622b32", func := "loop.example/g01343/laws.FnExactIsOfKind", spec := "fnExactIsOfKind", unfollowed := true, recurses := true, apart := false, narrowed := true }
def FnExactIsOfKindUptoSaid : Prop := fnExactIsOfKindUptoRow.holds Try.pinned (OpenSpec.upto fnExactIsOfKindSpec)

/-- 'laws.FnExactKindsOf', WHERE WHAT IT READS IS OF BULK AT MOST 1048576: true; the input reads as it did. -/
def fnExactKindsOfUptoRow : OpenClaim := { program := "ytkpibnhddhdooaa", sum := "00b4f29df21198ca584e4104d62dbf13dd1942910ce6c2607fab34eb72622b32", func := "loop.example/g01343/laws.FnExactKindsOf", spec := "fnExactKindsOf", unfollowed := true, recurses := true, apart := false, narrowed := true }
def FnExactKindsOfUptoSaid : Prop := fnExactKindsOfUptoRow.holds Try.pinned (OpenSpec.upto fnExactKindsOfSpec)

/-- 'laws.FnMinors', WHERE WHAT IT READS IS OF BULK AT MOST 1048576: true; the input reads as it did. -/
def fnMinorsUptoRow : OpenClaim := { program := "ytkpibnhddhdooaa", sum := "00b4f29df21198ca584e4104d62dbf13dd1942910ce6c2607fab34eb72622b32", func := "loop.example/g01343/laws.FnMinors", spec := "fnMinors", unfollowed := true, recurses := true, apart := false, narrowed := true }
def FnMinorsUptoSaid : Prop := fnMinorsUptoRow.holds Try.pinned (OpenSpec.upto fnMinorsSpec)

/-- 'laws.FnKinds', WHERE WHAT IT READS IS OF BULK AT MOST 1048576: true; the input reads as it did. -/
def fnKindsUptoRow : OpenClaim := { program := "ytkpibnhddhdooaa", sum := "00b4f29df21198ca584e4104d62dbf13dd1942910ce6c2607fab34eb72622b32", func := "loop.example/g01343/laws.FnKinds", spec := "fnKinds", unfollowed := true, recurses := true, apart := false, narrowed := true }
def FnKindsUptoSaid : Prop := fnKindsUptoRow.holds Try.pinned (OpenSpec.upto fnKindsSpec)

end Rows
end Go.Proofs.Ytkpibnhddhdooaa
