/- Contracts: matrices made out of matrices, place by place. -/
import Derived.Test.YtkpibnhddhdooabA6
import Derived.Test.YtkpibnhddhdooabA10
import Derived.Test.YtkpibnhddhdooabA11
import Derived.Test.YtkpibnhddhdooabM3
namespace Go.Proofs.Ytkpibnhddhdooab.L
open Go
set_option linter.unusedSimpArgs false
set_option linter.unusedVariables false


theorem isMat_at {ll : List (List Int)} (h : isMat ll = true) {i k : Nat} (hi : i < ll.length) (hk : k < ll.length) : -20 ≤ at2 ll i k ∧ at2 ll i k ≤ 20 := by
  rw [isMat_iff] at h
  have h1 := h.2.2 i hi
  have h2 := h1.2
  rw [within_iff] at h2
  exact h2 k (by omega)
section
variable {w : Bool} {lo hi : Nat} {h : AH} {v : AV} {vs : List AV} {ll : List (List Int)}
def cmp2 (ll : List (List Int)) (i k : Nat) : Int := if i = k then (at2 ll i k).natAbs else -(at2 ll i k).natAbs
def symF (ll : List (List Int)) : List (List Int) := rowsOf ll.length fun i => rowOf ll.length fun k => at2 ll i k + at2 ll k i
def cmpF2 (ll : List (List Int)) : List (List Int) := rowsOf ll.length fun i => rowOf ll.length fun k => cmp2 ll i k
end
end Go.Proofs.Ytkpibnhddhdooab.L
