/- Contracts: the statement on IsMatrix. -/
import Derived.Test.YtkpibnhddhdooaaA6
namespace Go.Proofs.Ytkpibnhddhdooaa.L
open Go
set_option linter.unusedSimpArgs false
set_option linter.unusedVariables false


theorem sz_len {ll : List (List Int)} {r : Int} (hr : 0 ≤ r → (ll.length : Int) ≤ 1048576 ∧ ∀ k, k < ll.length → ((ll.getD k []).length : Int) ≤ 1048576) (h0 : ¬ r < 0) : ll.length ≤ 1048576 ∧ ∀ l ∈ ll, l.length ≤ 1048576 := by
  obtain ⟨h1, h2⟩ := hr (by omega)
  refine ⟨by omega, fun l hl => ?_⟩
  obtain ⟨k, hk, rfl⟩ := List.mem_iff_getElem.1 hl
  have := h2 k hk
  simp [List.getD, hk] at this
  omega
end Go.Proofs.Ytkpibnhddhdooaa.L
