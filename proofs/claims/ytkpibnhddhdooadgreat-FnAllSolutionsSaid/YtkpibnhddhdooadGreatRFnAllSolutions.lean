/- Row: the statement on all solutions, for every code. -/
import Derived.Test.YtkpibnhddhdooadGreatR0
import Derived.Test.YtkpibnhddhdooadGreatB9
namespace Go.Proofs.YtkpibnhddhdooadGreat
open Go.RowKit Go.ChangeShapes Go.WideShapes Go.ChangeAt Go.Joins L
set_option linter.unusedVariables false
set_option maxRecDepth 100000 in
theorem fnAllSolutions_lifted (os : Os) (started : os.Started) (H : Type) (enc : TypeId × Value → H) :
    ReturnsInHanded {} Tryz.checked os 4 .any (Rows.fnAllSolutionsSpec.pre6 enc Tryz.prog Tryz.f4 Rows.fnAllSolutionsRow.domain false) (Rows.fnAllSolutionsSpec.post enc Tryz.prog Tryz.f4 false true false false) := by
  refine law_lifted (C := Tryz.checked) R.laid R.own started (by kernel_rfl) Tryz.func4
    (ChangeSpec.witness6 (enc := enc) (C := Tryz.checked) false ⟨#[], #[.slice none 0 0], []⟩ 8 (by kernel_rfl) (by kernel_rfl) (by kernel_rfl) (by kernel_rfl))
    (by kernel_rfl) rfl Tryz.underlying4 rfl ?_ ?_
  · intro ds hd
    match ds, hd with
    | [_], _ => exact ⟨rfl, rfl, rfl⟩
  · intro W base args ds ps hA hval hsz
    rw [Tryz.params4] at hA hval hsz
    obtain ⟨v0, vs0, d0, ds0, p0, q0, rfl, rfl, rfl, h0, r0⟩ := trodAll_cons hA
    obtain ⟨rfl, rfl, rfl⟩ := trodAll_nil r0
    have TT := Tell.none W
    obtain ⟨ρ100, h100, m100, v_code, l_code, T_code, E_code, N_code, K_code, I_code, S_code, B_code, BB_code⟩ := tell_bytes Tryz.underlying37 Tryz.underlying5 (by kernel_rfl) TT (hval 0 37 _ rfl rfl) h0
    clear TT
    have TT := T_code
    exact ⟨[v_code], h100, m100, ρ100, TT.sim, IsL.cons (I_code) (IsL.nil _), TT.free, laws_FnAllSolutions S_code BB_code _ (Nat.le_refl _)⟩
theorem fnAllSolutions_holds : Rows.FnAllSolutionsSaid :=
  OpenClaim.holds_of_wide 4 Tryz.f4 rfl rfl rfl rfl rfl rfl rfl ⟨rfl, rfl, rfl, rfl, rfl⟩ rfl rfl rfl rfl rfl (by kernel_rfl) Tryz.func4 (by kernel_rfl)
    (of_decide_eq_true (by kernel_rfl)) (by unfold Func.isWrapper; first | (rw [if_pos (by decide +kernel)]; kernel_rfl) | (rw [if_neg (by decide +kernel)]; exact ⟨rfl, rfl⟩))
    (fun os started H enc _ => fnAllSolutions_lifted os started H enc)
#print axioms fnAllSolutions_holds
end Go.Proofs.YtkpibnhddhdooadGreat
