/- Row: the statement on SolutionsOf, for every argument. -/
import Derived.Test.YtkpibnhddhdooabR0
import Derived.Test.YtkpibnhddhdooabB6
namespace Go.Proofs.Ytkpibnhddhdooab
open Go.RowKit Go.ChangeShapes Go.WideShapes Go.ChangeAt Go.Joins L
set_option linter.unusedVariables false
set_option maxRecDepth 100000 in
theorem fnExactSolutionsOf_lifted (os : Os) (started : os.Started) (H : Type) (enc : TypeId × Value → H) :
    ReturnsInHanded {} Try.checked os 4 .any (Rows.fnExactSolutionsOfSpec.pre6 enc Try.prog Try.f4 Rows.fnExactSolutionsOfRow.domain false) (Rows.fnExactSolutionsOfSpec.post enc Try.prog Try.f4 false true false false) := by
  refine law_lifted (C := Try.checked) R.laid R.own started (by kernel_rfl) Try.func4
    (ChangeSpec.witness6 (enc := enc) (C := Try.checked) false ⟨#[], #[.agg #[.slice none 0 0, .slice none 0 0]], []⟩ 8 (by kernel_rfl) (by kernel_rfl) (by kernel_rfl) (by kernel_rfl))
    (by kernel_rfl) rfl Try.underlying4 rfl ?_ ?_
  · intro ds hd
    match ds, hd with
    | [_], _ => exact ⟨rfl, rfl, rfl⟩
  · intro W base args ds ps hA hval hsz
    rw [Try.params4] at hA hval hsz
    obtain ⟨v0, vs0, d0, ds0, p0, q0, rfl, rfl, rfl, h0, r0⟩ := trodAll_cons hA
    obtain ⟨rfl, rfl, rfl⟩ := trodAll_nil r0
    have TT := Tell.none W
    obtain ⟨ρ100, h100, m100, v_p, u_p, vs_p, l_p, q_p, T_p, E_p, N_p, K_p, I_p, S_p, SQ_p, B_p, BB_p, BQ_p⟩ := tell_problem Try.underlying25 (by kernel_rfl) (by kernel_rfl) rfl rfl Try.underlying22 Try.underlying23 Try.underlying2 (by kernel_rfl) (by kernel_rfl) TT (hval 0 25 _ rfl rfl) h0
    clear TT
    have TT := T_p
    exact ⟨[.agg [v_p, u_p]], h100, m100, ρ100, TT.sim, IsL.cons (I_p) (IsL.nil _), TT.free, laws_SolutionsOf (Prob.of_args S_p SQ_p) B_p BB_p BQ_p _ (Nat.le_refl _)⟩
theorem fnExactSolutionsOf_holds : Rows.FnExactSolutionsOfSaid :=
  OpenClaim.holds_of_wide 4 Try.f4 rfl rfl rfl rfl rfl rfl rfl ⟨rfl, rfl, rfl, rfl, rfl⟩ rfl rfl rfl rfl rfl (by kernel_rfl) Try.func4 (by kernel_rfl)
    (of_decide_eq_true (by kernel_rfl)) (by unfold Func.isWrapper; first | (rw [if_pos (by decide +kernel)]; kernel_rfl) | (rw [if_neg (by decide +kernel)]; exact ⟨rfl, rfl⟩))
    (fun os started H enc _ => fnExactSolutionsOf_lifted os started H enc)
#print axioms fnExactSolutionsOf_holds
end Go.Proofs.Ytkpibnhddhdooab
