/- Row: the statement on LeastSolution, for every argument. -/
import Derived.Test.YtkpibnhddhdooadGreatR0
import Derived.Test.YtkpibnhddhdooadGreatB6
namespace Go.Proofs.YtkpibnhddhdooadGreat
open Go.RowKit Go.ChangeShapes Go.WideShapes Go.ChangeAt Go.Joins L
set_option linter.unusedVariables false
set_option maxRecDepth 100000 in
theorem fnExactLeastSolution_lifted (os : Os) (started : os.Started) (H : Type) (enc : TypeId × Value → H) :
    ReturnsInHanded {} Tryz.checked os 3 .any (Rows.fnExactLeastSolutionSpec.pre6 enc Tryz.prog Tryz.f3 Rows.fnExactLeastSolutionRow.domain false) (Rows.fnExactLeastSolutionSpec.post enc Tryz.prog Tryz.f3 false true false false) := by
  refine law_lifted (C := Tryz.checked) R.laid R.own started (by kernel_rfl) Tryz.func3
    (ChangeSpec.witness6 (enc := enc) (C := Tryz.checked) false ⟨#[], #[.agg #[.slice none 0 0, .slice none 0 0]], []⟩ 8 (by kernel_rfl) (by kernel_rfl) (by kernel_rfl) (by kernel_rfl))
    (by kernel_rfl) rfl Tryz.underlying4 rfl ?_ ?_
  · intro ds hd
    match ds, hd with
    | [_], _ => exact ⟨rfl, rfl, rfl⟩
  · intro W base args ds ps hA hval hsz
    rw [Tryz.params3] at hA hval hsz
    obtain ⟨v0, vs0, d0, ds0, p0, q0, rfl, rfl, rfl, h0, r0⟩ := trodAll_cons hA
    obtain ⟨rfl, rfl, rfl⟩ := trodAll_nil r0
    have TT := Tell.none W
    obtain ⟨ρ100, h100, m100, v_p, u_p, vs_p, l_p, q_p, T_p, E_p, N_p, K_p, I_p, S_p, SQ_p, B_p, BB_p, BQ_p⟩ := tell_problem Tryz.underlying25 (by kernel_rfl) (by kernel_rfl) rfl rfl Tryz.underlying22 Tryz.underlying23 Tryz.underlying2 (by kernel_rfl) (by kernel_rfl) TT (hval 0 25 _ rfl rfl) h0
    clear TT
    have TT := T_p
    exact ⟨[.agg [v_p, u_p]], h100, m100, ρ100, TT.sim, IsL.cons (I_p) (IsL.nil _), TT.free, laws_LeastSolution (Prob.of_args S_p SQ_p) B_p BB_p BQ_p _ (Nat.le_refl _)⟩
theorem fnExactLeastSolution_holds : Rows.FnExactLeastSolutionSaid :=
  OpenClaim.holds_of_wide 3 Tryz.f3 rfl rfl rfl rfl rfl rfl rfl ⟨rfl, rfl, rfl, rfl, rfl⟩ rfl rfl rfl rfl rfl (by kernel_rfl) Tryz.func3 (by kernel_rfl)
    (of_decide_eq_true (by kernel_rfl)) (by unfold Func.isWrapper; first | (rw [if_pos (by decide +kernel)]; kernel_rfl) | (rw [if_neg (by decide +kernel)]; exact ⟨rfl, rfl⟩))
    (fun os started H enc _ => fnExactLeastSolution_lifted os started H enc)
#print axioms fnExactLeastSolution_holds
end Go.Proofs.YtkpibnhddhdooadGreat
