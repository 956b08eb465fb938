/- Row: the statement on IsAllowed, for every argument. -/
import Derived.Test.YtkpibnhddhdooabR0
import Derived.Test.YtkpibnhddhdooabA38
namespace Go.Proofs.Ytkpibnhddhdooab
open Go.RowKit Go.ChangeShapes Go.WideShapes Go.ChangeAt Go.Joins L
set_option linter.unusedVariables false
set_option maxRecDepth 100000 in
theorem fnExactIsAllowed_lifted (os : Os) (started : os.Started) (H : Type) (enc : TypeId × Value → H) :
    ReturnsInHanded {} Try.checked os 3 .any (Rows.fnExactIsAllowedSpec.pre6 enc Try.prog Try.f3 Rows.fnExactIsAllowedRow.domain false) (Rows.fnExactIsAllowedSpec.post enc Try.prog Try.f3 false true false false) := by
  refine law_lifted (C := Try.checked) R.laid R.own started (by kernel_rfl) Try.func3
    (ChangeSpec.witness6 (enc := enc) (C := Try.checked) false ⟨#[], #[.agg #[.slice none 0 0, .slice none 0 0], .slice none 0 0], []⟩ 8 (by kernel_rfl) (by kernel_rfl) (by kernel_rfl) (by kernel_rfl))
    (by kernel_rfl) rfl Try.underlying4 rfl ?_ ?_
  · intro ds hd
    match ds, hd with
    | [_, _], _ => exact ⟨rfl, rfl, rfl⟩
  · intro W base args ds ps hA hval hsz
    rw [Try.params3] at hA hval hsz
    obtain ⟨v0, vs0, d0, ds0, p0, q0, rfl, rfl, rfl, h0, r0⟩ := trodAll_cons hA
    obtain ⟨v1, vs1, d1, ds1, p1, q1, rfl, rfl, rfl, h1, r1⟩ := trodAll_cons r0
    obtain ⟨rfl, rfl, rfl⟩ := trodAll_nil r1
    have TT := Tell.none W
    obtain ⟨ρ100, h100, m100, v_p, u_p, vs_p, l_p, q_p, T_p, E_p, N_p, K_p, I_p, S_p, SQ_p, B_p, BB_p, BQ_p⟩ := tell_problem Try.underlying25 (by kernel_rfl) (by kernel_rfl) rfl rfl Try.underlying22 Try.underlying23 Try.underlying2 (by kernel_rfl) (by kernel_rfl) TT (hval 0 25 _ rfl rfl) h0
    clear TT
    have TT := T_p
    obtain ⟨ρ101, h101, m101, v_f, l_f, T_f, E_f, N_f, K_f, I_f, S_f, B_f⟩ := tell_fracs Try.underlying26 Try.underlying67 (by kernel_rfl) rfl rfl rfl rfl (by kernel_rfl) Try.underlying2 TT (hval 1 26 _ rfl rfl) h1
    clear TT
    have TT := T_f
    replace I_p := Is.mono E_f _ _ I_p
    replace S_p := (S_p.keep fun i _ hi => K_f i hi).wide (Nat.le_refl _) N_f
    replace SQ_p := (SQ_p.keep fun i _ hi => K_f i hi).wide (Nat.le_refl _) N_f
    exact ⟨[.agg [v_p, u_p], v_f], h101, m101, ρ101, TT.sim, IsL.cons (I_p) (IsL.cons (I_f) (IsL.nil _)), TT.free, laws_IsAllowed (Prob.of_args S_p SQ_p) B_p BB_p BQ_p S_f B_f _ (Nat.le_refl _) (Nat.le_refl _)⟩
theorem fnExactIsAllowed_holds : Rows.FnExactIsAllowedSaid :=
  OpenClaim.holds_of_wide 3 Try.f3 rfl rfl rfl rfl rfl rfl rfl ⟨rfl, rfl, rfl, rfl, rfl⟩ rfl rfl rfl rfl rfl (by kernel_rfl) Try.func3 (by kernel_rfl)
    (of_decide_eq_true (by kernel_rfl)) (by unfold Func.isWrapper; first | (rw [if_pos (by decide +kernel)]; kernel_rfl) | (rw [if_neg (by decide +kernel)]; exact ⟨rfl, rfl⟩))
    (fun os started H enc _ => fnExactIsAllowed_lifted os started H enc)
#print axioms fnExactIsAllowed_holds
end Go.Proofs.Ytkpibnhddhdooab
