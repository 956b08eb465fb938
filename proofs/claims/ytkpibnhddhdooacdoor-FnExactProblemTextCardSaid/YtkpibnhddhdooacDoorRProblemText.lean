/- Row and card: the statement on ProblemText, for every argument. -/
import Derived.Test.YtkpibnhddhdooacDoorRL0
import Derived.Test.YtkpibnhddhdooacDoorB2
namespace Go.Proofs.YtkpibnhddhdooacDoor
open Go.RowKit Go.ChangeShapes Go.WideShapes Go.ChangeAt Go.Joins L
set_option linter.unusedVariables false
set_option maxRecDepth 100000 in
theorem fnExactProblemText_lifted (os : Os) (started : os.Started) (H : Type) (enc : TypeId × Value → H) :
    ReturnsInHanded {} Tryd.checked os 5 .any (fun w args => (Rows.fnExactProblemTextSpec.pre enc Tryd.prog Tryd.f5 Rows.fnExactProblemTextRow.domain false w args ∧ laidMet Tryd.prog Rows.fnExactProblemTextRow.laid w) ∧ sizedMet enc Tryd.prog Tryd.f5 (OpenSpec.ofChange Rows.fnExactProblemTextSpec) false w args) (Rows.fnExactProblemTextSpec.post enc Tryd.prog Tryd.f5 false true false false) := by
  refine law_laid (C := Tryd.checked) (X := fun w _ => laidMet Tryd.prog Rows.fnExactProblemTextRow.laid w) (fun _ _ _ hh h => h.of_heap hh) R.laid R.own started (by kernel_rfl) Tryd.func5
    (ChangeSpec.witness_at (enc := enc) (C := Tryd.checked) (os := os) (X := fun w _ => laidMet Tryd.prog Rows.fnExactProblemTextRow.laid w) false (laidWorld os) #[.agg #[.slice none 0 0, .slice none 0 0]] 8 rfl (by kernel_rfl) (by kernel_rfl) (by kernel_rfl) (by kernel_rfl) (by kernel_rfl) (laidWorld_met os _))
    (by kernel_rfl) rfl Tryd.underlying4 rfl ?_ ?_
  · intro ds hd
    match ds, hd with
    | [_], _ => exact ⟨rfl, rfl, rfl⟩
  · intro W base args ds ps hA hval hsz hL
    rw [Tryd.params5] at hA hval hsz
    obtain ⟨v0, vs0, d0, ds0, p0, q0, rfl, rfl, rfl, h0, r0⟩ := trodAll_cons hA
    obtain ⟨rfl, rfl, rfl⟩ := trodAll_nil r0
    have TT := tell_start hL
    have hTab : L.Tab tabH := tabH_tab
    obtain ⟨ρ100, h100, m100, v_p, u_p, vs_p, l_p, q_p, T_p, E_p, N_p, K_p, I_p, S_p, SQ_p, B_p, BB_p, BQ_p⟩ := tell_problem Tryd.underlying47 (by kernel_rfl) (by kernel_rfl) rfl rfl Tryd.underlying44 Tryd.underlying45 Tryd.underlying2 (by kernel_rfl) (by kernel_rfl) TT (hval 0 47 _ rfl rfl) h0
    clear TT
    have TT := T_p
    replace hTab := hTab.keep (K_p 0 (by omega))
    exact ⟨[.agg [v_p, u_p]], _, _, _, TT.sim, IsL.cons (I_p) (IsL.nil _), TT.free, laws_ProblemText hTab (Prob.of_args S_p SQ_p) B_p BB_p BQ_p _ (Nat.le_refl _) (by omega)⟩
theorem fnExactProblemText_holds : Rows.FnExactProblemTextSaid :=
  OpenClaim.holds_of_wide 5 Tryd.f5 rfl rfl rfl rfl rfl rfl rfl ⟨rfl, rfl, rfl, rfl, rfl⟩ rfl rfl rfl rfl rfl (by kernel_rfl) Tryd.func5 (by kernel_rfl)
    (of_decide_eq_true (by kernel_rfl)) (by unfold Func.isWrapper; first | (rw [if_pos (by decide +kernel)]; kernel_rfl) | (rw [if_neg (by decide +kernel)]; exact ⟨rfl, rfl⟩))
    (fun os started H enc _ => fnExactProblemText_lifted os started H enc)
theorem fnExactProblemText_card_holds : Rows.FnExactProblemTextCardSaid :=
  Claim7.holds_tied_plain_at .later [] [.data, .data, .data] true (true, "5e98cacbffacb3dbffe9f903df055590d19e3ef209962b9c329daa83ed557ca3") true
    fnExactProblemText_holds (fun _ h => by cases h) (by kernel_rfl) (fun _ h => by cases h) fnExactProblemText_row_tie rfl ⟨rfl, rfl⟩ (by kernel_rfl) rfl
    (fun f fn hf hfn => by
      obtain rfl : f = 5 := Option.some.inj ((show Tryd.prog.funcNamed "loop.example/g01343/laws.FnExactProblemText" = some 5 by kernel_rfl).symm.trans hf) |>.symm
      obtain rfl : fn = Tryd.f5 := (Option.some.inj (Tryd.func5.symm.trans hfn)).symm
      exact ⟨by kernel_rfl, fun j t ht => by
        rw [Tryd.params5] at ht
        rcases j with _ | j
        · simp at ht
          subst ht
          kernel_rfl
        · simp at ht⟩)
    (by kernel_rfl)
#print axioms fnExactProblemText_card_holds
end Go.Proofs.YtkpibnhddhdooacDoor
