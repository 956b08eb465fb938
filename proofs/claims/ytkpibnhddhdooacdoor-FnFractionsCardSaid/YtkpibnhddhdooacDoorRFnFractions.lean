/- Row and card: the statement on fractions, for every code. -/
import Derived.Test.YtkpibnhddhdooacDoorRL0
import Derived.Test.YtkpibnhddhdooacDoorB3
namespace Go.Proofs.YtkpibnhddhdooacDoor
open Go.RowKit Go.ChangeShapes Go.WideShapes Go.ChangeAt Go.Joins L
set_option linter.unusedVariables false
set_option maxRecDepth 100000 in
theorem fnFractions_lifted (os : Os) (started : os.Started) (H : Type) (enc : TypeId × Value → H) :
    ReturnsInHanded {} Tryd.checked os 4 .any (fun w args => (Rows.fnFractionsSpec.pre enc Tryd.prog Tryd.f4 Rows.fnFractionsRow.domain false w args ∧ laidMet Tryd.prog Rows.fnFractionsRow.laid w) ∧ sizedMet enc Tryd.prog Tryd.f4 (OpenSpec.ofChange Rows.fnFractionsSpec) false w args) (Rows.fnFractionsSpec.post enc Tryd.prog Tryd.f4 false true false false) := by
  refine law_laid (C := Tryd.checked) (X := fun w _ => laidMet Tryd.prog Rows.fnFractionsRow.laid w) (fun _ _ _ hh h => h.of_heap hh) R.laid R.own started (by kernel_rfl) Tryd.func4
    (ChangeSpec.witness_at (enc := enc) (C := Tryd.checked) (os := os) (X := fun w _ => laidMet Tryd.prog Rows.fnFractionsRow.laid w) false (laidWorld os) #[.slice none 0 0] 8 rfl (by kernel_rfl) (by kernel_rfl) (by kernel_rfl) (by kernel_rfl) (by kernel_rfl) (laidWorld_met os _))
    (by kernel_rfl) rfl Tryd.underlying4 rfl ?_ ?_
  · intro ds hd
    match ds, hd with
    | [_], _ => exact ⟨rfl, rfl, rfl⟩
  · intro W base args ds ps hA hval hsz hL
    rw [Tryd.params4] at hA hval hsz
    obtain ⟨v0, vs0, d0, ds0, p0, q0, rfl, rfl, rfl, h0, r0⟩ := trodAll_cons hA
    obtain ⟨rfl, rfl, rfl⟩ := trodAll_nil r0
    have TT := tell_start hL
    have hTab : L.Tab tabH := tabH_tab
    obtain ⟨ρ100, h100, m100, v_code, l_code, T_code, E_code, N_code, K_code, I_code, S_code, B_code, BB_code⟩ := tell_bytes Tryd.underlying29 Tryd.underlying5 (by kernel_rfl) TT (hval 0 29 _ rfl rfl) h0
    clear TT
    have TT := T_code
    replace hTab := hTab.keep (K_code 0 (by omega))
    exact ⟨[v_code], _, _, _, TT.sim, IsL.cons (I_code) (IsL.nil _), TT.free, laws_FnFractions hTab (S_code.wide (Nat.zero_le _) (Nat.le_refl _)) BB_code _ (Nat.le_refl _) (by omega)⟩
theorem fnFractions_holds : Rows.FnFractionsSaid :=
  OpenClaim.holds_of_wide 4 Tryd.f4 rfl rfl rfl rfl rfl rfl rfl ⟨rfl, rfl, rfl, rfl, rfl⟩ rfl rfl rfl rfl rfl (by kernel_rfl) Tryd.func4 (by kernel_rfl)
    (of_decide_eq_true (by kernel_rfl)) (by unfold Func.isWrapper; first | (rw [if_pos (by decide +kernel)]; kernel_rfl) | (rw [if_neg (by decide +kernel)]; exact ⟨rfl, rfl⟩))
    (fun os started H enc _ => fnFractions_lifted os started H enc)
theorem fnFractions_card_holds : Rows.FnFractionsCardSaid :=
  Claim7.holds_tied_plain_at .later [] [.data, .data, .data] true (true, "5e98cacbffacb3dbffe9f903df055590d19e3ef209962b9c329daa83ed557ca3") true
    fnFractions_holds (fun _ h => by cases h) (by kernel_rfl) (fun _ h => by cases h) fnFractions_row_tie rfl ⟨rfl, rfl⟩ (by kernel_rfl) rfl
    (fun f fn hf hfn => by
      obtain rfl : f = 4 := Option.some.inj ((show Tryd.prog.funcNamed "loop.example/g01343/laws.FnFractions" = some 4 by kernel_rfl).symm.trans hf) |>.symm
      obtain rfl : fn = Tryd.f4 := (Option.some.inj (Tryd.func4.symm.trans hfn)).symm
      exact ⟨by kernel_rfl, fun j t ht => by
        rw [Tryd.params4] at ht
        rcases j with _ | j
        · simp at ht
          subst ht
          kernel_rfl
        · simp at ht⟩)
    (by kernel_rfl)
#print axioms fnFractions_card_holds
end Go.Proofs.YtkpibnhddhdooacDoor
