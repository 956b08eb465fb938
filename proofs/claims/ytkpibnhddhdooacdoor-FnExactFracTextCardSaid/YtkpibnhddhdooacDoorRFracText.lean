/- Row and card: the statement on FracText, for every argument. -/
import Derived.Test.YtkpibnhddhdooacDoorRL0
import Derived.Test.YtkpibnhddhdooacDoorB1
namespace Go.Proofs.YtkpibnhddhdooacDoor
open Go.RowKit Go.ChangeShapes Go.WideShapes Go.ChangeAt Go.Joins L
set_option linter.unusedVariables false
set_option maxRecDepth 100000 in
theorem fnExactFracText_lifted (os : Os) (started : os.Started) (H : Type) (enc : TypeId × Value → H) :
    ReturnsInHanded {} Tryd.checked os 3 .any (fun w args => (Rows.fnExactFracTextSpec.pre enc Tryd.prog Tryd.f3 Rows.fnExactFracTextRow.domain false w args ∧ laidMet Tryd.prog Rows.fnExactFracTextRow.laid w) ∧ sizedMet enc Tryd.prog Tryd.f3 (OpenSpec.ofChange Rows.fnExactFracTextSpec) false w args) (Rows.fnExactFracTextSpec.post enc Tryd.prog Tryd.f3 false true false false) := by
  refine law_laid (C := Tryd.checked) (X := fun w _ => laidMet Tryd.prog Rows.fnExactFracTextRow.laid w) (fun _ _ _ hh h => h.of_heap hh) R.laid R.own started (by kernel_rfl) Tryd.func3
    (ChangeSpec.witness_at (enc := enc) (C := Tryd.checked) (os := os) (X := fun w _ => laidMet Tryd.prog Rows.fnExactFracTextRow.laid w) false (laidWorld os) #[.agg #[.int .i64 0, .int .i64 0]] 8 rfl (by kernel_rfl) (by kernel_rfl) (by kernel_rfl) (by kernel_rfl) (by kernel_rfl) (laidWorld_met os _))
    (by kernel_rfl) rfl Tryd.underlying4 rfl ?_ ?_
  · intro ds hd
    match ds, hd with
    | [_], _ => exact ⟨rfl, rfl, rfl⟩
  · intro W base args ds ps hA hval hsz hL
    rw [Tryd.params3] at hA hval hsz
    obtain ⟨v0, vs0, d0, ds0, p0, q0, rfl, rfl, rfl, h0, r0⟩ := trodAll_cons hA
    obtain ⟨rfl, rfl, rfl⟩ := trodAll_nil r0
    have TT := tell_start hL
    have hTab : L.Tab tabH := tabH_tab
    obtain ⟨a, a_d, rfl, w_a, w_a_d⟩ := tell_frac Tryd.underlying23 (by kernel_rfl) (by kernel_rfl) rfl rfl Tryd.underlying2 (hval 0 23 _ rfl rfl) h0
    exact ⟨[fr a a_d], _, _, _, TT.sim, IsL.cons (⟨_, rfl, IsL.cons (by simp only [Is]) (IsL.cons (by simp only [Is]) (IsL.nil _))⟩) (IsL.nil _), TT.free, laws_FracText hTab a a_d _ (by omega)⟩
theorem fnExactFracText_holds : Rows.FnExactFracTextSaid :=
  OpenClaim.holds_of_wide 3 Tryd.f3 rfl rfl rfl rfl rfl rfl rfl ⟨rfl, rfl, rfl, rfl, rfl⟩ rfl rfl rfl rfl rfl (by kernel_rfl) Tryd.func3 (by kernel_rfl)
    (of_decide_eq_true (by kernel_rfl)) (by unfold Func.isWrapper; first | (rw [if_pos (by decide +kernel)]; kernel_rfl) | (rw [if_neg (by decide +kernel)]; exact ⟨rfl, rfl⟩))
    (fun os started H enc _ => fnExactFracText_lifted os started H enc)
theorem fnExactFracText_card_holds : Rows.FnExactFracTextCardSaid :=
  Claim7.holds_tied_plain_at .later [] [.data, .data, .data] true (true, "5e98cacbffacb3dbffe9f903df055590d19e3ef209962b9c329daa83ed557ca3") true
    fnExactFracText_holds (fun _ h => by cases h) (by kernel_rfl) (fun _ h => by cases h) fnExactFracText_row_tie rfl ⟨rfl, rfl⟩ (by kernel_rfl) rfl
    (fun f fn hf hfn => by
      obtain rfl : f = 3 := Option.some.inj ((show Tryd.prog.funcNamed "loop.example/g01343/laws.FnExactFracText" = some 3 by kernel_rfl).symm.trans hf) |>.symm
      obtain rfl : fn = Tryd.f3 := (Option.some.inj (Tryd.func3.symm.trans hfn)).symm
      exact ⟨by kernel_rfl, fun j t ht => by
        rw [Tryd.params3] at ht
        rcases j with _ | j
        · simp at ht
          subst ht
          kernel_rfl
        · simp at ht⟩)
    (by kernel_rfl)
#print axioms fnExactFracText_card_holds
end Go.Proofs.YtkpibnhddhdooacDoor
