/- Row and card: the statement on reading a problem, for every text. -/
import Derived.Test.YtkpibnhddhdooacDoorRL2
import Derived.Test.YtkpibnhddhdooacDoorTie
namespace Go.Proofs.YtkpibnhddhdooacDoor
open Go.RowKit Go.ChangeShapes Go.WideShapes Go.ChangeAt Go.Joins L
open Go.ChangeMaps (open_string)
set_option linter.unusedVariables false
set_option maxRecDepth 100000 in
theorem fnExactParseProblem_lifted (os : Os) (started : os.Started) (H : Type) (enc : TypeId × Value → H) :
    ReturnsInHanded {} Tryd.checked os 6 .any (fun w args => (Rows.fnExactParseProblemSpec.pre enc Tryd.prog Tryd.f6 Rows.fnExactParseProblemRow.domain false w args ∧ laidMet Tryd.prog Rows.fnExactParseProblemRow.laid w) ∧ sizedMet enc Tryd.prog Tryd.f6 (OpenSpec.ofChange Rows.fnExactParseProblemSpec) false w args) (Rows.fnExactParseProblemSpec.post enc Tryd.prog Tryd.f6 false true false false) := by
  refine law_laid_shaped (C := Tryd.checked) (X := fun w _ => laidMet Tryd.prog Rows.fnExactParseProblemRow.laid w) (fun _ _ _ hh h => h.of_heap hh) R.laid R.own started (by kernel_rfl) Tryd.func6
    (ChangeSpec.witness_at (enc := enc) (C := Tryd.checked) (os := os) (X := fun w _ => laidMet Tryd.prog Rows.fnExactParseProblemRow.laid w) false (laidWorld7 os) #[.string ⟨#[]⟩] 8 rfl (by kernel_rfl) (by kernel_rfl) (by kernel_rfl) (by kernel_rfl) (by kernel_rfl) (laidWorld7_met os _))
    (by kernel_rfl) rfl Tryd.underlying4 rfl ?_ ?_
  · intro ds hd
    match ds, hd with
    | [_], _ => exact ⟨rfl, rfl, rfl⟩
  · intro W base args ds ps hA hval hsz hL hsh
    rw [Tryd.params6] at hA hval hsz
    obtain ⟨v0, vs0, d0, ds0, p0, q0, rfl, rfl, rfl, h0, r0⟩ := trodAll_cons hA
    obtain ⟨rfl, rfl, rfl⟩ := trodAll_nil r0
    obtain ⟨ρ, h, TT, hT⟩ := tell_start7 hL hsh
    obtain ⟨s, rfl, rfl, rfl, hs⟩ := open_string Tryd.underlying9 (hval 0 9 _ rfl rfl) h0
    have es : L.bs s.data.toList = s := by apply ByteArray.ext; simp [L.bs]
    have hq := laws_ParseProblem hT s.data.toList 4 (Nat.le_refl _)
    rw [es] at hq
    exact ⟨[.str s], h, 4, ρ, TT.sim, IsL.cons (by simp only [Is]) (IsL.nil _), TT.free, hq⟩
theorem fnExactParseProblem_holds : Rows.FnExactParseProblemSaid :=
  OpenClaim.holds_of_wide 6 Tryd.f6 rfl rfl rfl rfl rfl rfl rfl ⟨rfl, rfl, rfl, rfl, rfl⟩ rfl rfl rfl rfl rfl (by kernel_rfl) Tryd.func6 (by kernel_rfl)
    (of_decide_eq_true (by kernel_rfl)) (by unfold Func.isWrapper; first | (rw [if_pos (by decide +kernel)]; kernel_rfl) | (rw [if_neg (by decide +kernel)]; exact ⟨rfl, rfl⟩))
    (fun os started H enc _ => fnExactParseProblem_lifted os started H enc)
theorem fnExactParseProblem_card_holds : Rows.FnExactParseProblemCardSaid :=
  Claim7.holds_tied_plain_at .later [] [.data, .data, .data, .data, .sentinel, .sentinel, .pinned] true (true, "5e98cacbffacb3dbffe9f903df055590d19e3ef209962b9c329daa83ed557ca3") true
    fnExactParseProblem_holds (fun _ h => by cases h) (by kernel_rfl) (fun _ h => by cases h) fnExactParseProblem_row_tie rfl ⟨rfl, rfl⟩ (by kernel_rfl) rfl
    (fun f fn hf hfn => by
      obtain rfl : f = 6 := Option.some.inj ((show Tryd.prog.funcNamed "loop.example/g01343/laws.FnExactParseProblem" = some 6 by kernel_rfl).symm.trans hf) |>.symm
      obtain rfl : fn = Tryd.f6 := (Option.some.inj (Tryd.func6.symm.trans hfn)).symm
      exact ⟨by kernel_rfl, fun j t ht => by
        rw [Tryd.params6] at ht
        rcases j with _ | j
        · simp at ht
          subst ht
          kernel_rfl
        · simp at ht⟩)
    (by kernel_rfl)
#print axioms fnExactParseProblem_card_holds
end Go.Proofs.YtkpibnhddhdooacDoor
