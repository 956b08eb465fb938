/- Rows: laws over whole numbers and fractions. -/
import Derived.Test.YtmjfekgbbjojdaaRows
import Derived.Test.YtmjfekgbbjojdaaL15
import Derived.Test.YtmjfekgbbjojdaaA2
namespace Go.Proofs.Ytmjfekgbbjojdaa
open Go.RowKit Go.ChangeShapes Go.WideShapes Go.ChangeAt Go.Joins L
set_option linter.unusedVariables false
namespace R
theorem own : ownKnob Try.prog.godebug = none := by kernel_rfl
theorem laid : laidOutB Try.prog = true := by kernel_rfl
end R

set_option maxRecDepth 100000 in
theorem fnExactConstants_lifted (os : Os) (started : os.Started) (H : Type) (enc : TypeId × Value → H) :
    ReturnsInHanded {} Try.checked os 3 .any (Rows.fnExactConstantsSpec.pre6 enc Try.prog Try.f3 Rows.fnExactConstantsRow.domain false) (Rows.fnExactConstantsSpec.post enc Try.prog Try.f3 false true false false) := by
  refine law_lifted (C := Try.checked) R.laid R.own started (by kernel_rfl) Try.func3
    (ChangeSpec.witness6 (enc := enc) (C := Try.checked) false ⟨#[], #[], []⟩ 8 (by kernel_rfl) (by kernel_rfl) (by kernel_rfl) (by kernel_rfl))
    (by kernel_rfl) rfl Try.underlying4 rfl ?_ ?_
  · intro ds hd
    match ds, hd with
    | [], _ => exact ⟨rfl, rfl, rfl⟩
  · intro W base args ds ps hA hval hsz
    rw [Try.params3] at hA hval hsz
    obtain ⟨rfl, rfl, rfl⟩ := trodAll_nil hA
    exact ⟨[], emp, 0, rho0, Sim.emp _ _, IsL.nil _, fun _ _ => rfl, laws_Constants _ _⟩
theorem fnExactConstants_holds : Rows.FnExactConstantsSaid :=
  OpenClaim.holds_of_wide 3 Try.f3 rfl rfl rfl rfl rfl rfl rfl ⟨rfl, rfl, rfl, rfl, rfl⟩ rfl rfl rfl rfl rfl (by kernel_rfl) Try.func3 (by kernel_rfl)
    (of_decide_eq_true (by kernel_rfl)) (by unfold Func.isWrapper; first | (rw [if_pos (by decide +kernel)]; kernel_rfl) | (rw [if_neg (by decide +kernel)]; exact ⟨rfl, rfl⟩))
    (fun os started H enc _ => fnExactConstants_lifted os started H enc)
#print axioms fnExactConstants_holds
set_option maxRecDepth 100000 in
theorem fnExactIsFrac_lifted (os : Os) (started : os.Started) (H : Type) (enc : TypeId × Value → H) :
    ReturnsInHanded {} Try.checked os 4 .any (Rows.fnExactIsFracSpec.pre6 enc Try.prog Try.f4 Rows.fnExactIsFracRow.domain false) (Rows.fnExactIsFracSpec.post enc Try.prog Try.f4 false true false false) := by
  refine law_lifted (C := Try.checked) R.laid R.own started (by kernel_rfl) Try.func4
    (ChangeSpec.witness6 (enc := enc) (C := Try.checked) false ⟨#[], #[.agg #[.int .i64 0, .int .i64 0]], []⟩ 8 (by kernel_rfl) (by kernel_rfl) (by kernel_rfl) (by kernel_rfl))
    (by kernel_rfl) rfl Try.underlying4 rfl ?_ ?_
  · intro ds hd
    match ds, hd with
    | [_], _ => exact ⟨rfl, rfl, rfl⟩
  · intro W base args ds ps hA hval hsz
    rw [Try.params4] at hA hval hsz
    obtain ⟨v0, vs0, d0, ds0, p0, q0, rfl, rfl, rfl, h0, r0⟩ := trodAll_cons hA
    obtain ⟨rfl, rfl, rfl⟩ := trodAll_nil r0
    obtain ⟨a, a_d, rfl, w_a, w_a_d⟩ := tell_frac Try.underlying24 (by kernel_rfl) (by kernel_rfl) rfl rfl Try.underlying2 (hval 0 24 _ rfl rfl) h0
    exact ⟨[fr a a_d], emp, 0, rho0, Sim.emp _ _, IsL.cons (⟨_, rfl, IsL.cons (by simp only [Is]) (IsL.cons (by simp only [Is]) (IsL.nil _))⟩) (IsL.nil _), fun _ _ => rfl, laws_IsFrac _ _ _ _⟩
theorem fnExactIsFrac_holds : Rows.FnExactIsFracSaid :=
  OpenClaim.holds_of_wide 4 Try.f4 rfl rfl rfl rfl rfl rfl rfl ⟨rfl, rfl, rfl, rfl, rfl⟩ rfl rfl rfl rfl rfl (by kernel_rfl) Try.func4 (by kernel_rfl)
    (of_decide_eq_true (by kernel_rfl)) (by unfold Func.isWrapper; first | (rw [if_pos (by decide +kernel)]; kernel_rfl) | (rw [if_neg (by decide +kernel)]; exact ⟨rfl, rfl⟩))
    (fun os started H enc _ => fnExactIsFrac_lifted os started H enc)
#print axioms fnExactIsFrac_holds
set_option maxRecDepth 100000 in
theorem fnExactFracOf_lifted (os : Os) (started : os.Started) (H : Type) (enc : TypeId × Value → H) :
    ReturnsInHanded {} Try.checked os 5 .any (Rows.fnExactFracOfSpec.pre6 enc Try.prog Try.f5 Rows.fnExactFracOfRow.domain false) (Rows.fnExactFracOfSpec.post enc Try.prog Try.f5 false true false false) := by
  refine law_lifted (C := Try.checked) R.laid R.own started (by kernel_rfl) Try.func5
    (ChangeSpec.witness6 (enc := enc) (C := Try.checked) false ⟨#[], #[.int .i64 0, .int .i64 0], []⟩ 8 (by kernel_rfl) (by kernel_rfl) (by kernel_rfl) (by kernel_rfl))
    (by kernel_rfl) rfl Try.underlying4 rfl ?_ ?_
  · intro ds hd
    match ds, hd with
    | [_, _], _ => exact ⟨rfl, rfl, rfl⟩
  · intro W base args ds ps hA hval hsz
    rw [Try.params5] at hA hval hsz
    obtain ⟨v0, vs0, d0, ds0, p0, q0, rfl, rfl, rfl, h0, r0⟩ := trodAll_cons hA
    obtain ⟨v1, vs1, d1, ds1, p1, q1, rfl, rfl, rfl, h1, r1⟩ := trodAll_cons r0
    obtain ⟨rfl, rfl, rfl⟩ := trodAll_nil r1
    obtain ⟨a, rfl, w_a⟩ := tell_int Try.underlying2 (hval 0 2 _ rfl rfl) h0
    obtain ⟨b, rfl, w_b⟩ := tell_int Try.underlying2 (hval 1 2 _ rfl rfl) h1
    exact ⟨[.int .i64 a, .int .i64 b], emp, 0, rho0, Sim.emp _ _, IsL.cons (by simp only [Is]) (IsL.cons (by simp only [Is]) (IsL.nil _)), fun _ _ => rfl, laws_FracOf _ _ _ _⟩
theorem fnExactFracOf_holds : Rows.FnExactFracOfSaid :=
  OpenClaim.holds_of_wide 5 Try.f5 rfl rfl rfl rfl rfl rfl rfl ⟨rfl, rfl, rfl, rfl, rfl⟩ rfl rfl rfl rfl rfl (by kernel_rfl) Try.func5 (by kernel_rfl)
    (of_decide_eq_true (by kernel_rfl)) (by unfold Func.isWrapper; first | (rw [if_pos (by decide +kernel)]; kernel_rfl) | (rw [if_neg (by decide +kernel)]; exact ⟨rfl, rfl⟩))
    (fun os started H enc _ => fnExactFracOf_lifted os started H enc)
#print axioms fnExactFracOf_holds
end Go.Proofs.Ytmjfekgbbjojdaa
