/- Rows: laws over pairs of fractions. -/
import Derived.Test.YtmjfekgbbjojdaaR1
import Derived.Test.YtmjfekgbbjojdaaA5
namespace Go.Proofs.Ytmjfekgbbjojdaa
open Go.RowKit Go.ChangeShapes Go.WideShapes Go.ChangeAt Go.Joins L
set_option linter.unusedVariables false
set_option maxRecDepth 100000 in
theorem fnExactCompareFracs_lifted (os : Os) (started : os.Started) (H : Type) (enc : TypeId × Value → H) :
    ReturnsInHanded {} Try.checked os 6 .any (Rows.fnExactCompareFracsSpec.pre6 enc Try.prog Try.f6 Rows.fnExactCompareFracsRow.domain false) (Rows.fnExactCompareFracsSpec.post enc Try.prog Try.f6 false true false false) := by
  refine law_lifted (C := Try.checked) R.laid R.own started (by kernel_rfl) Try.func6
    (ChangeSpec.witness6 (enc := enc) (C := Try.checked) false ⟨#[], #[.agg #[.int .i64 0, .int .i64 0], .agg #[.int .i64 0, .int .i64 0]], []⟩ 8 (by kernel_rfl) (by kernel_rfl) (by kernel_rfl) (by kernel_rfl))
    (by kernel_rfl) rfl Try.underlying4 rfl ?_ ?_
  · intro ds hd
    match ds, hd with
    | [_, _], _ => exact ⟨rfl, rfl, rfl⟩
  · intro W base args ds ps hA hval hsz
    rw [Try.params6] at hA hval hsz
    obtain ⟨v0, vs0, d0, ds0, p0, q0, rfl, rfl, rfl, h0, r0⟩ := trodAll_cons hA
    obtain ⟨v1, vs1, d1, ds1, p1, q1, rfl, rfl, rfl, h1, r1⟩ := trodAll_cons r0
    obtain ⟨rfl, rfl, rfl⟩ := trodAll_nil r1
    obtain ⟨a, a_d, rfl, w_a, w_a_d⟩ := tell_frac Try.underlying24 (by kernel_rfl) (by kernel_rfl) rfl rfl Try.underlying2 (hval 0 24 _ rfl rfl) h0
    obtain ⟨b, b_d, rfl, w_b, w_b_d⟩ := tell_frac Try.underlying24 (by kernel_rfl) (by kernel_rfl) rfl rfl Try.underlying2 (hval 1 24 _ rfl rfl) h1
    exact ⟨[fr a a_d, fr b b_d], emp, 0, rho0, Sim.emp _ _, IsL.cons (⟨_, rfl, IsL.cons (by simp only [Is]) (IsL.cons (by simp only [Is]) (IsL.nil _))⟩) (IsL.cons (⟨_, rfl, IsL.cons (by simp only [Is]) (IsL.cons (by simp only [Is]) (IsL.nil _))⟩) (IsL.nil _)), fun _ _ => rfl, laws_CompareFracs _ _ _ _ _ _⟩
theorem fnExactCompareFracs_holds : Rows.FnExactCompareFracsSaid :=
  OpenClaim.holds_of_wide 6 Try.f6 rfl rfl rfl rfl rfl rfl rfl ⟨rfl, rfl, rfl, rfl, rfl⟩ rfl rfl rfl rfl rfl (by kernel_rfl) Try.func6 (by kernel_rfl)
    (of_decide_eq_true (by kernel_rfl)) (by unfold Func.isWrapper; first | (rw [if_pos (by decide +kernel)]; kernel_rfl) | (rw [if_neg (by decide +kernel)]; exact ⟨rfl, rfl⟩))
    (fun os started H enc _ => fnExactCompareFracs_lifted os started H enc)
#print axioms fnExactCompareFracs_holds
set_option maxRecDepth 100000 in
theorem fnExactMultiplyFracs_lifted (os : Os) (started : os.Started) (H : Type) (enc : TypeId × Value → H) :
    ReturnsInHanded {} Try.checked os 7 .any (Rows.fnExactMultiplyFracsSpec.pre6 enc Try.prog Try.f7 Rows.fnExactMultiplyFracsRow.domain false) (Rows.fnExactMultiplyFracsSpec.post enc Try.prog Try.f7 false true false false) := by
  refine law_lifted (C := Try.checked) R.laid R.own started (by kernel_rfl) Try.func7
    (ChangeSpec.witness6 (enc := enc) (C := Try.checked) false ⟨#[], #[.agg #[.int .i64 0, .int .i64 0], .agg #[.int .i64 0, .int .i64 0]], []⟩ 8 (by kernel_rfl) (by kernel_rfl) (by kernel_rfl) (by kernel_rfl))
    (by kernel_rfl) rfl Try.underlying4 rfl ?_ ?_
  · intro ds hd
    match ds, hd with
    | [_, _], _ => exact ⟨rfl, rfl, rfl⟩
  · intro W base args ds ps hA hval hsz
    rw [Try.params7] at hA hval hsz
    obtain ⟨v0, vs0, d0, ds0, p0, q0, rfl, rfl, rfl, h0, r0⟩ := trodAll_cons hA
    obtain ⟨v1, vs1, d1, ds1, p1, q1, rfl, rfl, rfl, h1, r1⟩ := trodAll_cons r0
    obtain ⟨rfl, rfl, rfl⟩ := trodAll_nil r1
    obtain ⟨a, a_d, rfl, w_a, w_a_d⟩ := tell_frac Try.underlying24 (by kernel_rfl) (by kernel_rfl) rfl rfl Try.underlying2 (hval 0 24 _ rfl rfl) h0
    obtain ⟨b, b_d, rfl, w_b, w_b_d⟩ := tell_frac Try.underlying24 (by kernel_rfl) (by kernel_rfl) rfl rfl Try.underlying2 (hval 1 24 _ rfl rfl) h1
    exact ⟨[fr a a_d, fr b b_d], emp, 0, rho0, Sim.emp _ _, IsL.cons (⟨_, rfl, IsL.cons (by simp only [Is]) (IsL.cons (by simp only [Is]) (IsL.nil _))⟩) (IsL.cons (⟨_, rfl, IsL.cons (by simp only [Is]) (IsL.cons (by simp only [Is]) (IsL.nil _))⟩) (IsL.nil _)), fun _ _ => rfl, laws_MulFracs _ _ _ _ 0 _ _⟩
theorem fnExactMultiplyFracs_holds : Rows.FnExactMultiplyFracsSaid :=
  OpenClaim.holds_of_wide 7 Try.f7 rfl rfl rfl rfl rfl rfl rfl ⟨rfl, rfl, rfl, rfl, rfl⟩ rfl rfl rfl rfl rfl (by kernel_rfl) Try.func7 (by kernel_rfl)
    (of_decide_eq_true (by kernel_rfl)) (by unfold Func.isWrapper; first | (rw [if_pos (by decide +kernel)]; kernel_rfl) | (rw [if_neg (by decide +kernel)]; exact ⟨rfl, rfl⟩))
    (fun os started H enc _ => fnExactMultiplyFracs_lifted os started H enc)
#print axioms fnExactMultiplyFracs_holds
set_option maxRecDepth 100000 in
theorem fnExactAddFracs_lifted (os : Os) (started : os.Started) (H : Type) (enc : TypeId × Value → H) :
    ReturnsInHanded {} Try.checked os 8 .any (Rows.fnExactAddFracsSpec.pre6 enc Try.prog Try.f8 Rows.fnExactAddFracsRow.domain false) (Rows.fnExactAddFracsSpec.post enc Try.prog Try.f8 false true false false) := by
  refine law_lifted (C := Try.checked) R.laid R.own started (by kernel_rfl) Try.func8
    (ChangeSpec.witness6 (enc := enc) (C := Try.checked) false ⟨#[], #[.agg #[.int .i64 0, .int .i64 0], .agg #[.int .i64 0, .int .i64 0], .int .i64 0], []⟩ 8 (by kernel_rfl) (by kernel_rfl) (by kernel_rfl) (by kernel_rfl))
    (by kernel_rfl) rfl Try.underlying4 rfl ?_ ?_
  · intro ds hd
    match ds, hd with
    | [_, _, _], _ => exact ⟨rfl, rfl, rfl⟩
  · intro W base args ds ps hA hval hsz
    rw [Try.params8] at hA hval hsz
    obtain ⟨v0, vs0, d0, ds0, p0, q0, rfl, rfl, rfl, h0, r0⟩ := trodAll_cons hA
    obtain ⟨v1, vs1, d1, ds1, p1, q1, rfl, rfl, rfl, h1, r1⟩ := trodAll_cons r0
    obtain ⟨v2, vs2, d2, ds2, p2, q2, rfl, rfl, rfl, h2, r2⟩ := trodAll_cons r1
    obtain ⟨rfl, rfl, rfl⟩ := trodAll_nil r2
    obtain ⟨a, a_d, rfl, w_a, w_a_d⟩ := tell_frac Try.underlying24 (by kernel_rfl) (by kernel_rfl) rfl rfl Try.underlying2 (hval 0 24 _ rfl rfl) h0
    obtain ⟨b, b_d, rfl, w_b, w_b_d⟩ := tell_frac Try.underlying24 (by kernel_rfl) (by kernel_rfl) rfl rfl Try.underlying2 (hval 1 24 _ rfl rfl) h1
    obtain ⟨k, rfl, w_k⟩ := tell_int Try.underlying2 (hval 2 2 _ rfl rfl) h2
    exact ⟨[fr a a_d, fr b b_d, .int .i64 k], emp, 0, rho0, Sim.emp _ _, IsL.cons (⟨_, rfl, IsL.cons (by simp only [Is]) (IsL.cons (by simp only [Is]) (IsL.nil _))⟩) (IsL.cons (⟨_, rfl, IsL.cons (by simp only [Is]) (IsL.cons (by simp only [Is]) (IsL.nil _))⟩) (IsL.cons (by simp only [Is]) (IsL.nil _))), fun _ _ => rfl, laws_AddFracs _ _ _ _ _ _ _⟩
theorem fnExactAddFracs_holds : Rows.FnExactAddFracsSaid :=
  OpenClaim.holds_of_wide 8 Try.f8 rfl rfl rfl rfl rfl rfl rfl ⟨rfl, rfl, rfl, rfl, rfl⟩ rfl rfl rfl rfl rfl (by kernel_rfl) Try.func8 (by kernel_rfl)
    (of_decide_eq_true (by kernel_rfl)) (by unfold Func.isWrapper; first | (rw [if_pos (by decide +kernel)]; kernel_rfl) | (rw [if_neg (by decide +kernel)]; exact ⟨rfl, rfl⟩))
    (fun os started H enc _ => fnExactAddFracs_lifted os started H enc)
#print axioms fnExactAddFracs_holds
end Go.Proofs.Ytmjfekgbbjojdaa
