/- Row: the statement on KindsOf, for every argument. -/
import Derived.Test.YtkpibnhddhdooaaR0
import Derived.Test.YtkpibnhddhdooaaA43
namespace Go.Proofs.Ytkpibnhddhdooaa
open Go.RowKit Go.ChangeShapes Go.WideShapes Go.ChangeAt Go.Joins L
set_option linter.unusedVariables false
set_option maxRecDepth 100000 in
theorem fnExactKindsOf_lifted (os : Os) (started : os.Started) (H : Type) (enc : TypeId × Value → H) :
    ReturnsInHanded {} Try.checked os 4 .any (Rows.fnExactKindsOfSpec.pre6 enc Try.prog Try.f4 Rows.fnExactKindsOfRow.domain false) (Rows.fnExactKindsOfSpec.post enc Try.prog Try.f4 false true false false) := by
  refine law_lifted (C := Try.checked) R.laid R.own started (by kernel_rfl) Try.func4
    (ChangeSpec.witness6 (enc := enc) (C := Try.checked) false ⟨#[], #[.slice none 0 0], []⟩ 8 (by kernel_rfl) (by kernel_rfl) (by kernel_rfl) (by kernel_rfl))
    (by kernel_rfl) rfl Try.underlying4 rfl ?_ ?_
  · intro ds hd
    match ds, hd with
    | [_], _ => exact ⟨rfl, rfl, rfl⟩
  · intro W base args ds ps hA hval hsz
    rw [Try.params4] at hA hval hsz
    obtain ⟨v0, vs0, d0, ds0, p0, q0, rfl, rfl, rfl, h0, r0⟩ := trodAll_cons hA
    obtain ⟨rfl, rfl, rfl⟩ := trodAll_nil r0
    have TT := Tell.none W
    obtain ⟨ρ100, h100, m100, v_m, vs_m, l_m, T_m, E_m, N_m, K_m, I_m, S_m, B_m, BB_m⟩ := tell_rows Try.underlying22 Try.underlying29 Try.underlying2 (by kernel_rfl) (by kernel_rfl) TT (hval 0 22 _ rfl rfl) h0
    clear TT
    have TT := T_m
    exact ⟨[v_m], h100, m100, ρ100, TT.sim, IsL.cons (I_m) (IsL.nil _), TT.free, laws_KindsOf S_m B_m BB_m _ (Nat.le_refl _)⟩
theorem fnExactKindsOf_holds : Rows.FnExactKindsOfSaid :=
  OpenClaim.holds_of_wide 4 Try.f4 rfl rfl rfl rfl rfl rfl rfl ⟨rfl, rfl, rfl, rfl, rfl⟩ rfl rfl rfl rfl rfl (by kernel_rfl) Try.func4 (by kernel_rfl)
    (of_decide_eq_true (by kernel_rfl)) (by unfold Func.isWrapper; first | (rw [if_pos (by decide +kernel)]; kernel_rfl) | (rw [if_neg (by decide +kernel)]; exact ⟨rfl, rfl⟩))
    (fun os started H enc _ => fnExactKindsOf_lifted os started H enc)
#print axioms fnExactKindsOf_holds
end Go.Proofs.Ytkpibnhddhdooaa
