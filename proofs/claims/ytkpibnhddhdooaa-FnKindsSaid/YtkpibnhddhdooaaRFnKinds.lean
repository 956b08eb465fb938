/- Row: the statement on kinds, for every code. -/
import Derived.Test.YtkpibnhddhdooaaR0
import Derived.Test.YtkpibnhddhdooaaB6
namespace Go.Proofs.Ytkpibnhddhdooaa
open Go.RowKit Go.ChangeShapes Go.WideShapes Go.ChangeAt Go.Joins L
set_option linter.unusedVariables false
set_option maxRecDepth 100000 in
theorem fnKinds_lifted (os : Os) (started : os.Started) (H : Type) (enc : TypeId × Value → H) :
    ReturnsInHanded {} Try.checked os 6 .any (Rows.fnKindsSpec.pre6 enc Try.prog Try.f6 Rows.fnKindsRow.domain false) (Rows.fnKindsSpec.post enc Try.prog Try.f6 false true false false) := by
  refine law_lifted (C := Try.checked) R.laid R.own started (by kernel_rfl) Try.func6
    (ChangeSpec.witness6 (enc := enc) (C := Try.checked) false ⟨#[], #[.slice none 0 0], []⟩ 8 (by kernel_rfl) (by kernel_rfl) (by kernel_rfl) (by kernel_rfl))
    (by kernel_rfl) rfl Try.underlying4 rfl ?_ ?_
  · intro ds hd
    match ds, hd with
    | [_], _ => exact ⟨rfl, rfl, rfl⟩
  · intro W base args ds ps hA hval hsz
    rw [Try.params6] at hA hval hsz
    obtain ⟨v0, vs0, d0, ds0, p0, q0, rfl, rfl, rfl, h0, r0⟩ := trodAll_cons hA
    obtain ⟨rfl, rfl, rfl⟩ := trodAll_nil r0
    have TT := Tell.none W
    obtain ⟨ρ100, h100, m100, v_code, l_code, T_code, E_code, N_code, K_code, I_code, S_code, B_code, BB_code⟩ := tell_bytes Try.underlying35 Try.underlying5 (by kernel_rfl) TT (hval 0 35 _ rfl rfl) h0
    clear TT
    have TT := T_code
    exact ⟨[v_code], h100, m100, ρ100, TT.sim, IsL.cons (I_code) (IsL.nil _), TT.free, laws_FnKinds S_code BB_code _ (Nat.le_refl _)⟩
theorem fnKinds_holds : Rows.FnKindsSaid :=
  OpenClaim.holds_of_wide 6 Try.f6 rfl rfl rfl rfl rfl rfl rfl ⟨rfl, rfl, rfl, rfl, rfl⟩ rfl rfl rfl rfl rfl (by kernel_rfl) Try.func6 (by kernel_rfl)
    (of_decide_eq_true (by kernel_rfl)) (by unfold Func.isWrapper; first | (rw [if_pos (by decide +kernel)]; kernel_rfl) | (rw [if_neg (by decide +kernel)]; exact ⟨rfl, rfl⟩))
    (fun os started H enc _ => fnKinds_lifted os started H enc)
#print axioms fnKinds_holds
end Go.Proofs.Ytkpibnhddhdooaa
