/- Rows: the law on AddMatrices. -/
import Derived.Test.YtmjfekgbbjojdaaR0
import Derived.Test.YtmjfekgbbjojdaaA16
namespace Go.Proofs.Ytmjfekgbbjojdaa
open Go.RowKit Go.ChangeShapes Go.WideShapes Go.ChangeAt Go.Joins L
set_option linter.unusedVariables false
set_option maxRecDepth 100000 in
theorem fnExactAddMatrices_lifted (os : Os) (started : os.Started) (H : Type) (enc : TypeId × Value → H) :
    ReturnsInHanded {} Try.checked os 12 .any (Rows.fnExactAddMatricesSpec.pre6 enc Try.prog Try.f12 Rows.fnExactAddMatricesRow.domain false) (Rows.fnExactAddMatricesSpec.post enc Try.prog Try.f12 false true false false) := by
  refine law_lifted (C := Try.checked) R.laid R.own started (by kernel_rfl) Try.func12
    (ChangeSpec.witness6 (enc := enc) (C := Try.checked) false ⟨#[], #[.slice none 0 0, .int .i64 0], []⟩ 8 (by kernel_rfl) (by kernel_rfl) (by kernel_rfl) (by kernel_rfl))
    (by kernel_rfl) rfl Try.underlying4 rfl ?_ ?_
  · intro ds hd
    match ds, hd with
    | [_, _], _ => exact ⟨rfl, rfl, rfl⟩
  · intro W base args ds ps hA hval hsz
    rw [Try.params12] at hA hval hsz
    obtain ⟨v0, vs0, d0, ds0, p0, q0, rfl, rfl, rfl, h0, r0⟩ := trodAll_cons hA
    obtain ⟨v1, vs1, d1, ds1, p1, q1, rfl, rfl, rfl, h1, r1⟩ := trodAll_cons r0
    obtain ⟨rfl, rfl, rfl⟩ := trodAll_nil r1
    have TT := Tell.none W
    obtain ⟨ρ100, h100, m100, v_m, vs_m, l_m, T_m, E_m, N_m, K_m, I_m, S_m, B_m, BB_m⟩ := tell_rows Try.underlying39 Try.underlying44 Try.underlying2 (by kernel_rfl) (by kernel_rfl) TT (hval 0 39 _ rfl rfl) h0
    clear TT
    have TT := T_m
    obtain ⟨k, rfl, w_k⟩ := tell_int Try.underlying2 (hval 1 2 _ rfl rfl) h1
    exact ⟨[v_m, .int .i64 k], h100, m100, ρ100, TT.sim, IsL.cons (I_m) (IsL.cons (by simp only [Is]) (IsL.nil _)), TT.free, laws_AddMatrices S_m B_m BB_m _ _ (Nat.le_refl _)⟩
theorem fnExactAddMatrices_holds : Rows.FnExactAddMatricesSaid :=
  OpenClaim.holds_of_wide 12 Try.f12 rfl rfl rfl rfl rfl rfl rfl ⟨rfl, rfl, rfl, rfl, rfl⟩ rfl rfl rfl rfl rfl (by kernel_rfl) Try.func12 (by kernel_rfl)
    (of_decide_eq_true (by kernel_rfl)) (by unfold Func.isWrapper; first | (rw [if_pos (by decide +kernel)]; kernel_rfl) | (rw [if_neg (by decide +kernel)]; exact ⟨rfl, rfl⟩))
    (fun os started H enc _ => fnExactAddMatrices_lifted os started H enc)
#print axioms fnExactAddMatrices_holds
end Go.Proofs.Ytmjfekgbbjojdaa
