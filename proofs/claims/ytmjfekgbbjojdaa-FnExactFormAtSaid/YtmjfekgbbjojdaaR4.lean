/- Rows: the law on the form of a matrix. -/
import Derived.Test.YtmjfekgbbjojdaaR0
import Derived.Test.YtmjfekgbbjojdaaA9
namespace Go.Proofs.Ytmjfekgbbjojdaa
open Go.RowKit Go.ChangeShapes Go.WideShapes Go.ChangeAt Go.Joins L
set_option linter.unusedVariables false
set_option maxRecDepth 100000 in
theorem fnExactFormAt_lifted (os : Os) (started : os.Started) (H : Type) (enc : TypeId × Value → H) :
    ReturnsInHanded {} Try.checked os 11 .any (Rows.fnExactFormAtSpec.pre6 enc Try.prog Try.f11 Rows.fnExactFormAtRow.domain false) (Rows.fnExactFormAtSpec.post enc Try.prog Try.f11 false true false false) := by
  refine law_lifted (C := Try.checked) R.laid R.own started (by kernel_rfl) Try.func11
    (ChangeSpec.witness6 (enc := enc) (C := Try.checked) false ⟨#[], #[.slice none 0 0, .slice none 0 0], []⟩ 8 (by kernel_rfl) (by kernel_rfl) (by kernel_rfl) (by kernel_rfl))
    (by kernel_rfl) rfl Try.underlying4 rfl ?_ ?_
  · intro ds hd
    match ds, hd with
    | [_, _], _ => exact ⟨rfl, rfl, rfl⟩
  · intro W base args ds ps hA hval hsz
    rw [Try.params11] at hA hval hsz
    obtain ⟨v0, vs0, d0, ds0, p0, q0, rfl, rfl, rfl, h0, r0⟩ := trodAll_cons hA
    obtain ⟨v1, vs1, d1, ds1, p1, q1, rfl, rfl, rfl, h1, r1⟩ := trodAll_cons r0
    obtain ⟨rfl, rfl, rfl⟩ := trodAll_nil r1
    have TT := Tell.none W
    obtain ⟨ρ100, h100, m100, v_m, vs_m, l_m, T_m, E_m, N_m, K_m, I_m, S_m, B_m, BB_m⟩ := tell_rows Try.underlying39 Try.underlying44 Try.underlying2 (by kernel_rfl) (by kernel_rfl) TT (hval 0 39 _ rfl rfl) h0
    clear TT
    have TT := T_m
    obtain ⟨ρ101, h101, m101, v_x, l_x, T_x, E_x, N_x, K_x, I_x, S_x, B_x⟩ := tell_ints Try.underlying44 Try.underlying2 (by kernel_rfl) TT (hval 1 44 _ rfl rfl) h1
    clear TT
    have TT := T_x
    replace I_m := Is.mono E_x _ _ I_m
    replace S_m := (S_m.keep fun i _ hi => K_x i hi).wide (Nat.le_refl _) N_x
    exact ⟨[v_m, v_x], h101, m101, ρ101, TT.sim, IsL.cons (I_m) (IsL.cons (I_x) (IsL.nil _)), TT.free, laws_FormAt S_m S_x B_m BB_m B_x _ (Nat.le_refl _) (Nat.le_refl _)⟩
theorem fnExactFormAt_holds : Rows.FnExactFormAtSaid :=
  OpenClaim.holds_of_wide 11 Try.f11 rfl rfl rfl rfl rfl rfl rfl ⟨rfl, rfl, rfl, rfl, rfl⟩ rfl rfl rfl rfl rfl (by kernel_rfl) Try.func11 (by kernel_rfl)
    (of_decide_eq_true (by kernel_rfl)) (by unfold Func.isWrapper; first | (rw [if_pos (by decide +kernel)]; kernel_rfl) | (rw [if_neg (by decide +kernel)]; exact ⟨rfl, rfl⟩))
    (fun os started H enc _ => fnExactFormAt_lifted os started H enc)
#print axioms fnExactFormAt_holds
end Go.Proofs.Ytmjfekgbbjojdaa
