/- Contracts: slices.Grow and slices.Concat of fractions, IsAllowed. -/
import Derived.Test.YtkpibnhddhdooadGreatB5
import Derived.Shelf.SlSortCmp.Whole1
set_option linter.unusedSimpArgs false
set_option linter.unusedVariables false
namespace Go.Proofs.YtkpibnhddhdooadGreat.L
open Go
def c_slices_Grow_Simpl_Frac_impl_Frac : F := ⟨(.seq (.reg false [⟨some 4, .mv (.c .nilsl), none⟩]) (.seq (.seq (.reg false [⟨some 5, .mv (.t 1), none⟩, ⟨some 6, .bin .lss (.t 5) (.c (.int .i64 0)), none⟩]) (.cond (.t 6) (.reg false [⟨(some 7), .bad, none⟩, ⟨none, .bad, none⟩]) .skip)) (.seq (.seq (.reg false [⟨some 8, .mv (.t 1), none⟩, ⟨some 9, .mv (.t 0), none⟩, ⟨some 10, .cap (.t 9), none⟩, ⟨some 11, .mv (.t 0), none⟩, ⟨some 12, .len (.t 11), none⟩, ⟨some 13, .bin .sub (.t 10) (.t 12), none⟩, ⟨some 14, .bin .sub (.t 8) (.t 13), none⟩, ⟨some 1, .mv (.t 14), none⟩]) (.seq (.reg false [⟨some 15, .mv (.t 1), none⟩, ⟨some 16, .bin .gtr (.t 15) (.c (.int .i64 0)), none⟩]) (.cond (.t 16) (.reg false [⟨some 17, .mv (.t 0), none⟩, ⟨some 18, .mv (.t 0), none⟩, ⟨some 19, .cap (.t 18), none⟩, ⟨some 20, .slc 2 (.t 17) none (some (.t 19)) none, none⟩, ⟨some 21, .mv (.t 1), none⟩, ⟨some 22, .appz 49 2 (.t 20) (.t 21), none⟩, ⟨some 23, .mv (.t 0), none⟩, ⟨some 24, .len (.t 23), none⟩, ⟨some 25, .slc 2 (.t 22) none (some (.t 24)) none, none⟩, ⟨some 0, .mv (.t 25), none⟩]) .skip))) (.seq (.reg false [⟨some 26, .mv (.t 0), none⟩, ⟨some 4, .mv (.t 26), none⟩]) .ret)))), 27, [(.t 4)]⟩
theorem k_slices_Grow_Simpl_Frac_impl_Frac : compF Tryz.prog Tryz.f99 = some c_slices_Grow_Simpl_Frac_impl_Frac := by kernel_rfl
def c_slices_Concat_Simpl_Frac_impl_Frac : F := ⟨(.seq (.reg false [⟨some 2, .mv (.c .nilsl), none⟩]) (.seq (.reg false [⟨some 3, .mv (.c (.int .i64 0)), none⟩]) (.seq (.seq (.reg false [⟨some 9, .mv (.t 0), none⟩, ⟨some 10, .len (.t 9), none⟩, ⟨some 11, .mv (.c (.int .i64 0)), none⟩]) (.block 0 (.loop (.seq (.reg false [⟨some 12, .bin .lss (.t 11) (.t 10), none⟩]) (.seq (.cond (.t 12) .skip (.exit 0)) (.seq (.block 1 (.seq (.reg false [⟨some 13, .ia 1 (.t 9) (.t 11), none⟩, ⟨some 14, .ld1 (.t 13), none⟩, ⟨some 5, .mv (.t 14), none⟩]) (.seq (.reg false [⟨some 15, .mv (.t 3), none⟩, ⟨some 16, .mv (.t 5), none⟩, ⟨some 17, .len (.t 16), none⟩, ⟨some 18, .bin .add (.t 15) (.t 17), none⟩, ⟨some 3, .mv (.t 18), none⟩]) (.seq (.reg false [⟨some 19, .mv (.t 3), none⟩, ⟨some 20, .bin .lss (.t 19) (.c (.int .i64 0)), none⟩]) (.cond (.t 20) (.reg false [⟨(some 21), .bad, none⟩, ⟨none, .bad, none⟩]) .skip))))) (.reg false [⟨some 22, .bin .add (.t 11) (.c (.int .i64 1)), none⟩, ⟨some 11, .mv (.t 22), none⟩]))))))) (.seq (.reg false [⟨some 23, .mv (.t 3), none⟩, ⟨some 24, .call (.f 99) [(.c .nilsl), (.t 23)], none⟩, ⟨some 6, .mv (.t 24), none⟩]) (.seq (.seq (.reg false [⟨some 25, .mv (.t 0), none⟩, ⟨some 26, .len (.t 25), none⟩, ⟨some 27, .mv (.c (.int .i64 0)), none⟩]) (.block 2 (.loop (.seq (.reg false [⟨some 28, .bin .lss (.t 27) (.t 26), none⟩]) (.seq (.cond (.t 28) .skip (.exit 2)) (.seq (.block 3 (.seq (.reg false [⟨some 29, .ia 1 (.t 25) (.t 27), none⟩, ⟨some 30, .ld1 (.t 29), none⟩, ⟨some 8, .mv (.t 30), none⟩]) (.reg false [⟨some 31, .mv (.t 6), none⟩, ⟨some 32, .mv (.t 8), none⟩, ⟨some 33, .app 49 2 16 [(.int .i64 0), (.int .i64 0)] (.t 31) (.t 32), none⟩, ⟨some 6, .mv (.t 33), none⟩]))) (.reg false [⟨some 34, .bin .add (.t 27) (.c (.int .i64 1)), none⟩, ⟨some 27, .mv (.t 34), none⟩]))))))) (.seq (.reg false [⟨some 35, .mv (.t 6), none⟩, ⟨some 2, .mv (.t 35), none⟩]) .ret)))))), 36, [(.t 2)]⟩
theorem k_slices_Concat_Simpl_Frac_impl_Frac : compF Tryz.prog Tryz.f67 = some c_slices_Concat_Simpl_Frac_impl_Frac := by kernel_rfl
def c_impl_IsAllowed_1 : F := ⟨(.seq (.reg false [⟨some 1, .box 49 (.t 0), none⟩, ⟨some 2, .mv (.c (.bool false)), none⟩]) (.seq (.reg false [⟨some 3, .fa 0 (.t 1), none⟩, ⟨some 4, .ld1 (.t 3), none⟩, ⟨some 5, .bin .lss (.t 4) (.c (.int .i64 0)), none⟩, ⟨some 2, .mv (.t 5), none⟩]) .ret)), 6, [(.t 2)]⟩
theorem k_impl_IsAllowed_1 : compF Tryz.prog Tryz.f68 = some c_impl_IsAllowed_1 := by kernel_rfl
def c_impl_IsAllowed : F := ⟨(.seq (.reg false [⟨some 2, .box 30 (.t 0), none⟩, ⟨some 4, .mv (.c (.bool false)), none⟩, ⟨some 5, .mv (.c (.int .i64 0)), none⟩]) (.seq (.reg false [⟨some 9, .ld 2 (.t 2), none⟩, ⟨some 10, .mv (.t 1), none⟩, ⟨some 11, .call (.f 66) [(.t 9), (.t 10)], none⟩, ⟨some 8, .mv (.t 11), none⟩, ⟨some 12, .ext (.t 8) 0, none⟩, ⟨some 13, .ext (.t 8) 1, none⟩, ⟨some 6, .mv (.t 12), none⟩, ⟨some 7, .mv (.t 13), none⟩]) (.seq (.seq (.reg false [⟨some 14, .mv (.t 7), none⟩, ⟨some 15, .bin .neq (.t 14) (.c (.int .i64 0)), none⟩]) (.cond (.t 15) (.seq (.reg false [⟨some 16, .mv (.t 7), none⟩, ⟨some 4, .mv (.c (.bool false)), none⟩, ⟨some 5, .mv (.t 16), none⟩]) .ret) .skip)) (.seq (.reg false [⟨some 17, .mv (.t 1), none⟩, ⟨some 18, .mv (.t 6), none⟩, ⟨some 19, .lit 27 1 2 [.nilsl] [(0, (.t 17)), (1, (.t 18))], none⟩, ⟨some 20, .call (.f 67) [(.t 19)], none⟩, ⟨some 21, .call (.f 54) [(.t 20), (.f 68)], none⟩, ⟨some 22, .un .not (.t 21), none⟩, ⟨some 4, .mv (.t 22), none⟩, ⟨some 5, .mv (.c (.int .i64 0)), none⟩]) .ret)))), 23, [(.t 4), (.t 5)]⟩
theorem k_impl_IsAllowed : compF Tryz.prog Tryz.f25 = some c_impl_IsAllowed := by kernel_rfl
def c_spec_IsAllowed : F := ⟨(.seq (.reg false [⟨some 2, .box 30 (.t 0), none⟩, ⟨some 4, .mv (.c (.bool false)), none⟩, ⟨some 5, .mv (.c (.int .i64 0)), none⟩]) (.seq (.reg false [⟨some 10, .ld 2 (.t 2), none⟩, ⟨some 11, .mv (.t 1), none⟩, ⟨some 12, .call (.f 69) [(.t 10), (.t 11)], none⟩, ⟨some 9, .mv (.t 12), none⟩, ⟨some 13, .ext (.t 9) 0, none⟩, ⟨some 14, .ext (.t 9) 1, none⟩, ⟨some 6, .mv (.t 13), none⟩, ⟨some 7, .mv (.t 14), none⟩]) (.seq (.seq (.reg false [⟨some 15, .mv (.t 7), none⟩, ⟨some 16, .bin .neq (.t 15) (.c (.int .i64 0)), none⟩]) (.cond (.t 16) (.seq (.reg false [⟨some 17, .mv (.t 7), none⟩, ⟨some 4, .mv (.c (.bool false)), none⟩, ⟨some 5, .mv (.t 17), none⟩]) .ret) .skip)) (.seq (.seq (.reg false [⟨some 8, .mv (.c (.int .i64 0)), none⟩]) (.block 0 (.loop (.seq (.seq (.reg false [⟨some 18, .mv (.t 8), none⟩, ⟨some 19, .mv (.t 1), none⟩, ⟨some 20, .len (.t 19), none⟩, ⟨some 21, .bin .lss (.t 18) (.t 20), none⟩]) (.cond (.t 21) .skip (.exit 0))) (.seq (.block 1 (.seq (.reg false [⟨some 24, .mv (.t 1), none⟩, ⟨some 25, .mv (.t 8), none⟩, ⟨some 26, .ia 2 (.t 24) (.t 25), none⟩, ⟨some 27, .fa 0 (.t 26), none⟩, ⟨some 28, .ld1 (.t 27), none⟩, ⟨some 29, .bin .lss (.t 28) (.c (.int .i64 0)), none⟩, ⟨some 30, .mv (.t 29), none⟩, ⟨some 31, .mv (.t 6), some (30, false)⟩, ⟨some 32, .mv (.t 8), some (30, false)⟩, ⟨some 33, .ia 2 (.t 31) (.t 32), some (30, false)⟩, ⟨some 34, .fa 0 (.t 33), some (30, false)⟩, ⟨some 35, .ld1 (.t 34), some (30, false)⟩, ⟨some 36, .bin .lss (.t 35) (.c (.int .i64 0)), some (30, false)⟩, ⟨some 37, .pick (.t 30) (.c (.bool true)) (.t 36), none⟩]) (.cond (.t 37) (.seq (.reg false [⟨some 4, .mv (.c (.bool false)), none⟩, ⟨some 5, .mv (.c (.int .i64 0)), none⟩]) .ret) .skip))) (.reg false [⟨some 22, .mv (.t 8), none⟩, ⟨some 23, .bin .add (.t 22) (.c (.int .i64 1)), none⟩, ⟨some 8, .mv (.t 23), none⟩])))))) (.seq (.reg false [⟨some 4, .mv (.c (.bool true)), none⟩, ⟨some 5, .mv (.c (.int .i64 0)), none⟩]) .ret))))), 38, [(.t 4), (.t 5)]⟩
theorem k_spec_IsAllowed : compF Tryz.prog Tryz.f26 = some c_spec_IsAllowed := by kernel_rfl

def ngT (p : Int × Int) : Bool := decide (p.1 < 0)
theorem any_frac (l : List (Int × Int)) (T : Int × Int → Bool) : ((List.range l.length).any fun k => T (l.getD k (0, 0))) = l.any T := by
  rw [Bool.eq_iff_iff, List.any_eq_true, List.any_eq_true]
  constructor
  · rintro ⟨k, hk, h⟩
    exact ⟨_, getD_mem (List.mem_range.1 hk), h⟩
  · rintro ⟨p, hp, h⟩
    obtain ⟨k, hk, rfl⟩ := List.mem_iff_getElem.1 hp
    exact ⟨k, List.mem_range.2 hk, by simpa [List.getD, hk] using h⟩
theorem remV_zero {ll : List (List Int)} {q : List Int} {f : List (Int × Int)} (h : (remV ll q f).2 = 0) : frcV ll q f = 0 ∧ (remV ll q f).1.length = ll.length := by
  unfold remV at h ⊢
  split at h
  · rename_i h1
    split at h
    · rename_i h2
      split at h
      · rename_i h3
        rw [if_pos h1, if_pos h2, if_pos h3]
        exact ⟨h1, remF_len _ _ _⟩
      · simp at h
    · simp at h
  · rename_i h1; exact absurd h h1
def alwV (ll : List (List Int)) (q : List Int) (f : List (Int × Int)) : Bool × Int :=
  if (remV ll q f).2 = 0 then (!(f ++ (remV ll q f).1).any ngT, 0) else (false, (remV ll q f).2)
section
variable {w w' : Bool} {lo hi lo' hi' : Nat} {h : AH} {v u v' : AV} {vs : List AV} {ll : List (List Int)} {q xs : List Int} {f g : List (Int × Int)}
theorem slices_Grow (k : Int) (h0 : 0 ≤ k) (h1 : k ≤ 1073741824) (n : Nat) : FQ Tryz.prog 99 [.nilsl, .int .i64 k] h n fun y h' n' => Acc n n' h' 49 2 y [] := by
  refine fq_intro Tryz.func99 k_slices_Grow_Simpl_Frac_impl_Frac ?_
  simp (maxSteps := 2000000) -implicitDefEqProofs (disch := omega) only [c_slices_Grow_Simpl_Frac_impl_Frac, xsW, xsC, xsD, xsE, fillA, reduceCtorEq, Nat.reduceAdd, Nat.reduceSub, Nat.reduceLeDiff, Nat.reduceMul, Int.reduceLT, Int.reduceLE, Int.reduceEq, Int.reduceNe, Int.reduceAdd, Int.reduceSub, Int.reduceMul, Int.reduceNeg, Int.reduceToNat]
  (refine cd_dec (fun c1 => ?_) (fun c1 => ?_) <;> simp (maxSteps := 2000000) -implicitDefEqProofs (disch := omega) only [xsW, xsC, xsD, xsE, fillA, reduceCtorEq, Nat.reduceAdd, Nat.reduceSub, Nat.reduceLeDiff, Nat.reduceMul, Int.reduceLT, Int.reduceLE, Int.reduceEq, Int.reduceNe, Int.reduceAdd, Int.reduceSub, Int.reduceMul, Int.reduceNeg, Int.reduceToNat,  c1])
  · simp (maxSteps := 2000000) -implicitDefEqProofs (disch := omega) only [xsW, xsC, xsD, xsE, fillA, reduceCtorEq, Nat.reduceAdd, Nat.reduceSub, Nat.reduceLeDiff, Nat.reduceMul, Int.reduceLT, Int.reduceLE, Int.reduceEq, Int.reduceNe, Int.reduceAdd, Int.reduceSub, Int.reduceMul, Int.reduceNeg, Int.reduceToNat,  sl_nhi, sl_so]
    refine ⟨by omega, fun _ h2 hh => ?_⟩
    refine ⟨by simp [slen], .inr (.inr ⟨n, 0, rfl, Nat.le_refl _, by omega, ?_⟩)⟩
    rw [hh n (Nat.le_refl _) (by omega), upd_same]
  · intro h2 hh
    exact Acc.nil
theorem slices_Concat (sf : Fracs w lo hi h v f) (sg : Fracs w' lo' hi' h v' g) (hf : f.length ≤ 1048576) (hg : g.length ≤ 1048576) (m n : Nat) (hm : h m = some ⟨27, [v, v'], true, 0⟩) (hn : hi ≤ n) (hn' : hi' ≤ n) (hmn : m < n) :
    FQ Tryz.prog 67 [.sl m 0 2 2] h n fun y h' n' => Fracs true n n' h' y (f ++ g) := by
  refine fq_intro Tryz.func67 k_slices_Concat_Simpl_Frac_impl_Frac ?_
  simp (maxSteps := 2000000) -implicitDefEqProofs (disch := omega) only [c_slices_Concat_Simpl_Frac_impl_Frac, xsW, xsC, xsD, xsE, fillA, reduceCtorEq, Nat.reduceAdd, Nat.reduceSub, Nat.reduceLeDiff, Nat.reduceMul, Int.reduceLT, Int.reduceLE, Int.reduceEq, Int.reduceNe, Int.reduceAdd, Int.reduceSub, Int.reduceMul, Int.reduceNeg, Int.reduceToNat]
  refine loop_for 2 0 (fun k (_ : Unit) => [.sl m 0 2 2, .any, .nilsl, .int .i64 ((if k = 0 then 0 else if k = 1 then f.length else f.length + g.length : Nat) : Int), .any, .any, .any, .any, .any, .sl m 0 2 2, .int .i64 2, .int .i64 k, .any, .any, .any, .any, .any, .any, .any, .any, .any, .any, .any, .any, .any, .any, .any, .any, .any, .any, .any, .any, .any, .any, .any, .any]) (fun _ _ => h) (fun _ _ _ => True) () (Nat.zero_le _) trivial (by simp [LeL, Le1]) (fun _ _ h => h) ?_
  rintro k - n1 - hk hn1 -
  simp (maxSteps := 2000000) -implicitDefEqProofs (disch := omega) only [xsW, xsC, xsD, xsE, fillA, reduceCtorEq, Nat.reduceAdd, Nat.reduceSub, Nat.reduceLeDiff, Nat.reduceMul, Int.reduceLT, Int.reduceLE, Int.reduceEq, Int.reduceNe, Int.reduceAdd, Int.reduceSub, Int.reduceMul, Int.reduceNeg, Int.reduceToNat]
  (refine cd_dec (fun c1 => ?_) (fun c1 => ?_) <;> simp (maxSteps := 2000000) -implicitDefEqProofs (disch := omega) only [xsW, xsC, xsD, xsE, fillA, reduceCtorEq, Nat.reduceAdd, Nat.reduceSub, Nat.reduceLeDiff, Nat.reduceMul, Int.reduceLT, Int.reduceLE, Int.reduceEq, Int.reduceNe, Int.reduceAdd, Int.reduceSub, Int.reduceMul, Int.reduceNeg, Int.reduceToNat,  c1])
  · have : k = 0 ∨ k = 1 := by omega
    rcases this with rfl | rfl
    · simp (maxSteps := 2000000) -implicitDefEqProofs (disch := omega) only [xsW, xsC, xsD, xsE, fillA, reduceCtorEq, Nat.reduceAdd, Nat.reduceSub, Nat.reduceLeDiff, Nat.reduceMul, Int.reduceLT, Int.reduceLE, Int.reduceEq, Int.reduceNe, Int.reduceAdd, Int.reduceSub, Int.reduceMul, Int.reduceNeg, Int.reduceToNat,  hm, sf.ln]
      exact ⟨(), by omega, by simp [LeL, Le1]⟩
    · simp (maxSteps := 2000000) -implicitDefEqProofs (disch := omega) only [xsW, xsC, xsD, xsE, fillA, reduceCtorEq, Nat.reduceAdd, Nat.reduceSub, Nat.reduceLeDiff, Nat.reduceMul, Int.reduceLT, Int.reduceLE, Int.reduceEq, Int.reduceNe, Int.reduceAdd, Int.reduceSub, Int.reduceMul, Int.reduceNeg, Int.reduceToNat,  hm, sg.ln]
      exact ⟨(), by omega, by simp [LeL, Le1]⟩
  · have e : k = 2 := by omega
    subst e
    simp (maxSteps := 2000000) -implicitDefEqProofs (disch := omega) only [xsW, xsC, xsD, xsE, fillA, reduceCtorEq, Nat.reduceAdd, Nat.reduceSub, Nat.reduceLeDiff, Nat.reduceMul, Int.reduceLT, Int.reduceLE, Int.reduceEq, Int.reduceNe, Int.reduceAdd, Int.reduceSub, Int.reduceMul, Int.reduceNeg, Int.reduceToNat]
    rw [if_neg (show ¬ (2 = 1) by omega)]
    refine fq_use (slices_Grow _ (by omega) (by omega) n1) fun v1 h1 n2 hn2 hs1 acc1 => ?_
    simp (maxSteps := 2000000) -implicitDefEqProofs (disch := omega) only [xsW, xsC, xsD, xsE, fillA, reduceCtorEq, Nat.reduceAdd, Nat.reduceSub, Nat.reduceLeDiff, Nat.reduceMul, Int.reduceLT, Int.reduceLE, Int.reduceEq, Int.reduceNe, Int.reduceAdd, Int.reduceSub, Int.reduceMul, Int.reduceNeg, Int.reduceToNat]
    refine loop_for 2 0 (fun k p => [.sl m 0 2 2, .any, .nilsl, .any, .any, .any, p.1, .any, .any, .any, .any, .any, .any, .any, .any, .any, .any, .any, .any, .any, .any, .any, .any, .any, .any, .sl m 0 2 2, .int .i64 2, .int .i64 k, .any, .any, .any, .any, .any, .any, .any, .any]) (fun _ (p : AV × AH) => p.2)
      (fun k p m' => Acc n1 m' p.2 49 2 p.1 (fracs (if k = 0 then [] else if k = 1 then f else f ++ g)) ∧ n2 ≤ m' ∧ ∀ j, j < n1 → p.2 j = h j) (v1, h1) (Nat.zero_le _) ⟨acc1, Nat.le_refl _, hs1⟩ (by simp [LeL, Le1]) (fun _ _ h => h) ?_
    rintro k ⟨out, hp⟩ m2 - hk2 hm2 ⟨acc, hle, hold⟩
    simp only at acc hold
    have hm' : hp m = some ⟨27, [v, v'], true, 0⟩ := by rw [hold m (by omega), hm]
    have hall : ∀ l : List (Int × Int), (fracs l).all AV.one = true := fracs_one
    simp (maxSteps := 2000000) -implicitDefEqProofs (disch := omega) only [xsW, xsC, xsD, xsE, fillA, reduceCtorEq, Nat.reduceAdd, Nat.reduceSub, Nat.reduceLeDiff, Nat.reduceMul, Int.reduceLT, Int.reduceLE, Int.reduceEq, Int.reduceNe, Int.reduceAdd, Int.reduceSub, Int.reduceMul, Int.reduceNeg, Int.reduceToNat]
    (refine cd_dec (fun c2 => ?_) (fun c2 => ?_) <;> simp (maxSteps := 2000000) -implicitDefEqProofs (disch := omega) only [xsW, xsC, xsD, xsE, fillA, reduceCtorEq, Nat.reduceAdd, Nat.reduceSub, Nat.reduceLeDiff, Nat.reduceMul, Int.reduceLT, Int.reduceLE, Int.reduceEq, Int.reduceNe, Int.reduceAdd, Int.reduceSub, Int.reduceMul, Int.reduceNeg, Int.reduceToNat,  c2])
    · have : k = 0 ∨ k = 1 := by omega
      rcases this with rfl | rfl
      · simp (maxSteps := 2000000) -implicitDefEqProofs (disch := omega) only [xsW, xsC, xsD, xsE, fillA, reduceCtorEq, Nat.reduceAdd, Nat.reduceSub, Nat.reduceLeDiff, Nat.reduceMul, Int.reduceLT, Int.reduceLE, Int.reduceEq, Int.reduceNe, Int.reduceAdd, Int.reduceSub, Int.reduceMul, Int.reduceNeg, Int.reduceToNat,  hm']
        refine app_acc acc (by omega) (by omega) (Sl.src (Fracs.keep (h' := hp) sf (fun i _ hi9 => by simp (disch := omega) only [upd_other, hold]))) (by rw [fracs_len, Fracs.slen sf]) (hall _) (by have := acc.len; have := Fracs.slen sf; simp [fracs] at *; omega) fun y h' n' g1 g2 g3 g4 g5 g6 => ?_
        simp (maxSteps := 2000000) -implicitDefEqProofs (disch := omega) only [xsW, xsC, xsD, xsE, fillA, reduceCtorEq, Nat.reduceAdd, Nat.reduceSub, Nat.reduceLeDiff, Nat.reduceMul, Int.reduceLT, Int.reduceLE, Int.reduceEq, Int.reduceNe, Int.reduceAdd, Int.reduceSub, Int.reduceMul, Int.reduceNeg, Int.reduceToNat]
        exact ⟨(y, h'), ⟨by simpa [fracs] using g3, by omega, fun j hj => (g5 j hj).trans (hold j hj)⟩, by omega, by simp [LeL, Le1], fun _ _ h => h⟩
      · simp (maxSteps := 2000000) -implicitDefEqProofs (disch := omega) only [xsW, xsC, xsD, xsE, fillA, reduceCtorEq, Nat.reduceAdd, Nat.reduceSub, Nat.reduceLeDiff, Nat.reduceMul, Int.reduceLT, Int.reduceLE, Int.reduceEq, Int.reduceNe, Int.reduceAdd, Int.reduceSub, Int.reduceMul, Int.reduceNeg, Int.reduceToNat,  hm']
        refine app_acc acc (by omega) (by omega) (Sl.src (Fracs.keep (h' := hp) sg (fun i _ hi9 => by simp (disch := omega) only [upd_other, hold]))) (by rw [fracs_len, Fracs.slen sg]) (hall _) (by have := acc.len; rw [fracs_len] at this; have := Fracs.slen sg; simp at *; omega) fun y h' n' g1 g2 g3 g4 g5 g6 => ?_
        simp (maxSteps := 2000000) -implicitDefEqProofs (disch := omega) only [xsW, xsC, xsD, xsE, fillA, reduceCtorEq, Nat.reduceAdd, Nat.reduceSub, Nat.reduceLeDiff, Nat.reduceMul, Int.reduceLT, Int.reduceLE, Int.reduceEq, Int.reduceNe, Int.reduceAdd, Int.reduceSub, Int.reduceMul, Int.reduceNeg, Int.reduceToNat]
        exact ⟨(y, h'), ⟨by simpa [fracs_append] using g3, by omega, fun j hj => (g5 j hj).trans (hold j hj)⟩, by omega, by simp [LeL, Le1], fun _ _ h => h⟩
    · have e : k = 2 := by omega
      subst e
      intro _ h2 hh
      simp only [show ¬ (2 = 0) by omega, show ¬ (2 = 1) by omega, if_false] at acc
      exact (Acc.sl (acc.keep fun i a b => hh i (by omega) b)).wide (by omega) (Nat.le_refl _)
theorem impl_IsAllowed_1 (p : Int × Int) (h : AH) (n : Nat) : Q Tryz.prog 68 [frA p] h n (.bool (ngT p)) := by
  refine q_intro Tryz.func68 k_impl_IsAllowed_1 ?_
  simp (maxSteps := 2000000) -implicitDefEqProofs (disch := omega) only [c_impl_IsAllowed_1, frA, xsW, xsC, xsD, xsE, fillA, reduceCtorEq, Nat.reduceAdd, Nat.reduceSub, Nat.reduceLeDiff, Nat.reduceMul, Int.reduceLT, Int.reduceLE, Int.reduceEq, Int.reduceNe, Int.reduceAdd, Int.reduceSub, Int.reduceMul, Int.reduceNeg, Int.reduceToNat]
  rfl
theorem impl_IsAllowed (s : Prob w lo hi h v u vs ll q) (hl : ll.length ≤ 1048576) (hll : ∀ l ∈ ll, l.length ≤ 1048576) (hq : q.length ≤ 1048576) (sf : Fracs w' lo' hi' h v' f) (hf : f.length ≤ 1048576) (n : Nat) (hn : hi ≤ n) (hn' : hi' ≤ n) :
    Q Tryz.prog 25 [.agg [v, u], v'] h n (.tup [.bool (alwV ll q f).1, .int .i64 (alwV ll q f).2]) := by
  refine q_intro Tryz.func25 k_impl_IsAllowed ?_
  have o1 := one_any (Sl.any s.M.out)
  have o2 := one_any (Sl.any s.Q)
  have o3 := one_any (Sl.any sf)
  have o4 := cel_any (Sl.any sf)
  have o5 := sto_any (Sl.any sf)
  simp (maxSteps := 2000000) -implicitDefEqProofs (disch := omega) only [c_impl_IsAllowed, o1, o2, xsW, xsC, xsD, xsE, fillA, reduceCtorEq, Nat.reduceAdd, Nat.reduceSub, Nat.reduceLeDiff, Nat.reduceMul, Int.reduceLT, Int.reduceLE, Int.reduceEq, Int.reduceNe, Int.reduceAdd, Int.reduceSub, Int.reduceMul, Int.reduceNeg, Int.reduceToNat]
  refine fq_use (impl_RemainderOf (s.keep (fun i _ hi9 => by simp (disch := omega) only [upd_other])) hl hll hq (Fracs.keep sf (fun i _ hi9 => by simp (disch := omega) only [upd_other])) hf _ (by omega) (by omega)) fun x1 h1 n1 hn1 hs1 ⟨v1, hx1, hv1⟩ => ?_
  subst hx1
  simp (maxSteps := 2000000) -implicitDefEqProofs (disch := omega) only [xsW, xsC, xsD, xsE, fillA, reduceCtorEq, Nat.reduceAdd, Nat.reduceSub, Nat.reduceLeDiff, Nat.reduceMul, Int.reduceLT, Int.reduceLE, Int.reduceEq, Int.reduceNe, Int.reduceAdd, Int.reduceSub, Int.reduceMul, Int.reduceNeg, Int.reduceToNat]
  (refine cd_dec (fun c1 => ?_) (fun c1 => ?_) <;> simp (maxSteps := 2000000) -implicitDefEqProofs (disch := omega) only [xsW, xsC, xsD, xsE, fillA, reduceCtorEq, Nat.reduceAdd, Nat.reduceSub, Nat.reduceLeDiff, Nat.reduceMul, Int.reduceLT, Int.reduceLE, Int.reduceEq, Int.reduceNe, Int.reduceAdd, Int.reduceSub, Int.reduceMul, Int.reduceNeg, Int.reduceToNat,  c1])
  · simp [alwV, c1]
  · have hR := remV_small ll q f
    have p3 := one_any (Sl.any hv1)
    have p4 := cel_any (Sl.any hv1)
    have p5 := sto_any (Sl.any hv1)
    simp (maxSteps := 2000000) -implicitDefEqProofs (disch := omega) only [xsW, xsC, xsD, xsE, fillA, reduceCtorEq, Nat.reduceAdd, Nat.reduceSub, Nat.reduceLeDiff, Nat.reduceMul, Int.reduceLT, Int.reduceLE, Int.reduceEq, Int.reduceNe, Int.reduceAdd, Int.reduceSub, Int.reduceMul, Int.reduceNeg, Int.reduceToNat,  o3, o4, o5, p3, p4, p5]
    refine fq_use (slices_Concat (Fracs.keep (h' := upd h1 n1 (some ⟨27, [v', v1], true, 0⟩)) sf (fun i _ hi9 => by simp (disch := omega) only [upd_other, hs1])) (Fracs.keep (h' := upd h1 n1 (some ⟨27, [v', v1], true, 0⟩)) hv1 (fun i _ hi9 => by simp (disch := omega) only [upd_other])) hf hR n1 (n1 + 1) (upd_same _ _ _) (by omega) (by omega) (by omega)) fun v2 h2 n2 hn2 hs2 hv2 => ?_
    simp (maxSteps := 2000000) -implicitDefEqProofs (disch := omega) only [xsW, xsC, xsD, xsE, fillA, reduceCtorEq, Nat.reduceAdd, Nat.reduceSub, Nat.reduceLeDiff, Nat.reduceMul, Int.reduceLT, Int.reduceLE, Int.reduceEq, Int.reduceNe, Int.reduceAdd, Int.reduceSub, Int.reduceMul, Int.reduceNeg, Int.reduceToNat]
    have hsl := Fracs.slen hv2
    have hll2 : (f ++ (remV ll q f).1).length ≤ 2097152 := by simp; omega
    refine q_use (has_fracs hv2 (by omega) _ _ (fun k => ngT ((f ++ (remV ll q f).1).getD k (0, 0))) _ fun k n' hk _ => ?_) fun n3 hn3 => ?_
    · rw [fracs_cut _ k (by omega)]; exact impl_IsAllowed_1 _ _ _
    rw [hsl, any_frac]
    simp (maxSteps := 2000000) -implicitDefEqProofs (disch := omega) only [xsW, xsC, xsD, xsE, fillA, reduceCtorEq, Nat.reduceAdd, Nat.reduceSub, Nat.reduceLeDiff, Nat.reduceMul, Int.reduceLT, Int.reduceLE, Int.reduceEq, Int.reduceNe, Int.reduceAdd, Int.reduceSub, Int.reduceMul, Int.reduceNeg, Int.reduceToNat]
    have c2 : (remV ll q f).2 = 0 := Decidable.not_not.1 c1
    simp [alwV, c2]
theorem spec_IsAllowed (s : Prob w lo hi h v u vs ll q) (hl : ll.length ≤ 1048576) (hll : ∀ l ∈ ll, l.length ≤ 1048576) (hq : q.length ≤ 1048576) (sf : Fracs w' lo' hi' h v' f) (hf : f.length ≤ 1048576) (n : Nat) (hn : hi ≤ n) (hn' : hi' ≤ n) :
    Q Tryz.prog 26 [.agg [v, u], v'] h n (.tup [.bool (alwV ll q f).1, .int .i64 (alwV ll q f).2]) := by
  refine q_intro Tryz.func26 k_spec_IsAllowed ?_
  have o1 := one_any (Sl.any s.M.out)
  have o2 := one_any (Sl.any s.Q)
  simp (maxSteps := 2000000) -implicitDefEqProofs (disch := omega) only [c_spec_IsAllowed, o1, o2, xsW, xsC, xsD, xsE, fillA, reduceCtorEq, Nat.reduceAdd, Nat.reduceSub, Nat.reduceLeDiff, Nat.reduceMul, Int.reduceLT, Int.reduceLE, Int.reduceEq, Int.reduceNe, Int.reduceAdd, Int.reduceSub, Int.reduceMul, Int.reduceNeg, Int.reduceToNat]
  refine fq_use (spec_RemainderOf (s.keep (fun i _ hi9 => by simp (disch := omega) only [upd_other])) hl hll hq (Fracs.keep sf (fun i _ hi9 => by simp (disch := omega) only [upd_other])) hf _ (by omega) (by omega)) fun x1 h1 n1 hn1 hs1 ⟨v1, hx1, hv1⟩ => ?_
  subst hx1
  simp (maxSteps := 2000000) -implicitDefEqProofs (disch := omega) only [xsW, xsC, xsD, xsE, fillA, reduceCtorEq, Nat.reduceAdd, Nat.reduceSub, Nat.reduceLeDiff, Nat.reduceMul, Int.reduceLT, Int.reduceLE, Int.reduceEq, Int.reduceNe, Int.reduceAdd, Int.reduceSub, Int.reduceMul, Int.reduceNeg, Int.reduceToNat]
  (refine cd_dec (fun c1 => ?_) (fun c1 => ?_) <;> simp (maxSteps := 2000000) -implicitDefEqProofs (disch := omega) only [xsW, xsC, xsD, xsE, fillA, reduceCtorEq, Nat.reduceAdd, Nat.reduceSub, Nat.reduceLeDiff, Nat.reduceMul, Int.reduceLT, Int.reduceLE, Int.reduceEq, Int.reduceNe, Int.reduceAdd, Int.reduceSub, Int.reduceMul, Int.reduceNeg, Int.reduceToNat,  c1])
  · simp [alwV, c1]
  · have c2 : (remV ll q f).2 = 0 := Decidable.not_not.1 c1
    obtain ⟨hz, hRl⟩ := remV_zero c2
    obtain ⟨hp, ha, hfl⟩ := frcV_zero hz
    have hN := ((isMat_iff ll).1 (isProb_facts hp).1).2.1
    have sf1 := Fracs.keep (h' := h1) sf (fun i _ hi9 => by simp (disch := omega) only [upd_other, hs1])
    refine loop_for f.length 0 (fun k (_ : Unit) => [.agg [v, u], v', .ptr n 0, .any, .bool false, .int .i64 0, v1, .int .i64 (remV ll q f).2, .int .i64 k, .any, .any, .any, .any, .any, .any, .any, .any, .any, .any, .any, .any, .any, .any, .any, .any, .any, .any, .any, .any, .any, .any, .any, .any, .any, .any, .any, .any, .any]) (fun _ _ => h1)
      (fun k _ _ => ∀ j, j < k → ngT (f.getD j (0, 0)) = false ∧ ngT ((remV ll q f).1.getD j (0, 0)) = false) () (Nat.zero_le _) (fun j hj => absurd hj (Nat.not_lt_zero _)) (by simp [LeL, Le1]) (fun _ _ h => h) ?_
    rintro k - m - hk hm hall
    simp (maxSteps := 2000000) -implicitDefEqProofs (disch := omega) only [xsW, xsC, xsD, xsE, fillA, reduceCtorEq, Nat.reduceAdd, Nat.reduceSub, Nat.reduceLeDiff, Nat.reduceMul, Int.reduceLT, Int.reduceLE, Int.reduceEq, Int.reduceNe, Int.reduceAdd, Int.reduceSub, Int.reduceMul, Int.reduceNeg, Int.reduceToNat,  sf1.ln]
    (refine cd_dec (fun c3 => ?_) (fun c3 => ?_) <;> simp (maxSteps := 2000000) -implicitDefEqProofs (disch := omega) only [xsW, xsC, xsD, xsE, fillA, reduceCtorEq, Nat.reduceAdd, Nat.reduceSub, Nat.reduceLeDiff, Nat.reduceMul, Int.reduceLT, Int.reduceLE, Int.reduceEq, Int.reduceNe, Int.reduceAdd, Int.reduceSub, Int.reduceMul, Int.reduceNeg, Int.reduceToNat,  c3])
    · have hk2 : k < f.length := by omega
      have bad : (ngT (f.getD k (0, 0)) = true ∨ ngT ((remV ll q f).1.getD k (0, 0)) = true) → (f ++ (remV ll q f).1).any ngT = true := fun hb => by
        rw [List.any_append, Bool.or_eq_true, List.any_eq_true, List.any_eq_true]
        rcases hb with hb | hb
        · exact .inl ⟨_, getD_mem hk2, hb⟩
        · exact .inr ⟨_, getD_mem (by omega), hb⟩
      simp (maxSteps := 2000000) -implicitDefEqProofs (disch := omega) only [xsW, xsC, xsD, xsE, fillA, reduceCtorEq, Nat.reduceAdd, Nat.reduceSub, Nat.reduceLeDiff, Nat.reduceMul, Int.reduceLT, Int.reduceLE, Int.reduceEq, Int.reduceNe, Int.reduceAdd, Int.reduceSub, Int.reduceMul, Int.reduceNeg, Int.reduceToNat,  sf1.ia, sf1.ldn]
      (refine gd_dec (fun c4 => ?_) (fun c4 => ?_) <;> simp (maxSteps := 2000000) -implicitDefEqProofs (disch := omega) only [xsW, xsC, xsD, xsE, fillA, reduceCtorEq, Nat.reduceAdd, Nat.reduceSub, Nat.reduceLeDiff, Nat.reduceMul, Int.reduceLT, Int.reduceLE, Int.reduceEq, Int.reduceNe, Int.reduceAdd, Int.reduceSub, Int.reduceMul, Int.reduceNeg, Int.reduceToNat,  c4])
      · have := bad (.inl (decide_eq_true c4))
        simp [alwV, c2, this]
      · simp (maxSteps := 2000000) -implicitDefEqProofs (disch := omega) only [xsW, xsC, xsD, xsE, fillA, reduceCtorEq, Nat.reduceAdd, Nat.reduceSub, Nat.reduceLeDiff, Nat.reduceMul, Int.reduceLT, Int.reduceLE, Int.reduceEq, Int.reduceNe, Int.reduceAdd, Int.reduceSub, Int.reduceMul, Int.reduceNeg, Int.reduceToNat,  hv1.ia, hv1.ldn]
        (refine cd_dec (fun c5 => ?_) (fun c5 => ?_) <;> simp (maxSteps := 2000000) -implicitDefEqProofs (disch := omega) only [xsW, xsC, xsD, xsE, fillA, reduceCtorEq, Nat.reduceAdd, Nat.reduceSub, Nat.reduceLeDiff, Nat.reduceMul, Int.reduceLT, Int.reduceLE, Int.reduceEq, Int.reduceNe, Int.reduceAdd, Int.reduceSub, Int.reduceMul, Int.reduceNeg, Int.reduceToNat,  c5])
        · have := bad (.inr (decide_eq_true c5))
          simp [alwV, c2, this]
        · exact ⟨(), fun j hj => (Nat.lt_succ_iff_lt_or_eq.1 hj).elim (hall j) (fun e => by rw [e]; exact ⟨decide_eq_false c4, decide_eq_false c5⟩), by omega, by omega, (by simp [LeL, Le1])⟩
    · have hno : (f ++ (remV ll q f).1).any ngT = false := by
        rw [List.any_append, Bool.or_eq_false_iff, ← any_frac, ← any_frac, List.any_eq_false, List.any_eq_false]
        refine ⟨fun j hj => ?_, fun j hj => ?_⟩
        · rw [List.mem_range] at hj; rw [(hall j (by omega)).1]; simp
        · rw [List.mem_range] at hj; rw [(hall j (by omega)).2]; simp
      simp [alwV, c2, hno]
end
end Go.Proofs.YtkpibnhddhdooadGreat.L
namespace Go.Proofs.YtkpibnhddhdooadGreat.L
open Go Go.Proofs

theorem Sim.agree {ρ : Rho} {h : AH} {w1 w2 : World} (s : Sim ρ h w1) (k : ∀ b, b < w1.heap.size → w2.heap[b]? = w1.heap[b]?) : Sim ρ h w2 := by
  refine ⟨fun i b hb => ?_, s.inj⟩
  obtain ⟨r, hr, hat⟩ := s.lies i b hb
  refine ⟨r, hr, ?_⟩
  by_cases hne : b.wr = true ∨ b.cells ≠ []
  · exact hat.keep (Ext.refl ρ) (k _ (hat.lt hne))
  · refine ⟨fun k c hk => ?_, fun hb' => absurd (Or.inl hb') hne⟩
    have : b.cells = [] := by simpa using fun hc => hne (.inr hc)
    simp [this] at hk
def lowC (n : Nat) : AV → Bool
  | .int _ _ => true
  | .bool _ => true
  | .nilsl => true
  | .sl i _ _ _ => decide (i < n)
  | .so i _ => decide (i < n)
  | .sx i _ _ => decide (i < n)
  | _ => false
def lowV (n : Nat) (a : AV) : AV := if lowC n a = true then a else .any
def lowB (n : Nat) (b : Blk) : Blk := { b with cells := b.cells.map (lowV n) }
def cutR (n : Nat) (ρ : Rho) : Rho := fun i => if i < n then ρ i else none
theorem cutR_is {n : Nat} {ρ : Rho} {a : AV} {u : Value} (ha : lowC n a = true) (h : Is ρ a u) : Is (cutR n ρ) a u := by
  cases a <;> simp only [lowC, Bool.false_eq_true, decide_eq_true_eq] at ha
  all_goals
    simp only [Is] at h ⊢
    first | exact h | (simp only [cutR, if_pos ha]; exact h)
theorem lowV_is {n : Nat} {ρ : Rho} {a : AV} {u : Value} (h : Is ρ a u) : Is (cutR n ρ) (lowV n a) u := by
  unfold lowV
  split
  · rename_i ha; exact cutR_is ha h
  · simp only [Is]
theorem lowC_one {n : Nat} {a : AV} (h : lowC n a = true) : a.one = true := by
  cases a <;> first | rfl | simp [lowC] at h
theorem Sl.lowB {w : Bool} {lo hi n es : Nat} {h h' : AH} {v : AV} {cs : List AV} (s : Sl w lo hi h es v cs) (hc : ∀ c ∈ cs, lowC n c = true) (k : isSl v = true → h' (bid v) = (h (bid v)).map (L.lowB n)) : Sl w lo hi h' es v cs := by
  refine ⟨s.len, s.shape.imp id (Or.imp id fun ⟨h1, h2, h3, b, h4, h5, h6, h7⟩ => ⟨h1, h2, h3, L.lowB n b, by rw [k h1, h4]; rfl, h5, by simpa [L.lowB] using h6, ?_⟩)⟩
  have e : ∀ o m, cutA (L.lowB n b).cells o m = (cutA b.cells o m).map (lowV n) := fun o m => by simp [L.lowB, cutA, List.map_take, List.map_drop]
  rw [e, h7]
  conv => rhs; rw [← List.map_id cs]
  exact List.map_congr_left fun c hc' => by simp [lowV, hc c hc']
theorem sort_low {ρ : Rho} {h : AH} {w W : World} {i n : Nat} {b : Blk} {r : Ref} (s : Sim ρ h w) (hb : h i = some b) (hw : b.wr = true) (hr : ρ i = some r) (k : ∀ c, c < w.heap.size → c ≠ r.b → W.heap[c]? = w.heap[c]?) :
    Sim (cutR n ρ) (fun j => if j < n ∧ j ≠ i then (h j).map (lowB n) else none) W := by
  have old : ∀ j c, (if j < n ∧ j ≠ i then (h j).map (lowB n) else none) = some c → j < n ∧ j ≠ i ∧ ∃ c0, h j = some c0 ∧ c = lowB n c0 := fun j c hj => by
    split at hj
    · rename_i hji
      obtain ⟨c0, h1, h2⟩ := Option.map_eq_some_iff.1 hj
      exact ⟨hji.1, hji.2, c0, h1, h2.symm⟩
    · cases hj
  have cel : ∀ c0, (lowB n c0).cells ≠ [] → c0.cells ≠ [] := fun c0 h1 h2 => h1 (by simp [lowB, h2])
  refine ⟨fun j c hj => ?_, fun j m bj bm rj rm hj hm hjm hwr hne hrj hrm => ?_⟩
  · obtain ⟨h1, h2, c0, h3, rfl⟩ := old j c hj
    obtain ⟨rj, hrj, hat⟩ := s.lies j c0 h3
    refine ⟨rj, by simp only [cutR, if_pos h1]; exact hrj, ?_⟩
    by_cases hne : c0.wr = true ∨ c0.cells ≠ []
    · have hnb := s.inj i j b c0 r rj hb h3 (Ne.symm h2) hw hne hr hrj
      have hk := k rj.b (hat.lt hne) (Ne.symm hnb)
      refine ⟨fun m c' hm => ?_, fun hw' => ?_⟩
      · simp only [lowB, List.getElem?_map, Option.map_eq_some_iff] at hm
        obtain ⟨c1, h4, rfl⟩ := hm
        obtain ⟨v, h5, h6⟩ := hat.cells m c1 h4
        exact ⟨v, by rw [cell?_block hk]; exact h5, lowV_is h6⟩
      · obtain ⟨g1, cs, g2, g3, g4, g5⟩ := hat.own hw'
        exact ⟨g1, cs, by rw [hk]; exact g2, by simpa [lowB] using g3, by simpa [lowB] using g4, by simpa [lowB] using g5⟩
    · refine ⟨fun m c' hm => ?_, fun hb' => absurd (Or.inl hb') hne⟩
      have : c0.cells = [] := by simpa using fun hc => hne (.inr hc)
      simp [lowB, this] at hm
  · obtain ⟨a1, a2, c1, a3, rfl⟩ := old j bj hj
    obtain ⟨b1, b2, c2, b3, rfl⟩ := old m bm hm
    simp only [cutR, if_pos a1] at hrj
    simp only [cutR, if_pos b1] at hrm
    exact s.inj j m c1 c2 rj rm a3 b3 hjm hwr (hne.imp id (cel c2)) hrj hrm
def ixm (m j : Nat) : Nat := if j < m then j else 0

section
variable {ρ : Rho} {h : AH} {w : World} {i ty : Nat} {vs : List AV} {r : Ref} {cs : Array Value}
theorem sort_sim (s : Sim ρ h w) (hb : h i = some ⟨ty, vs, true, 1⟩) (hr : ρ i = some r) (hcs : w.heap[r.b]? = some (.cells cs ty (0, 0))) (hm : vs.length ≤ cs.size)
    (enc : Nat → Value) (henc : ∀ j, Is ρ (vs.getD (ixm vs.length j) .any) (enc j)) (mm : Nat) (dk : Array Nat) (hdk : dk.size = vs.length) (os : Array Obj) :
    Sim ρ (upd h i (some ⟨ty, dk.toList.map fun j => vs.getD (ixm vs.length j) .any, true, 1⟩)) (sortWorld enc w r.b 0 mm dk os) := by
  have s1 := s.write (b' := ⟨ty, dk.toList.map fun j => vs.getD (ixm vs.length j) .any, true, 1⟩) (cs' := Sort.putCells enc 0 dk cs) hb rfl hr hcs rfl rfl rfl (by simp [Sort.putCells]) (by simp [hdk, hm]) (fun h => by cases h) (fun k c hk => by
    simp only [List.getElem?_map, Option.map_eq_some_iff] at hk
    obtain ⟨j, hj, rfl⟩ := hk
    obtain ⟨h1, h2⟩ := List.getElem?_eq_some_iff.1 hj
    have h1' : k < dk.size := by simpa using h1
    refine ⟨enc j, ?_, henc j⟩
    simp only [Sort.putCells, Array.getElem?_mapIdx]
    rw [Array.getElem?_eq_getElem (by omega), Option.map_some, if_pos ⟨by omega, by omega⟩, Nat.sub_zero, getElem!_pos dk k h1']
    congr 1
    rw [← h2]; simp)
  refine s1.agree fun k hk => ?_
  have hk2 : k < w.heap.size := by simpa [World.setRow] using hk
  have e1 : (sortWorld enc w r.b 0 mm dk os).heap = (w.heap.modify r.b (Sort.onCells (Sort.putCells enc 0 dk))) ++ os := rfl
  rw [e1, Array.getElem?_append_left (by simpa using hk2)]
  by_cases hkb : k = r.b
  · subst hkb
    rw [setRow_heap w _ cs _ ty (0, 0) hcs, Array.getElem?_modify, if_pos rfl, hcs]
    rfl
  · rw [setRow_other w _ _ _ hkb, Array.getElem?_modify, if_neg (Ne.symm hkb)]
end

theorem world_eq {w w' : World} (ht : w'.tape = w.tape) (ho : w'.os = w.os) (hu : w'.output = w.output) (hs : w.heap.size ≤ w'.heap.size) (hb : ∀ b, b < w.heap.size → w'.heap[b]? = w.heap[b]?) (hd : w.drawn ≤ w'.drawn) :
    ∃ q os, w' = Sort.grow (w.drewN q) os := by
  refine ⟨w'.drawn - w.drawn, w'.heap.extract w.heap.size w'.heap.size, ?_⟩
  obtain ⟨heap', tape', drawn', os', output'⟩ := w'
  obtain ⟨heap, tape, drawn, os, output⟩ := w
  simp only at ht ho hu hs hb hd
  subst ht ho hu
  simp only [Sort.grow, World.drewN, World.mk.injEq, and_true, true_and]
  refine ⟨?_, by omega⟩
  apply Array.ext_getElem?
  intro k
  by_cases hk : k < heap.size
  · rw [Array.getElem?_append_left hk, hb k hk]
  · rw [Array.getElem?_append_right (by omega), Array.getElem?_extract]
    by_cases hk2 : k < heap'.size
    · rw [if_pos (by omega), show heap.size + (k - heap.size) = k by omega]
    · rw [Array.getElem?_eq_none (by omega), if_neg (by omega)]

section
variable {P : Program} {ρT : Go.Shelf.Ren} {g n lo hi i ty : Nat} {h : AH} {vs : List AV} {cf : Nat → Nat → Int}
theorem sort_bridge (L : SlLaysF.n6 P ρT) (hg : okFn P g = true) (hf : okFn P (ρT.f 6) = true) (hb : h i = some ⟨ty, vs, true, 1⟩) (hlo : lo ≤ i) (hhi : i < hi) (hn : hi ≤ n) (h0 : 0 < vs.length) (hsz : vs.length ≤ 1048576) (hlow : ∀ a ∈ vs, lowC n a = true)
    (hO : Sort.SWO (ltOf fun x y => cf (ixm vs.length x) (ixm vs.length y)))
    (hQ : ∀ x y, x < vs.length → y < vs.length → ∀ h' : AH, (∀ j, j < n → j ≠ i → h' j = (h j).map (lowB n)) → Q P g [vs.getD x .any, vs.getD y .any] h' n (.int .i64 (cf x y))) :
    MQ P (ρT.f 6) [.so i vs.length, .fn g []] h n lo hi fun x h' n' => x = .tup [] ∧ ∃ js : List Nat, js.Perm (List.range vs.length) ∧ (∀ a b, a < b → b < vs.length → ¬ cf (js.getD b 0) (js.getD a 0) < 0) ∧
      h' = upd h i (some ⟨ty, js.map fun j => vs.getD j .any, true, 1⟩) := by
  obtain ⟨cf', hcf'⟩ : ∃ cf' : Nat → Nat → Int, cf' = fun x y => cf (ixm vs.length x) (ixm vs.length y) := ⟨_, rfl⟩
  rw [← hcf'] at hO
  obtain ⟨d, hd⟩ : ∃ d : Array Nat, d = Array.range vs.length := ⟨_, rfl⟩
  have hds : d.size = vs.length := by rw [hd]; simp
  have hdj : ∀ j, j < vs.length → d[j]! = j := fun j hj => by rw [hd, getElem!_pos _ j (by simpa using hj)]; simp
  obtain ⟨d', hd'⟩ : ∃ d' : Array Nat, d' = Sort.pdq (ltOf cf') d 0 d.size (Lib.bitLen d.size) true true := ⟨_, rfl⟩
  have hpdq := Sort.pdq_sorts (ltOf cf') hO d 0 d.size (Lib.bitLen d.size) true true (Nat.zero_le _) (Nat.le_refl _) (Or.inl rfl)
  rw [← hd'] at hpdq
  obtain ⟨⟨q1, q2, q3⟩, q4⟩ := hpdq
  have hd's : d'.size = vs.length := by rw [q1, hds]
  have hperm : d'.toList.Perm (List.range vs.length) := by
    have e1 : (d'.extract 0 d.size) = d' := by rw [← q1]; simp
    have e2 : (d.extract 0 d.size) = d := by simp
    rw [e1, e2, hd] at q3
    simpa using q3
  have hlt : ∀ j ∈ d'.toList, j < vs.length := fun j hj => by simpa using (hperm.mem_iff.1 hj)
  have hixd : (d'.toList.map fun j => vs.getD (ixm vs.length j) .any) = d'.toList.map fun j => vs.getD j .any := List.map_congr_left fun j hj => by rw [ixm, if_pos (hlt j hj)]
  have hix : ∀ j, ixm vs.length j < vs.length := fun j => by unfold ixm; split <;> omega
  refine ⟨.tup [], _, n, ⟨hf, Nat.le_refl _, ?_⟩, rfl, d'.toList, hperm, fun a b hab hbm => ?_, rfl⟩
  · intro ρ w vs' hs ha hfresh
    simp only [IsL] at ha
    obtain ⟨v1, _, rfl, hv, v2, _, rfl, hf2, rfl⟩ := ha
    simp only [Is] at hv hf2
    obtain ⟨r, hr, hrs, hrc, rfl⟩ := hv
    obtain ⟨us, rfl, hus⟩ := hf2
    simp only [IsL] at hus
    subst hus
    obtain ⟨r', hr', hat⟩ := hs.lies i _ hb
    rw [hr] at hr'; cases hr'
    obtain ⟨_, cs, hcs, hlen, _, _⟩ := hat.own rfl
    simp only at hcs hlen
    obtain ⟨enc, henc'⟩ : ∃ enc : Nat → Value, enc = fun j => (cs[ixm vs.length j]?).getD undef := ⟨_, rfl⟩
    have hcell : ∀ k, k < vs.length → ∃ v, cs[k]? = some v ∧ Is ρ (vs.getD k .any) v := fun k hk => by
      obtain ⟨v, h1, h2⟩ := hat.cells k (vs.getD k .any) (by simp [List.getD, hk])
      rw [hrs, Nat.zero_add, cell_of_row w r.b k cs _ _ hcs] at h1
      exact ⟨v, h1, h2⟩
    have henc : ∀ j, Is ρ (vs.getD (ixm vs.length j) .any) (enc j) := fun j => by
      obtain ⟨v, h1, h2⟩ := hcell _ (hix j)
      have : enc j = v := by rw [henc']; simp [h1]
      rw [this]; exact h2
    have hlo1 : ∀ j, lowC n (vs.getD (ixm vs.length j) .any) = true := fun j => hlow _ (getD_mem (hix j))
    have h1 : OneCell enc := fun j => ((henc j).one (lowC_one (hlo1 j))).1
    have hH : Sort.Holds enc w r.b 0 d := fun j hj => by
      rw [hds] at hj
      obtain ⟨v, g1, g2⟩ := hcell j hj
      have ej : enc j = v := by rw [henc']; simp [ixm, hj, g1]
      refine ⟨?_, by simp [World.frozen?, hcs]⟩
      rw [Nat.zero_add, cell_of_row w r.b j cs _ _ hcs, g1, hdj j hj, ej]
    have hblk : r.b < w.heap.size := (Array.getElem?_eq_some_iff.1 hcs).1
    have hsw : ∀ (mm : Nat) (dk : Array Nat) (os : Array Obj) (c : Nat), c < w.heap.size → c ≠ r.b → (sortWorld enc w r.b 0 mm dk os).heap[c]? = w.heap[c]? := fun mm dk os c h1 h2 => by
      have e1 : (sortWorld enc w r.b 0 mm dk os).heap = (w.heap.modify r.b (Sort.onCells (Sort.putCells enc 0 dk))) ++ os := rfl
      rw [e1, Array.getElem?_append_left (by simpa using h1), Array.getElem?_modify, if_neg (Ne.symm h2)]
    have hcmp : CmpLays1 P g #[] enc cf' r.b 0 d.size w := fun mm os dk hdk x y => by
      obtain ⟨n2, c⟩ := hQ _ _ (hix x) (hix y) (fun j => if j < n ∧ j ≠ i then (h j).map (lowB n) else none) (fun j h1 h2 => if_pos ⟨h1, h2⟩)
      have hc := c.2.2 (cutR n ρ) (sortWorld enc w r.b 0 mm dk os) [enc x, enc y] (sort_low hs hb rfl hr (hsw mm dk os)) (IsL.cons (cutR_is (hlo1 x) (henc x)) (IsL.cons (cutR_is (hlo1 y) (henc y)) (IsL.nil _))) (fun j h1 h2 => by simp only [cutR]; rw [if_neg (by omega)])
      refine Calls.mono hc ?_
      rintro e w' ⟨rv, ρ', rfl, hi, _, hcx⟩
      simp only [Is] at hi
      subst hi
      refine ⟨by rw [hcf'], world_eq hcx.tape hcx.os hcx.output hcx.size (fun b hb => hcx.blk b hb fun _ _ _ h => h.elim) hcx.drawn⟩
    have hcon := Any.slices_SortFunc_eq L enc h1 cf' hO g #[] r.b 0 r.c d w (callFunc_run hg) hcmp hH hblk (by omega)
    rw [← hd'] at hcon
    rw [hds] at hcon
    refine Calls.mono hcon ?_
    rintro e w' ⟨rfl, nn, os, rfl⟩
    refine ⟨.tuple #[], ρ, rfl, by simp [Is, IsL], ?_, rfl, rfl, rfl, ?_, fun b hb2 hh => ?_, fun _ _ => rfl, fun _ _ => rfl, fun j rj h1 h2 _ => ?_, ?_⟩
    · have := sort_sim hs hb hr hcs hlen enc henc nn d' hd's os
      rw [hixd] at this
      exact this
    · simp [sortWorld, Sort.grow, Sort.putRow, Sort.mapBlock, Sort.ahead]
    · exact hsw nn d' os b hb2 (Ne.symm (hh i r (by simp only; omega) ⟨hlo, hhi⟩ hr))
    · simp only at h1 h2; omega
    · show w.drawn ≤ w.drawn + nn
      omega
  · have := q4 a b (Nat.zero_le _) hab (by rw [hds]; exact hbm)
    rw [ltOf, decide_eq_false_iff_not, hcf'] at this
    have e : ∀ c, c < vs.length → d'[c]! = d'.toList.getD c 0 ∧ ixm vs.length (d'.toList.getD c 0) = d'.toList.getD c 0 := fun c hc => by
      have h1 : d'[c]! = d'.toList.getD c 0 := by
        rw [getElem!_pos d' c (by omega)]
        simp [List.getD, hd's, hc]
      refine ⟨h1, ?_⟩
      rw [ixm, if_pos]
      refine hlt _ ?_
      simp only [List.getD]
      rw [List.getElem?_eq_getElem (by simp; omega)]
      exact List.getElem_mem _
    simp only [(e a (by omega)).1, (e b hbm).1, (e a (by omega)).2, (e b hbm).2] at this
    exact this
end
abbrev FrL := List (Int × Int)
def cmpL : FrL → FrL → Int
  | [], _ => 0
  | _ :: _, [] => 1
  | p :: l, r :: m => if p.1 * r.2 - r.1 * p.2 = 0 then cmpL l m else (p.1 * r.2 - r.1 * p.2).sign
def fr1 (p : Int × Int) : Prop := isFr 1000000000 p.1 p.2 = true
theorem fr1_b {p : Int × Int} (h : fr1 p) : 1 ≤ p.2 ∧ p.2 ≤ 1000000000 ∧ -1000000000 ≤ p.1 ∧ p.1 ≤ 1000000000 ∧ Int.gcd p.1 p.2 = 1 := by
  unfold fr1 isFr at h; exact of_decide_eq_true h
theorem fr1_eq {p r : Int × Int} (hp : fr1 p) (hr : fr1 r) : p.1 * r.2 - r.1 * p.2 = 0 ↔ p = r := by
  obtain ⟨b1, _, _, _, g1⟩ := fr1_b hp
  obtain ⟨b2, _, _, _, g2⟩ := fr1_b hr
  constructor
  · intro h
    have h : p.1 * r.2 = r.1 * p.2 := by omega
    have hn : p.1.natAbs * r.2.natAbs = r.1.natAbs * p.2.natAbs := by rw [← Int.natAbs_mul, h, Int.natAbs_mul]
    have d1 : p.2.natAbs ∣ r.2.natAbs := by
      have : p.2.natAbs ∣ p.1.natAbs * r.2.natAbs := by rw [hn]; exact Nat.dvd_mul_left _ _
      exact (Nat.Coprime.dvd_of_dvd_mul_left (k := p.2.natAbs) (m := p.1.natAbs) (by rw [Nat.Coprime, Nat.gcd_comm]; exact g1) this)
    have d2 : r.2.natAbs ∣ p.2.natAbs := by
      have : r.2.natAbs ∣ r.1.natAbs * p.2.natAbs := by rw [← hn]; exact Nat.dvd_mul_left _ _
      exact (Nat.Coprime.dvd_of_dvd_mul_left (k := r.2.natAbs) (m := r.1.natAbs) (by rw [Nat.Coprime, Nat.gcd_comm]; exact g2) this)
    have e2 : p.2 = r.2 := by have := Nat.dvd_antisymm d1 d2; omega
    rw [e2] at h
    exact Prod.ext (Int.eq_of_mul_eq_mul_right (by omega) h) e2
  · rintro rfl; omega
theorem fr1_trans {p r t : Int × Int} (hp : fr1 p) (hr : fr1 r) (ht : fr1 t) (h1 : p.1 * r.2 - r.1 * p.2 < 0) (h2 : r.1 * t.2 - t.1 * r.2 < 0) : p.1 * t.2 - t.1 * p.2 < 0 := by
  obtain ⟨b1, _⟩ := fr1_b hp
  obtain ⟨b2, _⟩ := fr1_b hr
  obtain ⟨b3, _⟩ := fr1_b ht
  have a1 := Int.mul_lt_mul_of_pos_right (show p.1 * r.2 < r.1 * p.2 by omega) (show 0 < t.2 by omega)
  have a2 := Int.mul_lt_mul_of_pos_right (show r.1 * t.2 < t.1 * r.2 by omega) (show 0 < p.2 by omega)
  have e1 : p.1 * r.2 * t.2 = p.1 * t.2 * r.2 := by grind
  have e2 : r.1 * p.2 * t.2 = r.1 * t.2 * p.2 := by grind
  have e3 : t.1 * r.2 * p.2 = t.1 * p.2 * r.2 := by grind
  have a3 : p.1 * t.2 * r.2 < t.1 * p.2 * r.2 := by omega
  have := Int.lt_of_mul_lt_mul_right a3 (by omega)
  omega
def GoodF (N : Nat) (l : FrL) : Prop := l.length = N ∧ ∀ p ∈ l, fr1 p
def ltL (l m : FrL) : Prop := cmpL l m < 0
theorem GoodF.tail {N : Nat} {p : Int × Int} {l : FrL} (h : GoodF (N + 1) (p :: l)) : fr1 p ∧ GoodF N l := ⟨h.2 p List.mem_cons_self, by have := h.1; simp at this; exact this, fun q hq => h.2 q (List.mem_cons_of_mem _ hq)⟩
theorem sign_neg_iff {x : Int} : x.sign < 0 ↔ x < 0 := by
  rcases Int.lt_trichotomy x 0 with h | h | h
  · rw [Int.sign_eq_neg_one_of_neg h]; omega
  · subst h; simp
  · rw [Int.sign_eq_one_of_pos h]; omega
theorem cmpL_facts (N : Nat) : ∀ {l m : FrL}, GoodF N l → GoodF N m → (cmpL l m = 0 ↔ l = m) ∧ (cmpL l m < 0 ∨ l = m ∨ cmpL m l < 0) ∧ cmpL l l = 0 := by
  induction N with
  | zero =>
    intro l m hl hm
    have e1 := List.eq_nil_of_length_eq_zero hl.1
    have e2 := List.eq_nil_of_length_eq_zero hm.1
    subst e1 e2
    simp [cmpL]
  | succ N ih =>
    intro l m hl hm
    match l, m, hl, hm with
    | p :: l, r :: m, hl, hm =>
      obtain ⟨hp, hl⟩ := hl.tail
      obtain ⟨hr, hm⟩ := hm.tail
      obtain ⟨i1, i2, i3⟩ := ih hl hm
      have hq := fr1_eq hp hr
      have hq2 := fr1_eq hr hp
      have hs : ∀ x : Int, x.sign = 0 ↔ x = 0 := fun x => Int.sign_eq_zero_iff_zero
      refine ⟨?_, ?_, by simp [cmpL, i3]⟩
      · simp only [cmpL, List.cons.injEq]
        split
        · rename_i h; rw [i1]; exact ⟨fun h2 => ⟨hq.1 h, h2⟩, fun h2 => h2.2⟩
        · rename_i h; rw [hs]; exact ⟨fun h2 => absurd h2 h, fun h2 => absurd (hq.2 h2.1) h⟩
      · simp only [cmpL, List.cons.injEq]
        by_cases h : p.1 * r.2 - r.1 * p.2 = 0
        · rw [if_pos h, if_pos (by omega)]
          rcases i2 with h2 | h2 | h2
          · exact .inl h2
          · exact .inr (.inl ⟨hq.1 h, h2⟩)
          · exact .inr (.inr h2)
        · rw [if_neg h, if_neg (by omega), sign_neg_iff, sign_neg_iff]
          omega
theorem ltL_trans (N : Nat) : ∀ {l m k : FrL}, GoodF N l → GoodF N m → GoodF N k → ltL l m → ltL m k → ltL l k := by
  induction N with
  | zero =>
    intro l m k hl hm hk h1 h2
    have e1 := List.eq_nil_of_length_eq_zero hl.1
    subst e1
    simp [ltL, cmpL] at h1
  | succ N ih =>
    intro l m k hl hm hk h1 h2
    match l, m, k, hl, hm, hk with
    | p :: l, r :: m, t :: k, hl, hm, hk =>
      obtain ⟨hp, gl⟩ := hl.tail
      obtain ⟨hr, gm⟩ := hm.tail
      obtain ⟨ht, gk⟩ := hk.tail
      simp only [ltL, cmpL] at h1 h2 ⊢
      by_cases e1 : p.1 * r.2 - r.1 * p.2 = 0
      · have := (fr1_eq hp hr).1 e1
        subst this
        rw [if_pos e1] at h1
        by_cases e2 : p.1 * t.2 - t.1 * p.2 = 0
        · rw [if_pos e2] at h2 ⊢
          exact ih gl gm gk h1 h2
        · rw [if_neg e2] at h2 ⊢; exact h2
      · rw [if_neg e1, sign_neg_iff] at h1
        by_cases e2 : r.1 * t.2 - t.1 * r.2 = 0
        · have := (fr1_eq hr ht).1 e2
          subst this
          rw [if_neg e1, sign_neg_iff]; exact h1
        · rw [if_neg e2, sign_neg_iff] at h2
          have := fr1_trans hp hr ht h1 h2
          rw [if_neg (by omega), sign_neg_iff]; exact this
section
variable {N : Nat}
theorem ltL_irr {l : FrL} (hl : GoodF N l) : ¬ ltL l l := by have := (cmpL_facts N hl hl).2.2; unfold ltL; omega
theorem ltL_tot {l m : FrL} (hl : GoodF N l) (hm : GoodF N m) : ltL l m ∨ l = m ∨ ltL m l := (cmpL_facts N hl hm).2.1
theorem ltL_asy {l m : FrL} (hl : GoodF N l) (hm : GoodF N m) (h : ltL l m) : ¬ ltL m l := fun h2 => ltL_irr hl (ltL_trans N hl hm hl h h2)
theorem ltL_not {l m : FrL} (hl : GoodF N l) (hm : GoodF N m) (h : ¬ ltL m l) : ltL l m ∨ l = m := by
  rcases ltL_tot hl hm with h2 | h2 | h2
  · exact .inl h2
  · exact .inr h2
  · exact absurd h2 h
theorem sorted_uniq {a b : List FrL} (ha : ∀ x ∈ a, GoodF N x) (hb : ∀ x ∈ b, GoodF N x) (sa : a.Pairwise ltL) (sb : b.Pairwise ltL) (h : ∀ x, x ∈ a ↔ x ∈ b) : a = b := by
  have nd : ∀ {c : List FrL}, (∀ x ∈ c, GoodF N x) → c.Pairwise ltL → c.Nodup := fun {c} hc sc => by
    rw [List.Nodup]
    refine List.Pairwise.imp_of_mem (fun {x y} hx hy hxy e => ?_) sc
    subst e
    exact ltL_irr (hc _ hx) hxy
  exact List.Perm.eq_of_pairwise (le := ltL) (fun x y hx hy h1 h2 => absurd h2 (ltL_asy (ha x hx) (hb y hy) h1)) sa sb ((List.perm_ext_iff_of_nodup (nd ha sa) (nd hb sb)).2 h)
end
instance ltL_dec (l m : FrL) : Decidable (ltL l m) := inferInstanceAs (Decidable (cmpL l m < 0))
def posZ (own : FrL) (out : List FrL) : Nat → Nat
  | 0 => 0
  | k + 1 => if ltL own (out.getD k []) then posZ own out k else k + 1
def insZ (own : FrL) (out : List FrL) : List FrL :=
  if 0 < posZ own out out.length ∧ ¬ ltL (out.getD (posZ own out out.length - 1) []) own then out else out.take (posZ own out out.length) ++ own :: out.drop (posZ own out out.length)
theorem posZ_le (own : FrL) (out : List FrL) : ∀ k, posZ own out k ≤ k
  | 0 => Nat.le_refl _
  | k + 1 => by
    rw [posZ]; split
    · exact Nat.le_succ_of_le (posZ_le own out k)
    · exact Nat.le_refl _
theorem posZ_hi (own : FrL) (out : List FrL) : ∀ k j, posZ own out k ≤ j → j < k → ltL own (out.getD j [])
  | 0, j, _, h => absurd h (Nat.not_lt_zero _)
  | k + 1, j, h1, h2 => by
    rw [posZ] at h1
    split at h1
    · rename_i h
      by_cases e : j = k
      · subst e; exact h
      · exact posZ_hi own out k j h1 (by omega)
    · omega
theorem posZ_lo (own : FrL) (out : List FrL) : ∀ k, 0 < posZ own out k → ¬ ltL own (out.getD (posZ own out k - 1) [])
  | 0, h => absurd h (Nat.not_lt_zero _)
  | k + 1, h => by
    rw [posZ] at h ⊢
    split
    · rename_i hh; rw [if_pos hh] at h; exact posZ_lo own out k h
    · rename_i hh; exact hh
theorem insZ_facts {N : Nat} {own : FrL} {out : List FrL} (ho : GoodF N own) (hg : ∀ x ∈ out, GoodF N x) (hs : out.Pairwise ltL) : (insZ own out).Pairwise ltL ∧ ∀ x, x ∈ insZ own out ↔ x = own ∨ x ∈ out := by
  have hle := posZ_le own out out.length
  have hhi := posZ_hi own out out.length
  have hlo := posZ_lo own out out.length
  unfold insZ
  generalize posZ own out out.length = a at hle hhi hlo
  have mem : ∀ j, j < out.length → out.getD j [] ∈ out := fun j hj => getD_mem hj
  have hp : ∀ i j, i < j → j < out.length → ltL (out.getD i []) (out.getD j []) := fun i j hij hj => by
    have := List.pairwise_iff_getElem.1 hs i j (by omega) hj hij
    simpa [List.getD, hj, show i < out.length by omega] using this
  split
  · rename_i h
    refine ⟨hs, fun x => ⟨.inr, fun hx => hx.elim (fun e => ?_) id⟩⟩
    subst e
    rcases ltL_tot ho (hg _ (mem (a - 1) (by omega))) with h2 | h2 | h2
    · exact absurd h2 (hlo h.1)
    · rw [h2]; exact mem _ (by omega)
    · exact absurd h2 h.2
  · rename_i h
    have low : ∀ j, j < a → ltL (out.getD j []) own := fun j hj => by
      have h1 : ltL (out.getD (a - 1) []) own := Decidable.not_not.1 fun hh => h ⟨by omega, hh⟩
      by_cases e : j = a - 1
      · rw [e]; exact h1
      · exact ltL_trans N (hg _ (mem j (by omega))) (hg _ (mem (a - 1) (by omega))) ho (hp j (a - 1) (by omega) (by omega)) h1
    refine ⟨?_, fun x => ?_⟩
    · rw [List.pairwise_append]
      refine ⟨hs.sublist (List.take_sublist _ _), List.pairwise_cons.2 ⟨fun y hy => ?_, hs.sublist (List.drop_sublist _ _)⟩, fun x hx y hy => ?_⟩
      · obtain ⟨j, hj, rfl⟩ := List.mem_iff_getElem.1 hy
        simp only [List.length_drop] at hj
        have := hhi (a + j) (by omega) (by omega)
        simpa [List.getD, show a + j < out.length by omega] using this
      · obtain ⟨i, hi, rfl⟩ := List.mem_iff_getElem.1 hx
        simp only [List.length_take] at hi
        have hi2 := low i (by omega)
        have e1 : (out.take a)[i] = out.getD i [] := by simp [List.getD, show i < out.length by omega]
        rw [e1]
        rcases List.mem_cons.1 hy with rfl | hy
        · exact hi2
        · obtain ⟨j, hj, rfl⟩ := List.mem_iff_getElem.1 hy
          simp only [List.length_drop] at hj
          have := hp i (a + j) (by omega) (by omega)
          simpa [List.getD, show a + j < out.length by omega] using this
    · rw [List.mem_append, List.mem_cons]
      have : x ∈ out ↔ x ∈ out.take a ∨ x ∈ out.drop a := by rw [← List.mem_append, List.take_append_drop]
      rw [this]
      constructor
      · rintro (h | h | h)
        · exact .inr (.inl h)
        · exact .inl h
        · exact .inr (.inr h)
      · rintro (h | h | h)
        · exact .inr (.inl h)
        · exact .inl h
        · exact .inr (.inr h)
theorem insZ_len (own : FrL) (out : List FrL) : (insZ own out).length ≤ out.length + 1 := by
  unfold insZ
  split
  · omega
  · simp; omega
def ddI (L : List FrL) (n : Nat) : List Nat := (List.range n).filter fun j => decide (j = 0) || decide (L.getD j [] ≠ L.getD (j - 1) [])
theorem ddI_t {L : List FrL} {n : Nat} (h : n = 0 ∨ L.getD n [] ≠ L.getD (n - 1) []) : ddI L (n + 1) = ddI L n ++ [n] := by
  unfold ddI
  rw [List.range_succ, List.filter_append, List.filter_cons_of_pos (by simp; simpa using h)]; simp
theorem ddI_f {L : List FrL} {n : Nat} (h0 : n ≠ 0) (h : L.getD n [] = L.getD (n - 1) []) : ddI L (n + 1) = ddI L n := by
  unfold ddI
  rw [List.range_succ, List.filter_append, List.filter_cons_of_neg (by simp [h0]; simpa using h)]; simp
theorem ddI_lt {L : List FrL} {n j : Nat} (h : j ∈ ddI L n) : j < n := by simp only [ddI, List.mem_filter, List.mem_range] at h; exact h.1
theorem ddI_nodup (L : List FrL) (n : Nat) : (ddI L n).Nodup := List.nodup_range.filter _
theorem ddI_len (L : List FrL) (n : Nat) : (ddI L n).length ≤ n := by
  have := List.length_filter_le (fun j => decide (j = 0) || decide (L.getD j [] ≠ L.getD (j - 1) [])) (List.range n)
  simpa [ddI] using this
def ddL (L : List FrL) : List FrL := (ddI L L.length).map fun j => L.getD j []
theorem ddL_facts {N : Nat} {L : List FrL} (hg : ∀ x ∈ L, GoodF N x) (hs : ∀ a b, a < b → b < L.length → ¬ ltL (L.getD b []) (L.getD a [])) : (ddL L).Pairwise ltL ∧ ∀ x, x ∈ ddL L ↔ x ∈ L := by
  have gj : ∀ j, j < L.length → GoodF N (L.getD j []) := fun j hj => hg _ (getD_mem hj)
  constructor
  · rw [ddL, List.pairwise_map]
    refine List.Pairwise.imp_of_mem (R := fun a b => a < b) (fun {a b} ha hb hab => ?_) (List.pairwise_lt_range.filter _)
    have hb' := ddI_lt hb
    simp only [ddI, List.mem_filter, List.mem_range, Bool.or_eq_true, decide_eq_true_eq] at hb
    have hne : L.getD b [] ≠ L.getD (b - 1) [] := hb.2.resolve_left (by omega)
    have h1 : ltL (L.getD (b - 1) []) (L.getD b []) := (ltL_not (gj _ (by omega)) (gj _ hb') (hs (b - 1) b (by omega) hb')).resolve_right fun e => hne e.symm
    by_cases e : a = b - 1
    · rw [e]; exact h1
    · rcases ltL_not (gj a (by omega)) (gj (b - 1) (by omega)) (hs a (b - 1) (by omega) (by omega)) with h2 | h2
      · exact ltL_trans N (gj a (by omega)) (gj (b - 1) (by omega)) (gj b hb') h2 h1
      · rw [h2]; exact h1
  · intro x
    rw [ddL, List.mem_map]
    constructor
    · rintro ⟨j, hj, rfl⟩; exact getD_mem (ddI_lt hj)
    · intro hx
      obtain ⟨j, hj, rfl⟩ := List.mem_iff_getElem.1 hx
      have key : ∀ j, j < L.length → ∃ a, a ∈ ddI L L.length ∧ L.getD a [] = L.getD j [] := by
        intro j
        induction j with
        | zero => intro hj; exact ⟨0, by simp [ddI, hj], rfl⟩
        | succ j ih =>
          intro hj
          by_cases e : L.getD (j + 1) [] = L.getD j []
          · obtain ⟨a, h1, h2⟩ := ih (by omega)
            exact ⟨a, h1, by rw [h2, e]⟩
          · exact ⟨j + 1, by simp only [ddI, List.mem_filter, List.mem_range, Bool.or_eq_true, decide_eq_true_eq]; exact ⟨hj, .inr (by simpa using e)⟩, rfl⟩
      obtain ⟨a, h1, h2⟩ := key j hj
      exact ⟨a, h1, by rw [h2]; simp [List.getD, hj]⟩
theorem det_lim20 {q n : Nat} {A : Mx} (hn : n ≤ 5) (h : ∀ r c, r < n → c < n → (A r c).natAbs ≤ if c = q then 100 else 20) : -1000000000 ≤ det n A ∧ det n A ≤ 1000000000 := by
  by_cases e : n = 5
  · subst e; exact det5_small h
  · have hl : Lim q n A := fun r c hr hc => by
      have := h r c hr hc
      by_cases e9 : c = q
      · rw [if_pos e9] at this ⊢; exact this
      · rw [if_neg e9] at this ⊢; omega
    have h1 := hl.term.1
    have h2 := Tm_le4 (n := n) (by omega)
    omega
theorem dtS_1e9 {ll : List (List Int)} {q : List Int} (hp : isProb ll q = true) (s : Int) : -1000000000 ≤ dtS ll s ∧ dtS ll s ≤ 1000000000 := by
  have hm := (isProb_facts hp).1
  refine det_lim20 (q := 9) ((isMat_iff ll).1 hm).2.1 fun r c hr hc => ?_
  have h1 := colE_b hm s hr hc
  unfold mx
  rw [colsL_at hr hc]
  split <;> omega
theorem dtK_1e9 {ll : List (List Int)} {q : List Int} (hp : isProb ll q = true) (s : Int) {k : Nat} (_ : k < ll.length) : -1000000000 ≤ dtK ll q s k ∧ dtK ll q s k ≤ 1000000000 := by
  obtain ⟨hm, hq, hw⟩ := isProb_facts hp
  refine det_lim20 (q := k) ((isMat_iff ll).1 hm).2.1 fun r c hr hc => ?_
  have h1 := colE_b hm s hr hc
  have h2 := (within_iff _ _).1 hw r (by omega)
  unfold mx
  rw [putL_at (by rw [(colsL_sq ll s).1]; exact hr) (by rw [(colsL_sq ll s).2 r hr]; exact hc), colsL_at hr hc]
  by_cases e : k = c
  · subst e; rw [if_pos rfl, if_pos rfl]; omega
  · rw [if_neg e, if_neg fun h => e h.symm]; omega
def zF (ll : List (List Int)) (q : List Int) (s : Nat) : FrL := onlyF (ptF ll q (s : Int)) (s : Int)
theorem red_1e9 {x d : Int} (hd : d ≠ 0) (hx : -1000000000 ≤ x ∧ x ≤ 1000000000) (hd2 : -1000000000 ≤ d ∧ d ≤ 1000000000) : fr1 (red x d) := by
  obtain ⟨h1, h2⟩ := red_low (x := x) hd
  have hg : 0 < (Int.gcd x d : Int) := by have := Int.gcd_pos_of_ne_zero_right x hd; omega
  have h5 : ((red x d).2 : Int) ≤ (d.natAbs : Int) := by
    simp only [red]
    exact Int.ofNat_le.2 (Nat.div_le_self _ _)
  have h3 : -1000000000 ≤ x * d.sign ∧ x * d.sign ≤ 1000000000 := by rw [Int.mul_comm]; exact sign_mul_b hx
  have h4 : -1000000000 ≤ (red x d).1 ∧ (red x d).1 ≤ 1000000000 := by
    simp only [red]
    constructor
    · have := Int.le_ediv_of_mul_le (a := -1000000000) hg (b := x * d.sign) (by have := Int.mul_le_mul_of_nonneg_left (show (1 : Int) ≤ (Int.gcd x d : Int) by omega) (show (0 : Int) ≤ 1000000000 by omega); omega)
      omega
    · have := Int.ediv_le_self (a := 1000000000) (Int.gcd x d : Int) (by omega)
      have h5 := Int.ediv_le_ediv hg h3.2
      omega
  unfold fr1 isFr
  exact decide_eq_true ⟨h1, by omega, h4.1, h4.2, h2⟩
theorem zF_good {ll : List (List Int)} {q : List Int} (hp : isProb ll q = true) {s : Nat} (hd : dtS ll (s : Int) ≠ 0) : GoodF ll.length (zF ll q s) := by
  refine ⟨by rw [zF, onlyF_len, ptF_len], fun p hx => ?_⟩
  obtain ⟨k, hk, rfl⟩ := List.mem_iff_getElem.1 hx
  have hk2 : k < ll.length := by rw [zF, onlyF_len, ptF_len] at hk; exact hk
  have e : (zF ll q s)[k] = (zF ll q s).getD k (0, 0) := by simp [List.getD, hk]
  rw [e, zF, onlyF_get (by rw [ptF_len]; exact hk2)]
  split
  · rw [ptF, getD_map _ _ _ 0 _ (by rw [ptL_len]; exact hk2), ptL, rowOf_get hk2]
    exact red_1e9 hd (dtK_1e9 hp _ hk2) (dtS_1e9 hp _)
  · unfold fr1; decide
theorem good_all {N : Nat} {l : FrL} (h : GoodF N l) : allFr l = true := by
  rw [allFr, List.all_eq_true]; exact h.2
def solsK (ll : List (List Int)) (q : List Int) : Nat → List FrL
  | 0 => []
  | k + 1 => if setP ll q feasT k = true then insZ (zF ll q k) (solsK ll q k) else solsK ll q k
theorem setP_d {ll : List (List Int)} {q : List Int} {s : Nat} (h : setP ll q feasT s = true) : dtS ll (s : Int) ≠ 0 := by
  simp only [setP, Bool.and_eq_true, decide_eq_true_eq] at h; exact h.1
theorem solsK_facts {ll : List (List Int)} {q : List Int} (hp : isProb ll q = true) (k : Nat) : (∀ x ∈ solsK ll q k, GoodF ll.length x) ∧ (solsK ll q k).Pairwise ltL ∧ ∀ x, x ∈ solsK ll q k ↔ ∃ s, s < k ∧ setP ll q feasT s = true ∧ x = zF ll q s := by
  induction k with
  | zero => exact ⟨fun x hx => by simp [solsK] at hx, by simp [solsK], fun x => by simp [solsK]⟩
  | succ k ih =>
    obtain ⟨i1, i2, i3⟩ := ih
    rw [solsK]
    split
    · rename_i hk
      have hg := zF_good hp (setP_d hk)
      obtain ⟨f1, f2⟩ := insZ_facts hg i1 i2
      refine ⟨fun x hx => ?_, f1, fun x => ?_⟩
      · rcases (f2 x).1 hx with rfl | h
        · exact hg
        · exact i1 x h
      · rw [f2, i3]
        constructor
        · rintro (rfl | ⟨s, h1, h2, h3⟩)
          · exact ⟨k, by omega, hk, rfl⟩
          · exact ⟨s, by omega, h2, h3⟩
        · rintro ⟨s, h1, h2, h3⟩
          by_cases e : s = k
          · subst e; exact .inl h3
          · exact .inr ⟨s, by omega, h2, h3⟩
    · rename_i hk
      refine ⟨i1, i2, fun x => ?_⟩
      rw [i3]
      constructor
      · rintro ⟨s, h1, h2, h3⟩; exact ⟨s, by omega, h2, h3⟩
      · rintro ⟨s, h1, h2, h3⟩
        by_cases e : s = k
        · subst e; exact absurd h2 hk
        · exact ⟨s, by omega, h2, h3⟩
theorem solsK_len (ll : List (List Int)) (q : List Int) (k : Nat) : (solsK ll q k).length ≤ k := by
  induction k with
  | zero => simp [solsK]
  | succ k ih =>
    rw [solsK]
    split
    · have := insZ_len (zF ll q k) (solsK ll q k); omega
    · omega
def zsL (ll : List (List Int)) (q : List Int) (k : Nat) : List FrL := ((List.range k).filter (setP ll q feasT)).map (zF ll q)
theorem zsL_good {ll : List (List Int)} {q : List Int} (hp : isProb ll q = true) {k : Nat} : ∀ x ∈ zsL ll q k, GoodF ll.length x := fun x hx => by
  simp only [zsL, List.mem_map, List.mem_filter, List.mem_range] at hx
  obtain ⟨s, ⟨_, hs⟩, rfl⟩ := hx
  exact zF_good hp (setP_d hs)
theorem sorted_sols {ll : List (List Int)} {q : List Int} (hp : isProb ll q = true) {k : Nat} {L : List FrL} (hm : ∀ x, x ∈ L ↔ x ∈ zsL ll q k) (hs : ∀ a b, a < b → b < L.length → ¬ ltL (L.getD b []) (L.getD a [])) : ddL L = solsK ll q k := by
  have hg : ∀ x ∈ L, GoodF ll.length x := fun x hx => zsL_good hp x ((hm x).1 hx)
  obtain ⟨d1, d2⟩ := ddL_facts hg hs
  obtain ⟨s1, s2, s3⟩ := solsK_facts hp k
  refine sorted_uniq (N := ll.length) (fun x hx => hg x ((d2 x).1 hx)) s1 d1 s2 fun x => ?_
  rw [d2, hm, s3]
  simp only [zsL, List.mem_map, List.mem_filter, List.mem_range]
  exact ⟨fun ⟨s, ⟨h1, h2⟩, h3⟩ => ⟨s, h1, h2, h3.symm⟩, fun ⟨s, h1, h2, h3⟩ => ⟨s, ⟨h1, h2⟩, h3.symm⟩⟩
def c_slices_CompareFunc_Simpl_Frac_Simpl_Frac_impl_Frac_impl_Frac : F := ⟨(.seq (.reg false [⟨some 6, .mv (.c (.int .i64 0)), none⟩]) (.seq (.seq (.reg false [⟨some 11, .mv (.t 0), none⟩, ⟨some 12, .len (.t 11), none⟩, ⟨some 13, .mv (.c (.int .i64 0)), none⟩]) (.block 0 (.loop (.seq (.reg false [⟨some 14, .bin .lss (.t 13) (.t 12), none⟩]) (.seq (.cond (.t 14) .skip (.exit 0)) (.seq (.block 1 (.seq (.reg false [⟨some 15, .mv (.t 13), none⟩, ⟨some 16, .ia 2 (.t 11) (.t 13), none⟩, ⟨some 17, .ld 2 (.t 16), none⟩, ⟨some 8, .alloc 49 [(.int .i64 0), (.int .i64 0)], none⟩, ⟨some 7, .mv (.t 15), none⟩, ⟨none, .st 2 (.t 8) (.t 17), none⟩]) (.seq (.seq (.reg false [⟨some 18, .mv (.t 7), none⟩, ⟨some 19, .mv (.t 1), none⟩, ⟨some 20, .len (.t 19), none⟩, ⟨some 21, .bin .geq (.t 18) (.t 20), none⟩]) (.cond (.t 21) (.seq (.reg false [⟨some 6, .mv (.c (.int .i64 1)), none⟩]) .ret) .skip)) (.seq (.reg false [⟨some 22, .mv (.t 1), none⟩, ⟨some 23, .mv (.t 7), none⟩, ⟨some 24, .ia 2 (.t 22) (.t 23), none⟩, ⟨some 25, .ld 2 (.t 24), none⟩, ⟨some 9, .alloc 49 [(.int .i64 0), (.int .i64 0)], none⟩, ⟨none, .st 2 (.t 9) (.t 25), none⟩]) (.seq (.reg false [⟨some 26, .mv (.t 2), none⟩, ⟨some 27, .ld 2 (.t 8), none⟩, ⟨some 28, .ld 2 (.t 9), none⟩, ⟨some 29, .call (.t 26) [(.t 27), (.t 28)], none⟩, ⟨some 10, .mv (.t 29), none⟩]) (.seq (.reg false [⟨some 30, .mv (.t 10), none⟩, ⟨some 31, .bin .neq (.t 30) (.c (.int .i64 0)), none⟩]) (.cond (.t 31) (.seq (.reg false [⟨some 32, .mv (.t 10), none⟩, ⟨some 6, .mv (.t 32), none⟩]) .ret) .skip))))))) (.reg false [⟨some 33, .bin .add (.t 13) (.c (.int .i64 1)), none⟩, ⟨some 13, .mv (.t 33), none⟩]))))))) (.seq (.seq (.reg false [⟨some 34, .mv (.t 0), none⟩, ⟨some 35, .len (.t 34), none⟩, ⟨some 36, .mv (.t 1), none⟩, ⟨some 37, .len (.t 36), none⟩, ⟨some 38, .bin .lss (.t 35) (.t 37), none⟩]) (.cond (.t 38) (.seq (.reg false [⟨some 6, .mv (.c (.int .i64 (-1))), none⟩]) .ret) .skip)) (.seq (.reg false [⟨some 6, .mv (.c (.int .i64 0)), none⟩]) .ret)))), 39, [(.t 6)]⟩
theorem k_slices_CompareFunc_Simpl_Frac_Simpl_Frac_impl_Frac_impl_Frac : compF Tryz.prog Tryz.f86 = some c_slices_CompareFunc_Simpl_Frac_Simpl_Frac_impl_Frac_impl_Frac := by kernel_rfl
def c_impl_compareLists : F := ⟨(.seq (.reg false [⟨some 4, .mv (.c (.int .i64 0)), none⟩]) (.seq (.reg false [⟨some 5, .mv (.t 0), none⟩, ⟨some 6, .mv (.t 1), none⟩, ⟨some 7, .call (.f 86) [(.t 5), (.t 6), (.f 75)], none⟩, ⟨some 4, .mv (.t 7), none⟩]) .ret)), 8, [(.t 4)]⟩
theorem k_impl_compareLists : compF Tryz.prog Tryz.f49 = some c_impl_compareLists := by kernel_rfl
def c_impl_SolutionsOf_1 : F := ⟨(.seq (.reg false [⟨some 4, .mv (.c (.bool false)), none⟩]) (.seq (.reg false [⟨some 5, .mv (.t 0), none⟩, ⟨some 6, .mv (.t 1), none⟩, ⟨some 7, .call (.f 49) [(.t 5), (.t 6)], none⟩, ⟨some 8, .bin .eql (.t 7) (.c (.int .i64 0)), none⟩, ⟨some 4, .mv (.t 8), none⟩]) .ret)), 9, [(.t 4)]⟩
theorem k_impl_SolutionsOf_1 : compF Tryz.prog Tryz.f51 = some c_impl_SolutionsOf_1 := by kernel_rfl
def c_spec_l02Before : F := ⟨(.seq (.reg false [⟨some 4, .mv (.c (.bool false)), none⟩]) (.seq (.seq (.reg false [⟨some 5, .mv (.c (.int .i64 0)), none⟩]) (.block 0 (.loop (.seq (.seq (.reg false [⟨some 6, .mv (.t 5), none⟩, ⟨some 7, .mv (.t 0), none⟩, ⟨some 8, .len (.t 7), none⟩, ⟨some 9, .bin .lss (.t 6) (.t 8), none⟩]) (.cond (.t 9) .skip (.exit 0))) (.seq (.block 1 (.seq (.reg true [⟨some 12, .mv (.t 0), none⟩, ⟨some 13, .mv (.t 5), none⟩, ⟨some 14, .ia 2 (.t 12) (.t 13), none⟩, ⟨some 15, .ld 2 (.t 14), none⟩, ⟨some 16, .mv (.t 1), none⟩, ⟨some 17, .mv (.t 5), none⟩, ⟨some 18, .ia 2 (.t 16) (.t 17), none⟩, ⟨some 19, .ld 2 (.t 18), none⟩, ⟨some 20, .feq true (.t 15) (.t 19), none⟩]) (.cond (.t 20) (.seq (.reg true [⟨some 21, .mv (.t 0), none⟩, ⟨some 22, .mv (.t 5), none⟩, ⟨some 23, .ia 2 (.t 21) (.t 22), none⟩, ⟨some 24, .ld 2 (.t 23), none⟩, ⟨some 25, .mv (.t 1), none⟩, ⟨some 26, .mv (.t 5), none⟩, ⟨some 27, .ia 2 (.t 25) (.t 26), none⟩, ⟨some 28, .ld 2 (.t 27), none⟩, ⟨some 29, .call (.f 32) [(.t 24), (.t 28)], none⟩, ⟨some 4, .mv (.t 29), none⟩]) .ret) .skip))) (.reg false [⟨some 10, .mv (.t 5), none⟩, ⟨some 11, .bin .add (.t 10) (.c (.int .i64 1)), none⟩, ⟨some 5, .mv (.t 11), none⟩])))))) (.seq (.reg false [⟨some 4, .mv (.c (.bool false)), none⟩]) .ret))), 30, [(.t 4)]⟩
theorem k_spec_l02Before : compF Tryz.prog Tryz.f73 = some c_spec_l02Before := by kernel_rfl
theorem cmpL_step {l m : FrL} {N k : Nat} (hl : l.length = N) (hm : m.length = N) (hk : k < N) :
    cmpL (l.drop k) (m.drop k) = if (l.getD k (0, 0)).1 * (m.getD k (0, 0)).2 - (m.getD k (0, 0)).1 * (l.getD k (0, 0)).2 = 0 then cmpL (l.drop (k + 1)) (m.drop (k + 1)) else ((l.getD k (0, 0)).1 * (m.getD k (0, 0)).2 - (m.getD k (0, 0)).1 * (l.getD k (0, 0)).2).sign := by
  rw [List.drop_eq_getElem_cons (show k < l.length by omega), List.drop_eq_getElem_cons (show k < m.length by omega)]
  have e1 : l.getD k (0, 0) = l[k] := by simp [List.getD, show k < l.length by omega]
  have e2 : m.getD k (0, 0) = m[k] := by simp [List.getD, show k < m.length by omega]
  rw [e1, e2]
  rfl
theorem GoodF.at {N k : Nat} {l : FrL} (h : GoodF N l) (hk : k < N) : fr1 (l.getD k (0, 0)) := h.2 _ (getD_mem (by rw [h.1]; exact hk))
section
variable {w w' : Bool} {lo hi lo' hi' : Nat} {h : AH} {v u : AV} {l m : FrL} {N : Nat}
theorem slices_CompareFunc (s : Fracs w lo hi h v l) (r : Fracs w' lo' hi' h u m) (hl : GoodF N l) (hm : GoodF N m) (hN : N ≤ 5) (n : Nat) (hn : hi ≤ n) (hn' : hi' ≤ n) :
    Q Tryz.prog 86 [v, u, .fn 75 []] h n (.int .i64 (cmpL l m)) := by
  refine q_intro Tryz.func86 k_slices_CompareFunc_Simpl_Frac_Simpl_Frac_impl_Frac_impl_Frac ?_
  have h1 := hl.1
  have h2 := hm.1
  simp (maxSteps := 2000000) -implicitDefEqProofs (disch := omega) only [c_slices_CompareFunc_Simpl_Frac_Simpl_Frac_impl_Frac_impl_Frac, s.ln, h1, xsW, xsC, xsD, xsE, fillA, reduceCtorEq, Nat.reduceAdd, Nat.reduceSub, Nat.reduceLeDiff, Nat.reduceMul, Int.reduceLT, Int.reduceLE, Int.reduceEq, Int.reduceNe, Int.reduceAdd, Int.reduceSub, Int.reduceMul, Int.reduceNeg, Int.reduceToNat]
  refine loop_for N 0 (fun k _ => [v, u, .fn 75 [], .any, .any, .any, .int .i64 0, .any, .any, .any, .any, v, .int .i64 N, .int .i64 k, .any, .any, .any, .any, .any, .any, .any, .any, .any, .any, .any, .any, .any, .any, .any, .any, .any, .any, .any, .any, .any, .any, .any, .any, .any]) (fun _ (hp : AH) => hp)
    (fun k hp _ => cmpL l m = cmpL (l.drop k) (m.drop k) ∧ ∀ j, j < n → hp j = h j) h (Nat.zero_le _) ⟨by simp, fun _ _ => rfl⟩ (by simp [LeL, Le1]) (fun _ _ h => h) ?_
  rintro k hp m1 - hk hm1 ⟨he, hold⟩
  have sk := s.keep (h' := hp) (fun i _ hi9 => by simp (disch := omega) only [upd_other, hold])
  have rk := r.keep (h' := hp) (fun i _ hi9 => by simp (disch := omega) only [upd_other, hold])
  simp (maxSteps := 2000000) -implicitDefEqProofs (disch := omega) only [xsW, xsC, xsD, xsE, fillA, reduceCtorEq, Nat.reduceAdd, Nat.reduceSub, Nat.reduceLeDiff, Nat.reduceMul, Int.reduceLT, Int.reduceLE, Int.reduceEq, Int.reduceNe, Int.reduceAdd, Int.reduceSub, Int.reduceMul, Int.reduceNeg, Int.reduceToNat]
  (refine cd_dec (fun c1 => ?_) (fun c1 => ?_) <;> simp (maxSteps := 2000000) -implicitDefEqProofs (disch := omega) only [xsW, xsC, xsD, xsE, fillA, reduceCtorEq, Nat.reduceAdd, Nat.reduceSub, Nat.reduceLeDiff, Nat.reduceMul, Int.reduceLT, Int.reduceLE, Int.reduceEq, Int.reduceNe, Int.reduceAdd, Int.reduceSub, Int.reduceMul, Int.reduceNeg, Int.reduceToNat,  c1])
  · have hk2 : k < N := by omega
    have b1 := Fracs.below sk (fun e => by rw [e] at h1; simp at h1; omega)
    have b2 := Fracs.below rk (fun e => by rw [e] at h2; simp at h2; omega)
    have g1 := hl.at hk2
    have g2 := hm.at hk2
    rw [cmpL_step h1 h2 hk2] at he
    simp (maxSteps := 2000000) -implicitDefEqProofs (disch := omega) only [xsW, xsC, xsD, xsE, fillA, reduceCtorEq, Nat.reduceAdd, Nat.reduceSub, Nat.reduceLeDiff, Nat.reduceMul, Int.reduceLT, Int.reduceLE, Int.reduceEq, Int.reduceNe, Int.reduceAdd, Int.reduceSub, Int.reduceMul, Int.reduceNeg, Int.reduceToNat,  sk.ia, sk.ld, rk.ia, rk.ld, rk.ln, h1, h2, frA]
    refine q_use (impl_compare _ _ _ _ g1 g2 _ _) fun n2 hn2 => ?_
    generalize (l.getD k (0, 0)).1 * (m.getD k (0, 0)).2 - (m.getD k (0, 0)).1 * (l.getD k (0, 0)).2 = D at he ⊢
    by_cases e0 : D = 0
    · subst e0
      rw [if_pos rfl] at he
      have hs : Int.sign 0 = 0 := rfl
      simp (maxSteps := 2000000) -implicitDefEqProofs (disch := omega) only [xsW, xsC, xsD, xsE, fillA, reduceCtorEq, Nat.reduceAdd, Nat.reduceSub, Nat.reduceLeDiff, Nat.reduceMul, Int.reduceLT, Int.reduceLE, Int.reduceEq, Int.reduceNe, Int.reduceAdd, Int.reduceSub, Int.reduceMul, Int.reduceNeg, Int.reduceToNat,  hs]
      exact ⟨_, ⟨he, fun j hj => by rw [upd_other (by omega), upd_other (by omega), hold j hj]⟩, by omega, by omega, (by simp [LeL, Le1]), fun _ _ h => h⟩
    · rw [if_neg e0] at he
      have hs : D.sign ≠ 0 := fun e => e0 (Int.sign_eq_zero_iff_zero.1 e)
      simp (maxSteps := 2000000) -implicitDefEqProofs (disch := omega) only [xsW, xsC, xsD, xsE, fillA, reduceCtorEq, Nat.reduceAdd, Nat.reduceSub, Nat.reduceLeDiff, Nat.reduceMul, Int.reduceLT, Int.reduceLE, Int.reduceEq, Int.reduceNe, Int.reduceAdd, Int.reduceSub, Int.reduceMul, Int.reduceNeg, Int.reduceToNat]
      rw [he]
  · have e : k = N := by omega
    subst e
    rw [List.drop_of_length_le (by omega)] at he
    simp (maxSteps := 2000000) -implicitDefEqProofs (disch := omega) only [xsW, xsC, xsD, xsE, fillA, reduceCtorEq, Nat.reduceAdd, Nat.reduceSub, Nat.reduceLeDiff, Nat.reduceMul, Int.reduceLT, Int.reduceLE, Int.reduceEq, Int.reduceNe, Int.reduceAdd, Int.reduceSub, Int.reduceMul, Int.reduceNeg, Int.reduceToNat,  sk.ln, rk.ln, h1, h2]
    rw [he]; rfl
theorem impl_compareLists (s : Fracs w lo hi h v l) (r : Fracs w' lo' hi' h u m) (hl : GoodF N l) (hm : GoodF N m) (hN : N ≤ 5) (n : Nat) (hn : hi ≤ n) (hn' : hi' ≤ n) :
    Q Tryz.prog 49 [v, u] h n (.int .i64 (cmpL l m)) := by
  refine q_intro Tryz.func49 k_impl_compareLists ?_
  simp (maxSteps := 2000000) -implicitDefEqProofs (disch := omega) only [c_impl_compareLists, xsW, xsC, xsD, xsE, fillA, reduceCtorEq, Nat.reduceAdd, Nat.reduceSub, Nat.reduceLeDiff, Nat.reduceMul, Int.reduceLT, Int.reduceLE, Int.reduceEq, Int.reduceNe, Int.reduceAdd, Int.reduceSub, Int.reduceMul, Int.reduceNeg, Int.reduceToNat]
  refine q_use (slices_CompareFunc s r hl hm hN _ hn hn') fun n2 hn2 => ?_
  simp (maxSteps := 2000000) -implicitDefEqProofs (disch := omega) only [xsW, xsC, xsD, xsE, fillA, reduceCtorEq, Nat.reduceAdd, Nat.reduceSub, Nat.reduceLeDiff, Nat.reduceMul, Int.reduceLT, Int.reduceLE, Int.reduceEq, Int.reduceNe, Int.reduceAdd, Int.reduceSub, Int.reduceMul, Int.reduceNeg, Int.reduceToNat]
theorem impl_SolutionsOf1 (s : Fracs w lo hi h v l) (r : Fracs w' lo' hi' h u m) (hl : GoodF N l) (hm : GoodF N m) (hN : N ≤ 5) (n : Nat) (hn : hi ≤ n) (hn' : hi' ≤ n) :
    Q Tryz.prog 51 [v, u] h n (.bool (decide (l = m))) := by
  refine q_intro Tryz.func51 k_impl_SolutionsOf_1 ?_
  simp (maxSteps := 2000000) -implicitDefEqProofs (disch := omega) only [c_impl_SolutionsOf_1, xsW, xsC, xsD, xsE, fillA, reduceCtorEq, Nat.reduceAdd, Nat.reduceSub, Nat.reduceLeDiff, Nat.reduceMul, Int.reduceLT, Int.reduceLE, Int.reduceEq, Int.reduceNe, Int.reduceAdd, Int.reduceSub, Int.reduceMul, Int.reduceNeg, Int.reduceToNat]
  refine q_use (impl_compareLists s r hl hm hN _ hn hn') fun n2 hn2 => ?_
  simp (maxSteps := 2000000) -implicitDefEqProofs (disch := omega) only [xsW, xsC, xsD, xsE, fillA, reduceCtorEq, Nat.reduceAdd, Nat.reduceSub, Nat.reduceLeDiff, Nat.reduceMul, Int.reduceLT, Int.reduceLE, Int.reduceEq, Int.reduceNe, Int.reduceAdd, Int.reduceSub, Int.reduceMul, Int.reduceNeg, Int.reduceToNat]
  exact decide_eq_decide.2 (cmpL_facts N hl hm).1
theorem spec_l02Before (s : Fracs w lo hi h v l) (r : Fracs w' lo' hi' h u m) (hl : GoodF N l) (hm : GoodF N m) (hN : N ≤ 5) (n : Nat) (hn : hi ≤ n) (hn' : hi' ≤ n) :
    Q Tryz.prog 73 [v, u] h n (.bool (decide (ltL l m))) := by
  refine q_intro Tryz.func73 k_spec_l02Before ?_
  have h1 := hl.1
  have h2 := hm.1
  simp (maxSteps := 2000000) -implicitDefEqProofs (disch := omega) only [c_spec_l02Before, xsW, xsC, xsD, xsE, fillA, reduceCtorEq, Nat.reduceAdd, Nat.reduceSub, Nat.reduceLeDiff, Nat.reduceMul, Int.reduceLT, Int.reduceLE, Int.reduceEq, Int.reduceNe, Int.reduceAdd, Int.reduceSub, Int.reduceMul, Int.reduceNeg, Int.reduceToNat]
  refine loop_for N 0 (fun k (_ : Unit) => [v, u, .any, .any, .bool false, .int .i64 k, .any, .any, .any, .any, .any, .any, .any, .any, .any, .any, .any, .any, .any, .any, .any, .any, .any, .any, .any, .any, .any, .any, .any, .any]) (fun _ _ => h)
    (fun k _ _ => cmpL l m = cmpL (l.drop k) (m.drop k)) () (Nat.zero_le _) (by simp) (by simp [LeL, Le1]) (fun _ _ h => h) ?_
  rintro k - m1 - hk hm1 he
  simp (maxSteps := 2000000) -implicitDefEqProofs (disch := omega) only [xsW, xsC, xsD, xsE, fillA, reduceCtorEq, Nat.reduceAdd, Nat.reduceSub, Nat.reduceLeDiff, Nat.reduceMul, Int.reduceLT, Int.reduceLE, Int.reduceEq, Int.reduceNe, Int.reduceAdd, Int.reduceSub, Int.reduceMul, Int.reduceNeg, Int.reduceToNat,  s.ln, h1]
  (refine cd_dec (fun c1 => ?_) (fun c1 => ?_) <;> simp (maxSteps := 2000000) -implicitDefEqProofs (disch := omega) only [xsW, xsC, xsD, xsE, fillA, reduceCtorEq, Nat.reduceAdd, Nat.reduceSub, Nat.reduceLeDiff, Nat.reduceMul, Int.reduceLT, Int.reduceLE, Int.reduceEq, Int.reduceNe, Int.reduceAdd, Int.reduceSub, Int.reduceMul, Int.reduceNeg, Int.reduceToNat,  c1])
  · have hk2 : k < N := by omega
    have g1 := hl.at hk2
    have g2 := hm.at hk2
    have hq := fr1_eq g1 g2
    rw [cmpL_step h1 h2 hk2] at he
    by_cases e0 : l.getD k (0, 0) = m.getD k (0, 0)
    · rw [if_pos (hq.2 e0)] at he
      have e1 : decide ((l.getD k (0, 0)).1 = (m.getD k (0, 0)).1) = true := decide_eq_true (by rw [e0])
      have e2 : decide ((l.getD k (0, 0)).2 = (m.getD k (0, 0)).2) = true := decide_eq_true (by rw [e0])
      simp (maxSteps := 2000000) -implicitDefEqProofs (disch := omega) only [xsW, xsC, xsD, xsE, fillA, reduceCtorEq, Nat.reduceAdd, Nat.reduceSub, Nat.reduceLeDiff, Nat.reduceMul, Int.reduceLT, Int.reduceLE, Int.reduceEq, Int.reduceNe, Int.reduceAdd, Int.reduceSub, Int.reduceMul, Int.reduceNeg, Int.reduceToNat,  s.ia, s.ld, r.ia, r.ld, h1, h2, frA, w_feq, fe_n, e1, e2, Bool.and_true, Bool.not_true]
      exact ⟨(), he, by omega, by omega, (by simp [LeL, Le1])⟩
    · rw [if_neg fun e => e0 (hq.1 e)] at he
      have e1 : (decide ((l.getD k (0, 0)).1 = (m.getD k (0, 0)).1) && decide ((l.getD k (0, 0)).2 = (m.getD k (0, 0)).2)) = false := by
        rw [Bool.and_eq_false_iff, decide_eq_false_iff_not, decide_eq_false_iff_not]
        by_cases e3 : (l.getD k (0, 0)).1 = (m.getD k (0, 0)).1
        · exact .inr fun e4 => e0 (Prod.ext e3 e4)
        · exact .inl e3
      simp (maxSteps := 2000000) -implicitDefEqProofs (disch := omega) only [xsW, xsC, xsD, xsE, fillA, reduceCtorEq, Nat.reduceAdd, Nat.reduceSub, Nat.reduceLeDiff, Nat.reduceMul, Int.reduceLT, Int.reduceLE, Int.reduceEq, Int.reduceNe, Int.reduceAdd, Int.reduceSub, Int.reduceMul, Int.reduceNeg, Int.reduceToNat,  s.ia, s.ld, r.ia, r.ld, h1, h2, frA, w_feq, fe_n, e1, Bool.not_false]
      refine q_use (spec_l01Less _ _ _ _ g1 g2 _ _) fun n2 hn2 => ?_
      simp (maxSteps := 2000000) -implicitDefEqProofs (disch := omega) only [xsW, xsC, xsD, xsE, fillA, reduceCtorEq, Nat.reduceAdd, Nat.reduceSub, Nat.reduceLeDiff, Nat.reduceMul, Int.reduceLT, Int.reduceLE, Int.reduceEq, Int.reduceNe, Int.reduceAdd, Int.reduceSub, Int.reduceMul, Int.reduceNeg, Int.reduceToNat]
      refine decide_eq_decide.2 ?_
      unfold ltL
      rw [he, sign_neg_iff]
      omega
  · have e : k = N := by omega
    subst e
    rw [List.drop_of_length_le (by omega)] at he
    exact (decide_eq_false (by unfold ltL; rw [he]; simp [cmpL])).symm
end
def c_spec_l02All : F := ⟨(.seq (.reg false [⟨some 1, .box 30 (.t 0), none⟩, ⟨some 2, .mv (.c .nilsl), none⟩]) (.seq (.reg false [⟨some 8, .lit 27 1 0 [.nilsl] [], none⟩, ⟨some 3, .mv (.t 8), none⟩]) (.seq (.seq (.reg false [⟨some 4, .mv (.c (.int .i64 0)), none⟩]) (.block 0 (.loop (.seq (.seq (.reg false [⟨some 9, .mv (.t 4), none⟩, ⟨some 10, .fa 1 (.t 1), none⟩, ⟨some 11, .ld1 (.t 10), none⟩, ⟨some 12, .len (.t 11), none⟩, ⟨some 13, .cvi .u64 (.t 12), none⟩, ⟨some 14, .bin .shl (.c (.int .i64 1)) (.t 13), none⟩, ⟨some 15, .bin .lss (.t 9) (.t 14), none⟩]) (.cond (.t 15) .skip (.exit 0))) (.seq (.block 1 (.seq (.seq (.reg false [⟨some 18, .ld 2 (.t 1), none⟩, ⟨some 19, .mv (.t 4), none⟩, ⟨some 20, .call (.f 71) [(.t 18), (.t 19)], none⟩, ⟨some 21, .un .not (.t 20), none⟩]) (.cond (.t 21) (.exit 1) .skip)) (.seq (.reg false [⟨some 22, .ld 2 (.t 1), none⟩, ⟨some 23, .mv (.t 4), none⟩, ⟨some 24, .call (.f 72) [(.t 22), (.t 23)], none⟩, ⟨some 25, .mv (.t 3), none⟩, ⟨some 26, .len (.t 25), none⟩, ⟨some 5, .mv (.t 24), none⟩, ⟨some 6, .mv (.t 26), none⟩]) (.seq (.block 2 (.loop (.seq (.seq (.reg false [⟨some 27, .mv (.t 6), none⟩, ⟨some 28, .bin .gtr (.t 27) (.c (.int .i64 0)), none⟩, ⟨some 29, .mv (.t 28), none⟩, ⟨some 30, .mv (.t 5), some (29, true)⟩, ⟨some 31, .mv (.t 3), some (29, true)⟩, ⟨some 32, .mv (.t 6), some (29, true)⟩, ⟨some 33, .bin .sub (.t 32) (.c (.int .i64 1)), some (29, true)⟩, ⟨some 34, .ia 1 (.t 31) (.t 33), some (29, true)⟩, ⟨some 35, .ld1 (.t 34), some (29, true)⟩, ⟨some 36, .call (.f 73) [(.t 30), (.t 35)], some (29, true)⟩, ⟨some 37, .pick (.t 29) (.t 36) (.c (.bool false)), none⟩]) (.cond (.t 37) .skip (.exit 2))) (.block 3 (.reg false [⟨some 38, .mv (.t 6), none⟩, ⟨some 39, .bin .sub (.t 38) (.c (.int .i64 1)), none⟩, ⟨some 6, .mv (.t 39), none⟩]))))) (.seq (.seq (.reg false [⟨some 40, .mv (.t 6), none⟩, ⟨some 41, .bin .gtr (.t 40) (.c (.int .i64 0)), none⟩, ⟨some 42, .mv (.t 41), none⟩, ⟨some 43, .mv (.t 3), some (42, true)⟩, ⟨some 44, .mv (.t 6), some (42, true)⟩, ⟨some 45, .bin .sub (.t 44) (.c (.int .i64 1)), some (42, true)⟩, ⟨some 46, .ia 1 (.t 43) (.t 45), some (42, true)⟩, ⟨some 47, .ld1 (.t 46), some (42, true)⟩, ⟨some 48, .mv (.t 5), some (42, true)⟩, ⟨some 49, .call (.f 73) [(.t 47), (.t 48)], some (42, true)⟩, ⟨some 50, .un .not (.t 49), some (42, true)⟩, ⟨some 51, .pick (.t 42) (.t 50) (.c (.bool false)), none⟩]) (.cond (.t 51) (.exit 1) .skip)) (.seq (.reg false [⟨some 52, .mv (.t 5), none⟩, ⟨some 53, .lit 27 1 1 [.nilsl] [(0, (.t 52))], none⟩, ⟨some 54, .mv (.t 3), none⟩, ⟨some 55, .mv (.t 6), none⟩, ⟨some 56, .slc 1 (.t 54) (some (.t 55)) none none, none⟩, ⟨some 57, .app 27 1 24 [.nilsl] (.t 53) (.t 56), none⟩, ⟨some 7, .mv (.t 57), none⟩]) (.reg false [⟨some 58, .lit 27 1 0 [.nilsl] [], none⟩, ⟨some 59, .mv (.t 3), none⟩, ⟨some 60, .mv (.t 6), none⟩, ⟨some 61, .slc 1 (.t 59) none (some (.t 60)) none, none⟩, ⟨some 62, .app 27 1 24 [.nilsl] (.t 58) (.t 61), none⟩, ⟨some 63, .mv (.t 7), none⟩, ⟨some 64, .app 27 1 24 [.nilsl] (.t 62) (.t 63), none⟩, ⟨some 3, .mv (.t 64), none⟩]))))))) (.reg false [⟨some 16, .mv (.t 4), none⟩, ⟨some 17, .bin .add (.t 16) (.c (.int .i64 1)), none⟩, ⟨some 4, .mv (.t 17), none⟩])))))) (.seq (.reg false [⟨some 65, .mv (.t 3), none⟩, ⟨some 2, .mv (.t 65), none⟩]) .ret)))), 66, [(.t 2)]⟩
theorem k_spec_l02All : compF Tryz.prog Tryz.f31 = some c_spec_l02All := by kernel_rfl
theorem app_lit1 {i n lo n0 m op ty ty0 : Nat} {W : Nat → Prop} {h : AH} {x y : AV} {xs : List AV} {K : AV → AH → Nat → Prop} (hb : h i = some ⟨ty0, [y], true, op⟩) (hlo : lo ≤ i) (hi : i < n) (hx : Src h 1 x m xs) (hxl : xs.length = m) (h1 : xs.all AV.one = true) (hm : m ≤ 1048576)
    (k : ∀ v' h' n', n ≤ n' → Sl true lo n' h' 1 v' (y :: xs) → (∀ j, j < n → h' j = h j) → K v' h' n') : AppC n0 W ty 1 (.sl i 0 1 1) x h n K := by
  by_cases h0 : m = 0
  · subst h0
    have : xs = [] := List.eq_nil_of_length_eq_zero hxl
    subst this
    exact ⟨_, _, _, none', App.same hx (Nat.le_refl _), fun _ _ h => h.elim, k _ _ _ (Nat.le_refl _) (Sl.of_sl hb rfl (Nat.le_refl _) hlo hi) (fun _ _ => rfl)⟩
  · have hos : Src h 1 (.sl i 0 1 1) 1 [y] := ⟨rfl, _, hb, by simp, by simp [cutA]⟩
    exact ⟨_, _, _, none', App.grow hos hx h1 h0 (by omega) (by omega), fun _ _ h => h.elim,
      k _ _ _ (by omega) (Sl.of_so (upd_same _ _ _) (by simp; omega) (by omega) (by omega)) (fun j hj => upd_other (by omega))⟩
theorem Sl.ne0 {lo hi es : Nat} {h : AH} {v : AV} {cs : List AV} (s : Sl true lo hi h es v cs) : v ≠ .sl0 := by
  rintro rfl
  rcases s.shape with e | ⟨e, _⟩ | ⟨e, _⟩
  · cases e
  · cases e
  · simp [isSl] at e
def insJ (a len : Nat) : List Nat := List.range a ++ len :: (List.range (len - a)).map fun j => a + j
theorem insJ_nodup {a len : Nat} (h : a ≤ len) : (insJ a len).Nodup := by
  rw [insJ, List.nodup_append]
  refine ⟨List.nodup_range, List.nodup_cons.2 ⟨?_, ?_⟩, ?_⟩
  · simp only [List.mem_map, List.mem_range]; rintro ⟨j, hj, e⟩; omega
  · rw [List.nodup_iff_pairwise_ne, List.pairwise_map]
    exact List.Pairwise.imp (fun {x y} hxy => by omega) List.pairwise_lt_range
  · intro x hx y hy
    simp only [List.mem_range] at hx
    simp only [List.mem_cons, List.mem_map, List.mem_range] at hy
    rcases hy with rfl | ⟨j, hj, rfl⟩ <;> omega
theorem insJ_lt {a len j : Nat} (h : a ≤ len) (hj : j ∈ insJ a len) : j < len + 1 := by
  simp only [insJ, List.mem_append, List.mem_cons, List.mem_map, List.mem_range] at hj
  rcases hj with hj | rfl | ⟨k, hk, rfl⟩ <;> omega
theorem insJ_map {α : Type} (ws : List α) (x d : α) {a : Nat} (h : a ≤ ws.length) : ((insJ a ws.length).map fun j => (ws ++ [x]).getD j d) = ws.take a ++ x :: ws.drop a := by
  rw [insJ, List.map_append, List.map_cons, List.map_map]
  congr 1
  · refine List.ext_getElem (by simp; omega) fun k h1 h2 => ?_
    simp only [List.length_map, List.length_range] at h1
    simp [List.getD, List.getElem?_append_left (show k < ws.length by omega), show k < ws.length by omega]
  · rw [getD_snoc_eq rfl]
    congr 1
    refine List.ext_getElem (by simp) fun k h1 h2 => ?_
    simp only [List.length_map, List.length_range] at h1
    simp [List.getD, List.getElem?_append_left (show a + k < ws.length by omega), show a + k < ws.length by omega]
section
variable {w : Bool} {lo hi : Nat} {h : AH} {v u : AV} {vs : List AV} {ll : List (List Int)} {q : List Int}
theorem spec_l02All (s : Prob w lo hi h v u vs ll q) (hp : isProb ll q = true) (n : Nat) (hn : hi ≤ n) :
    FQ Tryz.prog 31 [.agg [v, u]] h n fun v' h' n' => ∃ vs', Fows true n n' h' v' vs' (solsK ll q (pw ll.length)) := by
  refine fq_intro Tryz.func31 k_spec_l02All ?_
  have o1 := one_any (Sl.any s.M.out)
  have o2 := one_any (Sl.any s.Q)
  obtain ⟨hm, hql, _⟩ := isProb_facts hp
  have hN := ((isMat_iff ll).1 hm).2.1
  have hpw := pw_le hN
  simp (maxSteps := 2000000) -implicitDefEqProofs (disch := omega) only [c_spec_l02All, o1, o2, xsW, xsC, xsD, xsE, fillA, reduceCtorEq, Nat.reduceAdd, Nat.reduceSub, Nat.reduceLeDiff, Nat.reduceMul, Int.reduceLT, Int.reduceLE, Int.reduceEq, Int.reduceNe, Int.reduceAdd, Int.reduceSub, Int.reduceMul, Int.reduceNeg, Int.reduceToNat]
  refine loop_for (pw ll.length) 0 (fun k p => [.agg [v, u], .ptr n 0, .nilsl, p.1, .int .i64 k, .any, .any, .any, .any, .any, .any, .any, .any, .any, .any, .any, .any, .any, .any, .any, .any, .any, .any, .any, .any, .any, .any, .any, .any, .any, .any, .any, .any, .any, .any, .any, .any, .any, .any, .any, .any, .any, .any, .any, .any, .any, .any, .any, .any, .any, .any, .any, .any, .any, .any, .any, .any, .any, .any, .any, .any, .any, .any, .any, .any, .any]) (fun _ (p : AV × List AV × AH) => p.2.2)
    (fun k p m => Fows true (n + 1) m p.2.2 p.1 p.2.1 (solsK ll q k) ∧ n + 1 ≤ m ∧ ∀ j, j < n + 1 → p.2.2 j = upd h n (some ⟨30, [v, u], true, 0⟩) j) (.sl (n + 1) 0 0 0, [], _) (Nat.zero_le _)
    ⟨⟨Sl.of_sl (cs := []) (upd_same _ _ _) rfl (Nat.le_refl _) (Nat.le_refl _) (by omega), FowsV.nil, fun _ k hk => absurd hk (Nat.not_lt_zero _)⟩, by omega, fun j hj => upd_other (by omega)⟩ (by simp [LeL, Le1]) (fun _ _ h => h) ?_
  rintro k ⟨out, ws, hp'⟩ m - hk hm1 ⟨g, hle, hold⟩
  simp only at g hold
  have hbox : hp' n = some ⟨30, [v, u], true, 0⟩ := by rw [hold n (by omega), upd_same]
  obtain ⟨sg1, sg2, sg3⟩ := solsK_facts hp k
  have slen' := solsK_len ll q k
  simp (maxSteps := 2000000) -implicitDefEqProofs (disch := omega) only [xsW, xsC, xsD, xsE, fillA, reduceCtorEq, Nat.reduceAdd, Nat.reduceSub, Nat.reduceLeDiff, Nat.reduceMul, Int.reduceLT, Int.reduceLE, Int.reduceEq, Int.reduceNe, Int.reduceAdd, Int.reduceSub, Int.reduceMul, Int.reduceNeg, Int.reduceToNat,  hbox, s.Q.ln, hql, shl1]
  (refine cd_dec (fun c1 => ?_) (fun c1 => ?_) <;> simp (maxSteps := 2000000) -implicitDefEqProofs (disch := omega) only [xsW, xsC, xsD, xsE, fillA, reduceCtorEq, Nat.reduceAdd, Nat.reduceSub, Nat.reduceLeDiff, Nat.reduceMul, Int.reduceLT, Int.reduceLE, Int.reduceEq, Int.reduceNe, Int.reduceAdd, Int.reduceSub, Int.reduceMul, Int.reduceNeg, Int.reduceToNat,  c1])
  · have hk2 : k < pw ll.length := by omega
    simp (maxSteps := 2000000) -implicitDefEqProofs (disch := omega) only [xsW, xsC, xsD, xsE, fillA, reduceCtorEq, Nat.reduceAdd, Nat.reduceSub, Nat.reduceLeDiff, Nat.reduceMul, Int.reduceLT, Int.reduceLE, Int.reduceEq, Int.reduceNe, Int.reduceAdd, Int.reduceSub, Int.reduceMul, Int.reduceNeg, Int.reduceToNat,  hbox]
    have s' := s.keep (h' := hp') (fun i _ hi9 => by simp (disch := omega) only [upd_other, hold])
    refine q_use (spec_l02Feasible s' hp k m (by omega)) fun n2 hn2 => ?_
    cases hf : setP ll q feasT k
    · simp (maxSteps := 2000000) -implicitDefEqProofs (disch := omega) only [xsW, xsC, xsD, xsE, fillA, reduceCtorEq, Nat.reduceAdd, Nat.reduceSub, Nat.reduceLeDiff, Nat.reduceMul, Int.reduceLT, Int.reduceLE, Int.reduceEq, Int.reduceNe, Int.reduceAdd, Int.reduceSub, Int.reduceMul, Int.reduceNeg, Int.reduceToNat]
      exact ⟨(out, ws, hp'), ⟨by rw [solsK, if_neg (by simp [hf])]; exact g.wide (Nat.le_refl _) hn2, by omega, hold⟩, by omega, by omega, (by simp [LeL, Le1]), fun _ _ h => h⟩
    · have hd := setP_d hf
      have hz := zF_good hp hd
      simp (maxSteps := 2000000) -implicitDefEqProofs (disch := omega) only [xsW, xsC, xsD, xsE, fillA, reduceCtorEq, Nat.reduceAdd, Nat.reduceSub, Nat.reduceLeDiff, Nat.reduceMul, Int.reduceLT, Int.reduceLE, Int.reduceEq, Int.reduceNe, Int.reduceAdd, Int.reduceSub, Int.reduceMul, Int.reduceNeg, Int.reduceToNat,  hbox]
      refine fq_use (spec_l02Solution s' hp (k : Int) hd (decide_eq_true (by omega)) n2 (by omega)) fun v1 h1 n3 hn3 hs1 hv1 => ?_
      rw [show onlyF (ptF ll q (k : Int)) (k : Int) = zF ll q k from rfl] at hv1
      have g1 := (g.keep (h' := h1) (fun i _ hi9 => by simp (disch := omega) only [upd_other, hs1])).wide (Nat.le_refl (n + 1)) (show m ≤ n2 by omega)
      have hbox1 : h1 n = some ⟨30, [v, u], true, 0⟩ := by rw [hs1 n (by omega), hbox]
      have hsolk : solsK ll q (k + 1) = insZ (zF ll q k) (solsK ll q k) := by rw [solsK, if_pos hf]
      generalize solsK ll q k = zs at g g1 sg1 sg2 slen' hsolk
      generalize zF ll q k = z at hz hv1 hsolk
      have hlen := g1.len
      simp (maxSteps := 2000000) -implicitDefEqProofs (disch := omega) only [xsW, xsC, xsD, xsE, fillA, reduceCtorEq, Nat.reduceAdd, Nat.reduceSub, Nat.reduceLeDiff, Nat.reduceMul, Int.reduceLT, Int.reduceLE, Int.reduceEq, Int.reduceNe, Int.reduceAdd, Int.reduceSub, Int.reduceMul, Int.reduceNeg, Int.reduceToNat,  g1.ln]
      have hin : ∀ j, j < zs.length → GoodF ll.length (zs.getD j []) := fun j hj => sg1 _ (getD_mem hj)
      have hone : ∀ y ∈ ws, y.one = true := fun y hy => by
        obtain ⟨j, hj, rfl⟩ := List.mem_iff_getElem.1 hy
        have := one_any (Sl.any (g1.row j (by omega)))
        simpa [List.getD, hj] using this
      refine loop_rule (α := { p : Nat × Nat // p.1 ≤ zs.length ∧ posZ z zs zs.length = posZ z zs p.1 ∧ n3 ≤ p.2 }) (fun p => [.agg [v, u], .ptr n 0, .nilsl, out, .int .i64 k, v1, .int .i64 p.1.1, .any, .any, .any, .any, .any, .any, .any, .any, .any, .any, .any, .any, .any, .any, .any, .any, .any, .any, .any, .any, .any, .any, .any, .any, .any, .any, .any, .any, .any, .any, .any, .any, .any, .any, .any, .any, .any, .any, .any, .any, .any, .any, .any, .any, .any, .any, .any, .any, .any, .any, .any, .any, .any, .any, .any, .any, .any, .any, .any]) (fun _ => h1) (fun p => p.1.2) (fun p => p.1.1)
        ⟨(zs.length, n3), Nat.le_refl _, rfl, Nat.le_refl _⟩ ⟨by simp [LeL, Le1], fun _ _ h => h, Nat.le_refl _⟩ ?_
      rintro ⟨⟨a, n4⟩, ha, hpos, hn4⟩
      simp only at ha hpos hn4 ⊢
      simp (maxSteps := 2000000) -implicitDefEqProofs (disch := omega) only [xsW, xsC, xsD, xsE, fillA, reduceCtorEq, Nat.reduceAdd, Nat.reduceSub, Nat.reduceLeDiff, Nat.reduceMul, Int.reduceLT, Int.reduceLE, Int.reduceEq, Int.reduceNe, Int.reduceAdd, Int.reduceSub, Int.reduceMul, Int.reduceNeg, Int.reduceToNat]
      refine gd_dec (fun c2 => ?_) (fun c2 => ?_)
      · have ta : (a : Int) - 1 = ((a - 1 : Nat) : Int) := by omega
        have ea : a = (a - 1) + 1 := by omega
        have hra := g1.row (a - 1) (by omega)
        simp (maxSteps := 2000000) -implicitDefEqProofs (disch := omega) only [xsW, xsC, xsD, xsE, fillA, reduceCtorEq, Nat.reduceAdd, Nat.reduceSub, Nat.reduceLeDiff, Nat.reduceMul, Int.reduceLT, Int.reduceLE, Int.reduceEq, Int.reduceNe, Int.reduceAdd, Int.reduceSub, Int.reduceMul, Int.reduceNeg, Int.reduceToNat,  c2, ta, g1.ia, g1.ld]
        refine q_use (spec_l02Before hv1 hra hz (hin _ (by omega)) hN _ (by omega) (by omega)) fun n6 hn6 => ?_
        by_cases hb : ltL z (zs.getD (a - 1) [])
        · rw [decide_eq_true hb]
          simp (maxSteps := 2000000) -implicitDefEqProofs (disch := omega) only [xsW, xsC, xsD, xsE, fillA, reduceCtorEq, Nat.reduceAdd, Nat.reduceSub, Nat.reduceLeDiff, Nat.reduceMul, Int.reduceLT, Int.reduceLE, Int.reduceEq, Int.reduceNe, Int.reduceAdd, Int.reduceSub, Int.reduceMul, Int.reduceNeg, Int.reduceToNat,  ta]
          exact ⟨⟨(a - 1, n6), by simp only; omega, by rw [hpos, ea, posZ, if_pos hb]; rfl, by simp only; omega⟩, by simp only; omega, by simp [LeL, Le1], fun _ _ h => h, Nat.le_refl _⟩
        · have hpa : posZ z zs zs.length = a := by rw [hpos, ea, posZ, if_neg hb]
          rw [decide_eq_false hb]
          simp (maxSteps := 2000000) -implicitDefEqProofs (disch := omega) only [xsW, xsC, xsD, xsE, fillA, reduceCtorEq, Nat.reduceAdd, Nat.reduceSub, Nat.reduceLeDiff, Nat.reduceMul, Int.reduceLT, Int.reduceLE, Int.reduceEq, Int.reduceNe, Int.reduceAdd, Int.reduceSub, Int.reduceMul, Int.reduceNeg, Int.reduceToNat,  c2, ta, g1.ia, g1.ld]
          refine q_use (spec_l02Before hra hv1 (hin _ (by omega)) hz hN _ (by omega) (by omega)) fun nA hn7 => ?_
          by_cases hb2 : ltL (zs.getD (a - 1) []) z
          · rw [decide_eq_true hb2]
            have hins : insZ z zs = zs.take a ++ z :: zs.drop a := by unfold insZ; rw [hpa, if_neg fun h => h.2 hb2]
            simp (maxSteps := 2000000) -implicitDefEqProofs (disch := omega) only [xsW, xsC, xsD, xsE, fillA, reduceCtorEq, Nat.reduceAdd, Nat.reduceSub, Nat.reduceLeDiff, Nat.reduceMul, Int.reduceLT, Int.reduceLE, Int.reduceEq, Int.reduceNe, Int.reduceAdd, Int.reduceSub, Int.reduceMul, Int.reduceNeg, Int.reduceToNat]
            have x1 := one_any (Sl.any hv1)
            have x2 := sto_any (Sl.any hv1)
            have x3 := cel_any (Sl.any hv1)
            simp (maxSteps := 2000000) -implicitDefEqProofs (disch := omega) only [xsW, xsC, xsD, xsE, fillA, reduceCtorEq, Nat.reduceAdd, Nat.reduceSub, Nat.reduceLeDiff, Nat.reduceMul, Int.reduceLT, Int.reduceLE, Int.reduceEq, Int.reduceNe, Int.reduceAdd, Int.reduceSub, Int.reduceMul, Int.reduceNeg, Int.reduceToNat,  x1, x2, x3]
            have ga := g1.out.keep (h' := upd h1 nA (some ⟨27, [v1], true, 0⟩)) (fun i _ hi9 => by simp (disch := omega) only [upd_other])
            refine Sl.slo ga (Sl.ne0 ga) (by omega) (by rw [g1.slen]; omega) fun v2 hv2 _ _ => ?_
            rw [Nat.mul_one, Int.toNat_natCast] at hv2
            simp (maxSteps := 2000000) -implicitDefEqProofs (disch := omega) only [xsW, xsC, xsD, xsE, fillA, reduceCtorEq, Nat.reduceAdd, Nat.reduceSub, Nat.reduceLeDiff, Nat.reduceMul, Int.reduceLT, Int.reduceLE, Int.reduceEq, Int.reduceNe, Int.reduceAdd, Int.reduceSub, Int.reduceMul, Int.reduceNeg, Int.reduceToNat]
            refine app_lit1 (lo := nA) (upd_same _ _ _) (Nat.le_refl _) (by omega) (Sl.src hv2) (by have := Sl.len hv2; omega) (by rw [List.all_eq_true]; intro y hy; exact hone y (List.mem_of_mem_drop hy)) (by have := Sl.len hv2; rw [List.length_drop] at this; omega) fun v3 h3 n5 hn5 hv3 hs3 => ?_
            simp (maxSteps := 2000000) -implicitDefEqProofs (disch := omega) only [xsW, xsC, xsD, xsE, fillA, reduceCtorEq, Nat.reduceAdd, Nat.reduceSub, Nat.reduceLeDiff, Nat.reduceMul, Int.reduceLT, Int.reduceLE, Int.reduceEq, Int.reduceNe, Int.reduceAdd, Int.reduceSub, Int.reduceMul, Int.reduceNeg, Int.reduceToNat]
            have gb := g1.out.keep (h' := upd h3 n5 (some ⟨27, [], true, 0⟩)) (fun i _ hi9 => by simp (disch := omega) only [upd_other, hs3])
            refine Sl.shi gb (Sl.ne0 gb) (by omega) (by rw [g1.slen]; omega) fun v4 hv4 _ _ => ?_
            rw [Nat.mul_one, Int.toNat_natCast] at hv4
            simp (maxSteps := 2000000) -implicitDefEqProofs (disch := omega) only [xsW, xsC, xsD, xsE, fillA, reduceCtorEq, Nat.reduceAdd, Nat.reduceSub, Nat.reduceLeDiff, Nat.reduceMul, Int.reduceLT, Int.reduceLE, Int.reduceEq, Int.reduceNe, Int.reduceAdd, Int.reduceSub, Int.reduceMul, Int.reduceNeg, Int.reduceToNat]
            refine app_acc (lo := n5) (Acc.empty (upd_same _ _ _) rfl (Nat.le_refl _) (by omega)) (by omega) (by omega) (Sl.src hv4) (Sl.len hv4) (by rw [List.all_eq_true]; intro y hy; exact hone y (List.mem_of_mem_take hy)) (by have := Sl.len hv4; rw [List.length_take] at this; show 0 + slen v4 ≤ _; omega) fun v5 h5 n6 q1 q2 q3 q4 q5 q6 => ?_
            simp (maxSteps := 2000000) -implicitDefEqProofs (disch := omega) only [xsW, xsC, xsD, xsE, fillA, reduceCtorEq, Nat.reduceAdd, Nat.reduceSub, Nat.reduceLeDiff, Nat.reduceMul, Int.reduceLT, Int.reduceLE, Int.reduceEq, Int.reduceNe, Int.reduceAdd, Int.reduceSub, Int.reduceMul, Int.reduceNeg, Int.reduceToNat]
            refine app_acc (lo := n5) q3 (by omega) (by omega) (Sl.src (Sl.keep hv3 (fun i _ hi9 => by simp (disch := omega) only [upd_other, q5]))) (Sl.len hv3) (by rw [List.all_eq_true]; intro y hy; exact (List.mem_cons.1 hy).elim (fun e => by rw [e]; exact x1) fun hy => hone y (List.mem_of_mem_drop hy)) (by have e1 := q3.len; have e2 := Sl.len hv3; simp only [List.length_append, List.length_take, List.length_cons, List.length_drop, List.length_nil] at e1 e2; omega) fun v7 h7 n7 p1 p2 p3 p4 p5 p6 => ?_
            simp (maxSteps := 2000000) -implicitDefEqProofs (disch := omega) only [xsW, xsC, xsD, xsE, fillA, reduceCtorEq, Nat.reduceAdd, Nat.reduceSub, Nat.reduceLeDiff, Nat.reduceMul, Int.reduceLT, Int.reduceLE, Int.reduceEq, Int.reduceNe, Int.reduceAdd, Int.reduceSub, Int.reduceMul, Int.reduceNeg, Int.reduceToNat]
            have hfar : ∀ j, j < nA → h7 j = h1 j := fun j hj => by rw [p5 j (by omega), q5 j (by omega), upd_other (by omega), hs3 j (by omega), upd_other (by omega)]
            refine ⟨(v7, (ws.take a ++ v1 :: ws.drop a), h7), ⟨?_, by omega, fun j hj => (hfar j (by omega)).trans ((hs1 j (by omega)).trans (hold j hj))⟩, by omega, by omega, (by simp [LeL, Le1]), fun _ _ h => h⟩
            rw [hsolk, hins]
            have hsn := (g1.rows.snoc (fun _ _ _ => rfl) hv1 (by omega) (by omega : n2 ≤ n3)).wide (Nat.le_refl (n + 1)) (show n3 ≤ nA by omega)
            have hpk := hsn.pick (insJ_nodup (a := a) (len := zs.length) (by omega)) (fun j hj => by have := insJ_lt (by omega) hj; simpa using this)
            rw [insJ_map zs z [] (by omega), ← hlen, insJ_map ws v1 .any (by omega)] at hpk
            have hown := p3.own
            refine ⟨?_, (hpk.keep (h' := h7) (fun j _ hj => hfar j hj)).wide (Nat.le_refl _) (by omega), fun _ j hj hsl => ?_⟩
            · have e : ([] ++ ws.take a) ++ (v1 :: ws.drop a) = ws.take a ++ v1 :: ws.drop a := by simp
              rw [e] at p3
              exact p3.sl.wide (by omega) (Nat.le_refl _)
            · have hj2 := Sl.own (hpk.row j hj) hsl
              have hj3 := Sl.isReal p3.sl (fun e0 => by
                have := p3.len
                rw [e0] at this
                simp [slen] at this)
              have := hown hj3
              show bid ((ws.take a ++ v1 :: ws.drop a).getD j .any) ≠ bid v7
              omega
          · rw [decide_eq_false hb2]
            have hins : insZ z zs = zs := by unfold insZ; rw [hpa, if_pos ⟨by omega, hb2⟩]
            simp (maxSteps := 2000000) -implicitDefEqProofs (disch := omega) only [xsW, xsC, xsD, xsE, fillA, reduceCtorEq, Nat.reduceAdd, Nat.reduceSub, Nat.reduceLeDiff, Nat.reduceMul, Int.reduceLT, Int.reduceLE, Int.reduceEq, Int.reduceNe, Int.reduceAdd, Int.reduceSub, Int.reduceMul, Int.reduceNeg, Int.reduceToNat]
            exact ⟨(out, ws, h1), ⟨by rw [hsolk, hins]; exact g1.wide (Nat.le_refl _) (by omega), by omega, fun j hj => (hs1 j (by omega)).trans (hold j hj)⟩, by omega, by omega, (by simp [LeL, Le1]), fun _ _ h => h⟩
      · have e0 : a = 0 := by omega
        have hpa : posZ z zs zs.length = a := by rw [hpos, e0]; rfl
        have hins : insZ z zs = zs.take a ++ z :: zs.drop a := by unfold insZ; rw [hpa, if_neg fun h => by omega]
        obtain ⟨nA, rfl⟩ : ∃ nA, nA = n4 := ⟨_, rfl⟩
        simp (maxSteps := 2000000) -implicitDefEqProofs (disch := omega) only [xsW, xsC, xsD, xsE, fillA, reduceCtorEq, Nat.reduceAdd, Nat.reduceSub, Nat.reduceLeDiff, Nat.reduceMul, Int.reduceLT, Int.reduceLE, Int.reduceEq, Int.reduceNe, Int.reduceAdd, Int.reduceSub, Int.reduceMul, Int.reduceNeg, Int.reduceToNat,  c2]
        have x1 := one_any (Sl.any hv1)
        have x2 := sto_any (Sl.any hv1)
        have x3 := cel_any (Sl.any hv1)
        simp (maxSteps := 2000000) -implicitDefEqProofs (disch := omega) only [xsW, xsC, xsD, xsE, fillA, reduceCtorEq, Nat.reduceAdd, Nat.reduceSub, Nat.reduceLeDiff, Nat.reduceMul, Int.reduceLT, Int.reduceLE, Int.reduceEq, Int.reduceNe, Int.reduceAdd, Int.reduceSub, Int.reduceMul, Int.reduceNeg, Int.reduceToNat,  x1, x2, x3]
        have ga := g1.out.keep (h' := upd h1 nA (some ⟨27, [v1], true, 0⟩)) (fun i _ hi9 => by simp (disch := omega) only [upd_other])
        refine Sl.slo ga (Sl.ne0 ga) (by omega) (by rw [g1.slen]; omega) fun v2 hv2 _ _ => ?_
        rw [Nat.mul_one, Int.toNat_natCast] at hv2
        simp (maxSteps := 2000000) -implicitDefEqProofs (disch := omega) only [xsW, xsC, xsD, xsE, fillA, reduceCtorEq, Nat.reduceAdd, Nat.reduceSub, Nat.reduceLeDiff, Nat.reduceMul, Int.reduceLT, Int.reduceLE, Int.reduceEq, Int.reduceNe, Int.reduceAdd, Int.reduceSub, Int.reduceMul, Int.reduceNeg, Int.reduceToNat]
        refine app_lit1 (lo := nA) (upd_same _ _ _) (Nat.le_refl _) (by omega) (Sl.src hv2) (by have := Sl.len hv2; omega) (by rw [List.all_eq_true]; intro y hy; exact hone y (List.mem_of_mem_drop hy)) (by have := Sl.len hv2; rw [List.length_drop] at this; omega) fun v3 h3 n5 hn5 hv3 hs3 => ?_
        simp (maxSteps := 2000000) -implicitDefEqProofs (disch := omega) only [xsW, xsC, xsD, xsE, fillA, reduceCtorEq, Nat.reduceAdd, Nat.reduceSub, Nat.reduceLeDiff, Nat.reduceMul, Int.reduceLT, Int.reduceLE, Int.reduceEq, Int.reduceNe, Int.reduceAdd, Int.reduceSub, Int.reduceMul, Int.reduceNeg, Int.reduceToNat]
        have gb := g1.out.keep (h' := upd h3 n5 (some ⟨27, [], true, 0⟩)) (fun i _ hi9 => by simp (disch := omega) only [upd_other, hs3])
        refine Sl.shi gb (Sl.ne0 gb) (by omega) (by rw [g1.slen]; omega) fun v4 hv4 _ _ => ?_
        rw [Nat.mul_one, Int.toNat_natCast] at hv4
        simp (maxSteps := 2000000) -implicitDefEqProofs (disch := omega) only [xsW, xsC, xsD, xsE, fillA, reduceCtorEq, Nat.reduceAdd, Nat.reduceSub, Nat.reduceLeDiff, Nat.reduceMul, Int.reduceLT, Int.reduceLE, Int.reduceEq, Int.reduceNe, Int.reduceAdd, Int.reduceSub, Int.reduceMul, Int.reduceNeg, Int.reduceToNat]
        refine app_acc (lo := n5) (Acc.empty (upd_same _ _ _) rfl (Nat.le_refl _) (by omega)) (by omega) (by omega) (Sl.src hv4) (Sl.len hv4) (by rw [List.all_eq_true]; intro y hy; exact hone y (List.mem_of_mem_take hy)) (by have := Sl.len hv4; rw [List.length_take] at this; show 0 + slen v4 ≤ _; omega) fun v5 h5 n6 q1 q2 q3 q4 q5 q6 => ?_
        simp (maxSteps := 2000000) -implicitDefEqProofs (disch := omega) only [xsW, xsC, xsD, xsE, fillA, reduceCtorEq, Nat.reduceAdd, Nat.reduceSub, Nat.reduceLeDiff, Nat.reduceMul, Int.reduceLT, Int.reduceLE, Int.reduceEq, Int.reduceNe, Int.reduceAdd, Int.reduceSub, Int.reduceMul, Int.reduceNeg, Int.reduceToNat]
        refine app_acc (lo := n5) q3 (by omega) (by omega) (Sl.src (Sl.keep hv3 (fun i _ hi9 => by simp (disch := omega) only [upd_other, q5]))) (Sl.len hv3) (by rw [List.all_eq_true]; intro y hy; exact (List.mem_cons.1 hy).elim (fun e => by rw [e]; exact x1) fun hy => hone y (List.mem_of_mem_drop hy)) (by have e1 := q3.len; have e2 := Sl.len hv3; simp only [List.length_append, List.length_take, List.length_cons, List.length_drop, List.length_nil] at e1 e2; omega) fun v7 h7 n7 p1 p2 p3 p4 p5 p6 => ?_
        simp (maxSteps := 2000000) -implicitDefEqProofs (disch := omega) only [xsW, xsC, xsD, xsE, fillA, reduceCtorEq, Nat.reduceAdd, Nat.reduceSub, Nat.reduceLeDiff, Nat.reduceMul, Int.reduceLT, Int.reduceLE, Int.reduceEq, Int.reduceNe, Int.reduceAdd, Int.reduceSub, Int.reduceMul, Int.reduceNeg, Int.reduceToNat]
        have hfar : ∀ j, j < nA → h7 j = h1 j := fun j hj => by rw [p5 j (by omega), q5 j (by omega), upd_other (by omega), hs3 j (by omega), upd_other (by omega)]
        refine ⟨(v7, (ws.take a ++ v1 :: ws.drop a), h7), ⟨?_, by omega, fun j hj => (hfar j (by omega)).trans ((hs1 j (by omega)).trans (hold j hj))⟩, by omega, by omega, (by simp [LeL, Le1]), fun _ _ h => h⟩
        rw [hsolk, hins]
        have hsn := (g1.rows.snoc (fun _ _ _ => rfl) hv1 (by omega) (by omega : n2 ≤ n3)).wide (Nat.le_refl (n + 1)) (show n3 ≤ nA by omega)
        have hpk := hsn.pick (insJ_nodup (a := a) (len := zs.length) (by omega)) (fun j hj => by have := insJ_lt (by omega) hj; simpa using this)
        rw [insJ_map zs z [] (by omega), ← hlen, insJ_map ws v1 .any (by omega)] at hpk
        have hown := p3.own
        refine ⟨?_, (hpk.keep (h' := h7) (fun j _ hj => hfar j hj)).wide (Nat.le_refl _) (by omega), fun _ j hj hsl => ?_⟩
        · have e : ([] ++ ws.take a) ++ (v1 :: ws.drop a) = ws.take a ++ v1 :: ws.drop a := by simp
          rw [e] at p3
          exact p3.sl.wide (by omega) (Nat.le_refl _)
        · have hj2 := Sl.own (hpk.row j hj) hsl
          have hj3 := Sl.isReal p3.sl (fun e0 => by
            have := p3.len
            rw [e0] at this
            simp [slen] at this)
          have := hown hj3
          show bid ((ws.take a ++ v1 :: ws.drop a).getD j .any) ≠ bid v7
          omega
  · have e : k = pw ll.length := by omega
    subst e
    intro _ h2 hh
    exact ⟨ws, (g.keep fun i a b => hh i (by omega) b).wide (by omega) (Nat.le_refl _)⟩
end
def c_slices_CompactFunc_SSimpl_Frac_Simpl_Frac : F := ⟨(.seq (.reg false [⟨some 4, .mv (.c .nilsl), none⟩]) (.seq (.seq (.reg false [⟨some 8, .mv (.t 0), none⟩, ⟨some 9, .len (.t 8), none⟩, ⟨some 10, .bin .lss (.t 9) (.c (.int .i64 2)), none⟩]) (.cond (.t 10) (.seq (.reg false [⟨some 11, .mv (.t 0), none⟩, ⟨some 4, .mv (.t 11), none⟩]) .ret) .skip)) (.seq (.seq (.reg false [⟨some 5, .mv (.c (.int .i64 1)), none⟩]) (.block 0 (.loop (.seq (.seq (.reg false [⟨some 12, .mv (.t 5), none⟩, ⟨some 13, .mv (.t 0), none⟩, ⟨some 14, .len (.t 13), none⟩, ⟨some 15, .bin .lss (.t 12) (.t 14), none⟩]) (.cond (.t 15) .skip (.exit 0))) (.seq (.block 1 (.seq (.reg true [⟨some 18, .mv (.t 1), none⟩, ⟨some 19, .mv (.t 0), none⟩, ⟨some 20, .mv (.t 5), none⟩, ⟨some 21, .ia 1 (.t 19) (.t 20), none⟩, ⟨some 22, .ld1 (.t 21), none⟩, ⟨some 23, .mv (.t 0), none⟩, ⟨some 24, .mv (.t 5), none⟩, ⟨some 25, .bin .sub (.t 24) (.c (.int .i64 1)), none⟩, ⟨some 26, .ia 1 (.t 23) (.t 25), none⟩, ⟨some 27, .ld1 (.t 26), none⟩, ⟨some 28, .callw (.t 18) [(.t 22), (.t 27)], none⟩]) (.cond (.t 28) (.seq (.reg false [⟨some 29, .mv (.t 0), none⟩, ⟨some 30, .mv (.t 5), none⟩, ⟨some 31, .slc 1 (.t 29) (some (.t 30)) none none, none⟩, ⟨some 6, .mv (.t 31), none⟩]) (.seq (.seq (.reg false [⟨some 7, .mv (.c (.int .i64 1)), none⟩]) (.block 2 (.loop (.seq (.seq (.reg false [⟨some 32, .mv (.t 7), none⟩, ⟨some 33, .mv (.t 6), none⟩, ⟨some 34, .len (.t 33), none⟩, ⟨some 35, .bin .lss (.t 32) (.t 34), none⟩]) (.cond (.t 35) .skip (.exit 2))) (.seq (.block 3 (.seq (.reg true [⟨some 38, .mv (.t 1), none⟩, ⟨some 39, .mv (.t 6), none⟩, ⟨some 40, .mv (.t 7), none⟩, ⟨some 41, .ia 1 (.t 39) (.t 40), none⟩, ⟨some 42, .ld1 (.t 41), none⟩, ⟨some 43, .mv (.t 6), none⟩, ⟨some 44, .mv (.t 7), none⟩, ⟨some 45, .bin .sub (.t 44) (.c (.int .i64 1)), none⟩, ⟨some 46, .ia 1 (.t 43) (.t 45), none⟩, ⟨some 47, .ld1 (.t 46), none⟩, ⟨some 48, .call (.t 38) [(.t 42), (.t 47)], none⟩, ⟨some 49, .un .not (.t 48), none⟩]) (.cond (.t 49) (.seq (.reg false [⟨some 50, .mv (.t 0), none⟩, ⟨some 51, .mv (.t 5), none⟩, ⟨some 52, .mv (.t 6), none⟩, ⟨some 53, .mv (.t 7), none⟩, ⟨some 54, .ia 1 (.t 52) (.t 53), none⟩, ⟨some 55, .ld1 (.t 54), none⟩, ⟨some 56, .ia 1 (.t 50) (.t 51), none⟩, ⟨none, .st 1 (.t 56) (.t 55), none⟩]) (.reg false [⟨some 57, .mv (.t 5), none⟩, ⟨some 58, .bin .add (.t 57) (.c (.int .i64 1)), none⟩, ⟨some 5, .mv (.t 58), none⟩])) .skip))) (.reg false [⟨some 36, .mv (.t 7), none⟩, ⟨some 37, .bin .add (.t 36) (.c (.int .i64 1)), none⟩, ⟨some 7, .mv (.t 37), none⟩])))))) (.seq (.reg false [⟨some 59, .mv (.t 0), none⟩, ⟨some 60, .mv (.t 5), none⟩, ⟨some 61, .slc 1 (.t 59) (some (.t 60)) none none, none⟩, ⟨none, .clr [.nilsl] (.t 61), none⟩]) (.seq (.reg false [⟨some 62, .mv (.t 0), none⟩, ⟨some 63, .mv (.t 5), none⟩, ⟨some 64, .slc 1 (.t 62) none (some (.t 63)) none, none⟩, ⟨some 4, .mv (.t 64), none⟩]) .ret)))) .skip))) (.reg false [⟨some 16, .mv (.t 5), none⟩, ⟨some 17, .bin .add (.t 16) (.c (.int .i64 1)), none⟩, ⟨some 5, .mv (.t 17), none⟩])))))) (.seq (.reg false [⟨some 65, .mv (.t 0), none⟩, ⟨some 4, .mv (.t 65), none⟩]) .ret)))), 66, [(.t 4)]⟩
theorem k_slices_CompactFunc_SSimpl_Frac_Simpl_Frac : compF Tryz.prog Tryz.f50 = some c_slices_CompactFunc_SSimpl_Frac_Simpl_Frac := by kernel_rfl
theorem qw_use {P : Program} {n0 n f : Nat} {W : Nat → Prop} {args : List AV} {h : AH} {v : AV} {K : AV → AH → Nat → Prop} (q : Q P f args h n v) (hk : ∀ n', n ≤ n' → K v h n') : CallW P n0 W f args h n K := by
  obtain ⟨n', c⟩ := q
  exact ⟨v, h, n', none', c, fun _ _ h => h.elim, fun _ _ => rfl, hk n' c.2.1⟩
theorem ddI_range {L : List FrL} {k : Nat} (h : ∀ j, 1 ≤ j → j < k → L.getD j [] ≠ L.getD (j - 1) []) : ddI L k = List.range k := by
  unfold ddI
  rw [List.filter_eq_self]
  intro j hj
  have hj : j < k := by simpa using hj
  by_cases e : j = 0
  · simp [e]
  · simp only [Bool.or_eq_true, decide_eq_true_eq]; exact .inr (h j (by omega) hj)
theorem map_range_getD (us : List AV) : ((List.range us.length).map fun j => us.getD j .any) = us := by
  refine getD_ext (d := .any) (by simp) fun j hj => ?_
  have hj : j < us.length := by simpa using hj
  simp [List.getD, hj]
section
variable {lo hi i n ty N : Nat} {h : AH} {us : List AV} {zs : List FrL}
theorem slices_CompactFunc (hb : h i = some ⟨ty, us, true, 1⟩) (hlo : lo ≤ i) (hhi : i < hi) (hn : hi ≤ n) (rows : FowsV true lo hi h us zs) (apart : ∀ j, j < zs.length → isSl (us.getD j .any) = true → bid (us.getD j .any) ≠ i) (good : ∀ z ∈ zs, GoodF N z) (hN : N ≤ 5) (hlen : us.length ≤ 1048576) :
    MQ Tryz.prog 50 [.so i us.length, .fn 51 []] h n lo hi fun x h' n' => x = .so i (ddI zs us.length).length ∧ (∀ j, j < n → j ≠ i → h' j = h j) ∧ Sl true lo hi h' 1 x ((ddI zs us.length).map fun j => us.getD j .any) := by
  refine mq_intro Tryz.func50 k_slices_CompactFunc_SSimpl_Frac_Simpl_Frac ?_
  have hzl := rows.len
  have hgood : ∀ j, j < zs.length → GoodF N (zs.getD j []) := fun j hj => good _ (getD_mem hj)
  have hone : ∀ y ∈ us, y.one = true := fun y hy => by
    obtain ⟨j, hj, rfl⟩ := List.mem_iff_getElem.1 hy
    have := one_any (Sl.any (rows.row j (by omega)))
    simpa [List.getD, hj] using this
  have hsl : Sl true lo hi h 1 (.so i us.length) us := Sl.of_so hb (by simp) hlo hhi
  have ld : ∀ (hp : AH) (cs : List AV) (j : Nat), hp i = some ⟨ty, cs, true, 1⟩ → j < cs.length → ∀ (K : AV → AH → Nat → Prop) (h' : AH) (n : Nat), L2 (hp i) j K h' n = K (cs.getD j .any) h' n := fun hp cs j e1 e2 K h' n => by
    rw [e1, l2, show cs[j]? = some (cs.getD j .any) by simp [List.getD, e2], l3]
  have ld0 := fun j hj => ld h us j hb hj
  simp (maxSteps := 2000000) -implicitDefEqProofs (disch := omega) only [c_slices_CompactFunc_SSimpl_Frac_Simpl_Frac, xsW, xsC, xsD, xsE, fillA, reduceCtorEq, Nat.reduceAdd, Nat.reduceSub, Nat.reduceLeDiff, Nat.reduceMul, Int.reduceLT, Int.reduceLE, Int.reduceEq, Int.reduceNe, Int.reduceAdd, Int.reduceSub, Int.reduceMul, Int.reduceNeg, Int.reduceToNat]
  (refine cd_dec (fun c1 => ?_) (fun c1 => ?_) <;> simp (maxSteps := 2000000) -implicitDefEqProofs (disch := omega) only [xsW, xsC, xsD, xsE, fillA, reduceCtorEq, Nat.reduceAdd, Nat.reduceSub, Nat.reduceLeDiff, Nat.reduceMul, Int.reduceLT, Int.reduceLE, Int.reduceEq, Int.reduceNe, Int.reduceAdd, Int.reduceSub, Int.reduceMul, Int.reduceNeg, Int.reduceToNat,  c1])
  · have e : ddI zs us.length = List.range us.length := ddI_range fun j h1 h2 => by omega
    rw [e, map_range_getD, List.length_range]
    exact ⟨rfl, hsl⟩
  · refine loop_for us.length 1 (fun k (_ : Unit) => [.so i us.length, .fn 51 [], .any, .any, .nilsl, .int .i64 k, .any, .any, .any, .any, .any, .any, .any, .any, .any, .any, .any, .any, .any, .any, .any, .any, .any, .any, .any, .any, .any, .any, .any, .any, .any, .any, .any, .any, .any, .any, .any, .any, .any, .any, .any, .any, .any, .any, .any, .any, .any, .any, .any, .any, .any, .any, .any, .any, .any, .any, .any, .any, .any, .any, .any, .any, .any, .any, .any, .any]) (fun _ _ => h)
      (fun k _ _ => ∀ j, 1 ≤ j → j < k → zs.getD j [] ≠ zs.getD (j - 1) []) () (by omega) (fun j h1 h2 => by omega) (by simp [LeL, Le1]) (fun _ _ h => h) ?_
    rintro k - n1 hk0 hk hn1 hne
    simp (maxSteps := 2000000) -implicitDefEqProofs (disch := omega) only [xsW, xsC, xsD, xsE, fillA, reduceCtorEq, Nat.reduceAdd, Nat.reduceSub, Nat.reduceLeDiff, Nat.reduceMul, Int.reduceLT, Int.reduceLE, Int.reduceEq, Int.reduceNe, Int.reduceAdd, Int.reduceSub, Int.reduceMul, Int.reduceNeg, Int.reduceToNat]
    (refine cd_dec (fun c2 => ?_) (fun c2 => ?_) <;> simp (maxSteps := 2000000) -implicitDefEqProofs (disch := omega) only [xsW, xsC, xsD, xsE, fillA, reduceCtorEq, Nat.reduceAdd, Nat.reduceSub, Nat.reduceLeDiff, Nat.reduceMul, Int.reduceLT, Int.reduceLE, Int.reduceEq, Int.reduceNe, Int.reduceAdd, Int.reduceSub, Int.reduceMul, Int.reduceNeg, Int.reduceToNat,  c2])
    · have hk2 : k < us.length := by omega
      have t1 : (k : Int) - 1 = ((k - 1 : Nat) : Int) := by omega
      simp (maxSteps := 2000000) -implicitDefEqProofs (disch := omega) only [xsW, xsC, xsD, xsE, fillA, reduceCtorEq, Nat.reduceAdd, Nat.reduceSub, Nat.reduceLeDiff, Nat.reduceMul, Int.reduceLT, Int.reduceLE, Int.reduceEq, Int.reduceNe, Int.reduceAdd, Int.reduceSub, Int.reduceMul, Int.reduceNeg, Int.reduceToNat,  t1, ld0]
      refine qw_use (impl_SolutionsOf1 (rows.row k (by omega)) (rows.row (k - 1) (by omega)) (hgood _ (by omega)) (hgood _ (by omega)) hN _ (by omega) (by omega)) fun n2 hn2 => ?_
      by_cases hq : zs.getD k [] = zs.getD (k - 1) []
      · rw [decide_eq_true hq]
        have tn : ((k : Int).toNat * 1) = k := by omega
        have tm : us.length - (k : Int).toNat = us.length - k := by omega
        simp (maxSteps := 2000000) -implicitDefEqProofs (disch := omega) only [xsW, xsC, xsD, xsE, fillA, reduceCtorEq, Nat.reduceAdd, Nat.reduceSub, Nat.reduceLeDiff, Nat.reduceMul, Int.reduceLT, Int.reduceLE, Int.reduceEq, Int.reduceNe, Int.reduceAdd, Int.reduceSub, Int.reduceMul, Int.reduceNeg, Int.reduceToNat]
        refine ⟨by omega, by omega, ?_⟩
        have hd0 : ddI zs k = List.range k := ddI_range hne
        have hd1 : ddI zs (k + 1) = List.range k := by rw [ddI_f (by omega) hq, hd0]
        refine loop_for (us.length - k) 1 (fun k2 p => [.so i us.length, .fn 51 [], .any, .any, .nilsl, .int .i64 (ddI zs (k + k2)).length, .sx i k (us.length - k), .int .i64 k2, .any, .any, .any, .any, .any, .any, .any, .any, .any, .any, .any, .any, .any, .any, .any, .any, .any, .any, .any, .any, .any, .any, .any, .any, .any, .any, .any, .any, .any, .any, .any, .any, .any, .any, .any, .any, .any, .any, .any, .any, .any, .any, .any, .any, .any, .any, .any, .any, .any, .any, .any, .any, .any, .any, .any, .any, .any, .any]) (fun _ (p : List AV) => upd h i (some ⟨ty, p, true, 1⟩))
          (fun k2 cs _ => cs.length = us.length ∧ (∀ j, k + k2 - 1 ≤ j → j < us.length → cs.getD j .any = us.getD j .any) ∧ cs.take (ddI zs (k + k2)).length = (ddI zs (k + k2)).map (fun j => us.getD j .any) ∧ (ddI zs (k + k2)).length + 1 ≤ k + k2) us (by omega)
          ⟨rfl, fun _ _ _ => rfl, by
            rw [hd1, List.length_range]
            refine getD_ext (d := .any) (by simp; omega) fun j hj => ?_
            have hj2 : j < k := by simp at hj; omega
            simp [List.getD, hj2, show j < us.length by omega], by rw [hd1, List.length_range]; omega⟩ (by rw [hd1]; simp [LeL, Le1]) (by
            intro j b hj
            by_cases e : j = i
            · subst e; rw [upd_same] at hj; rw [hb]; exact hj
            · rw [upd_other e] at hj; exact hj) ?_
        rintro k2 cs n3 hk20 hk2' hn3 ⟨g1, g2, g3, g4⟩
        have hbi : upd h i (some ⟨ty, cs, true, 1⟩) i = some ⟨ty, cs, true, 1⟩ := upd_same _ _ _
        have ld1 := fun j hj => ld (upd h i (some ⟨ty, cs, true, 1⟩)) cs j hbi hj
        have hdl := ddI_len zs (k + k2)
        simp (maxSteps := 2000000) -implicitDefEqProofs (disch := omega) only [xsW, xsC, xsD, xsE, fillA, reduceCtorEq, Nat.reduceAdd, Nat.reduceSub, Nat.reduceLeDiff, Nat.reduceMul, Int.reduceLT, Int.reduceLE, Int.reduceEq, Int.reduceNe, Int.reduceAdd, Int.reduceSub, Int.reduceMul, Int.reduceNeg, Int.reduceToNat]
        (refine cd_dec (fun c3 => ?_) (fun c3 => ?_) <;> simp (maxSteps := 2000000) -implicitDefEqProofs (disch := omega) only [xsW, xsC, xsD, xsE, fillA, reduceCtorEq, Nat.reduceAdd, Nat.reduceSub, Nat.reduceLeDiff, Nat.reduceMul, Int.reduceLT, Int.reduceLE, Int.reduceEq, Int.reduceNe, Int.reduceAdd, Int.reduceSub, Int.reduceMul, Int.reduceNeg, Int.reduceToNat,  c3])
        · have hp2 : k + k2 < us.length := by omega
          have t2 : (k2 : Int) - 1 = ((k2 - 1 : Nat) : Int) := by omega
          have e1 := g2 (k + k2) (by omega) hp2
          have e2 := g2 (k + (k2 - 1)) (by omega) (by omega)
          have r1 : Fracs true lo hi (upd h i (some ⟨ty, cs, true, 1⟩)) (us.getD (k + k2) .any) (zs.getD (k + k2) []) := Sl.keep1 (rows.row _ (by omega)) fun hs => upd_other (apart _ (by omega) hs)
          have r2 : Fracs true lo hi (upd h i (some ⟨ty, cs, true, 1⟩)) (us.getD (k + (k2 - 1)) .any) (zs.getD (k + (k2 - 1)) []) := Sl.keep1 (rows.row _ (by omega)) fun hs => upd_other (apart _ (by omega) hs)
          have f1 : cs[k + k2]? = some (us.getD (k + k2) .any) := by rw [← e1]; simp [List.getD, show k + k2 < cs.length by omega]
          have f2 : cs[k + (k2 - 1)]? = some (us.getD (k + (k2 - 1)) .any) := by rw [← e2]; simp [List.getD, show k + (k2 - 1) < cs.length by omega]
          refine ⟨by omega, ?_⟩
          simp (maxSteps := 2000000) -implicitDefEqProofs (disch := omega) only [xsW, xsC, xsD, xsE, fillA, reduceCtorEq, Nat.reduceAdd, Nat.reduceSub, Nat.reduceLeDiff, Nat.reduceMul, Int.reduceLT, Int.reduceLE, Int.reduceEq, Int.reduceNe, Int.reduceAdd, Int.reduceSub, Int.reduceMul, Int.reduceNeg, Int.reduceToNat,  t2, f1, f2]
          refine ⟨by omega, by omega, ?_⟩
          refine q_use (impl_SolutionsOf1 r1 r2 (hgood _ (by omega)) (hgood _ (by omega)) hN _ (by omega) (by omega)) fun n4 hn4 => ?_
          have t3 : k + (k2 - 1) = k + k2 - 1 := by omega
          rw [t3]
          by_cases hq2 : zs.getD (k + k2) [] = zs.getD (k + k2 - 1) []
          · rw [decide_eq_true hq2]
            have hd3 : ddI zs (k + (k2 + 1)) = ddI zs (k + k2) := ddI_f (n := k + k2) (by omega) hq2
            simp (maxSteps := 2000000) -implicitDefEqProofs (disch := omega) only [xsW, xsC, xsD, xsE, fillA, reduceCtorEq, Nat.reduceAdd, Nat.reduceSub, Nat.reduceLeDiff, Nat.reduceMul, Int.reduceLT, Int.reduceLE, Int.reduceEq, Int.reduceNe, Int.reduceAdd, Int.reduceSub, Int.reduceMul, Int.reduceNeg, Int.reduceToNat]
            refine ⟨cs, ⟨g1, fun j h1 h2 => g2 j (by omega) h2, by rw [hd3]; exact g3, by rw [hd3]; omega⟩, by omega, by omega, by rw [hd3]; simp [LeL, Le1], fun _ _ h => h⟩
          · rw [decide_eq_false hq2]
            have hd3 : ddI zs (k + (k2 + 1)) = ddI zs (k + k2) ++ [k + k2] := ddI_t (.inr hq2)
            have x1 : (us.getD (k + k2) .any).one = true := hone _ (getD_mem hp2)
            have xr := rows.row (k + k2) (by omega)
            have x2 := sto_any (Sl.any xr)
            have x3 := cel_any (Sl.any xr)
            have x4 := one_any (Sl.any xr)
            simp (maxSteps := 2000000) -implicitDefEqProofs (disch := omega) only [xsW, xsC, xsD, xsE, fillA, reduceCtorEq, Nat.reduceAdd, Nat.reduceSub, Nat.reduceLeDiff, Nat.reduceMul, Int.reduceLT, Int.reduceLE, Int.reduceEq, Int.reduceNe, Int.reduceAdd, Int.reduceSub, Int.reduceMul, Int.reduceNeg, Int.reduceToNat]
            refine ⟨by omega, ?_⟩
            simp (maxSteps := 2000000) -implicitDefEqProofs (disch := omega) only [xsW, xsC, xsD, xsE, fillA, reduceCtorEq, Nat.reduceAdd, Nat.reduceSub, Nat.reduceLeDiff, Nat.reduceMul, Int.reduceLT, Int.reduceLE, Int.reduceEq, Int.reduceNe, Int.reduceAdd, Int.reduceSub, Int.reduceMul, Int.reduceNeg, Int.reduceToNat,  t2, f1, f2, x2, x3, x4, List.length_cons, List.length_nil]
            refine ⟨by omega, by omega, by omega, .inr ⟨hlo, hhi⟩, cs.set (ddI zs (k + k2)).length (us.getD (k + k2) .any), ⟨by rw [List.length_set]; exact g1, fun j h1 h2 => ?_, ?_, ?_⟩, by omega, by omega, by rw [hd3]; simp [LeL, Le1], ?_⟩
            · rw [getD_set, if_neg (by omega)]
              exact g2 j (by omega) h2
            · rw [hd3, List.length_append, List.length_singleton, List.map_append, ← g3, take_succ_getD (d := .any) (by rw [List.length_set]; omega), getD_set, if_pos ⟨rfl, by omega⟩, List.take_set, List.set_eq_of_length_le (by rw [List.length_take]; omega)]
              rfl
            · rw [hd3, List.length_append, List.length_singleton]; omega
            · rw [putA_eq_set (by omega)]
              exact fun _ _ h => h
        · have hke : k + k2 = us.length := by omega
          rw [hke] at g3 g4
          rw [hke]
          have hdl2 := ddI_len zs us.length
          refine ⟨by omega, by omega, ?_⟩
          simp (maxSteps := 2000000) -implicitDefEqProofs (disch := omega) only [xsW, xsC, xsD, xsE, fillA, reduceCtorEq, Nat.reduceAdd, Nat.reduceSub, Nat.reduceLeDiff, Nat.reduceMul, Int.reduceLT, Int.reduceLE, Int.reduceEq, Int.reduceNe, Int.reduceAdd, Int.reduceSub, Int.reduceMul, Int.reduceNeg, Int.reduceToNat,  w_clr, cr_x]
          refine ⟨_, rfl, rfl, by omega, by simp only; omega, by omega, .inr ⟨hlo, hhi⟩, by omega, by omega, ?_⟩
          refine ⟨fun j _ hj => upd_other hj, by simp [slen], .inr (.inr ⟨rfl, hlo, hhi, _, upd_same _ _ _, fun _ => rfl, ?_, ?_⟩)⟩
          · rw [List.length_map, putA_length (by simp only [List.length_replicate]; omega)]
            show 0 + _ ≤ cs.length
            omega
          · rw [List.length_map, ← g3]
            simp only [cutA, putA, boff, List.drop_zero]
            rw [List.append_assoc, List.take_append_of_le_length (by rw [List.length_take]; omega), List.take_take, Nat.min_self]
      · rw [decide_eq_false hq]
        simp (maxSteps := 2000000) -implicitDefEqProofs (disch := omega) only [xsW, xsC, xsD, xsE, fillA, reduceCtorEq, Nat.reduceAdd, Nat.reduceSub, Nat.reduceLeDiff, Nat.reduceMul, Int.reduceLT, Int.reduceLE, Int.reduceEq, Int.reduceNe, Int.reduceAdd, Int.reduceSub, Int.reduceMul, Int.reduceNeg, Int.reduceToNat]
        exact ⟨(), fun j h1 h2 => (Nat.lt_succ_iff_lt_or_eq.1 h2).elim (hne j h1) (fun e => by rw [e]; exact hq), by omega, by omega, (by simp [LeL, Le1])⟩
    · have e : k = us.length := by omega
      subst e
      rw [ddI_range hne, map_range_getD, List.length_range]
      exact ⟨rfl, hsl⟩
end
end Go.Proofs.YtkpibnhddhdooadGreat.L
