/- Contracts of small functions on numbers and fractions. -/
import Derived.Test.YtkpibnhddhdooacDoorJ4
import Derived.Test.YtkpibnhddhdooacDoorProg
set_option linter.unusedSimpArgs false
set_option linter.unusedVariables false
namespace Go.Proofs.YtkpibnhddhdooacDoor.L
open Go
def c_impl_within : F := ⟨(.seq (.reg false [⟨some 6, .mv (.c (.bool false)), none⟩]) (.seq (.reg false [⟨some 7, .mv (.t 0), none⟩, ⟨some 8, .mv (.t 1), none⟩, ⟨some 9, .bin .geq (.t 7) (.t 8), none⟩, ⟨some 10, .mv (.t 9), none⟩, ⟨some 11, .mv (.t 0), some (10, true)⟩, ⟨some 12, .mv (.t 2), some (10, true)⟩, ⟨some 13, .bin .leq (.t 11) (.t 12), some (10, true)⟩, ⟨some 14, .pick (.t 10) (.t 13) (.c (.bool false)), none⟩, ⟨some 6, .mv (.t 14), none⟩]) .ret)), 15, [(.t 6)]⟩
theorem k_impl_within : compF Tryd.prog Tryd.f47 = some c_impl_within := by kernel_rfl
def c_impl_upTo : F := ⟨(.seq (.reg false [⟨some 4, .mv (.c (.bool false)), none⟩]) (.seq (.reg false [⟨some 5, .mv (.t 0), none⟩, ⟨some 6, .mv (.t 1), none⟩, ⟨some 7, .un .neg (.t 6), none⟩, ⟨some 8, .mv (.t 1), none⟩, ⟨some 9, .call (.f 47) [(.t 5), (.t 7), (.t 8)], none⟩, ⟨some 4, .mv (.t 9), none⟩]) .ret)), 10, [(.t 4)]⟩
theorem k_impl_upTo : compF Tryd.prog Tryd.f48 = some c_impl_upTo := by kernel_rfl
def c_impl_size : F := ⟨(.seq (.reg false [⟨some 2, .mv (.c (.int .i64 0)), none⟩]) (.seq (.reg false [⟨some 3, .mv (.t 0), none⟩, ⟨some 4, .mv (.t 0), none⟩, ⟨some 5, .un .neg (.t 4), none⟩, ⟨some 6, .mx [(.t 3), (.t 5)], none⟩, ⟨some 2, .mv (.t 6), none⟩]) .ret)), 7, [(.t 2)]⟩
theorem k_impl_size : compF Tryd.prog Tryd.f79 = some c_impl_size := by kernel_rfl
def c_impl_common : F := ⟨(.seq (.reg false [⟨some 4, .mv (.c (.int .i64 0)), none⟩]) (.seq (.reg false [⟨some 5, .mv (.t 0), none⟩, ⟨some 6, .call (.f 79) [(.t 5)], none⟩, ⟨some 7, .mv (.t 1), none⟩, ⟨some 8, .call (.f 79) [(.t 7)], none⟩, ⟨some 0, .mv (.t 6), none⟩, ⟨some 1, .mv (.t 8), none⟩]) (.seq (.block 0 (.loop (.seq (.seq (.reg false [⟨some 9, .mv (.t 1), none⟩, ⟨some 10, .bin .neq (.t 9) (.c (.int .i64 0)), none⟩]) (.cond (.t 10) .skip (.exit 0))) (.block 1 (.reg false [⟨some 11, .mv (.t 1), none⟩, ⟨some 12, .mv (.t 0), none⟩, ⟨some 13, .mv (.t 1), none⟩, ⟨some 14, .bin .rem (.t 12) (.t 13), none⟩, ⟨some 0, .mv (.t 11), none⟩, ⟨some 1, .mv (.t 14), none⟩]))))) (.seq (.reg false [⟨some 15, .mv (.t 0), none⟩, ⟨some 4, .mv (.t 15), none⟩]) .ret)))), 16, [(.t 4)]⟩
theorem k_impl_common : compF Tryd.prog Tryd.f49 = some c_impl_common := by kernel_rfl
def c_impl_sign : F := ⟨(.seq (.reg false [⟨some 2, .mv (.c (.int .i64 0)), none⟩]) (.seq (.block 0 (.seq (.reg false [⟨some 4, .mv (.t 0), none⟩, ⟨some 5, .bin .lss (.t 4) (.c (.int .i64 0)), none⟩, ⟨some 3, .mv (.t 5), none⟩]) (.cond (.t 3) (.seq (.reg false [⟨some 2, .mv (.c (.int .i64 (-1))), none⟩]) .ret) (.seq (.reg false [⟨some 7, .mv (.t 0), none⟩, ⟨some 8, .bin .gtr (.t 7) (.c (.int .i64 0)), none⟩, ⟨some 6, .mv (.t 8), none⟩]) (.cond (.t 6) (.seq (.reg false [⟨some 2, .mv (.c (.int .i64 1)), none⟩]) .ret) .skip))))) (.seq (.reg false [⟨some 2, .mv (.c (.int .i64 0)), none⟩]) .ret))), 9, [(.t 2)]⟩
theorem k_impl_sign : compF Tryd.prog Tryd.f80 = some c_impl_sign := by kernel_rfl
def c_spec_l01In : F := ⟨(.seq (.reg false [⟨some 6, .mv (.c (.bool false)), none⟩]) (.seq (.reg false [⟨some 7, .mv (.t 0), none⟩, ⟨some 8, .mv (.t 1), none⟩, ⟨some 9, .bin .geq (.t 7) (.t 8), none⟩, ⟨some 10, .mv (.t 9), none⟩, ⟨some 11, .mv (.t 0), some (10, true)⟩, ⟨some 12, .mv (.t 2), some (10, true)⟩, ⟨some 13, .bin .leq (.t 11) (.t 12), some (10, true)⟩, ⟨some 14, .pick (.t 10) (.t 13) (.c (.bool false)), none⟩, ⟨some 6, .mv (.t 14), none⟩]) .ret)), 15, [(.t 6)]⟩
theorem k_spec_l01In : compF Tryd.prog Tryd.f54 = some c_spec_l01In := by kernel_rfl
def c_spec_l01Gcd : F := ⟨(.seq (.reg false [⟨some 4, .mv (.c (.int .i64 0)), none⟩]) (.seq (.block 0 (.loop (.seq (.seq (.reg false [⟨some 6, .mv (.t 1), none⟩, ⟨some 7, .bin .neq (.t 6) (.c (.int .i64 0)), none⟩]) (.cond (.t 7) .skip (.exit 0))) (.block 1 (.seq (.reg false [⟨some 8, .mv (.t 0), none⟩, ⟨some 9, .mv (.t 1), none⟩, ⟨some 10, .bin .rem (.t 8) (.t 9), none⟩, ⟨some 5, .mv (.t 10), none⟩]) (.seq (.reg false [⟨some 11, .mv (.t 1), none⟩, ⟨some 0, .mv (.t 11), none⟩]) (.reg false [⟨some 12, .mv (.t 5), none⟩, ⟨some 1, .mv (.t 12), none⟩]))))))) (.seq (.reg false [⟨some 13, .mv (.t 0), none⟩, ⟨some 14, .mv (.t 0), none⟩, ⟨some 15, .un .neg (.t 14), none⟩, ⟨some 16, .mx [(.t 13), (.t 15)], none⟩, ⟨some 4, .mv (.t 16), none⟩]) .ret))), 17, [(.t 4)]⟩
theorem k_spec_l01Gcd : compF Tryd.prog Tryd.f76 = some c_spec_l01Gcd := by kernel_rfl

theorem impl_within (a b c : Int) (h : AH) (n : Nat) : Q Tryd.prog 47 [.int .i64 a, .int .i64 b, .int .i64 c] h n (.bool (decide (b ≤ a ∧ a ≤ c))) := by
  refine q_intro Tryd.func47 k_impl_within ?_
  simp (maxSteps := 2000000) -implicitDefEqProofs (disch := omega) only [c_impl_within, xsW, xsC, xsD, xsE, fillA, reduceCtorEq, Nat.reduceAdd, Nat.reduceSub, Nat.reduceLeDiff, Nat.reduceMul, Int.reduceLT, Int.reduceLE, Int.reduceEq, Int.reduceNe, Int.reduceAdd, Int.reduceSub, Int.reduceMul, Int.reduceNeg, Int.reduceToNat]
  (refine gd_dec (fun h1 => ?_) (fun h1 => ?_) <;> simp (maxSteps := 2000000) -implicitDefEqProofs (disch := omega) only [xsW, xsC, xsD, xsE, fillA, reduceCtorEq, Nat.reduceAdd, Nat.reduceSub, Nat.reduceLeDiff, Nat.reduceMul, Int.reduceLT, Int.reduceLE, Int.reduceEq, Int.reduceNe, Int.reduceAdd, Int.reduceSub, Int.reduceMul, Int.reduceNeg, Int.reduceToNat,  h1]) <;> (first | rfl | omega | (rw [Bool.eq_iff_iff]; simp only [decide_eq_true_eq, Bool.false_eq_true, iff_true, true_iff, false_iff, iff_false, ne_eq, isFr]; omega))
theorem spec_l01In (a b c : Int) (h : AH) (n : Nat) : Q Tryd.prog 54 [.int .i64 a, .int .i64 b, .int .i64 c] h n (.bool (decide (b ≤ a ∧ a ≤ c))) := by
  refine q_intro Tryd.func54 k_spec_l01In ?_
  simp (maxSteps := 2000000) -implicitDefEqProofs (disch := omega) only [c_spec_l01In, xsW, xsC, xsD, xsE, fillA, reduceCtorEq, Nat.reduceAdd, Nat.reduceSub, Nat.reduceLeDiff, Nat.reduceMul, Int.reduceLT, Int.reduceLE, Int.reduceEq, Int.reduceNe, Int.reduceAdd, Int.reduceSub, Int.reduceMul, Int.reduceNeg, Int.reduceToNat]
  (refine gd_dec (fun h1 => ?_) (fun h1 => ?_) <;> simp (maxSteps := 2000000) -implicitDefEqProofs (disch := omega) only [xsW, xsC, xsD, xsE, fillA, reduceCtorEq, Nat.reduceAdd, Nat.reduceSub, Nat.reduceLeDiff, Nat.reduceMul, Int.reduceLT, Int.reduceLE, Int.reduceEq, Int.reduceNe, Int.reduceAdd, Int.reduceSub, Int.reduceMul, Int.reduceNeg, Int.reduceToNat,  h1]) <;> (first | rfl | omega | (rw [Bool.eq_iff_iff]; simp only [decide_eq_true_eq, Bool.false_eq_true, iff_true, true_iff, false_iff, iff_false, ne_eq, isFr]; omega))
theorem impl_upTo (a c : Int) (hc : in64 (-c)) (h : AH) (n : Nat) : Q Tryd.prog 48 [.int .i64 a, .int .i64 c] h n (.bool (decide (-c ≤ a ∧ a ≤ c))) := by
  refine q_intro Tryd.func48 k_impl_upTo ?_
  simp (maxSteps := 2000000) -implicitDefEqProofs (disch := omega) only [c_impl_upTo, xsW, xsC, xsD, xsE, fillA, reduceCtorEq, Nat.reduceAdd, Nat.reduceSub, Nat.reduceLeDiff, Nat.reduceMul, Int.reduceLT, Int.reduceLE, Int.reduceEq, Int.reduceNe, Int.reduceAdd, Int.reduceSub, Int.reduceMul, Int.reduceNeg, Int.reduceToNat]
  refine ⟨hc, q_use (impl_within _ _ _ _ _) fun n' hn => ?_⟩
  simp (maxSteps := 2000000) -implicitDefEqProofs (disch := omega) only [xsW, xsC, xsD, xsE, fillA, reduceCtorEq, Nat.reduceAdd, Nat.reduceSub, Nat.reduceLeDiff, Nat.reduceMul, Int.reduceLT, Int.reduceLE, Int.reduceEq, Int.reduceNe, Int.reduceAdd, Int.reduceSub, Int.reduceMul, Int.reduceNeg, Int.reduceToNat]
theorem impl_size (a : Int) (ha' : in64 (-a)) (h : AH) (n : Nat) : Q Tryd.prog 79 [.int .i64 a] h n (.int .i64 a.natAbs) := by
  refine q_intro Tryd.func79 k_impl_size ?_
  simp (maxSteps := 2000000) -implicitDefEqProofs (disch := omega) only [c_impl_size, xsW, xsC, xsD, xsE, fillA, reduceCtorEq, Nat.reduceAdd, Nat.reduceSub, Nat.reduceLeDiff, Nat.reduceMul, Int.reduceLT, Int.reduceLE, Int.reduceEq, Int.reduceNe, Int.reduceAdd, Int.reduceSub, Int.reduceMul, Int.reduceNeg, Int.reduceToNat]
  exact ⟨ha', by omega⟩
theorem impl_sign (a : Int) (h : AH) (n : Nat) : Q Tryd.prog 80 [.int .i64 a] h n (.int .i64 a.sign) := by
  refine q_intro Tryd.func80 k_impl_sign ?_
  simp (maxSteps := 2000000) -implicitDefEqProofs (disch := omega) only [c_impl_sign, xsW, xsC, xsD, xsE, fillA, reduceCtorEq, Nat.reduceAdd, Nat.reduceSub, Nat.reduceLeDiff, Nat.reduceMul, Int.reduceLT, Int.reduceLE, Int.reduceEq, Int.reduceNe, Int.reduceAdd, Int.reduceSub, Int.reduceMul, Int.reduceNeg, Int.reduceToNat]
  (refine cd_dec (fun h1 => ?_) (fun h1 => ?_) <;> simp (maxSteps := 2000000) -implicitDefEqProofs (disch := omega) only [xsW, xsC, xsD, xsE, fillA, reduceCtorEq, Nat.reduceAdd, Nat.reduceSub, Nat.reduceLeDiff, Nat.reduceMul, Int.reduceLT, Int.reduceLE, Int.reduceEq, Int.reduceNe, Int.reduceAdd, Int.reduceSub, Int.reduceMul, Int.reduceNeg, Int.reduceToNat,  h1])
  · rw [Int.sign_eq_neg_one_of_neg h1]
  · (refine cd_dec (fun h2 => ?_) (fun h2 => ?_) <;> simp (maxSteps := 2000000) -implicitDefEqProofs (disch := omega) only [xsW, xsC, xsD, xsE, fillA, reduceCtorEq, Nat.reduceAdd, Nat.reduceSub, Nat.reduceLeDiff, Nat.reduceMul, Int.reduceLT, Int.reduceLE, Int.reduceEq, Int.reduceNe, Int.reduceAdd, Int.reduceSub, Int.reduceMul, Int.reduceNeg, Int.reduceToNat,  h2])
    · rw [Int.sign_eq_one_of_pos h2]
    · rw [show a = 0 by omega]; rfl
theorem gcd_step (x y : Int) : Int.gcd y (x.tmod y) = Int.gcd x y := by
  unfold Int.gcd
  rw [Int.natAbs_tmod, Nat.gcd_comm y.natAbs, ← Nat.gcd_rec, Nat.gcd_comm]
theorem impl_common (a b : Int) (ha : in64 a ∧ in64 (-a)) (hb : in64 b ∧ in64 (-b)) (h : AH) (n : Nat) : Q Tryd.prog 49 [.int .i64 a, .int .i64 b] h n (.int .i64 (Int.gcd a b)) := by
  refine q_intro Tryd.func49 k_impl_common ?_
  simp (maxSteps := 2000000) -implicitDefEqProofs (disch := omega) only [c_impl_common, xsW, xsC, xsD, xsE, fillA, reduceCtorEq, Nat.reduceAdd, Nat.reduceSub, Nat.reduceLeDiff, Nat.reduceMul, Int.reduceLT, Int.reduceLE, Int.reduceEq, Int.reduceNe, Int.reduceAdd, Int.reduceSub, Int.reduceMul, Int.reduceNeg, Int.reduceToNat]
  refine q_use (impl_size _ ha.2 _ _) fun n1 hn1 => ?_
  simp (maxSteps := 2000000) -implicitDefEqProofs (disch := omega) only [xsW, xsC, xsD, xsE, fillA, reduceCtorEq, Nat.reduceAdd, Nat.reduceSub, Nat.reduceLeDiff, Nat.reduceMul, Int.reduceLT, Int.reduceLE, Int.reduceEq, Int.reduceNe, Int.reduceAdd, Int.reduceSub, Int.reduceMul, Int.reduceNeg, Int.reduceToNat]
  refine q_use (impl_size _ hb.2 _ _) fun n2 hn2 => ?_
  simp (maxSteps := 2000000) -implicitDefEqProofs (disch := omega) only [xsW, xsC, xsD, xsE, fillA, reduceCtorEq, Nat.reduceAdd, Nat.reduceSub, Nat.reduceLeDiff, Nat.reduceMul, Int.reduceLT, Int.reduceLE, Int.reduceEq, Int.reduceNe, Int.reduceAdd, Int.reduceSub, Int.reduceMul, Int.reduceNeg, Int.reduceToNat]
  refine loop_rule (α := { p : Int × Int // 0 ≤ p.1 ∧ p.1 ≤ 9223372036854775807 ∧ 0 ≤ p.2 ∧ p.2 ≤ 9223372036854775807 ∧ Int.gcd p.1 p.2 = Int.gcd a b })
    (fun p => [.int .i64 p.1.1, .int .i64 p.1.2, .any, .any, .int .i64 0, .any, .any, .any, .any, .any, .any, .any, .any, .any, .any, .any]) (fun _ => h) (fun _ => n2) (fun p => p.1.2.toNat)
    ⟨(a.natAbs, b.natAbs), by unfold in64 at *; simp only; omega, by unfold in64 at *; simp only; omega, by simp only; omega, by unfold in64 at *; simp only; omega, by simp [Int.gcd]⟩ ⟨by simp [LeL, Le1], fun _ _ h => h, Nat.le_refl _⟩ ?_
  rintro ⟨⟨x, y⟩, hx, hx', hy, hy', hg⟩
  simp only at hx hx' hy hy' hg
  simp (maxSteps := 2000000) -implicitDefEqProofs (disch := omega) only [xsW, xsC, xsD, xsE, fillA, reduceCtorEq, Nat.reduceAdd, Nat.reduceSub, Nat.reduceLeDiff, Nat.reduceMul, Int.reduceLT, Int.reduceLE, Int.reduceEq, Int.reduceNe, Int.reduceAdd, Int.reduceSub, Int.reduceMul, Int.reduceNeg, Int.reduceToNat]
  (refine cd_dec (fun h0 => ?_) (fun h0 => ?_) <;> simp (maxSteps := 2000000) -implicitDefEqProofs (disch := omega) only [xsW, xsC, xsD, xsE, fillA, reduceCtorEq, Nat.reduceAdd, Nat.reduceSub, Nat.reduceLeDiff, Nat.reduceMul, Int.reduceLT, Int.reduceLE, Int.reduceEq, Int.reduceNe, Int.reduceAdd, Int.reduceSub, Int.reduceMul, Int.reduceNeg, Int.reduceToNat,  h0])
  · have hm := Int.emod_nonneg x h0
    have hm2 := Int.emod_lt_of_pos x (show 0 < y by omega)
    have he : x.tmod y = x % y := Int.tmod_eq_emod_of_nonneg hx
    refine ⟨ ⟨(y, x % y), hy, hy', hm, by simp only; omega, ?_⟩, by simp only; omega, by simp [LeL, Le1, he], fun _ _ h => h, Nat.le_refl _⟩
    simp only
    rw [← hg, ← he, gcd_step]
  · have hy0 : y = 0 := by omega
    subst hy0
    rw [← hg, Int.gcd_zero_right]
    omega
theorem spec_l01Gcd (a b : Int) (ha : in64 a ∧ in64 (-a)) (hb : in64 b ∧ in64 (-b)) (h : AH) (n : Nat) : Q Tryd.prog 76 [.int .i64 a, .int .i64 b] h n (.int .i64 (Int.gcd a b)) := by
  refine q_intro Tryd.func76 k_spec_l01Gcd ?_
  simp (maxSteps := 2000000) -implicitDefEqProofs (disch := omega) only [c_spec_l01Gcd, xsW, xsC, xsD, xsE, fillA, reduceCtorEq, Nat.reduceAdd, Nat.reduceSub, Nat.reduceLeDiff, Nat.reduceMul, Int.reduceLT, Int.reduceLE, Int.reduceEq, Int.reduceNe, Int.reduceAdd, Int.reduceSub, Int.reduceMul, Int.reduceNeg, Int.reduceToNat]
  refine loop_rule (α := { p : Int × Int // p.1.natAbs ≤ 9223372036854775807 ∧ p.2.natAbs ≤ 9223372036854775807 ∧ Int.gcd p.1 p.2 = Int.gcd a b })
    (fun p => [.int .i64 p.1.1, .int .i64 p.1.2, .any, .any, .int .i64 0, .any, .any, .any, .any, .any, .any, .any, .any, .any, .any, .any, .any]) (fun _ => h) (fun _ => n) (fun p => p.1.2.natAbs)
    ⟨(a, b), by unfold in64 at *; simp only; omega, by unfold in64 at *; simp only; omega, rfl⟩ ⟨by simp [LeL, Le1], fun _ _ h => h, Nat.le_refl _⟩ ?_
  rintro ⟨⟨x, y⟩, hx, hy, hg⟩
  simp only at hx hy hg
  simp (maxSteps := 2000000) -implicitDefEqProofs (disch := omega) only [xsW, xsC, xsD, xsE, fillA, reduceCtorEq, Nat.reduceAdd, Nat.reduceSub, Nat.reduceLeDiff, Nat.reduceMul, Int.reduceLT, Int.reduceLE, Int.reduceEq, Int.reduceNe, Int.reduceAdd, Int.reduceSub, Int.reduceMul, Int.reduceNeg, Int.reduceToNat]
  (refine cd_dec (fun h0 => ?_) (fun h0 => ?_) <;> simp (maxSteps := 2000000) -implicitDefEqProofs (disch := omega) only [xsW, xsC, xsD, xsE, fillA, reduceCtorEq, Nat.reduceAdd, Nat.reduceSub, Nat.reduceLeDiff, Nat.reduceMul, Int.reduceLT, Int.reduceLE, Int.reduceEq, Int.reduceNe, Int.reduceAdd, Int.reduceSub, Int.reduceMul, Int.reduceNeg, Int.reduceToNat,  h0])
  · have hm : (x.tmod y).natAbs < y.natAbs := by
      rw [Int.natAbs_tmod]; exact Nat.mod_lt _ (by omega)
    refine ⟨ ⟨(y, x.tmod y), hy, by simp only; omega, ?_⟩, by simp only; omega, by simp [LeL, Le1], fun _ _ h => h, Nat.le_refl _⟩
    simp only
    rw [← hg, gcd_step]
  · have hy0 : y = 0 := by omega
    subst hy0
    have e := Int.gcd_zero_right x
    rw [← hg, e]
    omega
def c_impl_IsFrac : F := ⟨(.seq (.reg false [⟨some 1, .box 26 (.t 0), none⟩, ⟨some 2, .mv (.c (.bool false)), none⟩]) (.seq (.reg false [⟨some 3, .fa 1 (.t 1), none⟩, ⟨some 4, .ld1 (.t 3), none⟩, ⟨some 5, .call (.f 47) [(.t 4), (.c (.int .i64 1)), (.c (.int .i64 1000000000))], none⟩, ⟨some 6, .mv (.t 5), none⟩, ⟨some 7, .fa 0 (.t 1), some (6, true)⟩, ⟨some 8, .ld1 (.t 7), some (6, true)⟩, ⟨some 9, .call (.f 48) [(.t 8), (.c (.int .i64 1000000000))], some (6, true)⟩, ⟨some 10, .pick (.t 6) (.t 9) (.c (.bool false)), none⟩, ⟨some 11, .mv (.t 10), none⟩, ⟨some 12, .fa 0 (.t 1), some (11, true)⟩, ⟨some 13, .ld1 (.t 12), some (11, true)⟩, ⟨some 14, .fa 1 (.t 1), some (11, true)⟩, ⟨some 15, .ld1 (.t 14), some (11, true)⟩, ⟨some 16, .call (.f 49) [(.t 13), (.t 15)], some (11, true)⟩, ⟨some 17, .bin .eql (.t 16) (.c (.int .i64 1)), some (11, true)⟩, ⟨some 18, .pick (.t 11) (.t 17) (.c (.bool false)), none⟩, ⟨some 2, .mv (.t 18), none⟩]) .ret)), 19, [(.t 2)]⟩
theorem k_impl_IsFrac : compF Tryd.prog Tryd.f14 = some c_impl_IsFrac := by kernel_rfl
def c_spec_l01IsFrac : F := ⟨(.seq (.reg false [⟨some 2, .box 26 (.t 0), none⟩, ⟨some 4, .mv (.c (.bool false)), none⟩]) (.seq (.reg false [⟨some 5, .fa 1 (.t 2), none⟩, ⟨some 6, .ld1 (.t 5), none⟩, ⟨some 7, .mv (.t 1), none⟩, ⟨some 8, .call (.f 54) [(.t 6), (.c (.int .i64 1)), (.t 7)], none⟩, ⟨some 9, .mv (.t 8), none⟩, ⟨some 10, .fa 0 (.t 2), some (9, true)⟩, ⟨some 11, .ld1 (.t 10), some (9, true)⟩, ⟨some 12, .mv (.t 1), some (9, true)⟩, ⟨some 13, .un .neg (.t 12), some (9, true)⟩, ⟨some 14, .mv (.t 1), some (9, true)⟩, ⟨some 15, .call (.f 54) [(.t 11), (.t 13), (.t 14)], some (9, true)⟩, ⟨some 16, .pick (.t 9) (.t 15) (.c (.bool false)), none⟩, ⟨some 17, .mv (.t 16), none⟩, ⟨some 18, .fa 0 (.t 2), some (17, true)⟩, ⟨some 19, .ld1 (.t 18), some (17, true)⟩, ⟨some 20, .fa 1 (.t 2), some (17, true)⟩, ⟨some 21, .ld1 (.t 20), some (17, true)⟩, ⟨some 22, .call (.f 76) [(.t 19), (.t 21)], some (17, true)⟩, ⟨some 23, .bin .eql (.t 22) (.c (.int .i64 1)), some (17, true)⟩, ⟨some 24, .pick (.t 17) (.t 23) (.c (.bool false)), none⟩, ⟨some 4, .mv (.t 24), none⟩]) .ret)), 25, [(.t 4)]⟩
theorem k_spec_l01IsFrac : compF Tryd.prog Tryd.f50 = some c_spec_l01IsFrac := by kernel_rfl
def c_spec_IsFrac : F := ⟨(.seq (.reg false [⟨some 1, .box 26 (.t 0), none⟩, ⟨some 2, .mv (.c (.bool false)), none⟩]) (.seq (.reg false [⟨some 3, .ld 2 (.t 1), none⟩, ⟨some 4, .call (.f 50) [(.t 3), (.c (.int .i64 1000000000))], none⟩, ⟨some 2, .mv (.t 4), none⟩]) .ret)), 5, [(.t 2)]⟩
theorem k_spec_IsFrac : compF Tryd.prog Tryd.f15 = some c_spec_IsFrac := by kernel_rfl
def c_spec_l01Told : F := ⟨(.seq (.reg false [⟨some 1, .box 26 (.t 0), none⟩, ⟨some 2, .alloc 26 [(.int .i64 0), (.int .i64 0)], none⟩, ⟨some 3, .mv (.c (.int .i64 0)), none⟩]) (.seq (.seq (.reg false [⟨some 4, .ld 2 (.t 1), none⟩, ⟨some 5, .call (.f 50) [(.t 4), (.c (.int .i64 1000000000))], none⟩, ⟨some 6, .un .not (.t 5), none⟩]) (.cond (.t 6) (.seq (.reg false [⟨some 7, .build [(.int .i64 0), (.int .i64 0)] [], none⟩, ⟨none, .st 2 (.t 2) (.t 7), none⟩, ⟨some 3, .mv (.c (.int .i64 3)), none⟩]) .ret) .skip)) (.seq (.reg false [⟨some 8, .ld 2 (.t 1), none⟩, ⟨none, .st 2 (.t 2) (.t 8), none⟩, ⟨some 3, .mv (.c (.int .i64 0)), none⟩]) .ret))), 9, [(.ca 2 2), (.t 3)]⟩
theorem k_spec_l01Told : compF Tryd.prog Tryd.f45 = some c_spec_l01Told := by kernel_rfl
def c_spec_l01Frac : F := ⟨(.seq (.reg false [⟨some 4, .alloc 26 [(.int .i64 0), (.int .i64 0)], none⟩]) (.seq (.seq (.reg false [⟨some 6, .mv (.t 1), none⟩, ⟨some 7, .bin .lss (.t 6) (.c (.int .i64 0)), none⟩]) (.cond (.t 7) (.seq (.reg false [⟨some 8, .mv (.t 0), none⟩, ⟨some 9, .un .neg (.t 8), none⟩, ⟨some 0, .mv (.t 9), none⟩]) (.reg false [⟨some 10, .mv (.t 1), none⟩, ⟨some 11, .un .neg (.t 10), none⟩, ⟨some 1, .mv (.t 11), none⟩])) .skip)) (.seq (.reg false [⟨some 12, .mv (.t 0), none⟩, ⟨some 13, .mv (.t 1), none⟩, ⟨some 14, .call (.f 76) [(.t 12), (.t 13)], none⟩, ⟨some 5, .mv (.t 14), none⟩]) (.seq (.reg false [⟨some 15, .mv (.t 0), none⟩, ⟨some 16, .mv (.t 5), none⟩, ⟨some 17, .bin .quo (.t 15) (.t 16), none⟩, ⟨some 18, .mv (.t 1), none⟩, ⟨some 19, .mv (.t 5), none⟩, ⟨some 20, .bin .quo (.t 18) (.t 19), none⟩, ⟨some 21, .build [(.int .i64 0), (.int .i64 0)] [(0, (1, (.t 17))), (1, (1, (.t 20)))], none⟩, ⟨none, .st 2 (.t 4) (.t 21), none⟩]) .ret)))), 22, [(.ca 4 2)]⟩
theorem k_spec_l01Frac : compF Tryd.prog Tryd.f40 = some c_spec_l01Frac := by kernel_rfl
def c_impl_reduced : F := ⟨(.seq (.reg false [⟨some 4, .alloc 26 [(.int .i64 0), (.int .i64 0)], none⟩, ⟨some 5, .mv (.c (.int .i64 0)), none⟩]) (.seq (.reg false [⟨some 8, .mv (.t 0), none⟩, ⟨some 9, .mv (.t 1), none⟩, ⟨some 10, .call (.f 49) [(.t 8), (.t 9)], none⟩, ⟨some 6, .mv (.t 10), none⟩]) (.seq (.seq (.reg false [⟨some 11, .mv (.t 1), none⟩, ⟨some 12, .bin .lss (.t 11) (.c (.int .i64 0)), none⟩]) (.cond (.t 12) (.reg false [⟨some 13, .mv (.t 6), none⟩, ⟨some 14, .un .neg (.t 13), none⟩, ⟨some 6, .mv (.t 14), none⟩]) .skip)) (.seq (.reg false [⟨some 15, .mv (.t 0), none⟩, ⟨some 16, .mv (.t 6), none⟩, ⟨some 17, .bin .quo (.t 15) (.t 16), none⟩, ⟨some 18, .mv (.t 1), none⟩, ⟨some 19, .mv (.t 6), none⟩, ⟨some 20, .bin .quo (.t 18) (.t 19), none⟩, ⟨some 21, .build [(.int .i64 0), (.int .i64 0)] [(0, (1, (.t 17))), (1, (1, (.t 20)))], none⟩, ⟨some 7, .alloc 26 [(.int .i64 0), (.int .i64 0)], none⟩, ⟨none, .st 2 (.t 7) (.t 21), none⟩]) (.seq (.seq (.reg false [⟨some 22, .ld 2 (.t 7), none⟩, ⟨some 23, .call (.f 14) [(.t 22)], none⟩, ⟨some 24, .un .not (.t 23), none⟩]) (.cond (.t 24) (.seq (.reg false [⟨some 25, .build [(.int .i64 0), (.int .i64 0)] [], none⟩, ⟨none, .st 2 (.t 4) (.t 25), none⟩, ⟨some 5, .mv (.c (.int .i64 3)), none⟩]) .ret) .skip)) (.seq (.reg false [⟨some 26, .ld 2 (.t 7), none⟩, ⟨none, .st 2 (.t 4) (.t 26), none⟩, ⟨some 5, .mv (.c (.int .i64 0)), none⟩]) .ret)))))), 27, [(.ca 4 2), (.t 5)]⟩
theorem k_impl_reduced : compF Tryd.prog Tryd.f44 = some c_impl_reduced := by kernel_rfl
def c_impl_FracOf : F := ⟨(.seq (.reg false [⟨some 4, .alloc 26 [(.int .i64 0), (.int .i64 0)], none⟩, ⟨some 5, .mv (.c (.int .i64 0)), none⟩]) (.seq (.seq (.reg false [⟨some 6, .mv (.t 1), none⟩, ⟨some 7, .bin .eql (.t 6) (.c (.int .i64 0)), none⟩, ⟨some 8, .mv (.t 7), none⟩, ⟨some 9, .mv (.t 0), some (8, false)⟩, ⟨some 10, .call (.f 48) [(.t 9), (.c (.int .i64 1000000000000))], some (8, false)⟩, ⟨some 11, .un .not (.t 10), some (8, false)⟩, ⟨some 12, .pick (.t 8) (.c (.bool true)) (.t 11), none⟩, ⟨some 13, .mv (.t 12), none⟩, ⟨some 14, .mv (.t 1), some (13, false)⟩, ⟨some 15, .call (.f 48) [(.t 14), (.c (.int .i64 1000000000000))], some (13, false)⟩, ⟨some 16, .un .not (.t 15), some (13, false)⟩, ⟨some 17, .pick (.t 13) (.c (.bool true)) (.t 16), none⟩]) (.cond (.t 17) (.seq (.reg false [⟨some 18, .build [(.int .i64 0), (.int .i64 0)] [], none⟩, ⟨none, .st 2 (.t 4) (.t 18), none⟩, ⟨some 5, .mv (.c (.int .i64 2)), none⟩]) .ret) .skip)) (.seq (.reg false [⟨some 19, .mv (.t 0), none⟩, ⟨some 20, .mv (.t 1), none⟩, ⟨some 21, .call (.f 44) [(.t 19), (.t 20)], none⟩, ⟨some 22, .ext (.t 21) 0, none⟩, ⟨some 23, .ext (.t 21) 1, none⟩, ⟨none, .st 2 (.t 4) (.t 22), none⟩, ⟨some 5, .mv (.t 23), none⟩]) .ret))), 24, [(.ca 4 2), (.t 5)]⟩
theorem k_impl_FracOf : compF Tryd.prog Tryd.f23 = some c_impl_FracOf := by kernel_rfl
def c_spec_FracOf : F := ⟨(.seq (.reg false [⟨some 4, .alloc 26 [(.int .i64 0), (.int .i64 0)], none⟩, ⟨some 5, .mv (.c (.int .i64 0)), none⟩]) (.seq (.seq (.reg false [⟨some 8, .mv (.t 1), none⟩, ⟨some 9, .bin .eql (.t 8) (.c (.int .i64 0)), none⟩, ⟨some 10, .mv (.t 9), none⟩, ⟨some 11, .mv (.t 0), some (10, false)⟩, ⟨some 12, .call (.f 54) [(.t 11), (.c (.int .i64 (-1000000000000))), (.c (.int .i64 1000000000000))], some (10, false)⟩, ⟨some 13, .un .not (.t 12), some (10, false)⟩, ⟨some 14, .pick (.t 10) (.c (.bool true)) (.t 13), none⟩, ⟨some 15, .mv (.t 14), none⟩, ⟨some 16, .mv (.t 1), some (15, false)⟩, ⟨some 17, .call (.f 54) [(.t 16), (.c (.int .i64 (-1000000000000))), (.c (.int .i64 1000000000000))], some (15, false)⟩, ⟨some 18, .un .not (.t 17), some (15, false)⟩, ⟨some 19, .pick (.t 15) (.c (.bool true)) (.t 18), none⟩]) (.cond (.t 19) (.seq (.reg false [⟨some 20, .build [(.int .i64 0), (.int .i64 0)] [], none⟩, ⟨none, .st 2 (.t 4) (.t 20), none⟩, ⟨some 5, .mv (.c (.int .i64 2)), none⟩]) .ret) .skip)) (.seq (.reg false [⟨some 22, .mv (.t 0), none⟩, ⟨some 23, .mv (.t 1), none⟩, ⟨some 24, .call (.f 40) [(.t 22), (.t 23)], none⟩, ⟨some 25, .call (.f 45) [(.t 24)], none⟩, ⟨some 21, .mv (.t 25), none⟩, ⟨some 26, .ext (.t 21) 0, none⟩, ⟨some 27, .ext (.t 21) 1, none⟩, ⟨some 6, .alloc 26 [(.int .i64 0), (.int .i64 0)], none⟩, ⟨none, .st 2 (.t 6) (.t 26), none⟩, ⟨some 7, .mv (.t 27), none⟩]) (.seq (.reg false [⟨some 28, .ld 2 (.t 6), none⟩, ⟨some 29, .mv (.t 7), none⟩, ⟨none, .st 2 (.t 4) (.t 28), none⟩, ⟨some 5, .mv (.t 29), none⟩]) .ret)))), 30, [(.ca 4 2), (.t 5)]⟩
theorem k_spec_FracOf : compF Tryd.prog Tryd.f24 = some c_spec_FracOf := by kernel_rfl
def fr (a b : Int) : AV := .agg [.int .i64 a, .int .i64 b]
def isFr (most a b : Int) : Bool := decide (1 ≤ b ∧ b ≤ most ∧ -most ≤ a ∧ a ≤ most ∧ Int.gcd a b = 1)

theorem impl_IsFrac (a b : Int) (h : AH) (n : Nat) : Q Tryd.prog 14 [fr a b] h n (.bool (isFr 1000000000 a b)) := by
  refine q_intro Tryd.func14 k_impl_IsFrac ?_
  simp (maxSteps := 2000000) -implicitDefEqProofs (disch := omega) only [c_impl_IsFrac, fr, xsW, xsC, xsD, xsE, fillA, reduceCtorEq, Nat.reduceAdd, Nat.reduceSub, Nat.reduceLeDiff, Nat.reduceMul, Int.reduceLT, Int.reduceLE, Int.reduceEq, Int.reduceNe, Int.reduceAdd, Int.reduceSub, Int.reduceMul, Int.reduceNeg, Int.reduceToNat]
  refine q_use (impl_within _ _ _ _ _) fun n1 hn1 => ?_
  simp (maxSteps := 2000000) -implicitDefEqProofs (disch := omega) only [xsW, xsC, xsD, xsE, fillA, reduceCtorEq, Nat.reduceAdd, Nat.reduceSub, Nat.reduceLeDiff, Nat.reduceMul, Int.reduceLT, Int.reduceLE, Int.reduceEq, Int.reduceNe, Int.reduceAdd, Int.reduceSub, Int.reduceMul, Int.reduceNeg, Int.reduceToNat]
  (refine gd_dec (fun h1 => ?_) (fun h1 => ?_) <;> simp (maxSteps := 2000000) -implicitDefEqProofs (disch := omega) only [xsW, xsC, xsD, xsE, fillA, reduceCtorEq, Nat.reduceAdd, Nat.reduceSub, Nat.reduceLeDiff, Nat.reduceMul, Int.reduceLT, Int.reduceLE, Int.reduceEq, Int.reduceNe, Int.reduceAdd, Int.reduceSub, Int.reduceMul, Int.reduceNeg, Int.reduceToNat,  h1])
  · refine q_use (impl_upTo _ _ (by unfold in64; omega) _ _) fun n2 hn2 => ?_
    simp (maxSteps := 2000000) -implicitDefEqProofs (disch := omega) only [xsW, xsC, xsD, xsE, fillA, reduceCtorEq, Nat.reduceAdd, Nat.reduceSub, Nat.reduceLeDiff, Nat.reduceMul, Int.reduceLT, Int.reduceLE, Int.reduceEq, Int.reduceNe, Int.reduceAdd, Int.reduceSub, Int.reduceMul, Int.reduceNeg, Int.reduceToNat,  h1]
    (refine gd_dec (fun h2 => ?_) (fun h2 => ?_) <;> simp (maxSteps := 2000000) -implicitDefEqProofs (disch := omega) only [xsW, xsC, xsD, xsE, fillA, reduceCtorEq, Nat.reduceAdd, Nat.reduceSub, Nat.reduceLeDiff, Nat.reduceMul, Int.reduceLT, Int.reduceLE, Int.reduceEq, Int.reduceNe, Int.reduceAdd, Int.reduceSub, Int.reduceMul, Int.reduceNeg, Int.reduceToNat,  h2])
    · refine q_use (impl_common _ _ (by unfold in64; omega) (by unfold in64; omega) _ _) fun n3 hn3 => ?_
      simp (maxSteps := 2000000) -implicitDefEqProofs (disch := omega) only [xsW, xsC, xsD, xsE, fillA, reduceCtorEq, Nat.reduceAdd, Nat.reduceSub, Nat.reduceLeDiff, Nat.reduceMul, Int.reduceLT, Int.reduceLE, Int.reduceEq, Int.reduceNe, Int.reduceAdd, Int.reduceSub, Int.reduceMul, Int.reduceNeg, Int.reduceToNat,  h1, h2]
      (first | rfl | omega | (rw [Bool.eq_iff_iff]; simp only [decide_eq_true_eq, Bool.false_eq_true, iff_true, true_iff, false_iff, iff_false, ne_eq, isFr]; omega))
    · (first | rfl | omega | (rw [Bool.eq_iff_iff]; simp only [decide_eq_true_eq, Bool.false_eq_true, iff_true, true_iff, false_iff, iff_false, ne_eq, isFr]; omega))
  · (first | rfl | omega | (rw [Bool.eq_iff_iff]; simp only [decide_eq_true_eq, Bool.false_eq_true, iff_true, true_iff, false_iff, iff_false, ne_eq, isFr]; omega))
theorem spec_l01IsFrac (a b m : Int) (hm : 0 ≤ m ∧ m ≤ 2000000000000) (h : AH) (n : Nat) : Q Tryd.prog 50 [fr a b, .int .i64 m] h n (.bool (isFr m a b)) := by
  refine q_intro Tryd.func50 k_spec_l01IsFrac ?_
  simp (maxSteps := 2000000) -implicitDefEqProofs (disch := omega) only [c_spec_l01IsFrac, fr, xsW, xsC, xsD, xsE, fillA, reduceCtorEq, Nat.reduceAdd, Nat.reduceSub, Nat.reduceLeDiff, Nat.reduceMul, Int.reduceLT, Int.reduceLE, Int.reduceEq, Int.reduceNe, Int.reduceAdd, Int.reduceSub, Int.reduceMul, Int.reduceNeg, Int.reduceToNat]
  refine q_use (spec_l01In _ _ _ _ _) fun n1 hn1 => ?_
  simp (maxSteps := 2000000) -implicitDefEqProofs (disch := omega) only [xsW, xsC, xsD, xsE, fillA, reduceCtorEq, Nat.reduceAdd, Nat.reduceSub, Nat.reduceLeDiff, Nat.reduceMul, Int.reduceLT, Int.reduceLE, Int.reduceEq, Int.reduceNe, Int.reduceAdd, Int.reduceSub, Int.reduceMul, Int.reduceNeg, Int.reduceToNat]
  (refine gd_dec (fun h1 => ?_) (fun h1 => ?_) <;> simp (maxSteps := 2000000) -implicitDefEqProofs (disch := omega) only [xsW, xsC, xsD, xsE, fillA, reduceCtorEq, Nat.reduceAdd, Nat.reduceSub, Nat.reduceLeDiff, Nat.reduceMul, Int.reduceLT, Int.reduceLE, Int.reduceEq, Int.reduceNe, Int.reduceAdd, Int.reduceSub, Int.reduceMul, Int.reduceNeg, Int.reduceToNat,  h1])
  · refine q_use (spec_l01In _ _ _ _ _) fun n2 hn2 => ?_
    simp (maxSteps := 2000000) -implicitDefEqProofs (disch := omega) only [xsW, xsC, xsD, xsE, fillA, reduceCtorEq, Nat.reduceAdd, Nat.reduceSub, Nat.reduceLeDiff, Nat.reduceMul, Int.reduceLT, Int.reduceLE, Int.reduceEq, Int.reduceNe, Int.reduceAdd, Int.reduceSub, Int.reduceMul, Int.reduceNeg, Int.reduceToNat,  h1]
    (refine gd_dec (fun h2 => ?_) (fun h2 => ?_) <;> simp (maxSteps := 2000000) -implicitDefEqProofs (disch := omega) only [xsW, xsC, xsD, xsE, fillA, reduceCtorEq, Nat.reduceAdd, Nat.reduceSub, Nat.reduceLeDiff, Nat.reduceMul, Int.reduceLT, Int.reduceLE, Int.reduceEq, Int.reduceNe, Int.reduceAdd, Int.reduceSub, Int.reduceMul, Int.reduceNeg, Int.reduceToNat,  h2])
    · refine q_use (spec_l01Gcd _ _ (by unfold in64; omega) (by unfold in64; omega) _ _) fun n3 hn3 => ?_
      simp (maxSteps := 2000000) -implicitDefEqProofs (disch := omega) only [xsW, xsC, xsD, xsE, fillA, reduceCtorEq, Nat.reduceAdd, Nat.reduceSub, Nat.reduceLeDiff, Nat.reduceMul, Int.reduceLT, Int.reduceLE, Int.reduceEq, Int.reduceNe, Int.reduceAdd, Int.reduceSub, Int.reduceMul, Int.reduceNeg, Int.reduceToNat,  h1, h2]
      (first | rfl | omega | (rw [Bool.eq_iff_iff]; simp only [decide_eq_true_eq, Bool.false_eq_true, iff_true, true_iff, false_iff, iff_false, ne_eq, isFr]; omega))
    · (first | rfl | omega | (rw [Bool.eq_iff_iff]; simp only [decide_eq_true_eq, Bool.false_eq_true, iff_true, true_iff, false_iff, iff_false, ne_eq, isFr]; omega))
  · (first | rfl | omega | (rw [Bool.eq_iff_iff]; simp only [decide_eq_true_eq, Bool.false_eq_true, iff_true, true_iff, false_iff, iff_false, ne_eq, isFr]; omega))
theorem spec_IsFrac (a b : Int) (h : AH) (n : Nat) : Q Tryd.prog 15 [fr a b] h n (.bool (isFr 1000000000 a b)) := by
  refine q_intro Tryd.func15 k_spec_IsFrac ?_
  simp (maxSteps := 2000000) -implicitDefEqProofs (disch := omega) only [c_spec_IsFrac, fr, xsW, xsC, xsD, xsE, fillA, reduceCtorEq, Nat.reduceAdd, Nat.reduceSub, Nat.reduceLeDiff, Nat.reduceMul, Int.reduceLT, Int.reduceLE, Int.reduceEq, Int.reduceNe, Int.reduceAdd, Int.reduceSub, Int.reduceMul, Int.reduceNeg, Int.reduceToNat]
  refine q_use (spec_l01IsFrac _ _ _ (by omega) _ _) fun n1 hn1 => ?_
  simp (maxSteps := 2000000) -implicitDefEqProofs (disch := omega) only [xsW, xsC, xsD, xsE, fillA, reduceCtorEq, Nat.reduceAdd, Nat.reduceSub, Nat.reduceLeDiff, Nat.reduceMul, Int.reduceLT, Int.reduceLE, Int.reduceEq, Int.reduceNe, Int.reduceAdd, Int.reduceSub, Int.reduceMul, Int.reduceNeg, Int.reduceToNat]
theorem spec_l01Told (a b : Int) (h : AH) (n : Nat) : Q Tryd.prog 45 [fr a b] h n (if isFr 1000000000 a b then .tup [fr a b, .int .i64 0] else .tup [fr 0 0, .int .i64 3]) := by
  refine q_intro Tryd.func45 k_spec_l01Told ?_
  simp (maxSteps := 2000000) -implicitDefEqProofs (disch := omega) only [c_spec_l01Told, fr, xsW, xsC, xsD, xsE, fillA, reduceCtorEq, Nat.reduceAdd, Nat.reduceSub, Nat.reduceLeDiff, Nat.reduceMul, Int.reduceLT, Int.reduceLE, Int.reduceEq, Int.reduceNe, Int.reduceAdd, Int.reduceSub, Int.reduceMul, Int.reduceNeg, Int.reduceToNat]
  refine q_use (spec_l01IsFrac _ _ _ (by omega) _ _) fun n1 hn1 => ?_
  cases hb : isFr 1000000000 a b
  · simp (maxSteps := 2000000) -implicitDefEqProofs (disch := omega) only [xsW, xsC, xsD, xsE, fillA, reduceCtorEq, Nat.reduceAdd, Nat.reduceSub, Nat.reduceLeDiff, Nat.reduceMul, Int.reduceLT, Int.reduceLE, Int.reduceEq, Int.reduceNe, Int.reduceAdd, Int.reduceSub, Int.reduceMul, Int.reduceNeg, Int.reduceToNat]
  · simp (maxSteps := 2000000) -implicitDefEqProofs (disch := omega) only [xsW, xsC, xsD, xsE, fillA, reduceCtorEq, Nat.reduceAdd, Nat.reduceSub, Nat.reduceLeDiff, Nat.reduceMul, Int.reduceLT, Int.reduceLE, Int.reduceEq, Int.reduceNe, Int.reduceAdd, Int.reduceSub, Int.reduceMul, Int.reduceNeg, Int.reduceToNat]

def red (a b : Int) : Int × Int := (a * b.sign / Int.gcd a b, b.natAbs / Int.gcd a b)
theorem tdiv_in (a k : Int) (ha : in64 a ∧ in64 (-a)) : -9223372036854775807 ≤ a.tdiv k ∧ a.tdiv k ≤ 9223372036854775807 := by
  have h := Int.natAbs_tdiv_le_natAbs a k
  unfold in64 at ha
  omega
theorem red_pos {a b : Int} (hb : 0 < b) : red a b = (a.tdiv (Int.gcd a b), b.tdiv (Int.gcd a b)) := by
  have h1 : (Int.gcd a b : Int) ∣ a := Int.gcd_dvd_left ..
  have h2 : (Int.gcd a b : Int) ∣ b := Int.gcd_dvd_right ..
  simp only [red, Int.sign_eq_one_of_pos hb, Int.mul_one, Int.tdiv_eq_ediv_of_dvd h1, Int.tdiv_eq_ediv_of_dvd h2]
  rw [Int.natAbs_of_nonneg (by omega)]
theorem red_neg {a b : Int} (hb : b < 0) : red a b = (a.tdiv (-Int.gcd a b), b.tdiv (-Int.gcd a b)) := by
  have h1 : (Int.gcd a b : Int) ∣ a := Int.gcd_dvd_left ..
  have h2 : (Int.gcd a b : Int) ∣ b := Int.gcd_dvd_right ..
  simp only [red, Int.sign_eq_neg_one_of_neg hb, Int.tdiv_neg, Int.tdiv_eq_ediv_of_dvd h1, Int.tdiv_eq_ediv_of_dvd h2]
  rw [Int.mul_neg, Int.mul_one, Int.neg_ediv_of_dvd h1, ← Int.neg_ediv_of_dvd h2, show (b.natAbs : Int) = -b by omega]
theorem gcd_bound {a b : Int} (hb : b ≠ 0) : 0 < (Int.gcd a b : Int) ∧ (Int.gcd a b : Int) ≤ b.natAbs := by
  have h1 := Int.gcd_pos_of_ne_zero_right a hb
  have h2 : Int.gcd a b ≤ b.natAbs := Nat.le_of_dvd (by omega) (Nat.gcd_dvd_right ..)
  omega
theorem impl_reduced (a b : Int) (ha : in64 a ∧ in64 (-a)) (hb : in64 b ∧ in64 (-b)) (h0 : b ≠ 0) (h : AH) (n : Nat) :
    Q Tryd.prog 44 [.int .i64 a, .int .i64 b] h n (if isFr 1000000000 (red a b).1 (red a b).2 then .tup [fr (red a b).1 (red a b).2, .int .i64 0] else .tup [fr 0 0, .int .i64 3]) := by
  refine q_intro Tryd.func44 k_impl_reduced ?_
  have hg := gcd_bound (a := a) h0
  simp (maxSteps := 2000000) -implicitDefEqProofs (disch := omega) only [c_impl_reduced, xsW, xsC, xsD, xsE, fillA, reduceCtorEq, Nat.reduceAdd, Nat.reduceSub, Nat.reduceLeDiff, Nat.reduceMul, Int.reduceLT, Int.reduceLE, Int.reduceEq, Int.reduceNe, Int.reduceAdd, Int.reduceSub, Int.reduceMul, Int.reduceNeg, Int.reduceToNat]
  refine q_use (impl_common _ _ ha hb _ _) fun n1 hn1 => ?_
  have hb' := hb
  unfold in64 at hb'
  simp (maxSteps := 2000000) -implicitDefEqProofs (disch := omega) only [xsW, xsC, xsD, xsE, fillA, reduceCtorEq, Nat.reduceAdd, Nat.reduceSub, Nat.reduceLeDiff, Nat.reduceMul, Int.reduceLT, Int.reduceLE, Int.reduceEq, Int.reduceNe, Int.reduceAdd, Int.reduceSub, Int.reduceMul, Int.reduceNeg, Int.reduceToNat]
  have k1 := tdiv_in a (-(a.gcd b)) ha
  have k2 := tdiv_in b (-(a.gcd b)) hb
  have k3 := tdiv_in a (a.gcd b) ha
  have k4 := tdiv_in b (a.gcd b) hb
  (refine cd_dec (fun h1 => ?_) (fun h1 => ?_) <;> simp (maxSteps := 2000000) -implicitDefEqProofs (disch := omega) only [xsW, xsC, xsD, xsE, fillA, reduceCtorEq, Nat.reduceAdd, Nat.reduceSub, Nat.reduceLeDiff, Nat.reduceMul, Int.reduceLT, Int.reduceLE, Int.reduceEq, Int.reduceNe, Int.reduceAdd, Int.reduceSub, Int.reduceMul, Int.reduceNeg, Int.reduceToNat,  h1])
  · refine q_use (impl_IsFrac _ _ _ _) fun n2 hn2 => ?_
    simp (maxSteps := 2000000) -implicitDefEqProofs (disch := omega) only [xsW, xsC, xsD, xsE, fillA, reduceCtorEq, Nat.reduceAdd, Nat.reduceSub, Nat.reduceLeDiff, Nat.reduceMul, Int.reduceLT, Int.reduceLE, Int.reduceEq, Int.reduceNe, Int.reduceAdd, Int.reduceSub, Int.reduceMul, Int.reduceNeg, Int.reduceToNat]
    rw [red_neg h1]
    cases hq : isFr 1000000000 (a.tdiv (-(a.gcd b))) (b.tdiv (-(a.gcd b))) <;> simp (maxSteps := 2000000) -implicitDefEqProofs (disch := omega) only [xsW, xsC, xsD, xsE, fillA, reduceCtorEq, Nat.reduceAdd, Nat.reduceSub, Nat.reduceLeDiff, Nat.reduceMul, Int.reduceLT, Int.reduceLE, Int.reduceEq, Int.reduceNe, Int.reduceAdd, Int.reduceSub, Int.reduceMul, Int.reduceNeg, Int.reduceToNat,  fr]
  · refine q_use (impl_IsFrac _ _ _ _) fun n2 hn2 => ?_
    simp (maxSteps := 2000000) -implicitDefEqProofs (disch := omega) only [xsW, xsC, xsD, xsE, fillA, reduceCtorEq, Nat.reduceAdd, Nat.reduceSub, Nat.reduceLeDiff, Nat.reduceMul, Int.reduceLT, Int.reduceLE, Int.reduceEq, Int.reduceNe, Int.reduceAdd, Int.reduceSub, Int.reduceMul, Int.reduceNeg, Int.reduceToNat]
    rw [red_pos (by omega)]
    cases hq : isFr 1000000000 (a.tdiv (a.gcd b)) (b.tdiv (a.gcd b)) <;> simp (maxSteps := 2000000) -implicitDefEqProofs (disch := omega) only [xsW, xsC, xsD, xsE, fillA, reduceCtorEq, Nat.reduceAdd, Nat.reduceSub, Nat.reduceLeDiff, Nat.reduceMul, Int.reduceLT, Int.reduceLE, Int.reduceEq, Int.reduceNe, Int.reduceAdd, Int.reduceSub, Int.reduceMul, Int.reduceNeg, Int.reduceToNat,  fr]
theorem spec_l01Frac (a b : Int) (ha : in64 a ∧ in64 (-a)) (hb : in64 b ∧ in64 (-b)) (h0 : b ≠ 0) (h : AH) (n : Nat) :
    Q Tryd.prog 40 [.int .i64 a, .int .i64 b] h n (fr (red a b).1 (red a b).2) := by
  refine q_intro Tryd.func40 k_spec_l01Frac ?_
  have hg := gcd_bound (a := a) h0
  have hb' := hb
  have ha' := ha
  unfold in64 at ha' hb'
  simp (maxSteps := 2000000) -implicitDefEqProofs (disch := omega) only [c_spec_l01Frac, xsW, xsC, xsD, xsE, fillA, reduceCtorEq, Nat.reduceAdd, Nat.reduceSub, Nat.reduceLeDiff, Nat.reduceMul, Int.reduceLT, Int.reduceLE, Int.reduceEq, Int.reduceNe, Int.reduceAdd, Int.reduceSub, Int.reduceMul, Int.reduceNeg, Int.reduceToNat]
  (refine cd_dec (fun h1 => ?_) (fun h1 => ?_) <;> simp (maxSteps := 2000000) -implicitDefEqProofs (disch := omega) only [xsW, xsC, xsD, xsE, fillA, reduceCtorEq, Nat.reduceAdd, Nat.reduceSub, Nat.reduceLeDiff, Nat.reduceMul, Int.reduceLT, Int.reduceLE, Int.reduceEq, Int.reduceNe, Int.reduceAdd, Int.reduceSub, Int.reduceMul, Int.reduceNeg, Int.reduceToNat,  h1])
  · refine q_use (spec_l01Gcd _ _ (by unfold in64; omega) (by unfold in64; omega) _ _) fun n1 hn1 => ?_
    have e : (-a).gcd (-b) = a.gcd b := by simp
    rw [e]
    have k1 := tdiv_in (-a) (a.gcd b) (by unfold in64; omega)
    have k2 := tdiv_in (-b) (a.gcd b) (by unfold in64; omega)
    simp (maxSteps := 2000000) -implicitDefEqProofs (disch := omega) only [xsW, xsC, xsD, xsE, fillA, reduceCtorEq, Nat.reduceAdd, Nat.reduceSub, Nat.reduceLeDiff, Nat.reduceMul, Int.reduceLT, Int.reduceLE, Int.reduceEq, Int.reduceNe, Int.reduceAdd, Int.reduceSub, Int.reduceMul, Int.reduceNeg, Int.reduceToNat,  fr]
    rw [red_neg h1]
    simp only [Int.neg_tdiv, Int.tdiv_neg]
    exact ⟨trivial, trivial⟩
  · refine q_use (spec_l01Gcd _ _ ha hb _ _) fun n1 hn1 => ?_
    have k1 := tdiv_in a (a.gcd b) ha
    have k2 := tdiv_in b (a.gcd b) hb
    simp (maxSteps := 2000000) -implicitDefEqProofs (disch := omega) only [xsW, xsC, xsD, xsE, fillA, reduceCtorEq, Nat.reduceAdd, Nat.reduceSub, Nat.reduceLeDiff, Nat.reduceMul, Int.reduceLT, Int.reduceLE, Int.reduceEq, Int.reduceNe, Int.reduceAdd, Int.reduceSub, Int.reduceMul, Int.reduceNeg, Int.reduceToNat,  fr]
    rw [red_pos (by omega)]
    exact ⟨rfl, rfl⟩
def told (p : Int × Int) : AV := if isFr 1000000000 p.1 p.2 then .tup [fr p.1 p.2, .int .i64 0] else .tup [fr 0 0, .int .i64 3]
def fracOf (a b : Int) : AV := if b ≠ 0 ∧ (-1000000000000 ≤ a ∧ a ≤ 1000000000000) ∧ (-1000000000000 ≤ b ∧ b ≤ 1000000000000) then told (red a b) else .tup [fr 0 0, .int .i64 2]
theorem told_two (p : Int × Int) : ∃ x y c, told p = .tup [fr x y, .int .i64 c] := by unfold told; split <;> exact ⟨_, _, _, rfl⟩
theorem fracOf_two (a b : Int) : ∃ x y c, fracOf a b = .tup [fr x y, .int .i64 c] := by
  unfold fracOf; split
  · exact told_two _
  · exact ⟨_, _, _, rfl⟩
theorem impl_FracOf (a b : Int) (h : AH) (n : Nat) : Q Tryd.prog 23 [.int .i64 a, .int .i64 b] h n (fracOf a b) := by
  refine q_intro Tryd.func23 k_impl_FracOf ?_
  simp (maxSteps := 2000000) -implicitDefEqProofs (disch := omega) only [c_impl_FracOf, xsW, xsC, xsD, xsE, fillA, reduceCtorEq, Nat.reduceAdd, Nat.reduceSub, Nat.reduceLeDiff, Nat.reduceMul, Int.reduceLT, Int.reduceLE, Int.reduceEq, Int.reduceNe, Int.reduceAdd, Int.reduceSub, Int.reduceMul, Int.reduceNeg, Int.reduceToNat]
  (refine gd_dec (fun h1 => ?_) (fun h1 => ?_) <;> simp (maxSteps := 2000000) -implicitDefEqProofs (disch := omega) only [xsW, xsC, xsD, xsE, fillA, reduceCtorEq, Nat.reduceAdd, Nat.reduceSub, Nat.reduceLeDiff, Nat.reduceMul, Int.reduceLT, Int.reduceLE, Int.reduceEq, Int.reduceNe, Int.reduceAdd, Int.reduceSub, Int.reduceMul, Int.reduceNeg, Int.reduceToNat,  h1])
  · rw [fracOf, if_neg (by omega)]; rfl
  refine q_use (impl_upTo _ _ (by unfold in64; omega) _ _) fun n1 hn1 => ?_
  simp (maxSteps := 2000000) -implicitDefEqProofs (disch := omega) only [xsW, xsC, xsD, xsE, fillA, reduceCtorEq, Nat.reduceAdd, Nat.reduceSub, Nat.reduceLeDiff, Nat.reduceMul, Int.reduceLT, Int.reduceLE, Int.reduceEq, Int.reduceNe, Int.reduceAdd, Int.reduceSub, Int.reduceMul, Int.reduceNeg, Int.reduceToNat,  h1]
  (refine gd_dec (fun h2 => ?_) (fun h2 => ?_) <;> simp (maxSteps := 2000000) -implicitDefEqProofs (disch := omega) only [xsW, xsC, xsD, xsE, fillA, reduceCtorEq, Nat.reduceAdd, Nat.reduceSub, Nat.reduceLeDiff, Nat.reduceMul, Int.reduceLT, Int.reduceLE, Int.reduceEq, Int.reduceNe, Int.reduceAdd, Int.reduceSub, Int.reduceMul, Int.reduceNeg, Int.reduceToNat,  h2])
  · rw [fracOf, if_neg (by omega)]; rfl
  refine q_use (impl_upTo _ _ (by unfold in64; omega) _ _) fun n2 hn2 => ?_
  simp (maxSteps := 2000000) -implicitDefEqProofs (disch := omega) only [xsW, xsC, xsD, xsE, fillA, reduceCtorEq, Nat.reduceAdd, Nat.reduceSub, Nat.reduceLeDiff, Nat.reduceMul, Int.reduceLT, Int.reduceLE, Int.reduceEq, Int.reduceNe, Int.reduceAdd, Int.reduceSub, Int.reduceMul, Int.reduceNeg, Int.reduceToNat,  h1, h2]
  (refine cd_dec (fun h3 => ?_) (fun h3 => ?_) <;> simp (maxSteps := 2000000) -implicitDefEqProofs (disch := omega) only [xsW, xsC, xsD, xsE, fillA, reduceCtorEq, Nat.reduceAdd, Nat.reduceSub, Nat.reduceLeDiff, Nat.reduceMul, Int.reduceLT, Int.reduceLE, Int.reduceEq, Int.reduceNe, Int.reduceAdd, Int.reduceSub, Int.reduceMul, Int.reduceNeg, Int.reduceToNat,  h3])
  · rw [fracOf, if_neg (by omega)]; rfl
  refine q_use (impl_reduced _ _ (by unfold in64; omega) (by unfold in64; omega) h1 _ _) fun n3 hn3 => ?_
  rw [fracOf, if_pos ⟨h1, by omega, by omega⟩, ← told]
  obtain ⟨x, y, c, e⟩ := told_two (red a b)
  rw [e]
  simp (maxSteps := 2000000) -implicitDefEqProofs (disch := omega) only [xsW, xsC, xsD, xsE, fillA, reduceCtorEq, Nat.reduceAdd, Nat.reduceSub, Nat.reduceLeDiff, Nat.reduceMul, Int.reduceLT, Int.reduceLE, Int.reduceEq, Int.reduceNe, Int.reduceAdd, Int.reduceSub, Int.reduceMul, Int.reduceNeg, Int.reduceToNat,  fr]
theorem spec_FracOf (a b : Int) (h : AH) (n : Nat) : Q Tryd.prog 24 [.int .i64 a, .int .i64 b] h n (fracOf a b) := by
  refine q_intro Tryd.func24 k_spec_FracOf ?_
  simp (maxSteps := 2000000) -implicitDefEqProofs (disch := omega) only [c_spec_FracOf, xsW, xsC, xsD, xsE, fillA, reduceCtorEq, Nat.reduceAdd, Nat.reduceSub, Nat.reduceLeDiff, Nat.reduceMul, Int.reduceLT, Int.reduceLE, Int.reduceEq, Int.reduceNe, Int.reduceAdd, Int.reduceSub, Int.reduceMul, Int.reduceNeg, Int.reduceToNat]
  (refine gd_dec (fun h1 => ?_) (fun h1 => ?_) <;> simp (maxSteps := 2000000) -implicitDefEqProofs (disch := omega) only [xsW, xsC, xsD, xsE, fillA, reduceCtorEq, Nat.reduceAdd, Nat.reduceSub, Nat.reduceLeDiff, Nat.reduceMul, Int.reduceLT, Int.reduceLE, Int.reduceEq, Int.reduceNe, Int.reduceAdd, Int.reduceSub, Int.reduceMul, Int.reduceNeg, Int.reduceToNat,  h1])
  · rw [fracOf, if_neg (by omega)]; rfl
  refine q_use (spec_l01In _ _ _ _ _) fun n1 hn1 => ?_
  simp (maxSteps := 2000000) -implicitDefEqProofs (disch := omega) only [xsW, xsC, xsD, xsE, fillA, reduceCtorEq, Nat.reduceAdd, Nat.reduceSub, Nat.reduceLeDiff, Nat.reduceMul, Int.reduceLT, Int.reduceLE, Int.reduceEq, Int.reduceNe, Int.reduceAdd, Int.reduceSub, Int.reduceMul, Int.reduceNeg, Int.reduceToNat,  h1]
  (refine gd_dec (fun h2 => ?_) (fun h2 => ?_) <;> simp (maxSteps := 2000000) -implicitDefEqProofs (disch := omega) only [xsW, xsC, xsD, xsE, fillA, reduceCtorEq, Nat.reduceAdd, Nat.reduceSub, Nat.reduceLeDiff, Nat.reduceMul, Int.reduceLT, Int.reduceLE, Int.reduceEq, Int.reduceNe, Int.reduceAdd, Int.reduceSub, Int.reduceMul, Int.reduceNeg, Int.reduceToNat,  h2])
  · rw [fracOf, if_neg (by omega)]; rfl
  refine q_use (spec_l01In _ _ _ _ _) fun n2 hn2 => ?_
  simp (maxSteps := 2000000) -implicitDefEqProofs (disch := omega) only [xsW, xsC, xsD, xsE, fillA, reduceCtorEq, Nat.reduceAdd, Nat.reduceSub, Nat.reduceLeDiff, Nat.reduceMul, Int.reduceLT, Int.reduceLE, Int.reduceEq, Int.reduceNe, Int.reduceAdd, Int.reduceSub, Int.reduceMul, Int.reduceNeg, Int.reduceToNat,  h1, h2]
  (refine cd_dec (fun h3 => ?_) (fun h3 => ?_) <;> simp (maxSteps := 2000000) -implicitDefEqProofs (disch := omega) only [xsW, xsC, xsD, xsE, fillA, reduceCtorEq, Nat.reduceAdd, Nat.reduceSub, Nat.reduceLeDiff, Nat.reduceMul, Int.reduceLT, Int.reduceLE, Int.reduceEq, Int.reduceNe, Int.reduceAdd, Int.reduceSub, Int.reduceMul, Int.reduceNeg, Int.reduceToNat,  h3])
  · rw [fracOf, if_neg (by omega)]; rfl
  refine q_use (spec_l01Frac _ _ (by unfold in64; omega) (by unfold in64; omega) h1 _ _) fun n3 hn3 => ?_
  simp (maxSteps := 2000000) -implicitDefEqProofs (disch := omega) only [xsW, xsC, xsD, xsE, fillA, reduceCtorEq, Nat.reduceAdd, Nat.reduceSub, Nat.reduceLeDiff, Nat.reduceMul, Int.reduceLT, Int.reduceLE, Int.reduceEq, Int.reduceNe, Int.reduceAdd, Int.reduceSub, Int.reduceMul, Int.reduceNeg, Int.reduceToNat]
  refine q_use (spec_l01Told _ _ _ _) fun n4 hn4 => ?_
  rw [fracOf, if_pos ⟨h1, by omega, by omega⟩, ← told]
  obtain ⟨x, y, c, e⟩ := told_two (red a b)
  rw [e]
  simp (maxSteps := 2000000) -implicitDefEqProofs (disch := omega) only [xsW, xsC, xsD, xsE, fillA, reduceCtorEq, Nat.reduceAdd, Nat.reduceSub, Nat.reduceLeDiff, Nat.reduceMul, Int.reduceLT, Int.reduceLE, Int.reduceEq, Int.reduceNe, Int.reduceAdd, Int.reduceSub, Int.reduceMul, Int.reduceNeg, Int.reduceToNat,  fr]

def c_slices_IndexFunc_Simpl_Frac_impl_Frac : F := ⟨(.seq (.reg false [⟨some 4, .mv (.c (.int .i64 0)), none⟩]) (.seq (.seq (.reg false [⟨some 6, .mv (.t 0), none⟩, ⟨some 7, .len (.t 6), none⟩, ⟨some 8, .mv (.c (.int .i64 0)), none⟩]) (.block 0 (.loop (.seq (.reg false [⟨some 9, .bin .lss (.t 8) (.t 7), none⟩]) (.seq (.cond (.t 9) .skip (.exit 0)) (.seq (.block 1 (.seq (.reg false [⟨some 10, .mv (.t 8), none⟩, ⟨some 5, .mv (.t 10), none⟩]) (.seq (.reg false [⟨some 11, .mv (.t 1), none⟩, ⟨some 12, .mv (.t 0), none⟩, ⟨some 13, .mv (.t 5), none⟩, ⟨some 14, .ia 2 (.t 12) (.t 13), none⟩, ⟨some 15, .ld 2 (.t 14), none⟩, ⟨some 16, .call (.t 11) [(.t 15)], none⟩]) (.cond (.t 16) (.seq (.reg false [⟨some 17, .mv (.t 5), none⟩, ⟨some 4, .mv (.t 17), none⟩]) .ret) .skip)))) (.reg false [⟨some 18, .bin .add (.t 8) (.c (.int .i64 1)), none⟩, ⟨some 8, .mv (.t 18), none⟩]))))))) (.seq (.reg false [⟨some 4, .mv (.c (.int .i64 (-1))), none⟩]) .ret))), 19, [(.t 4)]⟩
theorem k_slices_IndexFunc_Simpl_Frac_impl_Frac : compF Tryd.prog Tryd.f92 = some c_slices_IndexFunc_Simpl_Frac_impl_Frac := by kernel_rfl
def c_slices_ContainsFunc_Simpl_Frac_impl_Frac : F := ⟨(.seq (.reg false [⟨some 4, .mv (.c (.bool false)), none⟩]) (.seq (.reg false [⟨some 5, .mv (.t 0), none⟩, ⟨some 6, .mv (.t 1), none⟩, ⟨some 7, .call (.f 92) [(.t 5), (.t 6)], none⟩, ⟨some 8, .bin .geq (.t 7) (.c (.int .i64 0)), none⟩, ⟨some 4, .mv (.t 8), none⟩]) .ret)), 9, [(.t 4)]⟩
theorem k_slices_ContainsFunc_Simpl_Frac_impl_Frac : compF Tryd.prog Tryd.f77 = some c_slices_ContainsFunc_Simpl_Frac_impl_Frac := by kernel_rfl
theorem idx_fracs {w : Bool} {lo hi : Nat} {h : AH} {v : AV} {cs : List AV} (s : Sl w lo hi h 2 v cs) (hl : slen v ≤ 4611686018427387904) (g : Nat) (ds : List AV) (p : Nat → Bool) (n : Nat)
    (hp : ∀ k n', k < slen v → n ≤ n' → Q Tryd.prog g (.agg (cutA cs (k * 2) 2) :: ds) h n' (.bool (p k))) :
    ∃ r : Int, (r = -1 ∧ (∀ k, k < slen v → p k = false) ∨ ∃ k : Nat, r = k ∧ k < slen v ∧ p k = true ∧ ∀ j, j < k → p j = false) ∧ Q Tryd.prog 92 [v, .fn g ds] h n (.int .i64 r) := by
  suffices hx : ∃ x, (∃ r : Int, x = .int .i64 r ∧ (r = -1 ∧ (∀ k, k < slen v → p k = false) ∨ ∃ k : Nat, r = k ∧ k < slen v ∧ p k = true ∧ ∀ j, j < k → p j = false)) ∧ Q Tryd.prog 92 [v, .fn g ds] h n x by
    obtain ⟨_, ⟨r, rfl, hr⟩, hq⟩ := hx
    exact ⟨r, hr, hq⟩
  refine eq_intro Tryd.func92 k_slices_IndexFunc_Simpl_Frac_impl_Frac ?_
  have hlen := s.len
  simp (maxSteps := 2000000) -implicitDefEqProofs (disch := omega) only [c_slices_IndexFunc_Simpl_Frac_impl_Frac, s.ln, xsW, xsC, xsD, xsE, fillA, reduceCtorEq, Nat.reduceAdd, Nat.reduceSub, Nat.reduceLeDiff, Nat.reduceMul, Int.reduceLT, Int.reduceLE, Int.reduceEq, Int.reduceNe, Int.reduceAdd, Int.reduceSub, Int.reduceMul, Int.reduceNeg, Int.reduceToNat]
  refine loop_for (slen v) 0 (fun k (_ : Unit) => [v, .fn g ds, .any, .any, .int .i64 0, .any, .any, .int .i64 (slen v), .int .i64 k, .any, .any, .any, .any, .any, .any, .any, .any, .any, .any]) (fun k _ => h)
    (fun k _ _ => ∀ j, j < k → p j = false) () (Nat.zero_le _) (fun j hj => absurd hj (Nat.not_lt_zero _)) (by simp [LeL, Le1]) (fun _ _ h => h) ?_
  rintro k - n1 - hk hn1 he
  simp (maxSteps := 2000000) -implicitDefEqProofs (disch := omega) only [xsW, xsC, xsD, xsE, fillA, reduceCtorEq, Nat.reduceAdd, Nat.reduceSub, Nat.reduceLeDiff, Nat.reduceMul, Int.reduceLT, Int.reduceLE, Int.reduceEq, Int.reduceNe, Int.reduceAdd, Int.reduceSub, Int.reduceMul, Int.reduceNeg, Int.reduceToNat]
  (refine cd_dec (fun h1 => ?_) (fun h1 => ?_) <;> simp (maxSteps := 2000000) -implicitDefEqProofs (disch := omega) only [xsW, xsC, xsD, xsE, fillA, reduceCtorEq, Nat.reduceAdd, Nat.reduceSub, Nat.reduceLeDiff, Nat.reduceMul, Int.reduceLT, Int.reduceLE, Int.reduceEq, Int.reduceNe, Int.reduceAdd, Int.reduceSub, Int.reduceMul, Int.reduceNeg, Int.reduceToNat,  h1])
  · have hk' : k < slen v := by omega
    simp (maxSteps := 2000000) -implicitDefEqProofs (disch := omega) only [xsW, xsC, xsD, xsE, fillA, reduceCtorEq, Nat.reduceAdd, Nat.reduceSub, Nat.reduceLeDiff, Nat.reduceMul, Int.reduceLT, Int.reduceLE, Int.reduceEq, Int.reduceNe, Int.reduceAdd, Int.reduceSub, Int.reduceMul, Int.reduceNeg, Int.reduceToNat,  s.ia, s.ld2]
    refine q_use (hp k n1 hk' hn1) fun n2 hn2 => ?_
    simp (maxSteps := 2000000) -implicitDefEqProofs (disch := omega) only [xsW, xsC, xsD, xsE, fillA, reduceCtorEq, Nat.reduceAdd, Nat.reduceSub, Nat.reduceLeDiff, Nat.reduceMul, Int.reduceLT, Int.reduceLE, Int.reduceEq, Int.reduceNe, Int.reduceAdd, Int.reduceSub, Int.reduceMul, Int.reduceNeg, Int.reduceToNat]
    cases hpk : p k
    · simp (maxSteps := 2000000) -implicitDefEqProofs (disch := omega) only [xsW, xsC, xsD, xsE, fillA, reduceCtorEq, Nat.reduceAdd, Nat.reduceSub, Nat.reduceLeDiff, Nat.reduceMul, Int.reduceLT, Int.reduceLE, Int.reduceEq, Int.reduceNe, Int.reduceAdd, Int.reduceSub, Int.reduceMul, Int.reduceNeg, Int.reduceToNat]
      exact ⟨(), fun j hj => (Nat.lt_succ_iff_lt_or_eq.1 hj).elim (he j) (fun e => by rw [e, hpk]), by omega, by omega, (by simp [LeL, Le1])⟩
    · simp (maxSteps := 2000000) -implicitDefEqProofs (disch := omega) only [xsW, xsC, xsD, xsE, fillA, reduceCtorEq, Nat.reduceAdd, Nat.reduceSub, Nat.reduceLeDiff, Nat.reduceMul, Int.reduceLT, Int.reduceLE, Int.reduceEq, Int.reduceNe, Int.reduceAdd, Int.reduceSub, Int.reduceMul, Int.reduceNeg, Int.reduceToNat]
      exact ⟨k, rfl, .inr ⟨k, rfl, hk', hpk, he⟩⟩
  · exact ⟨-1, rfl, .inl ⟨rfl, fun j hj => he j (by omega)⟩⟩
theorem has_fracs {w : Bool} {lo hi : Nat} {h : AH} {v : AV} {cs : List AV} (s : Sl w lo hi h 2 v cs) (hl : slen v ≤ 4611686018427387904) (g : Nat) (ds : List AV) (p : Nat → Bool) (n : Nat)
    (hp : ∀ k n', k < slen v → n ≤ n' → Q Tryd.prog g (.agg (cutA cs (k * 2) 2) :: ds) h n' (.bool (p k))) :
    Q Tryd.prog 77 [v, .fn g ds] h n (.bool ((List.range (slen v)).any p)) := by
  obtain ⟨r, hr, hq⟩ := idx_fracs s hl g ds p n hp
  refine q_intro Tryd.func77 k_slices_ContainsFunc_Simpl_Frac_impl_Frac ?_
  simp (maxSteps := 2000000) -implicitDefEqProofs (disch := omega) only [c_slices_ContainsFunc_Simpl_Frac_impl_Frac, xsW, xsC, xsD, xsE, fillA, reduceCtorEq, Nat.reduceAdd, Nat.reduceSub, Nat.reduceLeDiff, Nat.reduceMul, Int.reduceLT, Int.reduceLE, Int.reduceEq, Int.reduceNe, Int.reduceAdd, Int.reduceSub, Int.reduceMul, Int.reduceNeg, Int.reduceToNat]
  refine q_use hq fun n1 hn1 => ?_
  simp (maxSteps := 2000000) -implicitDefEqProofs (disch := omega) only [xsW, xsC, xsD, xsE, fillA, reduceCtorEq, Nat.reduceAdd, Nat.reduceSub, Nat.reduceLeDiff, Nat.reduceMul, Int.reduceLT, Int.reduceLE, Int.reduceEq, Int.reduceNe, Int.reduceAdd, Int.reduceSub, Int.reduceMul, Int.reduceNeg, Int.reduceToNat]
  rcases hr with ⟨rfl, hr⟩ | ⟨k, rfl, hk, hpk, _⟩
  · rw [Bool.eq_iff_iff]; simp; exact hr
  · rw [Bool.eq_iff_iff]; simp; exact ⟨k, hk, hpk⟩

def c_impl_areFracs : F := ⟨(.seq (.reg false [⟨some 2, .mv (.c (.bool false)), none⟩]) (.seq (.reg false [⟨some 3, .mv (.t 0), none⟩, ⟨some 4, .call (.f 77) [(.t 3), (.f 78)], none⟩, ⟨some 5, .un .not (.t 4), none⟩, ⟨some 2, .mv (.t 5), none⟩]) .ret)), 6, [(.t 2)]⟩
theorem k_impl_areFracs : compF Tryd.prog Tryd.f43 = some c_impl_areFracs := by kernel_rfl
def c_impl_areFracs_1 : F := ⟨(.seq (.reg false [⟨some 1, .box 26 (.t 0), none⟩, ⟨some 2, .mv (.c (.bool false)), none⟩]) (.seq (.reg false [⟨some 3, .ld 2 (.t 1), none⟩, ⟨some 4, .call (.f 14) [(.t 3)], none⟩, ⟨some 5, .un .not (.t 4), none⟩, ⟨some 2, .mv (.t 5), none⟩]) .ret)), 6, [(.t 2)]⟩
theorem k_impl_areFracs_1 : compF Tryd.prog Tryd.f78 = some c_impl_areFracs_1 := by kernel_rfl

theorem impl_areFracs1 (a b : Int) (h : AH) (n : Nat) : Q Tryd.prog 78 [fr a b] h n (.bool (!isFr 1000000000 a b)) := by
  refine q_intro Tryd.func78 k_impl_areFracs_1 ?_
  simp (maxSteps := 2000000) -implicitDefEqProofs (disch := omega) only [c_impl_areFracs_1, fr, xsW, xsC, xsD, xsE, fillA, reduceCtorEq, Nat.reduceAdd, Nat.reduceSub, Nat.reduceLeDiff, Nat.reduceMul, Int.reduceLT, Int.reduceLE, Int.reduceEq, Int.reduceNe, Int.reduceAdd, Int.reduceSub, Int.reduceMul, Int.reduceNeg, Int.reduceToNat]
  refine q_use (impl_IsFrac _ _ _ _) fun n1 hn1 => ?_
  simp (maxSteps := 2000000) -implicitDefEqProofs (disch := omega) only [xsW, xsC, xsD, xsE, fillA, reduceCtorEq, Nat.reduceAdd, Nat.reduceSub, Nat.reduceLeDiff, Nat.reduceMul, Int.reduceLT, Int.reduceLE, Int.reduceEq, Int.reduceNe, Int.reduceAdd, Int.reduceSub, Int.reduceMul, Int.reduceNeg, Int.reduceToNat]
theorem impl_areFracs {w : Bool} {lo hi : Nat} {h : AH} {v : AV} {l : List (Int × Int)} (s : Sl w lo hi h 2 v (fracs l)) (hl : l.length ≤ 1048576) (n : Nat) :
    Q Tryd.prog 43 [v] h n (.bool (l.all fun p => isFr 1000000000 p.1 p.2)) := by
  have hs : slen v = l.length := by have := s.len; rw [fracs_len] at this; omega
  refine q_intro Tryd.func43 k_impl_areFracs ?_
  simp (maxSteps := 2000000) -implicitDefEqProofs (disch := omega) only [c_impl_areFracs, xsW, xsC, xsD, xsE, fillA, reduceCtorEq, Nat.reduceAdd, Nat.reduceSub, Nat.reduceLeDiff, Nat.reduceMul, Int.reduceLT, Int.reduceLE, Int.reduceEq, Int.reduceNe, Int.reduceAdd, Int.reduceSub, Int.reduceMul, Int.reduceNeg, Int.reduceToNat]
  refine q_use (has_fracs s (by omega) _ _ (fun k => !isFr 1000000000 (l.getD k (0, 0)).1 (l.getD k (0, 0)).2) _ fun k n' hk _ => ?_) fun n1 hn1 => ?_
  · rw [fracs_cut l k (by omega)]; exact impl_areFracs1 _ _ _ _
  · simp (maxSteps := 2000000) -implicitDefEqProofs (disch := omega) only [xsW, xsC, xsD, xsE, fillA, reduceCtorEq, Nat.reduceAdd, Nat.reduceSub, Nat.reduceLeDiff, Nat.reduceMul, Int.reduceLT, Int.reduceLE, Int.reduceEq, Int.reduceNe, Int.reduceAdd, Int.reduceSub, Int.reduceMul, Int.reduceNeg, Int.reduceToNat]
    rw [hs, Bool.eq_iff_iff]
    simp only [Bool.not_eq_true', List.any_eq_false, List.mem_range, List.all_eq_true]
    constructor
    · intro hx p hp
      obtain ⟨k, hk, rfl⟩ := List.mem_iff_getElem.1 hp
      simpa [List.getD, hk] using hx k hk
    · intro hx k hk
      have := hx _ (getD_mem (d := (0, 0)) hk)
      simpa using this
theorem mulb {a b : Int} (ha : -1000000000 ≤ a ∧ a ≤ 1000000000) (hb : -1000000000 ≤ b ∧ b ≤ 1000000000) : -1000000000000000000 ≤ a * b ∧ a * b ≤ 1000000000000000000 := by
  have h1 : a.natAbs ≤ 1000000000 := by omega
  have h2 : b.natAbs ≤ 1000000000 := by omega
  have h3 := Nat.mul_le_mul h1 h2
  rw [← Int.natAbs_mul] at h3
  omega
theorem isFr_b {a b : Int} (h : isFr 1000000000 a b = true) : (-1000000000 ≤ a ∧ a ≤ 1000000000) ∧ (1 ≤ b ∧ b ≤ 1000000000) := by
  simp only [isFr, decide_eq_true_eq] at h; omega
def c_impl_Frac_compare : F := ⟨(.seq (.reg false [⟨some 2, .box 26 (.t 0), none⟩, ⟨some 3, .box 26 (.t 1), none⟩, ⟨some 4, .mv (.c (.int .i64 0)), none⟩]) (.seq (.reg false [⟨some 5, .fa 0 (.t 2), none⟩, ⟨some 6, .ld1 (.t 5), none⟩, ⟨some 7, .fa 1 (.t 3), none⟩, ⟨some 8, .ld1 (.t 7), none⟩, ⟨some 9, .bin .mul (.t 6) (.t 8), none⟩, ⟨some 10, .fa 0 (.t 3), none⟩, ⟨some 11, .ld1 (.t 10), none⟩, ⟨some 12, .fa 1 (.t 2), none⟩, ⟨some 13, .ld1 (.t 12), none⟩, ⟨some 14, .bin .mul (.t 11) (.t 13), none⟩, ⟨some 15, .bin .sub (.t 9) (.t 14), none⟩, ⟨some 16, .call (.f 80) [(.t 15)], none⟩, ⟨some 4, .mv (.t 16), none⟩]) .ret)), 17, [(.t 4)]⟩
theorem k_impl_Frac_compare : compF Tryd.prog Tryd.f51 = some c_impl_Frac_compare := by kernel_rfl
def c_impl_CompareFracs : F := ⟨(.seq (.reg false [⟨some 2, .box 26 (.t 0), none⟩, ⟨some 3, .box 26 (.t 1), none⟩, ⟨some 4, .mv (.c (.int .i64 0)), none⟩, ⟨some 5, .mv (.c (.int .i64 0)), none⟩]) (.seq (.seq (.reg false [⟨some 6, .ld 2 (.t 2), none⟩, ⟨some 7, .ld 2 (.t 3), none⟩, ⟨some 8, .lit 26 2 2 [(.int .i64 0), (.int .i64 0)] [(0, (.t 6)), (1, (.t 7))], none⟩, ⟨some 9, .call (.f 43) [(.t 8)], none⟩, ⟨some 10, .un .not (.t 9), none⟩]) (.cond (.t 10) (.seq (.reg false [⟨some 4, .mv (.c (.int .i64 0)), none⟩, ⟨some 5, .mv (.c (.int .i64 1)), none⟩]) .ret) .skip)) (.seq (.reg false [⟨some 11, .ld 2 (.t 2), none⟩, ⟨some 12, .ld 2 (.t 3), none⟩, ⟨some 13, .call (.f 51) [(.t 11), (.t 12)], none⟩, ⟨some 4, .mv (.t 13), none⟩, ⟨some 5, .mv (.c (.int .i64 0)), none⟩]) .ret))), 14, [(.t 4), (.t 5)]⟩
theorem k_impl_CompareFracs : compF Tryd.prog Tryd.f16 = some c_impl_CompareFracs := by kernel_rfl
def c_impl_AddFracs : F := ⟨(.seq (.reg false [⟨some 3, .box 26 (.t 0), none⟩, ⟨some 4, .box 26 (.t 1), none⟩, ⟨some 6, .alloc 26 [(.int .i64 0), (.int .i64 0)], none⟩, ⟨some 7, .mv (.c (.int .i64 0)), none⟩]) (.seq (.seq (.reg false [⟨some 8, .ld 2 (.t 3), none⟩, ⟨some 9, .ld 2 (.t 4), none⟩, ⟨some 10, .lit 26 2 2 [(.int .i64 0), (.int .i64 0)] [(0, (.t 8)), (1, (.t 9))], none⟩, ⟨some 11, .call (.f 43) [(.t 10)], none⟩, ⟨some 12, .un .not (.t 11), none⟩]) (.cond (.t 12) (.seq (.reg false [⟨some 13, .build [(.int .i64 0), (.int .i64 0)] [], none⟩, ⟨none, .st 2 (.t 6) (.t 13), none⟩, ⟨some 7, .mv (.c (.int .i64 1)), none⟩]) .ret) .skip)) (.seq (.seq (.reg false [⟨some 14, .mv (.t 2), none⟩, ⟨some 15, .bin .neq (.t 14) (.c (.int .i64 1)), none⟩, ⟨some 16, .mv (.t 15), none⟩, ⟨some 17, .mv (.t 2), some (16, true)⟩, ⟨some 18, .bin .neq (.t 17) (.c (.int .i64 (-1))), some (16, true)⟩, ⟨some 19, .pick (.t 16) (.t 18) (.c (.bool false)), none⟩]) (.cond (.t 19) (.seq (.reg false [⟨some 20, .build [(.int .i64 0), (.int .i64 0)] [], none⟩, ⟨none, .st 2 (.t 6) (.t 20), none⟩, ⟨some 7, .mv (.c (.int .i64 2)), none⟩]) .ret) .skip)) (.seq (.reg false [⟨some 21, .fa 0 (.t 3), none⟩, ⟨some 22, .ld1 (.t 21), none⟩, ⟨some 23, .fa 1 (.t 4), none⟩, ⟨some 24, .ld1 (.t 23), none⟩, ⟨some 25, .bin .mul (.t 22) (.t 24), none⟩, ⟨some 26, .mv (.t 2), none⟩, ⟨some 27, .fa 0 (.t 4), none⟩, ⟨some 28, .ld1 (.t 27), none⟩, ⟨some 29, .bin .mul (.t 26) (.t 28), none⟩, ⟨some 30, .fa 1 (.t 3), none⟩, ⟨some 31, .ld1 (.t 30), none⟩, ⟨some 32, .bin .mul (.t 29) (.t 31), none⟩, ⟨some 33, .bin .add (.t 25) (.t 32), none⟩, ⟨some 34, .fa 1 (.t 3), none⟩, ⟨some 35, .ld1 (.t 34), none⟩, ⟨some 36, .fa 1 (.t 4), none⟩, ⟨some 37, .ld1 (.t 36), none⟩, ⟨some 38, .bin .mul (.t 35) (.t 37), none⟩, ⟨some 39, .call (.f 44) [(.t 33), (.t 38)], none⟩, ⟨some 40, .ext (.t 39) 0, none⟩, ⟨some 41, .ext (.t 39) 1, none⟩, ⟨none, .st 2 (.t 6) (.t 40), none⟩, ⟨some 7, .mv (.t 41), none⟩]) .ret)))), 42, [(.ca 6 2), (.t 7)]⟩
theorem k_impl_AddFracs : compF Tryd.prog Tryd.f12 = some c_impl_AddFracs := by kernel_rfl
def c_impl_MultiplyFracs : F := ⟨(.seq (.reg false [⟨some 2, .box 26 (.t 0), none⟩, ⟨some 3, .box 26 (.t 1), none⟩, ⟨some 4, .alloc 26 [(.int .i64 0), (.int .i64 0)], none⟩, ⟨some 5, .mv (.c (.int .i64 0)), none⟩]) (.seq (.seq (.reg false [⟨some 6, .ld 2 (.t 2), none⟩, ⟨some 7, .ld 2 (.t 3), none⟩, ⟨some 8, .lit 26 2 2 [(.int .i64 0), (.int .i64 0)] [(0, (.t 6)), (1, (.t 7))], none⟩, ⟨some 9, .call (.f 43) [(.t 8)], none⟩, ⟨some 10, .un .not (.t 9), none⟩]) (.cond (.t 10) (.seq (.reg false [⟨some 11, .build [(.int .i64 0), (.int .i64 0)] [], none⟩, ⟨none, .st 2 (.t 4) (.t 11), none⟩, ⟨some 5, .mv (.c (.int .i64 1)), none⟩]) .ret) .skip)) (.seq (.reg false [⟨some 12, .fa 0 (.t 2), none⟩, ⟨some 13, .ld1 (.t 12), none⟩, ⟨some 14, .fa 0 (.t 3), none⟩, ⟨some 15, .ld1 (.t 14), none⟩, ⟨some 16, .bin .mul (.t 13) (.t 15), none⟩, ⟨some 17, .fa 1 (.t 2), none⟩, ⟨some 18, .ld1 (.t 17), none⟩, ⟨some 19, .fa 1 (.t 3), none⟩, ⟨some 20, .ld1 (.t 19), none⟩, ⟨some 21, .bin .mul (.t 18) (.t 20), none⟩, ⟨some 22, .call (.f 44) [(.t 16), (.t 21)], none⟩, ⟨some 23, .ext (.t 22) 0, none⟩, ⟨some 24, .ext (.t 22) 1, none⟩, ⟨none, .st 2 (.t 4) (.t 23), none⟩, ⟨some 5, .mv (.t 24), none⟩]) .ret))), 25, [(.ca 4 2), (.t 5)]⟩
theorem k_impl_MultiplyFracs : compF Tryd.prog Tryd.f18 = some c_impl_MultiplyFracs := by kernel_rfl
def c_spec_CompareFracs : F := ⟨(.seq (.reg false [⟨some 2, .box 26 (.t 0), none⟩, ⟨some 3, .box 26 (.t 1), none⟩, ⟨some 4, .mv (.c (.int .i64 0)), none⟩, ⟨some 5, .mv (.c (.int .i64 0)), none⟩]) (.seq (.block 0 (.seq (.reg false [⟨some 7, .ld 2 (.t 2), none⟩, ⟨some 8, .call (.f 15) [(.t 7)], none⟩, ⟨some 9, .un .not (.t 8), none⟩, ⟨some 10, .mv (.t 9), none⟩, ⟨some 11, .ld 2 (.t 3), some (10, false)⟩, ⟨some 12, .call (.f 15) [(.t 11)], some (10, false)⟩, ⟨some 13, .un .not (.t 12), some (10, false)⟩, ⟨some 14, .pick (.t 10) (.c (.bool true)) (.t 13), none⟩, ⟨some 6, .mv (.t 14), none⟩]) (.cond (.t 6) (.seq (.reg false [⟨some 4, .mv (.c (.int .i64 0)), none⟩, ⟨some 5, .mv (.c (.int .i64 1)), none⟩]) .ret) (.seq (.reg false [⟨some 16, .ld 2 (.t 2), none⟩, ⟨some 17, .ld 2 (.t 3), none⟩, ⟨some 18, .call (.f 53) [(.t 16), (.t 17)], none⟩, ⟨some 15, .mv (.t 18), none⟩]) (.cond (.t 15) (.seq (.reg false [⟨some 4, .mv (.c (.int .i64 (-1))), none⟩, ⟨some 5, .mv (.c (.int .i64 0)), none⟩]) .ret) (.seq (.reg false [⟨some 20, .ld 2 (.t 3), none⟩, ⟨some 21, .ld 2 (.t 2), none⟩, ⟨some 22, .call (.f 53) [(.t 20), (.t 21)], none⟩, ⟨some 19, .mv (.t 22), none⟩]) (.cond (.t 19) (.seq (.reg false [⟨some 4, .mv (.c (.int .i64 1)), none⟩, ⟨some 5, .mv (.c (.int .i64 0)), none⟩]) .ret) .skip))))))) (.seq (.reg false [⟨some 4, .mv (.c (.int .i64 0)), none⟩, ⟨some 5, .mv (.c (.int .i64 0)), none⟩]) .ret))), 23, [(.t 4), (.t 5)]⟩
theorem k_spec_CompareFracs : compF Tryd.prog Tryd.f21 = some c_spec_CompareFracs := by kernel_rfl
def c_spec_AddFracs : F := ⟨(.seq (.reg false [⟨some 3, .box 26 (.t 0), none⟩, ⟨some 4, .box 26 (.t 1), none⟩, ⟨some 6, .alloc 26 [(.int .i64 0), (.int .i64 0)], none⟩, ⟨some 7, .mv (.c (.int .i64 0)), none⟩]) (.seq (.block 0 (.seq (.reg false [⟨some 11, .ld 2 (.t 3), none⟩, ⟨some 12, .call (.f 15) [(.t 11)], none⟩, ⟨some 13, .un .not (.t 12), none⟩, ⟨some 14, .mv (.t 13), none⟩, ⟨some 15, .ld 2 (.t 4), some (14, false)⟩, ⟨some 16, .call (.f 15) [(.t 15)], some (14, false)⟩, ⟨some 17, .un .not (.t 16), some (14, false)⟩, ⟨some 18, .pick (.t 14) (.c (.bool true)) (.t 17), none⟩, ⟨some 10, .mv (.t 18), none⟩]) (.cond (.t 10) (.seq (.reg false [⟨some 19, .build [(.int .i64 0), (.int .i64 0)] [], none⟩, ⟨none, .st 2 (.t 6) (.t 19), none⟩, ⟨some 7, .mv (.c (.int .i64 1)), none⟩]) .ret) (.seq (.reg false [⟨some 21, .mv (.t 2), none⟩, ⟨some 22, .bin .neq (.t 21) (.c (.int .i64 1)), none⟩, ⟨some 23, .mv (.t 22), none⟩, ⟨some 24, .mv (.t 2), some (23, true)⟩, ⟨some 25, .bin .neq (.t 24) (.c (.int .i64 (-1))), some (23, true)⟩, ⟨some 26, .pick (.t 23) (.t 25) (.c (.bool false)), none⟩, ⟨some 20, .mv (.t 26), none⟩]) (.cond (.t 20) (.seq (.reg false [⟨some 27, .build [(.int .i64 0), (.int .i64 0)] [], none⟩, ⟨none, .st 2 (.t 6) (.t 27), none⟩, ⟨some 7, .mv (.c (.int .i64 2)), none⟩]) .ret) .skip))))) (.seq (.reg false [⟨some 29, .ld 2 (.t 3), none⟩, ⟨some 30, .mv (.t 2), none⟩, ⟨some 31, .fa 0 (.t 4), none⟩, ⟨some 32, .ld1 (.t 31), none⟩, ⟨some 33, .bin .mul (.t 30) (.t 32), none⟩, ⟨some 34, .fa 1 (.t 4), none⟩, ⟨some 35, .ld1 (.t 34), none⟩, ⟨some 36, .build [(.int .i64 0), (.int .i64 0)] [(0, (1, (.t 33))), (1, (1, (.t 35)))], none⟩, ⟨some 37, .call (.f 46) [(.t 29), (.t 36)], none⟩, ⟨some 38, .call (.f 45) [(.t 37)], none⟩, ⟨some 28, .mv (.t 38), none⟩, ⟨some 39, .ext (.t 28) 0, none⟩, ⟨some 40, .ext (.t 28) 1, none⟩, ⟨some 8, .alloc 26 [(.int .i64 0), (.int .i64 0)], none⟩, ⟨none, .st 2 (.t 8) (.t 39), none⟩, ⟨some 9, .mv (.t 40), none⟩]) (.seq (.reg false [⟨some 41, .ld 2 (.t 8), none⟩, ⟨some 42, .mv (.t 9), none⟩, ⟨none, .st 2 (.t 6) (.t 41), none⟩, ⟨some 7, .mv (.t 42), none⟩]) .ret)))), 43, [(.ca 6 2), (.t 7)]⟩
theorem k_spec_AddFracs : compF Tryd.prog Tryd.f13 = some c_spec_AddFracs := by kernel_rfl
def c_spec_MultiplyFracs : F := ⟨(.seq (.reg false [⟨some 2, .box 26 (.t 0), none⟩, ⟨some 3, .box 26 (.t 1), none⟩, ⟨some 4, .alloc 26 [(.int .i64 0), (.int .i64 0)], none⟩, ⟨some 5, .mv (.c (.int .i64 0)), none⟩]) (.seq (.seq (.reg false [⟨some 8, .ld 2 (.t 2), none⟩, ⟨some 9, .call (.f 15) [(.t 8)], none⟩, ⟨some 10, .un .not (.t 9), none⟩, ⟨some 11, .mv (.t 10), none⟩, ⟨some 12, .ld 2 (.t 3), some (11, false)⟩, ⟨some 13, .call (.f 15) [(.t 12)], some (11, false)⟩, ⟨some 14, .un .not (.t 13), some (11, false)⟩, ⟨some 15, .pick (.t 11) (.c (.bool true)) (.t 14), none⟩]) (.cond (.t 15) (.seq (.reg false [⟨some 16, .build [(.int .i64 0), (.int .i64 0)] [], none⟩, ⟨none, .st 2 (.t 4) (.t 16), none⟩, ⟨some 5, .mv (.c (.int .i64 1)), none⟩]) .ret) .skip)) (.seq (.reg false [⟨some 18, .ld 2 (.t 2), none⟩, ⟨some 19, .ld 2 (.t 3), none⟩, ⟨some 20, .call (.f 52) [(.t 18), (.t 19)], none⟩, ⟨some 21, .call (.f 45) [(.t 20)], none⟩, ⟨some 17, .mv (.t 21), none⟩, ⟨some 22, .ext (.t 17) 0, none⟩, ⟨some 23, .ext (.t 17) 1, none⟩, ⟨some 6, .alloc 26 [(.int .i64 0), (.int .i64 0)], none⟩, ⟨none, .st 2 (.t 6) (.t 22), none⟩, ⟨some 7, .mv (.t 23), none⟩]) (.seq (.reg false [⟨some 24, .ld 2 (.t 6), none⟩, ⟨some 25, .mv (.t 7), none⟩, ⟨none, .st 2 (.t 4) (.t 24), none⟩, ⟨some 5, .mv (.t 25), none⟩]) .ret)))), 26, [(.ca 4 2), (.t 5)]⟩
theorem k_spec_MultiplyFracs : compF Tryd.prog Tryd.f19 = some c_spec_MultiplyFracs := by kernel_rfl
def c_spec_l01Less : F := ⟨(.seq (.reg false [⟨some 2, .box 26 (.t 0), none⟩, ⟨some 3, .box 26 (.t 1), none⟩, ⟨some 4, .mv (.c (.bool false)), none⟩]) (.seq (.reg false [⟨some 5, .fa 0 (.t 2), none⟩, ⟨some 6, .ld1 (.t 5), none⟩, ⟨some 7, .fa 1 (.t 3), none⟩, ⟨some 8, .ld1 (.t 7), none⟩, ⟨some 9, .bin .mul (.t 6) (.t 8), none⟩, ⟨some 10, .fa 0 (.t 3), none⟩, ⟨some 11, .ld1 (.t 10), none⟩, ⟨some 12, .fa 1 (.t 2), none⟩, ⟨some 13, .ld1 (.t 12), none⟩, ⟨some 14, .bin .mul (.t 11) (.t 13), none⟩, ⟨some 15, .bin .lss (.t 9) (.t 14), none⟩, ⟨some 4, .mv (.t 15), none⟩]) .ret)), 16, [(.t 4)]⟩
theorem k_spec_l01Less : compF Tryd.prog Tryd.f53 = some c_spec_l01Less := by kernel_rfl
def c_spec_l01Times : F := ⟨(.seq (.reg false [⟨some 2, .box 26 (.t 0), none⟩, ⟨some 3, .box 26 (.t 1), none⟩, ⟨some 4, .alloc 26 [(.int .i64 0), (.int .i64 0)], none⟩]) (.seq (.reg false [⟨some 5, .fa 0 (.t 2), none⟩, ⟨some 6, .ld1 (.t 5), none⟩, ⟨some 7, .fa 0 (.t 3), none⟩, ⟨some 8, .ld1 (.t 7), none⟩, ⟨some 9, .bin .mul (.t 6) (.t 8), none⟩, ⟨some 10, .fa 1 (.t 2), none⟩, ⟨some 11, .ld1 (.t 10), none⟩, ⟨some 12, .fa 1 (.t 3), none⟩, ⟨some 13, .ld1 (.t 12), none⟩, ⟨some 14, .bin .mul (.t 11) (.t 13), none⟩, ⟨some 15, .call (.f 40) [(.t 9), (.t 14)], none⟩, ⟨none, .st 2 (.t 4) (.t 15), none⟩]) .ret)), 16, [(.ca 4 2)]⟩
theorem k_spec_l01Times : compF Tryd.prog Tryd.f52 = some c_spec_l01Times := by kernel_rfl
def c_spec_l01Plus : F := ⟨(.seq (.reg false [⟨some 2, .box 26 (.t 0), none⟩, ⟨some 3, .box 26 (.t 1), none⟩, ⟨some 4, .alloc 26 [(.int .i64 0), (.int .i64 0)], none⟩]) (.seq (.reg false [⟨some 6, .fa 1 (.t 2), none⟩, ⟨some 7, .ld1 (.t 6), none⟩, ⟨some 8, .fa 1 (.t 3), none⟩, ⟨some 9, .ld1 (.t 8), none⟩, ⟨some 10, .call (.f 76) [(.t 7), (.t 9)], none⟩, ⟨some 5, .mv (.t 10), none⟩]) (.seq (.reg true [⟨some 11, .fa 0 (.t 2), none⟩, ⟨some 12, .ld1 (.t 11), none⟩, ⟨some 13, .fa 1 (.t 3), none⟩, ⟨some 14, .ld1 (.t 13), none⟩, ⟨some 15, .mv (.t 5), none⟩, ⟨some 16, .bin .quo (.t 14) (.t 15), none⟩, ⟨some 17, .bin .mul (.t 12) (.t 16), none⟩, ⟨some 18, .fa 0 (.t 3), none⟩, ⟨some 19, .ld1 (.t 18), none⟩, ⟨some 20, .fa 1 (.t 2), none⟩, ⟨some 21, .ld1 (.t 20), none⟩, ⟨some 22, .mv (.t 5), none⟩, ⟨some 23, .bin .quo (.t 21) (.t 22), none⟩, ⟨some 24, .bin .mul (.t 19) (.t 23), none⟩, ⟨some 25, .bin .add (.t 17) (.t 24), none⟩, ⟨some 26, .fa 1 (.t 2), none⟩, ⟨some 27, .ld1 (.t 26), none⟩, ⟨some 28, .mv (.t 5), none⟩, ⟨some 29, .bin .quo (.t 27) (.t 28), none⟩, ⟨some 30, .fa 1 (.t 3), none⟩, ⟨some 31, .ld1 (.t 30), none⟩, ⟨some 32, .bin .mul (.t 29) (.t 31), none⟩, ⟨some 33, .call (.f 40) [(.t 25), (.t 32)], none⟩, ⟨none, .st 2 (.t 4) (.t 33), none⟩]) .ret))), 34, [(.ca 4 2)]⟩
theorem k_spec_l01Plus : compF Tryd.prog Tryd.f46 = some c_spec_l01Plus := by kernel_rfl

theorem impl_compare (a b c d : Int) (hab : isFr 1000000000 a b = true) (hcd : isFr 1000000000 c d = true) (h : AH) (n : Nat) :
    Q Tryd.prog 51 [fr a b, fr c d] h n (.int .i64 (a * d - c * b).sign) := by
  refine q_intro Tryd.func51 k_impl_Frac_compare ?_
  have h1 := isFr_b hab
  have h2 := isFr_b hcd
  have h3 := mulb (a := a) (b := d) (by omega) (by omega)
  have h4 := mulb (a := c) (b := b) (by omega) (by omega)
  simp (maxSteps := 2000000) -implicitDefEqProofs (disch := omega) only [c_impl_Frac_compare, fr, xsW, xsC, xsD, xsE, fillA, reduceCtorEq, Nat.reduceAdd, Nat.reduceSub, Nat.reduceLeDiff, Nat.reduceMul, Int.reduceLT, Int.reduceLE, Int.reduceEq, Int.reduceNe, Int.reduceAdd, Int.reduceSub, Int.reduceMul, Int.reduceNeg, Int.reduceToNat]
  refine q_use (impl_sign _ _ _) fun n1 hn1 => ?_
  simp (maxSteps := 2000000) -implicitDefEqProofs (disch := omega) only [xsW, xsC, xsD, xsE, fillA, reduceCtorEq, Nat.reduceAdd, Nat.reduceSub, Nat.reduceLeDiff, Nat.reduceMul, Int.reduceLT, Int.reduceLE, Int.reduceEq, Int.reduceNe, Int.reduceAdd, Int.reduceSub, Int.reduceMul, Int.reduceNeg, Int.reduceToNat]
def cmpF (a b c d : Int) : AV := if isFr 1000000000 a b = true ∧ isFr 1000000000 c d = true then .tup [.int .i64 (a * d - c * b).sign, .int .i64 0] else .tup [.int .i64 0, .int .i64 1]
theorem impl_CompareFracs (a b c d : Int) (h : AH) (n : Nat) : Q Tryd.prog 16 [fr a b, fr c d] h n (cmpF a b c d) := by
  refine q_intro Tryd.func16 k_impl_CompareFracs ?_
  simp (maxSteps := 2000000) -implicitDefEqProofs (disch := omega) only [c_impl_CompareFracs, fr, xsW, xsC, xsD, xsE, fillA, reduceCtorEq, Nat.reduceAdd, Nat.reduceSub, Nat.reduceLeDiff, Nat.reduceMul, Int.reduceLT, Int.reduceLE, Int.reduceEq, Int.reduceNe, Int.reduceAdd, Int.reduceSub, Int.reduceMul, Int.reduceNeg, Int.reduceToNat]
  refine q_use (impl_areFracs (w := true) (lo := n + 1 + 1) (hi := n + 1 + 1 + 1) (l := [(a, b), (c, d)]) (Sl.of_sl (upd_same _ _ _) rfl (Nat.le_refl _) (by omega) (by omega)) (by simp) _) fun n1 hn1 => ?_
  simp only [List.all_cons, List.all_nil, Bool.and_true, cmpF]
  cases hab : isFr 1000000000 a b <;> cases hcd : isFr 1000000000 c d
  · simp (maxSteps := 2000000) -implicitDefEqProofs (disch := omega) only [xsW, xsC, xsD, xsE, fillA, reduceCtorEq, Nat.reduceAdd, Nat.reduceSub, Nat.reduceLeDiff, Nat.reduceMul, Int.reduceLT, Int.reduceLE, Int.reduceEq, Int.reduceNe, Int.reduceAdd, Int.reduceSub, Int.reduceMul, Int.reduceNeg, Int.reduceToNat]
  · simp (maxSteps := 2000000) -implicitDefEqProofs (disch := omega) only [xsW, xsC, xsD, xsE, fillA, reduceCtorEq, Nat.reduceAdd, Nat.reduceSub, Nat.reduceLeDiff, Nat.reduceMul, Int.reduceLT, Int.reduceLE, Int.reduceEq, Int.reduceNe, Int.reduceAdd, Int.reduceSub, Int.reduceMul, Int.reduceNeg, Int.reduceToNat]
  · simp (maxSteps := 2000000) -implicitDefEqProofs (disch := omega) only [xsW, xsC, xsD, xsE, fillA, reduceCtorEq, Nat.reduceAdd, Nat.reduceSub, Nat.reduceLeDiff, Nat.reduceMul, Int.reduceLT, Int.reduceLE, Int.reduceEq, Int.reduceNe, Int.reduceAdd, Int.reduceSub, Int.reduceMul, Int.reduceNeg, Int.reduceToNat]
  · simp (maxSteps := 2000000) -implicitDefEqProofs (disch := omega) only [xsW, xsC, xsD, xsE, fillA, reduceCtorEq, Nat.reduceAdd, Nat.reduceSub, Nat.reduceLeDiff, Nat.reduceMul, Int.reduceLT, Int.reduceLE, Int.reduceEq, Int.reduceNe, Int.reduceAdd, Int.reduceSub, Int.reduceMul, Int.reduceNeg, Int.reduceToNat]
    refine q_use (impl_compare _ _ _ _ hab hcd _ _) fun n2 hn2 => ?_
    simp (maxSteps := 2000000) -implicitDefEqProofs (disch := omega) only [xsW, xsC, xsD, xsE, fillA, reduceCtorEq, Nat.reduceAdd, Nat.reduceSub, Nat.reduceLeDiff, Nat.reduceMul, Int.reduceLT, Int.reduceLE, Int.reduceEq, Int.reduceNe, Int.reduceAdd, Int.reduceSub, Int.reduceMul, Int.reduceNeg, Int.reduceToNat]
theorem spec_l01Less (a b c d : Int) (hab : isFr 1000000000 a b = true) (hcd : isFr 1000000000 c d = true) (h : AH) (n : Nat) :
    Q Tryd.prog 53 [fr a b, fr c d] h n (.bool (decide (a * d < c * b))) := by
  refine q_intro Tryd.func53 k_spec_l01Less ?_
  have h1 := isFr_b hab
  have h2 := isFr_b hcd
  have h3 := mulb (a := a) (b := d) (by omega) (by omega)
  have h4 := mulb (a := c) (b := b) (by omega) (by omega)
  simp (maxSteps := 2000000) -implicitDefEqProofs (disch := omega) only [c_spec_l01Less, fr, xsW, xsC, xsD, xsE, fillA, reduceCtorEq, Nat.reduceAdd, Nat.reduceSub, Nat.reduceLeDiff, Nat.reduceMul, Int.reduceLT, Int.reduceLE, Int.reduceEq, Int.reduceNe, Int.reduceAdd, Int.reduceSub, Int.reduceMul, Int.reduceNeg, Int.reduceToNat]
theorem spec_CompareFracs (a b c d : Int) (h : AH) (n : Nat) : Q Tryd.prog 21 [fr a b, fr c d] h n (cmpF a b c d) := by
  refine q_intro Tryd.func21 k_spec_CompareFracs ?_
  simp only [cmpF]
  simp (maxSteps := 2000000) -implicitDefEqProofs (disch := omega) only [c_spec_CompareFracs, fr, xsW, xsC, xsD, xsE, fillA, reduceCtorEq, Nat.reduceAdd, Nat.reduceSub, Nat.reduceLeDiff, Nat.reduceMul, Int.reduceLT, Int.reduceLE, Int.reduceEq, Int.reduceNe, Int.reduceAdd, Int.reduceSub, Int.reduceMul, Int.reduceNeg, Int.reduceToNat]
  refine q_use (spec_IsFrac _ _ _ _) fun n1 hn1 => ?_
  cases hab : isFr 1000000000 a b
  · simp (maxSteps := 2000000) -implicitDefEqProofs (disch := omega) only [xsW, xsC, xsD, xsE, fillA, reduceCtorEq, Nat.reduceAdd, Nat.reduceSub, Nat.reduceLeDiff, Nat.reduceMul, Int.reduceLT, Int.reduceLE, Int.reduceEq, Int.reduceNe, Int.reduceAdd, Int.reduceSub, Int.reduceMul, Int.reduceNeg, Int.reduceToNat]
  simp (maxSteps := 2000000) -implicitDefEqProofs (disch := omega) only [xsW, xsC, xsD, xsE, fillA, reduceCtorEq, Nat.reduceAdd, Nat.reduceSub, Nat.reduceLeDiff, Nat.reduceMul, Int.reduceLT, Int.reduceLE, Int.reduceEq, Int.reduceNe, Int.reduceAdd, Int.reduceSub, Int.reduceMul, Int.reduceNeg, Int.reduceToNat]
  refine q_use (spec_IsFrac _ _ _ _) fun n2 hn2 => ?_
  cases hcd : isFr 1000000000 c d
  · simp (maxSteps := 2000000) -implicitDefEqProofs (disch := omega) only [xsW, xsC, xsD, xsE, fillA, reduceCtorEq, Nat.reduceAdd, Nat.reduceSub, Nat.reduceLeDiff, Nat.reduceMul, Int.reduceLT, Int.reduceLE, Int.reduceEq, Int.reduceNe, Int.reduceAdd, Int.reduceSub, Int.reduceMul, Int.reduceNeg, Int.reduceToNat]
  simp (maxSteps := 2000000) -implicitDefEqProofs (disch := omega) only [xsW, xsC, xsD, xsE, fillA, reduceCtorEq, Nat.reduceAdd, Nat.reduceSub, Nat.reduceLeDiff, Nat.reduceMul, Int.reduceLT, Int.reduceLE, Int.reduceEq, Int.reduceNe, Int.reduceAdd, Int.reduceSub, Int.reduceMul, Int.reduceNeg, Int.reduceToNat]
  refine q_use (spec_l01Less _ _ _ _ hab hcd _ _) fun n3 hn3 => ?_
  simp (maxSteps := 2000000) -implicitDefEqProofs (disch := omega) only [xsW, xsC, xsD, xsE, fillA, reduceCtorEq, Nat.reduceAdd, Nat.reduceSub, Nat.reduceLeDiff, Nat.reduceMul, Int.reduceLT, Int.reduceLE, Int.reduceEq, Int.reduceNe, Int.reduceAdd, Int.reduceSub, Int.reduceMul, Int.reduceNeg, Int.reduceToNat]
  (refine cd_dec (fun h1 => ?_) (fun h1 => ?_) <;> simp (maxSteps := 2000000) -implicitDefEqProofs (disch := omega) only [xsW, xsC, xsD, xsE, fillA, reduceCtorEq, Nat.reduceAdd, Nat.reduceSub, Nat.reduceLeDiff, Nat.reduceMul, Int.reduceLT, Int.reduceLE, Int.reduceEq, Int.reduceNe, Int.reduceAdd, Int.reduceSub, Int.reduceMul, Int.reduceNeg, Int.reduceToNat,  h1])
  · rw [Int.sign_eq_neg_one_of_neg (by omega)]
  refine q_use (spec_l01Less _ _ _ _ hcd hab _ _) fun n4 hn4 => ?_
  simp (maxSteps := 2000000) -implicitDefEqProofs (disch := omega) only [xsW, xsC, xsD, xsE, fillA, reduceCtorEq, Nat.reduceAdd, Nat.reduceSub, Nat.reduceLeDiff, Nat.reduceMul, Int.reduceLT, Int.reduceLE, Int.reduceEq, Int.reduceNe, Int.reduceAdd, Int.reduceSub, Int.reduceMul, Int.reduceNeg, Int.reduceToNat]
  (refine cd_dec (fun h2 => ?_) (fun h2 => ?_) <;> simp (maxSteps := 2000000) -implicitDefEqProofs (disch := omega) only [xsW, xsC, xsD, xsE, fillA, reduceCtorEq, Nat.reduceAdd, Nat.reduceSub, Nat.reduceLeDiff, Nat.reduceMul, Int.reduceLT, Int.reduceLE, Int.reduceEq, Int.reduceNe, Int.reduceAdd, Int.reduceSub, Int.reduceMul, Int.reduceNeg, Int.reduceToNat,  h2])
  · rw [Int.sign_eq_one_of_pos (by omega)]
  · rw [show a * d - c * b = 0 by omega]; rfl
theorem red_scale (g x y : Int) (hg : 0 < g) (hy : y ≠ 0) : red (g * x) (g * y) = red x y := by
  have hs : (g * y).sign = y.sign := by rw [Int.sign_mul, Int.sign_eq_one_of_pos hg, Int.one_mul]
  have hq : (Int.gcd (g * x) (g * y) : Int) = g * Int.gcd x y := by
    rw [Int.gcd_mul_left, Int.natCast_mul, Int.natAbs_of_nonneg (by omega)]
  have hp := gcd_bound (a := x) hy
  have hn : ((g * y).natAbs : Int) = g * y.natAbs := by rw [Int.natAbs_mul, Int.natCast_mul, Int.natAbs_of_nonneg (by omega)]
  simp only [red, hs, hq, hn]
  rw [Int.mul_assoc, Int.mul_ediv_mul_of_pos _ _ hg, Int.mul_ediv_mul_of_pos _ _ hg]
def mulF (a b c d : Int) : AV := if isFr 1000000000 a b = true ∧ isFr 1000000000 c d = true then told (red (a * c) (b * d)) else .tup [fr 0 0, .int .i64 1]
def addF (a b c d k : Int) : AV := if isFr 1000000000 a b = true ∧ isFr 1000000000 c d = true then (if k = 1 ∨ k = -1 then told (red (a * d + k * c * b) (b * d)) else .tup [fr 0 0, .int .i64 2]) else .tup [fr 0 0, .int .i64 1]
theorem mulF_two (a b c d : Int) : ∃ x y z, mulF a b c d = .tup [fr x y, .int .i64 z] := by
  unfold mulF; split
  · exact told_two _
  · exact ⟨_, _, _, rfl⟩
theorem addF_two (a b c d k : Int) : ∃ x y z, addF a b c d k = .tup [fr x y, .int .i64 z] := by
  unfold addF; split
  · split
    · exact told_two _
    · exact ⟨_, _, _, rfl⟩
  · exact ⟨_, _, _, rfl⟩
theorem mul_pos_ne {b d : Int} (hb : 1 ≤ b) (hd : 1 ≤ d) : b * d ≠ 0 := by
  have := Int.mul_pos (show 0 < b by omega) (show 0 < d by omega); omega
theorem impl_MultiplyFracs (a b c d : Int) (h : AH) (n : Nat) : Q Tryd.prog 18 [fr a b, fr c d] h n (mulF a b c d) := by
  refine q_intro Tryd.func18 k_impl_MultiplyFracs ?_
  simp (maxSteps := 2000000) -implicitDefEqProofs (disch := omega) only [c_impl_MultiplyFracs, fr, xsW, xsC, xsD, xsE, fillA, reduceCtorEq, Nat.reduceAdd, Nat.reduceSub, Nat.reduceLeDiff, Nat.reduceMul, Int.reduceLT, Int.reduceLE, Int.reduceEq, Int.reduceNe, Int.reduceAdd, Int.reduceSub, Int.reduceMul, Int.reduceNeg, Int.reduceToNat]
  refine q_use (impl_areFracs (w := true) (lo := n + 1 + 1 + 1) (hi := n + 1 + 1 + 1 + 1) (l := [(a, b), (c, d)]) (Sl.of_sl (upd_same _ _ _) rfl (Nat.le_refl _) (by omega) (by omega)) (by simp) _) fun n1 hn1 => ?_
  simp only [List.all_cons, List.all_nil, Bool.and_true, mulF]
  cases hab : isFr 1000000000 a b <;> cases hcd : isFr 1000000000 c d
  · simp (maxSteps := 2000000) -implicitDefEqProofs (disch := omega) only [xsW, xsC, xsD, xsE, fillA, reduceCtorEq, Nat.reduceAdd, Nat.reduceSub, Nat.reduceLeDiff, Nat.reduceMul, Int.reduceLT, Int.reduceLE, Int.reduceEq, Int.reduceNe, Int.reduceAdd, Int.reduceSub, Int.reduceMul, Int.reduceNeg, Int.reduceToNat,  fr]
  · simp (maxSteps := 2000000) -implicitDefEqProofs (disch := omega) only [xsW, xsC, xsD, xsE, fillA, reduceCtorEq, Nat.reduceAdd, Nat.reduceSub, Nat.reduceLeDiff, Nat.reduceMul, Int.reduceLT, Int.reduceLE, Int.reduceEq, Int.reduceNe, Int.reduceAdd, Int.reduceSub, Int.reduceMul, Int.reduceNeg, Int.reduceToNat,  fr]
  · simp (maxSteps := 2000000) -implicitDefEqProofs (disch := omega) only [xsW, xsC, xsD, xsE, fillA, reduceCtorEq, Nat.reduceAdd, Nat.reduceSub, Nat.reduceLeDiff, Nat.reduceMul, Int.reduceLT, Int.reduceLE, Int.reduceEq, Int.reduceNe, Int.reduceAdd, Int.reduceSub, Int.reduceMul, Int.reduceNeg, Int.reduceToNat,  fr]
  · have h1 := isFr_b hab
    have h2 := isFr_b hcd
    have h3 := mulb (a := a) (b := c) (by omega) (by omega)
    have h4 := mulb (a := b) (b := d) (by omega) (by omega)
    simp (maxSteps := 2000000) -implicitDefEqProofs (disch := omega) only [xsW, xsC, xsD, xsE, fillA, reduceCtorEq, Nat.reduceAdd, Nat.reduceSub, Nat.reduceLeDiff, Nat.reduceMul, Int.reduceLT, Int.reduceLE, Int.reduceEq, Int.reduceNe, Int.reduceAdd, Int.reduceSub, Int.reduceMul, Int.reduceNeg, Int.reduceToNat,  fr]
    refine q_use (impl_reduced _ _ (by unfold in64; omega) (by unfold in64; omega) (mul_pos_ne (by omega) (by omega)) _ _) fun n2 hn2 => ?_
    rw [← told]
    obtain ⟨x, y, z, e⟩ := told_two (red (a * c) (b * d))
    rw [e]
    simp (maxSteps := 2000000) -implicitDefEqProofs (disch := omega) only [xsW, xsC, xsD, xsE, fillA, reduceCtorEq, Nat.reduceAdd, Nat.reduceSub, Nat.reduceLeDiff, Nat.reduceMul, Int.reduceLT, Int.reduceLE, Int.reduceEq, Int.reduceNe, Int.reduceAdd, Int.reduceSub, Int.reduceMul, Int.reduceNeg, Int.reduceToNat,  fr]
theorem impl_AddFracs (a b c d k : Int) (h : AH) (n : Nat) : Q Tryd.prog 12 [fr a b, fr c d, .int .i64 k] h n (addF a b c d k) := by
  refine q_intro Tryd.func12 k_impl_AddFracs ?_
  simp (maxSteps := 2000000) -implicitDefEqProofs (disch := omega) only [c_impl_AddFracs, fr, xsW, xsC, xsD, xsE, fillA, reduceCtorEq, Nat.reduceAdd, Nat.reduceSub, Nat.reduceLeDiff, Nat.reduceMul, Int.reduceLT, Int.reduceLE, Int.reduceEq, Int.reduceNe, Int.reduceAdd, Int.reduceSub, Int.reduceMul, Int.reduceNeg, Int.reduceToNat]
  refine q_use (impl_areFracs (w := true) (lo := n + 1 + 1 + 1) (hi := n + 1 + 1 + 1 + 1) (l := [(a, b), (c, d)]) (Sl.of_sl (upd_same _ _ _) rfl (Nat.le_refl _) (by omega) (by omega)) (by simp) _) fun n1 hn1 => ?_
  simp only [List.all_cons, List.all_nil, Bool.and_true, addF]
  cases hab : isFr 1000000000 a b <;> cases hcd : isFr 1000000000 c d
  · simp (maxSteps := 2000000) -implicitDefEqProofs (disch := omega) only [xsW, xsC, xsD, xsE, fillA, reduceCtorEq, Nat.reduceAdd, Nat.reduceSub, Nat.reduceLeDiff, Nat.reduceMul, Int.reduceLT, Int.reduceLE, Int.reduceEq, Int.reduceNe, Int.reduceAdd, Int.reduceSub, Int.reduceMul, Int.reduceNeg, Int.reduceToNat,  fr]
  · simp (maxSteps := 2000000) -implicitDefEqProofs (disch := omega) only [xsW, xsC, xsD, xsE, fillA, reduceCtorEq, Nat.reduceAdd, Nat.reduceSub, Nat.reduceLeDiff, Nat.reduceMul, Int.reduceLT, Int.reduceLE, Int.reduceEq, Int.reduceNe, Int.reduceAdd, Int.reduceSub, Int.reduceMul, Int.reduceNeg, Int.reduceToNat,  fr]
  · simp (maxSteps := 2000000) -implicitDefEqProofs (disch := omega) only [xsW, xsC, xsD, xsE, fillA, reduceCtorEq, Nat.reduceAdd, Nat.reduceSub, Nat.reduceLeDiff, Nat.reduceMul, Int.reduceLT, Int.reduceLE, Int.reduceEq, Int.reduceNe, Int.reduceAdd, Int.reduceSub, Int.reduceMul, Int.reduceNeg, Int.reduceToNat,  fr]
  · have h1 := isFr_b hab
    have h2 := isFr_b hcd
    have h3 := mulb (a := a) (b := d) (by omega) (by omega)
    have h4 := mulb (a := b) (b := d) (by omega) (by omega)
    have h5 := mulb (a := c) (b := b) (by omega) (by omega)
    by_cases hk : k = 1 ∨ k = -1
    · have h6 : -1000000000000000000 ≤ k * c * b ∧ k * c * b ≤ 1000000000000000000 := by
        rcases hk with rfl | rfl
        · rw [Int.one_mul]; exact h5
        · rw [Int.neg_mul, Int.one_mul, Int.neg_mul]; omega
      have h7 : -1000000000 ≤ k * c ∧ k * c ≤ 1000000000 := by rcases hk with rfl | rfl <;> omega
      have h8 := mul_pos_ne (b := b) (d := d) (by omega) (by omega)
      obtain ⟨x, y, z, e⟩ := told_two (red (a * d + k * c * b) (b * d))
      simp only [hk, if_true, and_self]
      rw [e]
      by_cases hk2 : k = 1
      all_goals
        simp (maxSteps := 2000000) -implicitDefEqProofs (disch := omega) only [xsW, xsC, xsD, xsE, fillA, reduceCtorEq, Nat.reduceAdd, Nat.reduceSub, Nat.reduceLeDiff, Nat.reduceMul, Int.reduceLT, Int.reduceLE, Int.reduceEq, Int.reduceNe, Int.reduceAdd, Int.reduceSub, Int.reduceMul, Int.reduceNeg, Int.reduceToNat,  fr]
        refine q_use (impl_reduced _ _ (by unfold in64; omega) (by unfold in64; omega) h8 _ _) fun n2 hn2 => ?_
        rw [← told, e]
        simp (maxSteps := 2000000) -implicitDefEqProofs (disch := omega) only [xsW, xsC, xsD, xsE, fillA, reduceCtorEq, Nat.reduceAdd, Nat.reduceSub, Nat.reduceLeDiff, Nat.reduceMul, Int.reduceLT, Int.reduceLE, Int.reduceEq, Int.reduceNe, Int.reduceAdd, Int.reduceSub, Int.reduceMul, Int.reduceNeg, Int.reduceToNat,  fr]
    · simp only [hk, if_false]
      have hk2 : ¬ k = 1 := by omega
      have hk3 : ¬ k = -1 := by omega
      simp (maxSteps := 2000000) -implicitDefEqProofs (disch := omega) only [xsW, xsC, xsD, xsE, fillA, reduceCtorEq, Nat.reduceAdd, Nat.reduceSub, Nat.reduceLeDiff, Nat.reduceMul, Int.reduceLT, Int.reduceLE, Int.reduceEq, Int.reduceNe, Int.reduceAdd, Int.reduceSub, Int.reduceMul, Int.reduceNeg, Int.reduceToNat,  fr]
theorem spec_l01Times (a b c d : Int) (hab : isFr 1000000000 a b = true) (hcd : isFr 1000000000 c d = true) (h : AH) (n : Nat) :
    Q Tryd.prog 52 [fr a b, fr c d] h n (fr (red (a * c) (b * d)).1 (red (a * c) (b * d)).2) := by
  refine q_intro Tryd.func52 k_spec_l01Times ?_
  have h1 := isFr_b hab
  have h2 := isFr_b hcd
  have h3 := mulb (a := a) (b := c) (by omega) (by omega)
  have h4 := mulb (a := b) (b := d) (by omega) (by omega)
  have h8 := mul_pos_ne (b := b) (d := d) (by omega) (by omega)
  simp (maxSteps := 2000000) -implicitDefEqProofs (disch := omega) only [c_spec_l01Times, fr, xsW, xsC, xsD, xsE, fillA, reduceCtorEq, Nat.reduceAdd, Nat.reduceSub, Nat.reduceLeDiff, Nat.reduceMul, Int.reduceLT, Int.reduceLE, Int.reduceEq, Int.reduceNe, Int.reduceAdd, Int.reduceSub, Int.reduceMul, Int.reduceNeg, Int.reduceToNat]
  refine q_use (spec_l01Frac _ _ (by unfold in64; omega) (by unfold in64; omega) h8 _ _) fun n1 hn1 => ?_
  simp (maxSteps := 2000000) -implicitDefEqProofs (disch := omega) only [xsW, xsC, xsD, xsE, fillA, reduceCtorEq, Nat.reduceAdd, Nat.reduceSub, Nat.reduceLeDiff, Nat.reduceMul, Int.reduceLT, Int.reduceLE, Int.reduceEq, Int.reduceNe, Int.reduceAdd, Int.reduceSub, Int.reduceMul, Int.reduceNeg, Int.reduceToNat,  fr]
theorem tdiv_range {b m : Int} (g : Int) (h : 1 ≤ b ∧ b ≤ m) (hg : 0 < g) (e : b.tdiv g * g = b) : 1 ≤ b.tdiv g ∧ b.tdiv g ≤ m := by
  have h1 : b.tdiv g ≤ b := Int.tdiv_le_self _ (by omega)
  have h2 : 0 ≤ b.tdiv g := Int.tdiv_nonneg (by omega) (by omega)
  refine ⟨?_, by omega⟩
  by_cases h0 : b.tdiv g = 0
  · rw [h0] at e; omega
  · omega
theorem spec_l01Plus (a b c d : Int) (h1 : (-1000000000 ≤ a ∧ a ≤ 1000000000) ∧ (1 ≤ b ∧ b ≤ 1000000000)) (h2 : (-1000000000 ≤ c ∧ c ≤ 1000000000) ∧ (1 ≤ d ∧ d ≤ 1000000000)) (h : AH) (n : Nat) :
    Q Tryd.prog 46 [fr a b, fr c d] h n (fr (red (a * d + c * b) (b * d)).1 (red (a * d + c * b) (b * d)).2) := by
  refine q_intro Tryd.func46 k_spec_l01Plus ?_
  have hg := gcd_bound (a := b) (b := d) (by omega)
  have e1 : b.tdiv (Int.gcd b d) * Int.gcd b d = b := Int.tdiv_mul_cancel (Int.gcd_dvd_left ..)
  have e2 : d.tdiv (Int.gcd b d) * Int.gcd b d = d := Int.tdiv_mul_cancel (Int.gcd_dvd_right ..)
  have hl1 := tdiv_range (Int.gcd b d) h1.2 hg.1 e1
  have hl2 := tdiv_range (Int.gcd b d) h2.2 hg.1 e2
  simp (maxSteps := 2000000) -implicitDefEqProofs (disch := omega) only [c_spec_l01Plus, fr, xsW, xsC, xsD, xsE, fillA, reduceCtorEq, Nat.reduceAdd, Nat.reduceSub, Nat.reduceLeDiff, Nat.reduceMul, Int.reduceLT, Int.reduceLE, Int.reduceEq, Int.reduceNe, Int.reduceAdd, Int.reduceSub, Int.reduceMul, Int.reduceNeg, Int.reduceToNat]

  refine q_use (spec_l01Gcd _ _ (by unfold in64; omega) (by unfold in64; omega) _ _) fun n1 hn1 => ?_
  generalize hb' : b.tdiv (Int.gcd b d) = b' at *
  generalize hd' : d.tdiv (Int.gcd b d) = d' at *
  generalize hgg : (Int.gcd b d : Int) = g at *
  have k1 := mulb (a := a) (b := d') (by omega) (by omega)
  have k2 := mulb (a := c) (b := b') (by omega) (by omega)
  have k3 := mulb (a := b') (b := d) (by omega) (by omega)
  have h8 := mul_pos_ne (b := b') (d := d) (by omega) (by omega)
  have e := red_scale g (a * d' + c * b') (b' * d) hg.1 h8
  have e3 : g * (a * d' + c * b') = a * d + c * b := by
    rw [Int.mul_add, Int.mul_left_comm, Int.mul_comm g d', e2, Int.mul_left_comm, Int.mul_comm g b', e1]
  have e4 : g * (b' * d) = b * d := by rw [← Int.mul_assoc, Int.mul_comm g b', e1]
  rw [e3, e4] at e
  rw [e]
  simp (maxSteps := 2000000) -implicitDefEqProofs (disch := omega) only [xsW, xsC, xsD, xsE, fillA, reduceCtorEq, Nat.reduceAdd, Nat.reduceSub, Nat.reduceLeDiff, Nat.reduceMul, Int.reduceLT, Int.reduceLE, Int.reduceEq, Int.reduceNe, Int.reduceAdd, Int.reduceSub, Int.reduceMul, Int.reduceNeg, Int.reduceToNat,  hb', hd']
  refine q_use (spec_l01Frac _ _ (by unfold in64; omega) (by unfold in64; omega) h8 _ _) fun n2 hn2 => ?_
  simp (maxSteps := 2000000) -implicitDefEqProofs (disch := omega) only [xsW, xsC, xsD, xsE, fillA, reduceCtorEq, Nat.reduceAdd, Nat.reduceSub, Nat.reduceLeDiff, Nat.reduceMul, Int.reduceLT, Int.reduceLE, Int.reduceEq, Int.reduceNe, Int.reduceAdd, Int.reduceSub, Int.reduceMul, Int.reduceNeg, Int.reduceToNat,  fr]
theorem spec_MultiplyFracs (a b c d : Int) (h : AH) (n : Nat) : Q Tryd.prog 19 [fr a b, fr c d] h n (mulF a b c d) := by
  refine q_intro Tryd.func19 k_spec_MultiplyFracs ?_
  simp only [mulF]
  simp (maxSteps := 2000000) -implicitDefEqProofs (disch := omega) only [c_spec_MultiplyFracs, fr, xsW, xsC, xsD, xsE, fillA, reduceCtorEq, Nat.reduceAdd, Nat.reduceSub, Nat.reduceLeDiff, Nat.reduceMul, Int.reduceLT, Int.reduceLE, Int.reduceEq, Int.reduceNe, Int.reduceAdd, Int.reduceSub, Int.reduceMul, Int.reduceNeg, Int.reduceToNat]
  refine q_use (spec_IsFrac _ _ _ _) fun n1 hn1 => ?_
  cases hab : isFr 1000000000 a b
  · simp (maxSteps := 2000000) -implicitDefEqProofs (disch := omega) only [xsW, xsC, xsD, xsE, fillA, reduceCtorEq, Nat.reduceAdd, Nat.reduceSub, Nat.reduceLeDiff, Nat.reduceMul, Int.reduceLT, Int.reduceLE, Int.reduceEq, Int.reduceNe, Int.reduceAdd, Int.reduceSub, Int.reduceMul, Int.reduceNeg, Int.reduceToNat,  fr]
  simp (maxSteps := 2000000) -implicitDefEqProofs (disch := omega) only [xsW, xsC, xsD, xsE, fillA, reduceCtorEq, Nat.reduceAdd, Nat.reduceSub, Nat.reduceLeDiff, Nat.reduceMul, Int.reduceLT, Int.reduceLE, Int.reduceEq, Int.reduceNe, Int.reduceAdd, Int.reduceSub, Int.reduceMul, Int.reduceNeg, Int.reduceToNat,  fr]
  refine q_use (spec_IsFrac _ _ _ _) fun n2 hn2 => ?_
  cases hcd : isFr 1000000000 c d
  · simp (maxSteps := 2000000) -implicitDefEqProofs (disch := omega) only [xsW, xsC, xsD, xsE, fillA, reduceCtorEq, Nat.reduceAdd, Nat.reduceSub, Nat.reduceLeDiff, Nat.reduceMul, Int.reduceLT, Int.reduceLE, Int.reduceEq, Int.reduceNe, Int.reduceAdd, Int.reduceSub, Int.reduceMul, Int.reduceNeg, Int.reduceToNat,  fr]
  simp (maxSteps := 2000000) -implicitDefEqProofs (disch := omega) only [xsW, xsC, xsD, xsE, fillA, reduceCtorEq, Nat.reduceAdd, Nat.reduceSub, Nat.reduceLeDiff, Nat.reduceMul, Int.reduceLT, Int.reduceLE, Int.reduceEq, Int.reduceNe, Int.reduceAdd, Int.reduceSub, Int.reduceMul, Int.reduceNeg, Int.reduceToNat,  fr]
  refine q_use (spec_l01Times _ _ _ _ hab hcd _ _) fun n3 hn3 => ?_
  simp (maxSteps := 2000000) -implicitDefEqProofs (disch := omega) only [xsW, xsC, xsD, xsE, fillA, reduceCtorEq, Nat.reduceAdd, Nat.reduceSub, Nat.reduceLeDiff, Nat.reduceMul, Int.reduceLT, Int.reduceLE, Int.reduceEq, Int.reduceNe, Int.reduceAdd, Int.reduceSub, Int.reduceMul, Int.reduceNeg, Int.reduceToNat,  fr]
  refine q_use (spec_l01Told _ _ _ _) fun n4 hn4 => ?_
  rw [← told]
  obtain ⟨x, y, z, e⟩ := told_two (red (a * c) (b * d))
  rw [e]
  simp (maxSteps := 2000000) -implicitDefEqProofs (disch := omega) only [xsW, xsC, xsD, xsE, fillA, reduceCtorEq, Nat.reduceAdd, Nat.reduceSub, Nat.reduceLeDiff, Nat.reduceMul, Int.reduceLT, Int.reduceLE, Int.reduceEq, Int.reduceNe, Int.reduceAdd, Int.reduceSub, Int.reduceMul, Int.reduceNeg, Int.reduceToNat,  fr]
theorem spec_AddFracs (a b c d k : Int) (h : AH) (n : Nat) : Q Tryd.prog 13 [fr a b, fr c d, .int .i64 k] h n (addF a b c d k) := by
  refine q_intro Tryd.func13 k_spec_AddFracs ?_
  simp only [addF]
  simp (maxSteps := 2000000) -implicitDefEqProofs (disch := omega) only [c_spec_AddFracs, fr, xsW, xsC, xsD, xsE, fillA, reduceCtorEq, Nat.reduceAdd, Nat.reduceSub, Nat.reduceLeDiff, Nat.reduceMul, Int.reduceLT, Int.reduceLE, Int.reduceEq, Int.reduceNe, Int.reduceAdd, Int.reduceSub, Int.reduceMul, Int.reduceNeg, Int.reduceToNat]
  refine q_use (spec_IsFrac _ _ _ _) fun n1 hn1 => ?_
  cases hab : isFr 1000000000 a b
  · simp (maxSteps := 2000000) -implicitDefEqProofs (disch := omega) only [xsW, xsC, xsD, xsE, fillA, reduceCtorEq, Nat.reduceAdd, Nat.reduceSub, Nat.reduceLeDiff, Nat.reduceMul, Int.reduceLT, Int.reduceLE, Int.reduceEq, Int.reduceNe, Int.reduceAdd, Int.reduceSub, Int.reduceMul, Int.reduceNeg, Int.reduceToNat,  fr]
  simp (maxSteps := 2000000) -implicitDefEqProofs (disch := omega) only [xsW, xsC, xsD, xsE, fillA, reduceCtorEq, Nat.reduceAdd, Nat.reduceSub, Nat.reduceLeDiff, Nat.reduceMul, Int.reduceLT, Int.reduceLE, Int.reduceEq, Int.reduceNe, Int.reduceAdd, Int.reduceSub, Int.reduceMul, Int.reduceNeg, Int.reduceToNat,  fr]
  refine q_use (spec_IsFrac _ _ _ _) fun n2 hn2 => ?_
  cases hcd : isFr 1000000000 c d
  · simp (maxSteps := 2000000) -implicitDefEqProofs (disch := omega) only [xsW, xsC, xsD, xsE, fillA, reduceCtorEq, Nat.reduceAdd, Nat.reduceSub, Nat.reduceLeDiff, Nat.reduceMul, Int.reduceLT, Int.reduceLE, Int.reduceEq, Int.reduceNe, Int.reduceAdd, Int.reduceSub, Int.reduceMul, Int.reduceNeg, Int.reduceToNat,  fr]
  have h1 := isFr_b hab
  have h2 := isFr_b hcd
  by_cases hk : k = 1 ∨ k = -1
  · have h7 : -1000000000 ≤ k * c ∧ k * c ≤ 1000000000 := by rcases hk with rfl | rfl <;> omega
    obtain ⟨x, y, z, e⟩ := told_two (red (a * d + k * c * b) (b * d))
    simp only [hk, if_true, and_self]
    rw [e]
    by_cases hk2 : k = 1
    all_goals
      simp (maxSteps := 2000000) -implicitDefEqProofs (disch := omega) only [xsW, xsC, xsD, xsE, fillA, reduceCtorEq, Nat.reduceAdd, Nat.reduceSub, Nat.reduceLeDiff, Nat.reduceMul, Int.reduceLT, Int.reduceLE, Int.reduceEq, Int.reduceNe, Int.reduceAdd, Int.reduceSub, Int.reduceMul, Int.reduceNeg, Int.reduceToNat,  fr]
      refine q_use (spec_l01Plus _ _ _ _ h1 ⟨h7, h2.2⟩ _ _) fun n3 hn3 => ?_
      simp (maxSteps := 2000000) -implicitDefEqProofs (disch := omega) only [xsW, xsC, xsD, xsE, fillA, reduceCtorEq, Nat.reduceAdd, Nat.reduceSub, Nat.reduceLeDiff, Nat.reduceMul, Int.reduceLT, Int.reduceLE, Int.reduceEq, Int.reduceNe, Int.reduceAdd, Int.reduceSub, Int.reduceMul, Int.reduceNeg, Int.reduceToNat,  fr]
      refine q_use (spec_l01Told _ _ _ _) fun n4 hn4 => ?_
      rw [← told, e]
      simp (maxSteps := 2000000) -implicitDefEqProofs (disch := omega) only [xsW, xsC, xsD, xsE, fillA, reduceCtorEq, Nat.reduceAdd, Nat.reduceSub, Nat.reduceLeDiff, Nat.reduceMul, Int.reduceLT, Int.reduceLE, Int.reduceEq, Int.reduceNe, Int.reduceAdd, Int.reduceSub, Int.reduceMul, Int.reduceNeg, Int.reduceToNat,  fr]
  · simp only [hk, if_false]
    have hk2 : ¬ k = 1 := by omega
    have hk3 : ¬ k = -1 := by omega
    simp (maxSteps := 2000000) -implicitDefEqProofs (disch := omega) only [xsW, xsC, xsD, xsE, fillA, reduceCtorEq, Nat.reduceAdd, Nat.reduceSub, Nat.reduceLeDiff, Nat.reduceMul, Int.reduceLT, Int.reduceLE, Int.reduceEq, Int.reduceNe, Int.reduceAdd, Int.reduceSub, Int.reduceMul, Int.reduceNeg, Int.reduceToNat,  fr]
end Go.Proofs.YtkpibnhddhdooacDoor.L
