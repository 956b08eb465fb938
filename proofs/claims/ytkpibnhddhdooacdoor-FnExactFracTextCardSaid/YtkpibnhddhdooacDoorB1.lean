/- Contracts of small functions on numbers and fractions. -/
import Derived.Test.YtkpibnhddhdooacDoorJ4
import Derived.Test.YtkpibnhddhdooacDoorProg
import Derived.Shelf.Strconv.Itoa4
import Derived.Lib.ItoaLen
import Derived.Laws.Strings
set_option linter.unusedSimpArgs false
set_option linter.unusedVariables false
namespace Go.Proofs.YtkpibnhddhdooacDoor.L
open Go
def c_impl_within : F := ⟨(.seq (.reg false [⟨some 6, .mv (.c (.bool false)), none⟩]) (.seq (.reg false [⟨some 7, .mv (.t 0), none⟩, ⟨some 8, .mv (.t 1), none⟩, ⟨some 9, .bin .geq (.t 7) (.t 8), none⟩, ⟨some 10, .mv (.t 9), none⟩, ⟨some 11, .mv (.t 0), some (10, true)⟩, ⟨some 12, .mv (.t 2), some (10, true)⟩, ⟨some 13, .bin .leq (.t 11) (.t 12), some (10, true)⟩, ⟨some 14, .pick (.t 10) (.t 13) (.c (.bool false)), none⟩, ⟨some 6, .mv (.t 14), none⟩]) .ret)), 15, [(.t 6)]⟩
theorem k_impl_within : compF Tryd.prog Tryd.f47 = some c_impl_within := by kernel_rfl
def c_impl_upTo : F := ⟨(.seq (.reg false [⟨some 4, .mv (.c (.bool false)), none⟩]) (.seq (.reg false [⟨some 5, .mv (.t 0), none⟩, ⟨some 6, .mv (.t 1), none⟩, ⟨some 7, .un .neg (.t 6), none⟩, ⟨some 8, .mv (.t 1), none⟩, ⟨some 9, .call (.f 47) [(.t 5), (.t 7), (.t 8)], none⟩, ⟨some 4, .mv (.t 9), none⟩]) .ret)), 10, [(.t 4)]⟩
theorem k_impl_upTo : compF Tryd.prog Tryd.f48 = some c_impl_upTo := by kernel_rfl
def c_impl_size : F := ⟨(.seq (.reg false [⟨some 2, .mv (.c (.int .i64 0)), none⟩]) (.seq (.reg false [⟨some 3, .mv (.t 0), none⟩, ⟨some 4, .mv (.t 0), none⟩, ⟨some 5, .un .neg (.t 4), none⟩, ⟨some 6, .mx [(.t 3), (.t 5)], none⟩, ⟨some 2, .mv (.t 6), none⟩]) .ret)), 7, [(.t 2)]⟩
theorem k_impl_size : compF Tryd.prog Tryd.f79 = some c_impl_size := by kernel_rfl
def c_impl_common : F := ⟨(.seq (.reg false [⟨some 4, .mv (.c (.int .i64 0)), none⟩]) (.seq (.reg false [⟨some 5, .mv (.t 0), none⟩, ⟨some 6, .call (.f 79) [(.t 5)], none⟩, ⟨some 7, .mv (.t 1), none⟩, ⟨some 8, .call (.f 79) [(.t 7)], none⟩, ⟨some 0, .mv (.t 6), none⟩, ⟨some 1, .mv (.t 8), none⟩]) (.seq (.block 0 (.loop (.seq (.seq (.reg false [⟨some 9, .mv (.t 1), none⟩, ⟨some 10, .bin .neq (.t 9) (.c (.int .i64 0)), none⟩]) (.cond (.t 10) .skip (.exit 0))) (.block 1 (.reg false [⟨some 11, .mv (.t 1), none⟩, ⟨some 12, .mv (.t 0), none⟩, ⟨some 13, .mv (.t 1), none⟩, ⟨some 14, .bin .rem (.t 12) (.t 13), none⟩, ⟨some 0, .mv (.t 11), none⟩, ⟨some 1, .mv (.t 14), none⟩]))))) (.seq (.reg false [⟨some 15, .mv (.t 0), none⟩, ⟨some 4, .mv (.t 15), none⟩]) .ret)))), 16, [(.t 4)]⟩
theorem k_impl_common : compF Tryd.prog Tryd.f49 = some c_impl_common := by kernel_rfl
def c_spec_l01In : F := ⟨(.seq (.reg false [⟨some 6, .mv (.c (.bool false)), none⟩]) (.seq (.reg false [⟨some 7, .mv (.t 0), none⟩, ⟨some 8, .mv (.t 1), none⟩, ⟨some 9, .bin .geq (.t 7) (.t 8), none⟩, ⟨some 10, .mv (.t 9), none⟩, ⟨some 11, .mv (.t 0), some (10, true)⟩, ⟨some 12, .mv (.t 2), some (10, true)⟩, ⟨some 13, .bin .leq (.t 11) (.t 12), some (10, true)⟩, ⟨some 14, .pick (.t 10) (.t 13) (.c (.bool false)), none⟩, ⟨some 6, .mv (.t 14), none⟩]) .ret)), 15, [(.t 6)]⟩
theorem k_spec_l01In : compF Tryd.prog Tryd.f54 = some c_spec_l01In := by kernel_rfl
def c_spec_l01Gcd : F := ⟨(.seq (.reg false [⟨some 4, .mv (.c (.int .i64 0)), none⟩]) (.seq (.block 0 (.loop (.seq (.seq (.reg false [⟨some 6, .mv (.t 1), none⟩, ⟨some 7, .bin .neq (.t 6) (.c (.int .i64 0)), none⟩]) (.cond (.t 7) .skip (.exit 0))) (.block 1 (.seq (.reg false [⟨some 8, .mv (.t 0), none⟩, ⟨some 9, .mv (.t 1), none⟩, ⟨some 10, .bin .rem (.t 8) (.t 9), none⟩, ⟨some 5, .mv (.t 10), none⟩]) (.seq (.reg false [⟨some 11, .mv (.t 1), none⟩, ⟨some 0, .mv (.t 11), none⟩]) (.reg false [⟨some 12, .mv (.t 5), none⟩, ⟨some 1, .mv (.t 12), none⟩]))))))) (.seq (.reg false [⟨some 13, .mv (.t 0), none⟩, ⟨some 14, .mv (.t 0), none⟩, ⟨some 15, .un .neg (.t 14), none⟩, ⟨some 16, .mx [(.t 13), (.t 15)], none⟩, ⟨some 4, .mv (.t 16), none⟩]) .ret))), 17, [(.t 4)]⟩
theorem k_spec_l01Gcd : compF Tryd.prog Tryd.f76 = some c_spec_l01Gcd := by kernel_rfl

theorem impl_within (a b c : Int) (h : AH) (n : Nat) : Q Tryd.prog 47 [.int .i64 a, .int .i64 b, .int .i64 c] h n (.bool (decide (b ≤ a ∧ a ≤ c))) := by
  refine q_intro Tryd.func47 k_impl_within ?_
  simp (maxSteps := 2000000) -implicitDefEqProofs (disch := omega) only [c_impl_within, xsW, xsC, xsD, xsE, fillA, reduceCtorEq, Nat.reduceAdd, Nat.reduceSub, Nat.reduceLeDiff, Nat.reduceMul, Int.reduceLT, Int.reduceLE, Int.reduceEq, Int.reduceNe, Int.reduceAdd, Int.reduceSub, Int.reduceMul, Int.reduceNeg, Int.reduceToNat]
  (refine gd_dec (fun h1 => ?_) (fun h1 => ?_) <;> simp (maxSteps := 2000000) -implicitDefEqProofs (disch := omega) only [xsW, xsC, xsD, xsE, fillA, reduceCtorEq, Nat.reduceAdd, Nat.reduceSub, Nat.reduceLeDiff, Nat.reduceMul, Int.reduceLT, Int.reduceLE, Int.reduceEq, Int.reduceNe, Int.reduceAdd, Int.reduceSub, Int.reduceMul, Int.reduceNeg, Int.reduceToNat,  h1]) <;> (first | rfl | omega | (rw [Bool.eq_iff_iff]; simp only [decide_eq_true_eq, Bool.false_eq_true, iff_true, true_iff, false_iff, iff_false, ne_eq, isFr]; omega))
theorem spec_l01In (a b c : Int) (h : AH) (n : Nat) : Q Tryd.prog 54 [.int .i64 a, .int .i64 b, .int .i64 c] h n (.bool (decide (b ≤ a ∧ a ≤ c))) := by
  refine q_intro Tryd.func54 k_spec_l01In ?_
  simp (maxSteps := 2000000) -implicitDefEqProofs (disch := omega) only [c_spec_l01In, xsW, xsC, xsD, xsE, fillA, reduceCtorEq, Nat.reduceAdd, Nat.reduceSub, Nat.reduceLeDiff, Nat.reduceMul, Int.reduceLT, Int.reduceLE, Int.reduceEq, Int.reduceNe, Int.reduceAdd, Int.reduceSub, Int.reduceMul, Int.reduceNeg, Int.reduceToNat]
  (refine gd_dec (fun h1 => ?_) (fun h1 => ?_) <;> simp (maxSteps := 2000000) -implicitDefEqProofs (disch := omega) only [xsW, xsC, xsD, xsE, fillA, reduceCtorEq, Nat.reduceAdd, Nat.reduceSub, Nat.reduceLeDiff, Nat.reduceMul, Int.reduceLT, Int.reduceLE, Int.reduceEq, Int.reduceNe, Int.reduceAdd, Int.reduceSub, Int.reduceMul, Int.reduceNeg, Int.reduceToNat,  h1]) <;> (first | rfl | omega | (rw [Bool.eq_iff_iff]; simp only [decide_eq_true_eq, Bool.false_eq_true, iff_true, true_iff, false_iff, iff_false, ne_eq, isFr]; omega))
theorem impl_upTo (a c : Int) (hc : in64 (-c)) (h : AH) (n : Nat) : Q Tryd.prog 48 [.int .i64 a, .int .i64 c] h n (.bool (decide (-c ≤ a ∧ a ≤ c))) := by
  refine q_intro Tryd.func48 k_impl_upTo ?_
  simp (maxSteps := 2000000) -implicitDefEqProofs (disch := omega) only [c_impl_upTo, xsW, xsC, xsD, xsE, fillA, reduceCtorEq, Nat.reduceAdd, Nat.reduceSub, Nat.reduceLeDiff, Nat.reduceMul, Int.reduceLT, Int.reduceLE, Int.reduceEq, Int.reduceNe, Int.reduceAdd, Int.reduceSub, Int.reduceMul, Int.reduceNeg, Int.reduceToNat]
  refine ⟨hc, q_use (impl_within _ _ _ _ _) fun n' hn => ?_⟩
  simp (maxSteps := 2000000) -implicitDefEqProofs (disch := omega) only [xsW, xsC, xsD, xsE, fillA, reduceCtorEq, Nat.reduceAdd, Nat.reduceSub, Nat.reduceLeDiff, Nat.reduceMul, Int.reduceLT, Int.reduceLE, Int.reduceEq, Int.reduceNe, Int.reduceAdd, Int.reduceSub, Int.reduceMul, Int.reduceNeg, Int.reduceToNat]
theorem impl_size (a : Int) (ha' : in64 (-a)) (h : AH) (n : Nat) : Q Tryd.prog 79 [.int .i64 a] h n (.int .i64 a.natAbs) := by
  refine q_intro Tryd.func79 k_impl_size ?_
  simp (maxSteps := 2000000) -implicitDefEqProofs (disch := omega) only [c_impl_size, xsW, xsC, xsD, xsE, fillA, reduceCtorEq, Nat.reduceAdd, Nat.reduceSub, Nat.reduceLeDiff, Nat.reduceMul, Int.reduceLT, Int.reduceLE, Int.reduceEq, Int.reduceNe, Int.reduceAdd, Int.reduceSub, Int.reduceMul, Int.reduceNeg, Int.reduceToNat]
  exact ⟨ha', by omega⟩
theorem gcd_step (x y : Int) : Int.gcd y (x.tmod y) = Int.gcd x y := by
  unfold Int.gcd
  rw [Int.natAbs_tmod, Nat.gcd_comm y.natAbs, ← Nat.gcd_rec, Nat.gcd_comm]
theorem impl_common (a b : Int) (ha : in64 a ∧ in64 (-a)) (hb : in64 b ∧ in64 (-b)) (h : AH) (n : Nat) : Q Tryd.prog 49 [.int .i64 a, .int .i64 b] h n (.int .i64 (Int.gcd a b)) := by
  refine q_intro Tryd.func49 k_impl_common ?_
  simp (maxSteps := 2000000) -implicitDefEqProofs (disch := omega) only [c_impl_common, xsW, xsC, xsD, xsE, fillA, reduceCtorEq, Nat.reduceAdd, Nat.reduceSub, Nat.reduceLeDiff, Nat.reduceMul, Int.reduceLT, Int.reduceLE, Int.reduceEq, Int.reduceNe, Int.reduceAdd, Int.reduceSub, Int.reduceMul, Int.reduceNeg, Int.reduceToNat]
  refine q_use (impl_size _ ha.2 _ _) fun n1 hn1 => ?_
  simp (maxSteps := 2000000) -implicitDefEqProofs (disch := omega) only [xsW, xsC, xsD, xsE, fillA, reduceCtorEq, Nat.reduceAdd, Nat.reduceSub, Nat.reduceLeDiff, Nat.reduceMul, Int.reduceLT, Int.reduceLE, Int.reduceEq, Int.reduceNe, Int.reduceAdd, Int.reduceSub, Int.reduceMul, Int.reduceNeg, Int.reduceToNat]
  refine q_use (impl_size _ hb.2 _ _) fun n2 hn2 => ?_
  simp (maxSteps := 2000000) -implicitDefEqProofs (disch := omega) only [xsW, xsC, xsD, xsE, fillA, reduceCtorEq, Nat.reduceAdd, Nat.reduceSub, Nat.reduceLeDiff, Nat.reduceMul, Int.reduceLT, Int.reduceLE, Int.reduceEq, Int.reduceNe, Int.reduceAdd, Int.reduceSub, Int.reduceMul, Int.reduceNeg, Int.reduceToNat]
  refine loop_rule (α := { p : Int × Int // 0 ≤ p.1 ∧ p.1 ≤ 9223372036854775807 ∧ 0 ≤ p.2 ∧ p.2 ≤ 9223372036854775807 ∧ Int.gcd p.1 p.2 = Int.gcd a b })
    (fun p => [.int .i64 p.1.1, .int .i64 p.1.2, .any, .any, .int .i64 0, .any, .any, .any, .any, .any, .any, .any, .any, .any, .any, .any]) (fun _ => h) (fun _ => n2) (fun p => p.1.2.toNat)
    ⟨(a.natAbs, b.natAbs), by unfold in64 at *; simp only; omega, by unfold in64 at *; simp only; omega, by simp only; omega, by unfold in64 at *; simp only; omega, by simp [Int.gcd]⟩ ⟨by simp [LeL, Le1], fun _ _ h => h, Nat.le_refl _⟩ ?_
  rintro ⟨⟨x, y⟩, hx, hx', hy, hy', hg⟩
  simp only at hx hx' hy hy' hg
  simp (maxSteps := 2000000) -implicitDefEqProofs (disch := omega) only [xsW, xsC, xsD, xsE, fillA, reduceCtorEq, Nat.reduceAdd, Nat.reduceSub, Nat.reduceLeDiff, Nat.reduceMul, Int.reduceLT, Int.reduceLE, Int.reduceEq, Int.reduceNe, Int.reduceAdd, Int.reduceSub, Int.reduceMul, Int.reduceNeg, Int.reduceToNat]
  (refine cd_dec (fun h0 => ?_) (fun h0 => ?_) <;> simp (maxSteps := 2000000) -implicitDefEqProofs (disch := omega) only [xsW, xsC, xsD, xsE, fillA, reduceCtorEq, Nat.reduceAdd, Nat.reduceSub, Nat.reduceLeDiff, Nat.reduceMul, Int.reduceLT, Int.reduceLE, Int.reduceEq, Int.reduceNe, Int.reduceAdd, Int.reduceSub, Int.reduceMul, Int.reduceNeg, Int.reduceToNat,  h0])
  · have hm := Int.emod_nonneg x h0
    have hm2 := Int.emod_lt_of_pos x (show 0 < y by omega)
    have he : x.tmod y = x % y := Int.tmod_eq_emod_of_nonneg hx
    refine ⟨ ⟨(y, x % y), hy, hy', hm, by simp only; omega, ?_⟩, by simp only; omega, by simp [LeL, Le1, he], fun _ _ h => h, Nat.le_refl _⟩
    simp only
    rw [← hg, ← he, gcd_step]
  · have hy0 : y = 0 := by omega
    subst hy0
    rw [← hg, Int.gcd_zero_right]
    omega
theorem spec_l01Gcd (a b : Int) (ha : in64 a ∧ in64 (-a)) (hb : in64 b ∧ in64 (-b)) (h : AH) (n : Nat) : Q Tryd.prog 76 [.int .i64 a, .int .i64 b] h n (.int .i64 (Int.gcd a b)) := by
  refine q_intro Tryd.func76 k_spec_l01Gcd ?_
  simp (maxSteps := 2000000) -implicitDefEqProofs (disch := omega) only [c_spec_l01Gcd, xsW, xsC, xsD, xsE, fillA, reduceCtorEq, Nat.reduceAdd, Nat.reduceSub, Nat.reduceLeDiff, Nat.reduceMul, Int.reduceLT, Int.reduceLE, Int.reduceEq, Int.reduceNe, Int.reduceAdd, Int.reduceSub, Int.reduceMul, Int.reduceNeg, Int.reduceToNat]
  refine loop_rule (α := { p : Int × Int // p.1.natAbs ≤ 9223372036854775807 ∧ p.2.natAbs ≤ 9223372036854775807 ∧ Int.gcd p.1 p.2 = Int.gcd a b })
    (fun p => [.int .i64 p.1.1, .int .i64 p.1.2, .any, .any, .int .i64 0, .any, .any, .any, .any, .any, .any, .any, .any, .any, .any, .any, .any]) (fun _ => h) (fun _ => n) (fun p => p.1.2.natAbs)
    ⟨(a, b), by unfold in64 at *; simp only; omega, by unfold in64 at *; simp only; omega, rfl⟩ ⟨by simp [LeL, Le1], fun _ _ h => h, Nat.le_refl _⟩ ?_
  rintro ⟨⟨x, y⟩, hx, hy, hg⟩
  simp only at hx hy hg
  simp (maxSteps := 2000000) -implicitDefEqProofs (disch := omega) only [xsW, xsC, xsD, xsE, fillA, reduceCtorEq, Nat.reduceAdd, Nat.reduceSub, Nat.reduceLeDiff, Nat.reduceMul, Int.reduceLT, Int.reduceLE, Int.reduceEq, Int.reduceNe, Int.reduceAdd, Int.reduceSub, Int.reduceMul, Int.reduceNeg, Int.reduceToNat]
  (refine cd_dec (fun h0 => ?_) (fun h0 => ?_) <;> simp (maxSteps := 2000000) -implicitDefEqProofs (disch := omega) only [xsW, xsC, xsD, xsE, fillA, reduceCtorEq, Nat.reduceAdd, Nat.reduceSub, Nat.reduceLeDiff, Nat.reduceMul, Int.reduceLT, Int.reduceLE, Int.reduceEq, Int.reduceNe, Int.reduceAdd, Int.reduceSub, Int.reduceMul, Int.reduceNeg, Int.reduceToNat,  h0])
  · have hm : (x.tmod y).natAbs < y.natAbs := by
      rw [Int.natAbs_tmod]; exact Nat.mod_lt _ (by omega)
    refine ⟨ ⟨(y, x.tmod y), hy, by simp only; omega, ?_⟩, by simp only; omega, by simp [LeL, Le1], fun _ _ h => h, Nat.le_refl _⟩
    simp only
    rw [← hg, gcd_step]
  · have hy0 : y = 0 := by omega
    subst hy0
    have e := Int.gcd_zero_right x
    rw [← hg, e]
    omega
def c_impl_IsFrac : F := ⟨(.seq (.reg false [⟨some 1, .box 26 (.t 0), none⟩, ⟨some 2, .mv (.c (.bool false)), none⟩]) (.seq (.reg false [⟨some 3, .fa 1 (.t 1), none⟩, ⟨some 4, .ld1 (.t 3), none⟩, ⟨some 5, .call (.f 47) [(.t 4), (.c (.int .i64 1)), (.c (.int .i64 1000000000))], none⟩, ⟨some 6, .mv (.t 5), none⟩, ⟨some 7, .fa 0 (.t 1), some (6, true)⟩, ⟨some 8, .ld1 (.t 7), some (6, true)⟩, ⟨some 9, .call (.f 48) [(.t 8), (.c (.int .i64 1000000000))], some (6, true)⟩, ⟨some 10, .pick (.t 6) (.t 9) (.c (.bool false)), none⟩, ⟨some 11, .mv (.t 10), none⟩, ⟨some 12, .fa 0 (.t 1), some (11, true)⟩, ⟨some 13, .ld1 (.t 12), some (11, true)⟩, ⟨some 14, .fa 1 (.t 1), some (11, true)⟩, ⟨some 15, .ld1 (.t 14), some (11, true)⟩, ⟨some 16, .call (.f 49) [(.t 13), (.t 15)], some (11, true)⟩, ⟨some 17, .bin .eql (.t 16) (.c (.int .i64 1)), some (11, true)⟩, ⟨some 18, .pick (.t 11) (.t 17) (.c (.bool false)), none⟩, ⟨some 2, .mv (.t 18), none⟩]) .ret)), 19, [(.t 2)]⟩
theorem k_impl_IsFrac : compF Tryd.prog Tryd.f14 = some c_impl_IsFrac := by kernel_rfl
def c_spec_l01IsFrac : F := ⟨(.seq (.reg false [⟨some 2, .box 26 (.t 0), none⟩, ⟨some 4, .mv (.c (.bool false)), none⟩]) (.seq (.reg false [⟨some 5, .fa 1 (.t 2), none⟩, ⟨some 6, .ld1 (.t 5), none⟩, ⟨some 7, .mv (.t 1), none⟩, ⟨some 8, .call (.f 54) [(.t 6), (.c (.int .i64 1)), (.t 7)], none⟩, ⟨some 9, .mv (.t 8), none⟩, ⟨some 10, .fa 0 (.t 2), some (9, true)⟩, ⟨some 11, .ld1 (.t 10), some (9, true)⟩, ⟨some 12, .mv (.t 1), some (9, true)⟩, ⟨some 13, .un .neg (.t 12), some (9, true)⟩, ⟨some 14, .mv (.t 1), some (9, true)⟩, ⟨some 15, .call (.f 54) [(.t 11), (.t 13), (.t 14)], some (9, true)⟩, ⟨some 16, .pick (.t 9) (.t 15) (.c (.bool false)), none⟩, ⟨some 17, .mv (.t 16), none⟩, ⟨some 18, .fa 0 (.t 2), some (17, true)⟩, ⟨some 19, .ld1 (.t 18), some (17, true)⟩, ⟨some 20, .fa 1 (.t 2), some (17, true)⟩, ⟨some 21, .ld1 (.t 20), some (17, true)⟩, ⟨some 22, .call (.f 76) [(.t 19), (.t 21)], some (17, true)⟩, ⟨some 23, .bin .eql (.t 22) (.c (.int .i64 1)), some (17, true)⟩, ⟨some 24, .pick (.t 17) (.t 23) (.c (.bool false)), none⟩, ⟨some 4, .mv (.t 24), none⟩]) .ret)), 25, [(.t 4)]⟩
theorem k_spec_l01IsFrac : compF Tryd.prog Tryd.f50 = some c_spec_l01IsFrac := by kernel_rfl
def c_spec_IsFrac : F := ⟨(.seq (.reg false [⟨some 1, .box 26 (.t 0), none⟩, ⟨some 2, .mv (.c (.bool false)), none⟩]) (.seq (.reg false [⟨some 3, .ld 2 (.t 1), none⟩, ⟨some 4, .call (.f 50) [(.t 3), (.c (.int .i64 1000000000))], none⟩, ⟨some 2, .mv (.t 4), none⟩]) .ret)), 5, [(.t 2)]⟩
theorem k_spec_IsFrac : compF Tryd.prog Tryd.f15 = some c_spec_IsFrac := by kernel_rfl
def c_laws_toFrac : F := ⟨(.seq (.reg false [⟨some 1, .box 23 (.t 0), none⟩, ⟨some 2, .alloc 26 [(.int .i64 0), (.int .i64 0)], none⟩]) (.seq (.reg false [⟨some 3, .alloc 26 [(.int .i64 0), (.int .i64 0)], none⟩]) (.seq (.reg false [⟨some 4, .fa 0 (.t 1), none⟩, ⟨some 5, .ld1 (.t 4), none⟩, ⟨some 6, .fa 0 (.t 3), none⟩, ⟨none, .st 1 (.t 6) (.t 5), none⟩]) (.seq (.reg false [⟨some 7, .fa 1 (.t 1), none⟩, ⟨some 8, .ld1 (.t 7), none⟩, ⟨some 9, .fa 1 (.t 3), none⟩, ⟨none, .st 1 (.t 9) (.t 8), none⟩]) (.seq (.reg false [⟨some 10, .ld 2 (.t 3), none⟩, ⟨none, .st 2 (.t 2) (.t 10), none⟩]) .ret))))), 11, [(.ca 2 2)]⟩
theorem k_laws_toFrac : compF Tryd.prog Tryd.f8 = some c_laws_toFrac := by kernel_rfl

def fr (a b : Int) : AV := .agg [.int .i64 a, .int .i64 b]
def isFr (most a b : Int) : Bool := decide (1 ≤ b ∧ b ≤ most ∧ -most ≤ a ∧ a ≤ most ∧ Int.gcd a b = 1)

theorem impl_IsFrac (a b : Int) (h : AH) (n : Nat) : Q Tryd.prog 14 [fr a b] h n (.bool (isFr 1000000000 a b)) := by
  refine q_intro Tryd.func14 k_impl_IsFrac ?_
  simp (maxSteps := 2000000) -implicitDefEqProofs (disch := omega) only [c_impl_IsFrac, fr, xsW, xsC, xsD, xsE, fillA, reduceCtorEq, Nat.reduceAdd, Nat.reduceSub, Nat.reduceLeDiff, Nat.reduceMul, Int.reduceLT, Int.reduceLE, Int.reduceEq, Int.reduceNe, Int.reduceAdd, Int.reduceSub, Int.reduceMul, Int.reduceNeg, Int.reduceToNat]
  refine q_use (impl_within _ _ _ _ _) fun n1 hn1 => ?_
  simp (maxSteps := 2000000) -implicitDefEqProofs (disch := omega) only [xsW, xsC, xsD, xsE, fillA, reduceCtorEq, Nat.reduceAdd, Nat.reduceSub, Nat.reduceLeDiff, Nat.reduceMul, Int.reduceLT, Int.reduceLE, Int.reduceEq, Int.reduceNe, Int.reduceAdd, Int.reduceSub, Int.reduceMul, Int.reduceNeg, Int.reduceToNat]
  (refine gd_dec (fun h1 => ?_) (fun h1 => ?_) <;> simp (maxSteps := 2000000) -implicitDefEqProofs (disch := omega) only [xsW, xsC, xsD, xsE, fillA, reduceCtorEq, Nat.reduceAdd, Nat.reduceSub, Nat.reduceLeDiff, Nat.reduceMul, Int.reduceLT, Int.reduceLE, Int.reduceEq, Int.reduceNe, Int.reduceAdd, Int.reduceSub, Int.reduceMul, Int.reduceNeg, Int.reduceToNat,  h1])
  · refine q_use (impl_upTo _ _ (by unfold in64; omega) _ _) fun n2 hn2 => ?_
    simp (maxSteps := 2000000) -implicitDefEqProofs (disch := omega) only [xsW, xsC, xsD, xsE, fillA, reduceCtorEq, Nat.reduceAdd, Nat.reduceSub, Nat.reduceLeDiff, Nat.reduceMul, Int.reduceLT, Int.reduceLE, Int.reduceEq, Int.reduceNe, Int.reduceAdd, Int.reduceSub, Int.reduceMul, Int.reduceNeg, Int.reduceToNat,  h1]
    (refine gd_dec (fun h2 => ?_) (fun h2 => ?_) <;> simp (maxSteps := 2000000) -implicitDefEqProofs (disch := omega) only [xsW, xsC, xsD, xsE, fillA, reduceCtorEq, Nat.reduceAdd, Nat.reduceSub, Nat.reduceLeDiff, Nat.reduceMul, Int.reduceLT, Int.reduceLE, Int.reduceEq, Int.reduceNe, Int.reduceAdd, Int.reduceSub, Int.reduceMul, Int.reduceNeg, Int.reduceToNat,  h2])
    · refine q_use (impl_common _ _ (by unfold in64; omega) (by unfold in64; omega) _ _) fun n3 hn3 => ?_
      simp (maxSteps := 2000000) -implicitDefEqProofs (disch := omega) only [xsW, xsC, xsD, xsE, fillA, reduceCtorEq, Nat.reduceAdd, Nat.reduceSub, Nat.reduceLeDiff, Nat.reduceMul, Int.reduceLT, Int.reduceLE, Int.reduceEq, Int.reduceNe, Int.reduceAdd, Int.reduceSub, Int.reduceMul, Int.reduceNeg, Int.reduceToNat,  h1, h2]
      (first | rfl | omega | (rw [Bool.eq_iff_iff]; simp only [decide_eq_true_eq, Bool.false_eq_true, iff_true, true_iff, false_iff, iff_false, ne_eq, isFr]; omega))
    · (first | rfl | omega | (rw [Bool.eq_iff_iff]; simp only [decide_eq_true_eq, Bool.false_eq_true, iff_true, true_iff, false_iff, iff_false, ne_eq, isFr]; omega))
  · (first | rfl | omega | (rw [Bool.eq_iff_iff]; simp only [decide_eq_true_eq, Bool.false_eq_true, iff_true, true_iff, false_iff, iff_false, ne_eq, isFr]; omega))
theorem spec_l01IsFrac (a b m : Int) (hm : 0 ≤ m ∧ m ≤ 2000000000000) (h : AH) (n : Nat) : Q Tryd.prog 50 [fr a b, .int .i64 m] h n (.bool (isFr m a b)) := by
  refine q_intro Tryd.func50 k_spec_l01IsFrac ?_
  simp (maxSteps := 2000000) -implicitDefEqProofs (disch := omega) only [c_spec_l01IsFrac, fr, xsW, xsC, xsD, xsE, fillA, reduceCtorEq, Nat.reduceAdd, Nat.reduceSub, Nat.reduceLeDiff, Nat.reduceMul, Int.reduceLT, Int.reduceLE, Int.reduceEq, Int.reduceNe, Int.reduceAdd, Int.reduceSub, Int.reduceMul, Int.reduceNeg, Int.reduceToNat]
  refine q_use (spec_l01In _ _ _ _ _) fun n1 hn1 => ?_
  simp (maxSteps := 2000000) -implicitDefEqProofs (disch := omega) only [xsW, xsC, xsD, xsE, fillA, reduceCtorEq, Nat.reduceAdd, Nat.reduceSub, Nat.reduceLeDiff, Nat.reduceMul, Int.reduceLT, Int.reduceLE, Int.reduceEq, Int.reduceNe, Int.reduceAdd, Int.reduceSub, Int.reduceMul, Int.reduceNeg, Int.reduceToNat]
  (refine gd_dec (fun h1 => ?_) (fun h1 => ?_) <;> simp (maxSteps := 2000000) -implicitDefEqProofs (disch := omega) only [xsW, xsC, xsD, xsE, fillA, reduceCtorEq, Nat.reduceAdd, Nat.reduceSub, Nat.reduceLeDiff, Nat.reduceMul, Int.reduceLT, Int.reduceLE, Int.reduceEq, Int.reduceNe, Int.reduceAdd, Int.reduceSub, Int.reduceMul, Int.reduceNeg, Int.reduceToNat,  h1])
  · refine q_use (spec_l01In _ _ _ _ _) fun n2 hn2 => ?_
    simp (maxSteps := 2000000) -implicitDefEqProofs (disch := omega) only [xsW, xsC, xsD, xsE, fillA, reduceCtorEq, Nat.reduceAdd, Nat.reduceSub, Nat.reduceLeDiff, Nat.reduceMul, Int.reduceLT, Int.reduceLE, Int.reduceEq, Int.reduceNe, Int.reduceAdd, Int.reduceSub, Int.reduceMul, Int.reduceNeg, Int.reduceToNat,  h1]
    (refine gd_dec (fun h2 => ?_) (fun h2 => ?_) <;> simp (maxSteps := 2000000) -implicitDefEqProofs (disch := omega) only [xsW, xsC, xsD, xsE, fillA, reduceCtorEq, Nat.reduceAdd, Nat.reduceSub, Nat.reduceLeDiff, Nat.reduceMul, Int.reduceLT, Int.reduceLE, Int.reduceEq, Int.reduceNe, Int.reduceAdd, Int.reduceSub, Int.reduceMul, Int.reduceNeg, Int.reduceToNat,  h2])
    · refine q_use (spec_l01Gcd _ _ (by unfold in64; omega) (by unfold in64; omega) _ _) fun n3 hn3 => ?_
      simp (maxSteps := 2000000) -implicitDefEqProofs (disch := omega) only [xsW, xsC, xsD, xsE, fillA, reduceCtorEq, Nat.reduceAdd, Nat.reduceSub, Nat.reduceLeDiff, Nat.reduceMul, Int.reduceLT, Int.reduceLE, Int.reduceEq, Int.reduceNe, Int.reduceAdd, Int.reduceSub, Int.reduceMul, Int.reduceNeg, Int.reduceToNat,  h1, h2]
      (first | rfl | omega | (rw [Bool.eq_iff_iff]; simp only [decide_eq_true_eq, Bool.false_eq_true, iff_true, true_iff, false_iff, iff_false, ne_eq, isFr]; omega))
    · (first | rfl | omega | (rw [Bool.eq_iff_iff]; simp only [decide_eq_true_eq, Bool.false_eq_true, iff_true, true_iff, false_iff, iff_false, ne_eq, isFr]; omega))
  · (first | rfl | omega | (rw [Bool.eq_iff_iff]; simp only [decide_eq_true_eq, Bool.false_eq_true, iff_true, true_iff, false_iff, iff_false, ne_eq, isFr]; omega))
theorem spec_IsFrac (a b : Int) (h : AH) (n : Nat) : Q Tryd.prog 15 [fr a b] h n (.bool (isFr 1000000000 a b)) := by
  refine q_intro Tryd.func15 k_spec_IsFrac ?_
  simp (maxSteps := 2000000) -implicitDefEqProofs (disch := omega) only [c_spec_IsFrac, fr, xsW, xsC, xsD, xsE, fillA, reduceCtorEq, Nat.reduceAdd, Nat.reduceSub, Nat.reduceLeDiff, Nat.reduceMul, Int.reduceLT, Int.reduceLE, Int.reduceEq, Int.reduceNe, Int.reduceAdd, Int.reduceSub, Int.reduceMul, Int.reduceNeg, Int.reduceToNat]
  refine q_use (spec_l01IsFrac _ _ _ (by omega) _ _) fun n1 hn1 => ?_
  simp (maxSteps := 2000000) -implicitDefEqProofs (disch := omega) only [xsW, xsC, xsD, xsE, fillA, reduceCtorEq, Nat.reduceAdd, Nat.reduceSub, Nat.reduceLeDiff, Nat.reduceMul, Int.reduceLT, Int.reduceLE, Int.reduceEq, Int.reduceNe, Int.reduceAdd, Int.reduceSub, Int.reduceMul, Int.reduceNeg, Int.reduceToNat]
theorem laws_toFrac (a b : Int) (h : AH) (n : Nat) : Q Tryd.prog 8 [fr a b] h n (fr a b) := by
  refine q_intro Tryd.func8 k_laws_toFrac ?_
  simp (maxSteps := 2000000) -implicitDefEqProofs (disch := omega) only [c_laws_toFrac, fr, xsW, xsC, xsD, xsE, fillA, reduceCtorEq, Nat.reduceAdd, Nat.reduceSub, Nat.reduceLeDiff, Nat.reduceMul, Int.reduceLT, Int.reduceLE, Int.reduceEq, Int.reduceNe, Int.reduceAdd, Int.reduceSub, Int.reduceMul, Int.reduceNeg, Int.reduceToNat]
def told (p : Int × Int) : AV := if isFr 1000000000 p.1 p.2 then .tup [fr p.1 p.2, .int .i64 0] else .tup [fr 0 0, .int .i64 3]
end Go.Proofs.YtkpibnhddhdooacDoor.L
namespace Go.Proofs
open Go.Shelf
def Tryd.layFmt_ren : Go.Shelf.Ren := ⟨fun | 173 => 91 | 246 => 107 | 283 => 123 | 284 => 124 | 285 => 125 | 286 => 126 | 129 => 138 | 317 => 137 | 318 => 139 | 319 => 140 | 320 => 141 | 337 => 147 | 338 => 148 | n => n, fun | 2 => 2 | 3 => 3 | 9 => 9 | 4 => 4 | 171 => 139 | 0 => 0 | 53 => 93 | 37 => 29 | 5 => 5 | 173 => 142 | 212 => 157 | 51 => 147 | 20 => 20 | 213 => 158 | 46 => 96 | 232 => 174 | 233 => 175 | n => n, fun | 17 => 1 | 18 => 6 | 19 => 7 | n => n⟩
theorem Tryd.layFmt : Go.Proofs.LaysM.n173 Tryd.prog Tryd.layFmt_ren := {
  mixed := by kernel_rfl
  f129 := Tryd.func138.trans (congrArg some (by kernel_rfl))
  f173 := Tryd.func91.trans (congrArg some (by kernel_rfl))
  f246 := Tryd.func107.trans (congrArg some (by kernel_rfl))
  f283 := Tryd.func123.trans (congrArg some (by kernel_rfl))
  f284 := Tryd.func124.trans (congrArg some (by kernel_rfl))
  f285 := Tryd.func125.trans (congrArg some (by kernel_rfl))
  f286 := Tryd.func126.trans (congrArg some (by kernel_rfl))
  f317 := Tryd.func137.trans (congrArg some (by kernel_rfl))
  f318 := Tryd.func139.trans (congrArg some (by kernel_rfl))
  f319 := Tryd.func140.trans (congrArg some (by kernel_rfl))
  f320 := Tryd.func141.trans (congrArg some (by kernel_rfl))
  f337 := Tryd.func147.trans (congrArg some (by kernel_rfl))
  f338 := Tryd.func148.trans (congrArg some (by kernel_rfl))
  t0 := Tryd.underlying0
  a0 := Tryd.isAgg0
  z0 := Tryd.sizeOf0
  v0 := Tryd.zeroValue0
  t2 := Tryd.underlying2
  a2 := Tryd.isAgg2
  z2 := Tryd.sizeOf2
  v2 := Tryd.zeroValue2
  t3 := Tryd.underlying3
  a3 := Tryd.isAgg3
  z3 := Tryd.sizeOf3
  v3 := Tryd.zeroValue3
  t4 := Tryd.underlying4
  a4 := Tryd.isAgg4
  z4 := Tryd.sizeOf4
  v4 := Tryd.zeroValue4
  t5 := Tryd.underlying5
  a5 := Tryd.isAgg5
  z5 := Tryd.sizeOf5
  v5 := Tryd.zeroValue5
  t9 := Tryd.underlying9
  a9 := Tryd.isAgg9
  z9 := Tryd.sizeOf9
  v9 := Tryd.zeroValue9
  t20 := Tryd.underlying20
  a20 := Tryd.isAgg20
  z20 := Tryd.sizeOf20
  v20 := Tryd.zeroValue20
  t37 := Tryd.underlying29
  a37 := Tryd.isAgg29
  z37 := Tryd.sizeOf29
  v37 := Tryd.zeroValue29
  t46 := Tryd.underlying96
  a46 := Tryd.isAgg96
  z46 := Tryd.sizeOf96
  v46 := Tryd.zeroValue96
  t51 := Tryd.underlying147
  a51 := Tryd.isAgg147
  z51 := Tryd.sizeOf147
  v51 := Tryd.zeroValue147
  t53 := Tryd.underlying93
  a53 := Tryd.isAgg93
  z53 := Tryd.sizeOf93
  v53 := Tryd.zeroValue93
  t171 := Tryd.underlying139
  a171 := Tryd.isAgg139
  z171 := Tryd.sizeOf139
  v171 := Tryd.zeroValue139
  t173 := Tryd.underlying142
  a173 := Tryd.isAgg142
  z173 := Tryd.sizeOf142
  v173 := Tryd.zeroValue142
  t212 := Tryd.underlying157
  a212 := Tryd.isAgg157
  z212 := Tryd.sizeOf157
  v212 := Tryd.zeroValue157
  t213 := Tryd.underlying158
  a213 := Tryd.isAgg158
  z213 := Tryd.sizeOf158
  t232 := Tryd.underlying174
  a232 := Tryd.isAgg174
  z232 := Tryd.sizeOf174
  v232 := Tryd.zeroValue174
  t233 := Tryd.underlying175
  a233 := Tryd.isAgg175
  z233 := Tryd.sizeOf175
  v233 := Tryd.zeroValue175
  g17 := by kernel_rfl
  g18 := by kernel_rfl
  g19 := by kernel_rfl
  i0 := by kernel_rfl
  i2 := by kernel_rfl
  i3 := by kernel_rfl
  i4 := by kernel_rfl
  i5 := by kernel_rfl
  i9 := by kernel_rfl
  i20 := by kernel_rfl
  i37 := by kernel_rfl
  i46 := by kernel_rfl
  i51 := by kernel_rfl
  i53 := by kernel_rfl
  i171 := by kernel_rfl
  i173 := by kernel_rfl
  i212 := by kernel_rfl
  i232 := by kernel_rfl
  i233 := by kernel_rfl
  m17 := by kernel_rfl
  m18 := by kernel_rfl
  m19 := by kernel_rfl }
end Go.Proofs
namespace Go.Proofs.YtkpibnhddhdooacDoor.L
open Go Go.Proofs
def c_impl_decimal : F := ⟨(.seq (.reg false [⟨(some 2), (.mv (.c (.str ⟨#[]⟩))), none⟩]) (.seq (.reg false [⟨some 3, .mv (.t 0), none⟩, ⟨some 4, .call (.f 91) [(.t 3), (.c (.int .i64 10))], none⟩, ⟨some 2, .mv (.t 4), none⟩]) .ret)), 5, [(.t 2)]⟩
theorem k_impl_decimal : compF Tryd.prog Tryd.f75 = some c_impl_decimal := by kernel_rfl
def c_spec_l01Dec : F := ⟨(.seq (.reg false [⟨(some 2), (.mv (.c (.str ⟨#[]⟩))), none⟩]) (.seq (.seq (.reg false [⟨some 3, .mv (.t 0), none⟩, ⟨some 4, .bin .lss (.t 3) (.c (.int .i64 0)), none⟩]) (.cond (.t 4) (.seq (.reg false [⟨some 5, .mv (.t 0), none⟩, ⟨some 6, .un .neg (.t 5), none⟩, ⟨some 7, .call (.f 74) [(.t 6)], none⟩, ⟨(some 8), (.bin .add (.c (.str ⟨#[45]⟩)) (.t 7)), none⟩, ⟨some 2, .mv (.t 8), none⟩]) .ret) .skip)) (.seq (.seq (.reg false [⟨some 9, .mv (.t 0), none⟩, ⟨some 10, .bin .lss (.t 9) (.c (.int .i64 10)), none⟩]) (.cond (.t 10) (.seq (.reg false [⟨some 11, .mv (.t 0), none⟩, ⟨some 12, .bin .add (.c (.int .i64 48)) (.t 11), none⟩, ⟨some 13, .cvi .u8 (.t 12), none⟩, ⟨some 14, .lit 5 1 1 [(.int .u8 0)] [(0, (.t 13))], none⟩, ⟨some 15, .b2s (.t 14), none⟩, ⟨some 2, .mv (.t 15), none⟩]) .ret) .skip)) (.seq (.reg true [⟨some 16, .mv (.t 0), none⟩, ⟨some 17, .bin .quo (.t 16) (.c (.int .i64 10)), none⟩, ⟨some 19, .mv (.t 0), none⟩, ⟨some 20, .bin .rem (.t 19) (.c (.int .i64 10)), none⟩, ⟨some 21, .bin .add (.c (.int .i64 48)) (.t 20), none⟩, ⟨some 22, .cvi .u8 (.t 21), none⟩, ⟨some 23, .lit 5 1 1 [(.int .u8 0)] [(0, (.t 22))], none⟩, ⟨some 24, .b2s (.t 23), none⟩, ⟨some 18, .callq (.f 74) [(.t 17)], none⟩, ⟨some 25, .bin .add (.t 18) (.t 24), none⟩, ⟨some 2, .mv (.t 25), none⟩]) .ret)))), 26, [(.t 2)]⟩
theorem k_spec_l01Dec : compF Tryd.prog Tryd.f74 = some c_spec_l01Dec := by kernel_rfl

def bs (l : List UInt8) : ByteArray := ⟨l.toArray⟩
theorem bs_size (l : List UInt8) : (bs l).size = l.length := by simp [bs, ByteArray.size]
theorem bs_app (l m : List UInt8) : bs l ++ bs m = bs (l ++ m) := by
  apply ByteArray.ext
  simp [bs, ByteArray.data_append]
theorem fix_row {ρ : Rho} {h : AH} {w : World} {i g ty : Nat} {cells : List AV} (s : Sim ρ h w) (hb : h i = some ⟨ty, cells, false, g + 1⟩) (hne : cells ≠ []) :
    ∃ (cs : Array Value) (t : Nat) (z : Nat × Nat), w.heap[g]? = some (.cells cs t z) ∧ cs.size = cells.length ∧ ∀ (k : Nat) (c : AV), cells[k]? = some c → ∃ v : Value, cs[k]? = some v ∧ Is ρ c v := by
  obtain ⟨r, hr, hat⟩ := s.lies i _ hb
  obtain ⟨h0, h1, cs, t, z, h2, h3⟩ := hat.fix rfl (by simp) hne
  have e : r.b = g := by simp only at h1; omega
  subst e
  refine ⟨cs, t, z, h2, h3, fun k c hk => ?_⟩
  obtain ⟨v, h4, h5⟩ := hat.cells k c hk
  rw [h0, Nat.zero_add, cell_of_row w r.b k cs _ _ h2] at h4
  exact ⟨v, h4, h5⟩
def powA : List AV := Lib.pow10Tab.map fun z => .int .u64 z
def gPow : Nat := 1
def Tab (h : AH) : Prop := h 0 = some ⟨0, powA, false, gPow + 1⟩
theorem Tab.keep {h h' : AH} (t : Tab h) (k : h' 0 = h 0) : Tab h' := by unfold Tab; rw [k]; exact t
theorem gPow_named : Tryd.prog.globalNamed "internal/strconv.uint64pow10" = some gPow := by kernel_rfl
theorem tab_is {ρ : Rho} {h : AH} {w : World} (s : Sim ρ h w) (t : Tab h) : Lib.TabIs Tryd.prog w "internal/strconv.uint64pow10" .u64 Lib.pow10Tab := by
  obtain ⟨cs, ty, z, h1, h2, h3⟩ := fix_row s t (by simp [powA, Lib.pow10Tab])
  unfold Lib.TabIs World.var?
  rw [gPow_named]
  simp only [Option.bind_some, h1, Option.some.injEq]
  apply Array.ext'
  refine List.ext_getElem? fun k => ?_
  simp only [List.getElem?_map]
  cases hk : Lib.pow10Tab[k]? with
  | none =>
    rw [List.getElem?_eq_none_iff] at hk
    simp only [Option.map_none]
    rw [List.getElem?_eq_none_iff, Array.length_toList, h2]
    simpa [powA] using hk
  | some c =>
    obtain ⟨v, h4, h5⟩ := h3 k (.int .u64 c) (by simp [powA, hk])
    simp only [Is] at h5
    subst h5
    simpa using h4
structure Grown (w w' : World) : Prop where
  os : w'.os = w.os
  tape : w'.tape = w.tape
  output : w'.output = w.output
  size : w.heap.size ≤ w'.heap.size
  blk : ∀ b, b < w.heap.size → w'.heap[b]? = w.heap[b]?
theorem Grown.sim {ρ : Rho} {h : AH} {w w' : World} (s : Sim ρ h w) (g : Grown w w') : Sim ρ h w' := by
  refine ⟨fun i b hb => ?_, s.inj⟩
  obtain ⟨r, hr, hat⟩ := s.lies i b hb
  refine ⟨r, hr, ?_⟩
  by_cases hne : b.wr = true ∨ b.cells ≠ []
  · exact hat.keep (Ext.refl ρ) (g.blk _ (hat.lt hne))
  · refine ⟨fun k c hk => ?_, fun hb' => absurd (Or.inl hb') hne, fun _ _ hc => absurd (Or.inr hc) hne⟩
    have : b.cells = [] := by simpa using fun hc => hne (.inr hc)
    simp [this] at hk
theorem Grown.cx {ρ : Rho} {w w' : World} (g : Grown w w') (n : Nat) : Cx ⟨ρ, w, none', n, n⟩ ρ w' :=
  ⟨g.os, g.tape, g.output, g.size, fun b hb _ => g.blk b hb, fun _ _ => rfl, fun _ _ => rfl, fun i r h1 h2 => by simp only at h1 h2; omega, trivial⟩
theorem lib_q {f : Nat} {args : List AV} {h : AH} {n : Nat} {v : AV} (hf : okFn Tryd.prog f = true) (hc : ∀ (ρ : Rho) (w : World) (vs : List Value), Sim ρ h w → IsL ρ args vs → Calls Tryd.prog f vs.toArray w fun e w' => ∃ rv, e = .returned rv ∧ Is ρ v rv ∧ Grown w w') : Q Tryd.prog f args h n v :=
  ⟨n, hf, Nat.le_refl _, fun ρ w vs hs hi _ => (hc ρ w vs hs hi).mono fun e w' ⟨rv, h1, h2, h3⟩ => ⟨rv, ρ, h1, h2, h3.sim hs, h3.cx n⟩⟩
theorem grown_grow (w : World) (k : Nat) (os : Array Obj) : Grown w (Sort.grow (w.drewN k) os) :=
  ⟨rfl, rfl, rfl, by simp [Sort.grow, World.drewN], fun b hb => by
    show ((w.drewN k).heap ++ os)[b]? = w.heap[b]?
    rw [Array.getElem?_append_left (by simpa [World.drewN] using hb)]
    rfl⟩
theorem lib_FormatInt {h : AH} (t : Tab h) {m : Int} (hm : in64 m) (n : Nat) : Q Tryd.prog 91 [.int .i64 m, .int .i64 10] h n (.str (bs (Lib.itoa m))) := by
  refine lib_q (by kernel_rfl) fun ρ w vs hs hi => ?_
  simp only [IsL, Is] at hi
  obtain ⟨_, _, rfl, rfl, _, _, rfl, rfl, rfl⟩ := hi
  have h1 := hm.1
  have h2 := hm.2
  refine (Any.strconv_FormatInt_10 Tryd.layFmt m h1 h2 w (tab_is hs t)).mono ?_
  rintro e w' ⟨rfl, k, os, rfl⟩
  exact ⟨_, rfl, by simp only [Is]; rfl, grown_grow w k os⟩
theorem impl_decimal {h : AH} (t : Tab h) {m : Int} (hm : in64 m) (n : Nat) : Q Tryd.prog 75 [.int .i64 m] h n (.str (bs (Lib.itoa m))) := by
  refine q_intro Tryd.func75 k_impl_decimal ?_
  simp (maxSteps := 2000000) -implicitDefEqProofs (disch := omega) only [c_impl_decimal, xsW, xsC, xsD, xsE, fillA, reduceCtorEq, Nat.reduceAdd, Nat.reduceSub, Nat.reduceLeDiff, Nat.reduceMul, Int.reduceLT, Int.reduceLE, Int.reduceEq, Int.reduceNe, Int.reduceAdd, Int.reduceSub, Int.reduceMul, Int.reduceNeg, Int.reduceToNat]
  refine q_use (lib_FormatInt t hm _) fun n1 hn1 => ?_
  simp (maxSteps := 2000000) -implicitDefEqProofs (disch := omega) only [xsW, xsC, xsD, xsE, fillA, reduceCtorEq, Nat.reduceAdd, Nat.reduceSub, Nat.reduceLeDiff, Nat.reduceMul, Int.reduceLT, Int.reduceLE, Int.reduceEq, Int.reduceNe, Int.reduceAdd, Int.reduceSub, Int.reduceMul, Int.reduceNeg, Int.reduceToNat]
theorem u8_digit {d : Nat} (h : d < 10) : IntKind.u8.wrap (48 + (d : Int)) = ((UInt8.ofNat (48 + d)).toNat : Int) := by
  rw [UInt8.toNat_ofNat']
  simp [IntKind.wrap, IntKind.bits, IntKind.signed]
theorem bs_use {n m ty : Nat} {K : AV → AH → Nat → Prop} {h : AH} {c : UInt8} {x : Int} (hb : h n = some ⟨ty, [.int .u8 x], true, 0⟩) (hx : x = (c.toNat : Int)) (hk : K (.str (bs [c])) h m) : BS (.sl n 0 1 1) K h m :=
  ⟨[c], by simp, ⟨rfl, _, hb, by simp, by simp [cutA, hx]⟩, hk⟩
theorem nDigits_le {u : Nat} (h : u ≤ 9223372036854775807) : (Lib.decDigits u).length ≤ 20 := by
  rw [Lib.decDigits_length]
  exact Lib.nDigits_le20 u (by omega)
theorem dec_small {u : Nat} (h : u < 10) : Lib.decDigits u = [UInt8.ofNat (48 + u)] := by rw [Lib.decDigits, dif_pos h]
theorem dec_big {u : Nat} (h : ¬ u < 10) : Lib.decDigits u = Lib.decDigits (u / 10) ++ [UInt8.ofNat (48 + u % 10)] := by rw [Lib.decDigits, dif_neg h]
theorem spec_l01Dec0 (u : Nat) : u ≤ 9223372036854775807 → ∀ (h : AH) (n : Nat), Q Tryd.prog 74 [.int .i64 u] h n (.str (bs (Lib.decDigits u))) := by
  induction u using Nat.strongRecOn with
  | _ u ih =>
    intro hu h n
    refine q_intro Tryd.func74 k_spec_l01Dec ?_
    simp (maxSteps := 2000000) -implicitDefEqProofs (disch := omega) only [c_spec_l01Dec, w_b2s, w_callq, clq, xsW, xsC, xsD, xsE, fillA, reduceCtorEq, Nat.reduceAdd, Nat.reduceSub, Nat.reduceLeDiff, Nat.reduceMul, Int.reduceLT, Int.reduceLE, Int.reduceEq, Int.reduceNe, Int.reduceAdd, Int.reduceSub, Int.reduceMul, Int.reduceNeg, Int.reduceToNat]
    (refine cd_dec (fun c2 => ?_) (fun c2 => ?_) <;> simp (maxSteps := 2000000) -implicitDefEqProofs (disch := omega) only [xsW, xsC, xsD, xsE, fillA, reduceCtorEq, Nat.reduceAdd, Nat.reduceSub, Nat.reduceLeDiff, Nat.reduceMul, Int.reduceLT, Int.reduceLE, Int.reduceEq, Int.reduceNe, Int.reduceAdd, Int.reduceSub, Int.reduceMul, Int.reduceNeg, Int.reduceToNat,  c2])
    · simp (maxSteps := 2000000) -implicitDefEqProofs (disch := omega) only [xsW, xsC, xsD, xsE, fillA, reduceCtorEq, Nat.reduceAdd, Nat.reduceSub, Nat.reduceLeDiff, Nat.reduceMul, Int.reduceLT, Int.reduceLE, Int.reduceEq, Int.reduceNe, Int.reduceAdd, Int.reduceSub, Int.reduceMul, Int.reduceNeg, Int.reduceToNat,  w_b2s, w_callq, clq]
      refine bs_use (upd_same _ _ _) (u8_digit (by omega)) ?_
      simp (maxSteps := 2000000) -implicitDefEqProofs (disch := omega) only [xsW, xsC, xsD, xsE, fillA, reduceCtorEq, Nat.reduceAdd, Nat.reduceSub, Nat.reduceLeDiff, Nat.reduceMul, Int.reduceLT, Int.reduceLE, Int.reduceEq, Int.reduceNe, Int.reduceAdd, Int.reduceSub, Int.reduceMul, Int.reduceNeg, Int.reduceToNat,  dec_small (show u < 10 by omega)]
    · simp (maxSteps := 2000000) -implicitDefEqProofs (disch := omega) only [xsW, xsC, xsD, xsE, fillA, reduceCtorEq, Nat.reduceAdd, Nat.reduceSub, Nat.reduceLeDiff, Nat.reduceMul, Int.reduceLT, Int.reduceLE, Int.reduceEq, Int.reduceNe, Int.reduceAdd, Int.reduceSub, Int.reduceMul, Int.reduceNeg, Int.reduceToNat,  w_b2s, w_callq, clq]
      have e1 : (u : Int).tdiv 10 = ((u / 10 : Nat) : Int) := by rw [Int.tdiv_eq_ediv_of_nonneg (by omega)]; omega
      have e2 : (u : Int).tmod 10 = ((u % 10 : Nat) : Int) := by rw [Int.tmod_eq_emod_of_nonneg (by omega)]; omega
      rw [e1, e2]
      refine ⟨by unfold in64; omega, by unfold in64; omega, bs_use (upd_same _ _ _) (u8_digit (by omega)) ?_⟩
      simp (maxSteps := 2000000) -implicitDefEqProofs (disch := omega) only [xsW, xsC, xsD, xsE, fillA, reduceCtorEq, Nat.reduceAdd, Nat.reduceSub, Nat.reduceLeDiff, Nat.reduceMul, Int.reduceLT, Int.reduceLE, Int.reduceEq, Int.reduceNe, Int.reduceAdd, Int.reduceSub, Int.reduceMul, Int.reduceNeg, Int.reduceToNat,  w_callq, clq]
      refine callq_use (ih (u / 10) (by omega) (by omega) emp 0) rfl rfl ?_
      have hl := nDigits_le (u := u / 10) (by omega)
      simp (maxSteps := 2000000) -implicitDefEqProofs (disch := omega) only [xsW, xsC, xsD, xsE, fillA, reduceCtorEq, Nat.reduceAdd, Nat.reduceSub, Nat.reduceLeDiff, Nat.reduceMul, Int.reduceLT, Int.reduceLE, Int.reduceEq, Int.reduceNe, Int.reduceAdd, Int.reduceSub, Int.reduceMul, Int.reduceNeg, Int.reduceToNat,  bs_size, bs_app]
      have hb := dec_big (u := u) (by omega)
      exact ⟨by omega, by rw [hb]⟩
theorem sc45 : (⟨#[45]⟩ : ByteArray) = bs [45] := rfl
theorem sc47 : (⟨#[47]⟩ : ByteArray) = bs [47] := rfl
theorem sc0 : (⟨#[]⟩ : ByteArray) = bs [] := rfl
theorem spec_l01Dec {m : Int} (h0 : -9223372036854775807 ≤ m) (h1 : m ≤ 9223372036854775807) (h : AH) (n : Nat) : Q Tryd.prog 74 [.int .i64 m] h n (.str (bs (Lib.itoa m))) := by
  by_cases hm : 0 ≤ m
  · obtain ⟨u, rfl⟩ : ∃ u : Nat, m = u := ⟨m.toNat, by omega⟩
    have := spec_l01Dec0 u (by omega) h n
    rwa [show Lib.itoa (u : Int) = Lib.decDigits u by unfold Lib.itoa; rw [if_neg (by omega)]; simp]
  · obtain ⟨u, rfl⟩ : ∃ u : Nat, m = -(u : Int) := ⟨m.natAbs, by omega⟩
    refine q_intro Tryd.func74 k_spec_l01Dec ?_
    simp (maxSteps := 2000000) -implicitDefEqProofs (disch := omega) only [c_spec_l01Dec, xsW, xsC, xsD, xsE, fillA, reduceCtorEq, Nat.reduceAdd, Nat.reduceSub, Nat.reduceLeDiff, Nat.reduceMul, Int.reduceLT, Int.reduceLE, Int.reduceEq, Int.reduceNe, Int.reduceAdd, Int.reduceSub, Int.reduceMul, Int.reduceNeg, Int.reduceToNat]
    have q := spec_l01Dec0 u (by omega) h n
    rw [show - -(u : Int) = u by omega]
    refine q_use q fun n1 hn1 => ?_
    have hl := nDigits_le (u := u) (by omega)
    simp (maxSteps := 2000000) -implicitDefEqProofs (disch := omega) only [xsW, xsC, xsD, xsE, fillA, reduceCtorEq, Nat.reduceAdd, Nat.reduceSub, Nat.reduceLeDiff, Nat.reduceMul, Int.reduceLT, Int.reduceLE, Int.reduceEq, Int.reduceNe, Int.reduceAdd, Int.reduceSub, Int.reduceMul, Int.reduceNeg, Int.reduceToNat,  sc45, bs_size, bs_app]
    exact ⟨by omega, by rw [show Lib.itoa (-(u : Int)) = [45] ++ Lib.decDigits u by unfold Lib.itoa; rw [if_pos (by omega)]; simp]; simp⟩
theorem itoa_len {m : Int} (hm : in64 m) : (Lib.itoa m).length ≤ 21 := Lib.itoa_length_le m hm.1 hm.2
def c_impl_FracText : F := ⟨(.seq (.reg false [⟨some 1, .box 26 (.t 0), none⟩, ⟨(some 2), (.mv (.c (.str ⟨#[]⟩))), none⟩, ⟨some 3, .mv (.c (.int .i64 0)), none⟩]) (.seq (.seq (.reg false [⟨some 4, .ld 2 (.t 1), none⟩, ⟨some 5, .call (.f 14) [(.t 4)], none⟩, ⟨some 6, .un .not (.t 5), none⟩]) (.cond (.t 6) (.seq (.reg false [⟨(some 2), (.mv (.c (.str ⟨#[]⟩))), none⟩, ⟨some 3, .mv (.c (.int .i64 1)), none⟩]) .ret) .skip)) (.seq (.reg false [⟨some 7, .ld 2 (.t 1), none⟩, ⟨some 8, .call (.f 36) [(.t 7)], none⟩, ⟨some 2, .mv (.t 8), none⟩, ⟨some 3, .mv (.c (.int .i64 0)), none⟩]) .ret))), 9, [(.t 2), (.t 3)]⟩
theorem k_impl_FracText : compF Tryd.prog Tryd.f9 = some c_impl_FracText := by kernel_rfl
def c_spec_FracText : F := ⟨(.seq (.reg false [⟨some 1, .box 26 (.t 0), none⟩, ⟨(some 2), (.mv (.c (.str ⟨#[]⟩))), none⟩, ⟨some 3, .mv (.c (.int .i64 0)), none⟩]) (.seq (.seq (.reg false [⟨some 4, .ld 2 (.t 1), none⟩, ⟨some 5, .call (.f 15) [(.t 4)], none⟩, ⟨some 6, .un .not (.t 5), none⟩]) (.cond (.t 6) (.seq (.reg false [⟨(some 2), (.mv (.c (.str ⟨#[]⟩))), none⟩, ⟨some 3, .mv (.c (.int .i64 1)), none⟩]) .ret) .skip)) (.seq (.reg false [⟨some 7, .ld 2 (.t 1), none⟩, ⟨some 8, .call (.f 35) [(.t 7)], none⟩, ⟨some 2, .mv (.t 8), none⟩, ⟨some 3, .mv (.c (.int .i64 0)), none⟩]) .ret))), 9, [(.t 2), (.t 3)]⟩
theorem k_spec_FracText : compF Tryd.prog Tryd.f7 = some c_spec_FracText := by kernel_rfl
def c_impl_fracText : F := ⟨(.seq (.reg false [⟨some 1, .box 26 (.t 0), none⟩, ⟨(some 2), (.mv (.c (.str ⟨#[]⟩))), none⟩]) (.seq (.seq (.reg false [⟨some 3, .fa 1 (.t 1), none⟩, ⟨some 4, .ld1 (.t 3), none⟩, ⟨some 5, .bin .eql (.t 4) (.c (.int .i64 1)), none⟩]) (.cond (.t 5) (.seq (.reg false [⟨some 6, .fa 0 (.t 1), none⟩, ⟨some 7, .ld1 (.t 6), none⟩, ⟨some 8, .call (.f 75) [(.t 7)], none⟩, ⟨some 2, .mv (.t 8), none⟩]) .ret) .skip)) (.seq (.reg true [⟨some 9, .fa 0 (.t 1), none⟩, ⟨some 10, .ld1 (.t 9), none⟩, ⟨some 13, .fa 1 (.t 1), none⟩, ⟨some 14, .ld1 (.t 13), none⟩, ⟨some 11, .call (.f 75) [(.t 10)], none⟩, ⟨(some 12), (.bin .add (.t 11) (.c (.str ⟨#[47]⟩))), none⟩, ⟨some 15, .call (.f 75) [(.t 14)], none⟩, ⟨some 16, .bin .add (.t 12) (.t 15), none⟩, ⟨some 2, .mv (.t 16), none⟩]) .ret))), 17, [(.t 2)]⟩
theorem k_impl_fracText : compF Tryd.prog Tryd.f36 = some c_impl_fracText := by kernel_rfl
def c_spec_l01FracText : F := ⟨(.seq (.reg false [⟨some 1, .box 26 (.t 0), none⟩, ⟨(some 2), (.mv (.c (.str ⟨#[]⟩))), none⟩]) (.seq (.seq (.reg false [⟨some 3, .fa 1 (.t 1), none⟩, ⟨some 4, .ld1 (.t 3), none⟩, ⟨some 5, .bin .eql (.t 4) (.c (.int .i64 1)), none⟩]) (.cond (.t 5) (.seq (.reg false [⟨some 6, .fa 0 (.t 1), none⟩, ⟨some 7, .ld1 (.t 6), none⟩, ⟨some 8, .call (.f 74) [(.t 7)], none⟩, ⟨some 2, .mv (.t 8), none⟩]) .ret) .skip)) (.seq (.reg true [⟨some 9, .fa 0 (.t 1), none⟩, ⟨some 10, .ld1 (.t 9), none⟩, ⟨some 13, .fa 1 (.t 1), none⟩, ⟨some 14, .ld1 (.t 13), none⟩, ⟨some 11, .call (.f 74) [(.t 10)], none⟩, ⟨(some 12), (.bin .add (.t 11) (.c (.str ⟨#[47]⟩))), none⟩, ⟨some 15, .call (.f 74) [(.t 14)], none⟩, ⟨some 16, .bin .add (.t 12) (.t 15), none⟩, ⟨some 2, .mv (.t 16), none⟩]) .ret))), 17, [(.t 2)]⟩
theorem k_spec_l01FracText : compF Tryd.prog Tryd.f35 = some c_spec_l01FracText := by kernel_rfl
def c_laws_FnExactFracText : F := ⟨(.seq (.reg false [⟨some 1, .box 23 (.t 0), none⟩, ⟨some 2, .mv (.c (.bool false)), none⟩]) (.seq (.reg false [⟨some 8, .ld 2 (.t 1), none⟩, ⟨some 9, .call (.f 8) [(.t 8)], none⟩, ⟨some 10, .call (.f 7) [(.t 9)], none⟩, ⟨some 7, .mv (.t 10), none⟩, ⟨some 11, .ext (.t 7) 0, none⟩, ⟨some 12, .ext (.t 7) 1, none⟩, ⟨some 3, .mv (.t 11), none⟩, ⟨some 4, .mv (.t 12), none⟩]) (.seq (.reg false [⟨some 14, .ld 2 (.t 1), none⟩, ⟨some 15, .call (.f 8) [(.t 14)], none⟩, ⟨some 16, .call (.f 9) [(.t 15)], none⟩, ⟨some 13, .mv (.t 16), none⟩, ⟨some 17, .ext (.t 13) 0, none⟩, ⟨some 18, .ext (.t 13) 1, none⟩, ⟨some 5, .mv (.t 17), none⟩, ⟨some 6, .mv (.t 18), none⟩]) (.seq (.seq (.reg false [⟨some 19, .mv (.t 5), none⟩, ⟨some 20, .mv (.t 3), none⟩, ⟨some 21, .bin .neq (.t 19) (.t 20), none⟩, ⟨some 22, .mv (.t 21), none⟩, ⟨some 23, .mv (.t 6), some (22, false)⟩, ⟨some 24, .mv (.t 4), some (22, false)⟩, ⟨some 25, .bin .neq (.t 23) (.t 24), some (22, false)⟩, ⟨some 26, .pick (.t 22) (.c (.bool true)) (.t 25), none⟩]) (.cond (.t 26) (.seq (.reg false [⟨some 2, .mv (.c (.bool false)), none⟩]) .ret) .skip)) (.seq (.reg false [⟨some 2, .mv (.c (.bool true)), none⟩]) .ret))))), 27, [(.t 2)]⟩
theorem k_laws_FnExactFracText : compF Tryd.prog Tryd.f3 = some c_laws_FnExactFracText := by kernel_rfl

def frT (a b : Int) : List UInt8 := if b = 1 then Lib.itoa a else Lib.itoa a ++ [47] ++ Lib.itoa b
theorem mid64 {a : Int} (h : -1000000000000 ≤ a ∧ a ≤ 1000000000000) : in64 a := by unfold in64; omega
theorem impl_fracText {h : AH} (t : Tab h) {a b : Int} (ha : -1000000000000 ≤ a ∧ a ≤ 1000000000000) (hb : -1000000000000 ≤ b ∧ b ≤ 1000000000000) (n : Nat) (hn : 1 ≤ n) : Q Tryd.prog 36 [fr a b] h n (.str (bs (frT a b))) := by
  have la := itoa_len (mid64 ha)
  have lb := itoa_len (mid64 hb)
  refine q_intro Tryd.func36 k_impl_fracText ?_
  simp (maxSteps := 2000000) -implicitDefEqProofs (disch := omega) only [c_impl_fracText, fr, xsW, xsC, xsD, xsE, fillA, reduceCtorEq, Nat.reduceAdd, Nat.reduceSub, Nat.reduceLeDiff, Nat.reduceMul, Int.reduceLT, Int.reduceLE, Int.reduceEq, Int.reduceNe, Int.reduceAdd, Int.reduceSub, Int.reduceMul, Int.reduceNeg, Int.reduceToNat]
  unfold frT
  (refine cd_dec (fun c1 => ?_) (fun c1 => ?_) <;> simp (maxSteps := 2000000) -implicitDefEqProofs (disch := omega) only [xsW, xsC, xsD, xsE, fillA, reduceCtorEq, Nat.reduceAdd, Nat.reduceSub, Nat.reduceLeDiff, Nat.reduceMul, Int.reduceLT, Int.reduceLE, Int.reduceEq, Int.reduceNe, Int.reduceAdd, Int.reduceSub, Int.reduceMul, Int.reduceNeg, Int.reduceToNat,  c1])
  · refine q_use (impl_decimal (t.keep (upd_other (by omega))) (mid64 ha) _) fun n1 hn1 => ?_
    simp (maxSteps := 2000000) -implicitDefEqProofs (disch := omega) only [xsW, xsC, xsD, xsE, fillA, reduceCtorEq, Nat.reduceAdd, Nat.reduceSub, Nat.reduceLeDiff, Nat.reduceMul, Int.reduceLT, Int.reduceLE, Int.reduceEq, Int.reduceNe, Int.reduceAdd, Int.reduceSub, Int.reduceMul, Int.reduceNeg, Int.reduceToNat]
  · refine q_use (impl_decimal (t.keep (upd_other (by omega))) (mid64 ha) _) fun n1 hn1 => ?_
    simp (maxSteps := 2000000) -implicitDefEqProofs (disch := omega) only [xsW, xsC, xsD, xsE, fillA, reduceCtorEq, Nat.reduceAdd, Nat.reduceSub, Nat.reduceLeDiff, Nat.reduceMul, Int.reduceLT, Int.reduceLE, Int.reduceEq, Int.reduceNe, Int.reduceAdd, Int.reduceSub, Int.reduceMul, Int.reduceNeg, Int.reduceToNat,  sc47, bs_size, bs_app]
    refine ⟨by omega, ?_⟩
    refine q_use (impl_decimal (t.keep (upd_other (by omega))) (mid64 hb) _) fun n2 hn2 => ?_
    simp (maxSteps := 2000000) -implicitDefEqProofs (disch := omega) only [xsW, xsC, xsD, xsE, fillA, reduceCtorEq, Nat.reduceAdd, Nat.reduceSub, Nat.reduceLeDiff, Nat.reduceMul, Int.reduceLT, Int.reduceLE, Int.reduceEq, Int.reduceNe, Int.reduceAdd, Int.reduceSub, Int.reduceMul, Int.reduceNeg, Int.reduceToNat,  sc47, bs_size, bs_app]
    omega
theorem spec_l01FracText {h : AH} (t : Tab h) {a b : Int} (ha : -1000000000000 ≤ a ∧ a ≤ 1000000000000) (hb : -1000000000000 ≤ b ∧ b ≤ 1000000000000) (n : Nat) (hn : 1 ≤ n) : Q Tryd.prog 35 [fr a b] h n (.str (bs (frT a b))) := by
  have la := itoa_len (mid64 ha)
  have lb := itoa_len (mid64 hb)
  refine q_intro Tryd.func35 k_spec_l01FracText ?_
  simp (maxSteps := 2000000) -implicitDefEqProofs (disch := omega) only [c_spec_l01FracText, fr, xsW, xsC, xsD, xsE, fillA, reduceCtorEq, Nat.reduceAdd, Nat.reduceSub, Nat.reduceLeDiff, Nat.reduceMul, Int.reduceLT, Int.reduceLE, Int.reduceEq, Int.reduceNe, Int.reduceAdd, Int.reduceSub, Int.reduceMul, Int.reduceNeg, Int.reduceToNat]
  unfold frT
  (refine cd_dec (fun c1 => ?_) (fun c1 => ?_) <;> simp (maxSteps := 2000000) -implicitDefEqProofs (disch := omega) only [xsW, xsC, xsD, xsE, fillA, reduceCtorEq, Nat.reduceAdd, Nat.reduceSub, Nat.reduceLeDiff, Nat.reduceMul, Int.reduceLT, Int.reduceLE, Int.reduceEq, Int.reduceNe, Int.reduceAdd, Int.reduceSub, Int.reduceMul, Int.reduceNeg, Int.reduceToNat,  c1])
  · refine q_use (spec_l01Dec (by omega) (by omega) _ _) fun n1 hn1 => ?_
    simp (maxSteps := 2000000) -implicitDefEqProofs (disch := omega) only [xsW, xsC, xsD, xsE, fillA, reduceCtorEq, Nat.reduceAdd, Nat.reduceSub, Nat.reduceLeDiff, Nat.reduceMul, Int.reduceLT, Int.reduceLE, Int.reduceEq, Int.reduceNe, Int.reduceAdd, Int.reduceSub, Int.reduceMul, Int.reduceNeg, Int.reduceToNat]
  · refine q_use (spec_l01Dec (by omega) (by omega) _ _) fun n1 hn1 => ?_
    simp (maxSteps := 2000000) -implicitDefEqProofs (disch := omega) only [xsW, xsC, xsD, xsE, fillA, reduceCtorEq, Nat.reduceAdd, Nat.reduceSub, Nat.reduceLeDiff, Nat.reduceMul, Int.reduceLT, Int.reduceLE, Int.reduceEq, Int.reduceNe, Int.reduceAdd, Int.reduceSub, Int.reduceMul, Int.reduceNeg, Int.reduceToNat,  sc47, bs_size, bs_app]
    refine ⟨by omega, ?_⟩
    refine q_use (spec_l01Dec (by omega) (by omega) _ _) fun n2 hn2 => ?_
    simp (maxSteps := 2000000) -implicitDefEqProofs (disch := omega) only [xsW, xsC, xsD, xsE, fillA, reduceCtorEq, Nat.reduceAdd, Nat.reduceSub, Nat.reduceLeDiff, Nat.reduceMul, Int.reduceLT, Int.reduceLE, Int.reduceEq, Int.reduceNe, Int.reduceAdd, Int.reduceSub, Int.reduceMul, Int.reduceNeg, Int.reduceToNat,  sc47, bs_size, bs_app]
    omega
theorem isFr_b {m a b : Int} (h : isFr m a b = true) : 1 ≤ b ∧ b ≤ m ∧ -m ≤ a ∧ a ≤ m := by
  unfold isFr at h
  rw [decide_eq_true_eq] at h
  exact ⟨h.1, h.2.1, h.2.2.1, h.2.2.2.1⟩
def frTV (a b : Int) : List UInt8 × Int := if isFr 1000000000 a b = true then (frT a b, 0) else ([], 1)
theorem impl_FracText {h : AH} (t : Tab h) (a b : Int) (n : Nat) (hn : 1 ≤ n) : Q Tryd.prog 9 [fr a b] h n (.tup [.str (bs (frTV a b).1), .int .i64 (frTV a b).2]) := by
  refine q_intro Tryd.func9 k_impl_FracText ?_
  simp (maxSteps := 2000000) -implicitDefEqProofs (disch := omega) only [c_impl_FracText, fr, xsW, xsC, xsD, xsE, fillA, reduceCtorEq, Nat.reduceAdd, Nat.reduceSub, Nat.reduceLeDiff, Nat.reduceMul, Int.reduceLT, Int.reduceLE, Int.reduceEq, Int.reduceNe, Int.reduceAdd, Int.reduceSub, Int.reduceMul, Int.reduceNeg, Int.reduceToNat]
  refine q_use (impl_IsFrac a b _ _) fun n1 hn1 => ?_
  unfold frTV
  cases hf : isFr 1000000000 a b
  · simp (maxSteps := 2000000) -implicitDefEqProofs (disch := omega) only [xsW, xsC, xsD, xsE, fillA, reduceCtorEq, Nat.reduceAdd, Nat.reduceSub, Nat.reduceLeDiff, Nat.reduceMul, Int.reduceLT, Int.reduceLE, Int.reduceEq, Int.reduceNe, Int.reduceAdd, Int.reduceSub, Int.reduceMul, Int.reduceNeg, Int.reduceToNat,  sc0]
  · obtain ⟨h1, h2, h3, h4⟩ := isFr_b hf
    simp (maxSteps := 2000000) -implicitDefEqProofs (disch := omega) only [xsW, xsC, xsD, xsE, fillA, reduceCtorEq, Nat.reduceAdd, Nat.reduceSub, Nat.reduceLeDiff, Nat.reduceMul, Int.reduceLT, Int.reduceLE, Int.reduceEq, Int.reduceNe, Int.reduceAdd, Int.reduceSub, Int.reduceMul, Int.reduceNeg, Int.reduceToNat,  fr]
    refine q_use (impl_fracText (t.keep (upd_other (by omega))) (by omega) (by omega) _ (by omega)) fun n2 hn2 => ?_
    simp (maxSteps := 2000000) -implicitDefEqProofs (disch := omega) only [xsW, xsC, xsD, xsE, fillA, reduceCtorEq, Nat.reduceAdd, Nat.reduceSub, Nat.reduceLeDiff, Nat.reduceMul, Int.reduceLT, Int.reduceLE, Int.reduceEq, Int.reduceNe, Int.reduceAdd, Int.reduceSub, Int.reduceMul, Int.reduceNeg, Int.reduceToNat]
theorem spec_FracText {h : AH} (t : Tab h) (a b : Int) (n : Nat) (hn : 1 ≤ n) : Q Tryd.prog 7 [fr a b] h n (.tup [.str (bs (frTV a b).1), .int .i64 (frTV a b).2]) := by
  refine q_intro Tryd.func7 k_spec_FracText ?_
  simp (maxSteps := 2000000) -implicitDefEqProofs (disch := omega) only [c_spec_FracText, fr, xsW, xsC, xsD, xsE, fillA, reduceCtorEq, Nat.reduceAdd, Nat.reduceSub, Nat.reduceLeDiff, Nat.reduceMul, Int.reduceLT, Int.reduceLE, Int.reduceEq, Int.reduceNe, Int.reduceAdd, Int.reduceSub, Int.reduceMul, Int.reduceNeg, Int.reduceToNat]
  refine q_use (spec_IsFrac a b _ _) fun n1 hn1 => ?_
  unfold frTV
  cases hf : isFr 1000000000 a b
  · simp (maxSteps := 2000000) -implicitDefEqProofs (disch := omega) only [xsW, xsC, xsD, xsE, fillA, reduceCtorEq, Nat.reduceAdd, Nat.reduceSub, Nat.reduceLeDiff, Nat.reduceMul, Int.reduceLT, Int.reduceLE, Int.reduceEq, Int.reduceNe, Int.reduceAdd, Int.reduceSub, Int.reduceMul, Int.reduceNeg, Int.reduceToNat,  sc0]
  · obtain ⟨h1, h2, h3, h4⟩ := isFr_b hf
    simp (maxSteps := 2000000) -implicitDefEqProofs (disch := omega) only [xsW, xsC, xsD, xsE, fillA, reduceCtorEq, Nat.reduceAdd, Nat.reduceSub, Nat.reduceLeDiff, Nat.reduceMul, Int.reduceLT, Int.reduceLE, Int.reduceEq, Int.reduceNe, Int.reduceAdd, Int.reduceSub, Int.reduceMul, Int.reduceNeg, Int.reduceToNat,  fr]
    refine q_use (spec_l01FracText (t.keep (upd_other (by omega))) (by omega) (by omega) _ (by omega)) fun n2 hn2 => ?_
    simp (maxSteps := 2000000) -implicitDefEqProofs (disch := omega) only [xsW, xsC, xsD, xsE, fillA, reduceCtorEq, Nat.reduceAdd, Nat.reduceSub, Nat.reduceLeDiff, Nat.reduceMul, Int.reduceLT, Int.reduceLE, Int.reduceEq, Int.reduceNe, Int.reduceAdd, Int.reduceSub, Int.reduceMul, Int.reduceNeg, Int.reduceToNat]
theorem laws_FracText {h : AH} (t : Tab h) (a b : Int) (n : Nat) (hn : 1 ≤ n) : Q Tryd.prog 3 [fr a b] h n (.bool true) := by
  refine q_intro Tryd.func3 k_laws_FnExactFracText ?_
  simp (maxSteps := 2000000) -implicitDefEqProofs (disch := omega) only [c_laws_FnExactFracText, fr, xsW, xsC, xsD, xsE, fillA, reduceCtorEq, Nat.reduceAdd, Nat.reduceSub, Nat.reduceLeDiff, Nat.reduceMul, Int.reduceLT, Int.reduceLE, Int.reduceEq, Int.reduceNe, Int.reduceAdd, Int.reduceSub, Int.reduceMul, Int.reduceNeg, Int.reduceToNat]
  refine q_use (laws_toFrac _ _ _ _) fun n1 hn1 => ?_
  simp (maxSteps := 2000000) -implicitDefEqProofs (disch := omega) only [xsW, xsC, xsD, xsE, fillA, reduceCtorEq, Nat.reduceAdd, Nat.reduceSub, Nat.reduceLeDiff, Nat.reduceMul, Int.reduceLT, Int.reduceLE, Int.reduceEq, Int.reduceNe, Int.reduceAdd, Int.reduceSub, Int.reduceMul, Int.reduceNeg, Int.reduceToNat]
  refine q_use (spec_FracText (t.keep (upd_other (by omega))) a b _ (by omega)) fun n2 hn2 => ?_
  simp (maxSteps := 2000000) -implicitDefEqProofs (disch := omega) only [xsW, xsC, xsD, xsE, fillA, reduceCtorEq, Nat.reduceAdd, Nat.reduceSub, Nat.reduceLeDiff, Nat.reduceMul, Int.reduceLT, Int.reduceLE, Int.reduceEq, Int.reduceNe, Int.reduceAdd, Int.reduceSub, Int.reduceMul, Int.reduceNeg, Int.reduceToNat,  fr]
  refine q_use (laws_toFrac _ _ _ _) fun n3 hn3 => ?_
  simp (maxSteps := 2000000) -implicitDefEqProofs (disch := omega) only [xsW, xsC, xsD, xsE, fillA, reduceCtorEq, Nat.reduceAdd, Nat.reduceSub, Nat.reduceLeDiff, Nat.reduceMul, Int.reduceLT, Int.reduceLE, Int.reduceEq, Int.reduceNe, Int.reduceAdd, Int.reduceSub, Int.reduceMul, Int.reduceNeg, Int.reduceToNat]
  refine q_use (impl_FracText (t.keep (upd_other (by omega))) a b _ (by omega)) fun n4 hn4 => ?_
  simp (maxSteps := 2000000) -implicitDefEqProofs (disch := omega) only [xsW, xsC, xsD, xsE, fillA, reduceCtorEq, Nat.reduceAdd, Nat.reduceSub, Nat.reduceLeDiff, Nat.reduceMul, Int.reduceLT, Int.reduceLE, Int.reduceEq, Int.reduceNe, Int.reduceAdd, Int.reduceSub, Int.reduceMul, Int.reduceNeg, Int.reduceToNat]
end Go.Proofs.YtkpibnhddhdooacDoor.L
