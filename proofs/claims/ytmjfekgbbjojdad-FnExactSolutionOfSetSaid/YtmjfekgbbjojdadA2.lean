/- Contracts of functions on fractions. -/
import Derived.Test.YtmjfekgbbjojdadA1
namespace Go.Proofs.Ytmjfekgbbjojdad.L
open Go
set_option linter.unusedSimpArgs false
set_option linter.unusedVariables false
def c_impl_IsFrac : F := ⟨(.seq (.reg false [⟨(some 1), (.box 49 (.t 0)), none⟩, ⟨(some 2), (.mv (.c (.bool false))), none⟩]) (.seq (.reg false [⟨(some 3), (.fa 1 (.t 1)), none⟩, ⟨(some 4), (.ld1 (.t 3)), none⟩, ⟨(some 5), (.call (.f 109) [(.t 4), (.c (.int .i64 1)), (.c (.int .i64 1000000000))]), none⟩, ⟨(some 6), (.mv (.t 5)), none⟩, ⟨(some 7), (.fa 0 (.t 1)), (some (6, true))⟩, ⟨(some 8), (.ld1 (.t 7)), (some (6, true))⟩, ⟨(some 9), (.call (.f 100) [(.t 8), (.c (.int .i64 1000000000))]), (some (6, true))⟩, ⟨(some 10), (.pick (.t 6) (.t 9) (.c (.bool false))), none⟩, ⟨(some 11), (.mv (.t 10)), none⟩, ⟨(some 12), (.fa 0 (.t 1)), (some (11, true))⟩, ⟨(some 13), (.ld1 (.t 12)), (some (11, true))⟩, ⟨(some 14), (.fa 1 (.t 1)), (some (11, true))⟩, ⟨(some 15), (.ld1 (.t 14)), (some (11, true))⟩, ⟨(some 16), (.call (.f 99) [(.t 13), (.t 15)]), (some (11, true))⟩, ⟨(some 17), (.bin .eql (.t 16) (.c (.int .i64 1))), (some (11, true))⟩, ⟨(some 18), (.pick (.t 11) (.t 17) (.c (.bool false))), none⟩, ⟨(some 2), (.mv (.t 18)), none⟩]) .ret)), 19, [(.t 2)]⟩
theorem k_impl_IsFrac : compF Try.prog Try.f111 = some c_impl_IsFrac := by kernel_rfl
def c_spec_l01Frac : F := ⟨(.seq (.reg false [⟨(some 4), (.alloc 49 [(.int .i64 0), (.int .i64 0)]), none⟩]) (.seq (.seq (.reg false [⟨(some 6), (.mv (.t 1)), none⟩, ⟨(some 7), (.bin .lss (.t 6) (.c (.int .i64 0))), none⟩]) (.cond (.t 7) (.seq (.reg false [⟨(some 8), (.mv (.t 0)), none⟩, ⟨(some 9), (.un .neg (.t 8)), none⟩, ⟨(some 0), (.mv (.t 9)), none⟩]) (.reg false [⟨(some 10), (.mv (.t 1)), none⟩, ⟨(some 11), (.un .neg (.t 10)), none⟩, ⟨(some 1), (.mv (.t 11)), none⟩])) .skip)) (.seq (.reg false [⟨(some 12), (.mv (.t 0)), none⟩, ⟨(some 13), (.mv (.t 1)), none⟩, ⟨(some 14), (.call (.f 115) [(.t 12), (.t 13)]), none⟩, ⟨(some 5), (.mv (.t 14)), none⟩]) (.seq (.reg false [⟨(some 15), (.mv (.t 0)), none⟩, ⟨(some 16), (.mv (.t 5)), none⟩, ⟨(some 17), (.bin .quo (.t 15) (.t 16)), none⟩, ⟨(some 18), (.mv (.t 1)), none⟩, ⟨(some 19), (.mv (.t 5)), none⟩, ⟨(some 20), (.bin .quo (.t 18) (.t 19)), none⟩, ⟨(some 21), (.build [(.int .i64 0), (.int .i64 0)] [(0, (1, (.t 17))), (1, (1, (.t 20)))]), none⟩, ⟨none, (.st 2 (.t 4) (.t 21)), none⟩]) .ret)))), 22, [(.ca 4 2)]⟩
theorem k_spec_l01Frac : compF Try.prog Try.f91 = some c_spec_l01Frac := by kernel_rfl
def c_impl_reduced : F := ⟨(.seq (.reg false [⟨(some 4), (.alloc 49 [(.int .i64 0), (.int .i64 0)]), none⟩, ⟨(some 5), (.mv (.c (.int .i64 0))), none⟩]) (.seq (.reg false [⟨(some 8), (.mv (.t 0)), none⟩, ⟨(some 9), (.mv (.t 1)), none⟩, ⟨(some 10), (.call (.f 99) [(.t 8), (.t 9)]), none⟩, ⟨(some 6), (.mv (.t 10)), none⟩]) (.seq (.seq (.reg false [⟨(some 11), (.mv (.t 1)), none⟩, ⟨(some 12), (.bin .lss (.t 11) (.c (.int .i64 0))), none⟩]) (.cond (.t 12) (.reg false [⟨(some 13), (.mv (.t 6)), none⟩, ⟨(some 14), (.un .neg (.t 13)), none⟩, ⟨(some 6), (.mv (.t 14)), none⟩]) .skip)) (.seq (.reg false [⟨(some 15), (.mv (.t 0)), none⟩, ⟨(some 16), (.mv (.t 6)), none⟩, ⟨(some 17), (.bin .quo (.t 15) (.t 16)), none⟩, ⟨(some 18), (.mv (.t 1)), none⟩, ⟨(some 19), (.mv (.t 6)), none⟩, ⟨(some 20), (.bin .quo (.t 18) (.t 19)), none⟩, ⟨(some 21), (.build [(.int .i64 0), (.int .i64 0)] [(0, (1, (.t 17))), (1, (1, (.t 20)))]), none⟩, ⟨(some 7), (.alloc 49 [(.int .i64 0), (.int .i64 0)]), none⟩, ⟨none, (.st 2 (.t 7) (.t 21)), none⟩]) (.seq (.seq (.reg false [⟨(some 22), (.ld 2 (.t 7)), none⟩, ⟨(some 23), (.call (.f 111) [(.t 22)]), none⟩, ⟨(some 24), (.un .not (.t 23)), none⟩]) (.cond (.t 24) (.seq (.reg false [⟨(some 25), (.build [(.int .i64 0), (.int .i64 0)] []), none⟩, ⟨none, (.st 2 (.t 4) (.t 25)), none⟩, ⟨(some 5), (.mv (.c (.int .i64 3))), none⟩]) .ret) .skip)) (.seq (.reg false [⟨(some 26), (.ld 2 (.t 7)), none⟩, ⟨none, (.st 2 (.t 4) (.t 26)), none⟩, ⟨(some 5), (.mv (.c (.int .i64 0))), none⟩]) .ret)))))), 27, [(.ca 4 2), (.t 5)]⟩
theorem k_impl_reduced : compF Try.prog Try.f79 = some c_impl_reduced := by kernel_rfl
def c_laws_eqFrac : F := ⟨(.seq (.reg false [⟨(some 2), (.box 49 (.t 0)), none⟩, ⟨(some 3), (.box 49 (.t 1)), none⟩, ⟨(some 4), (.mv (.c (.bool false))), none⟩]) (.seq (.seq (.reg false [⟨(some 5), (.fa 0 (.t 2)), none⟩, ⟨(some 6), (.ld1 (.t 5)), none⟩, ⟨(some 7), (.fa 0 (.t 3)), none⟩, ⟨(some 8), (.ld1 (.t 7)), none⟩, ⟨(some 9), (.bin .neq (.t 6) (.t 8)), none⟩]) (.cond (.t 9) (.seq (.reg false [⟨(some 4), (.mv (.c (.bool false))), none⟩]) .ret) .skip)) (.seq (.seq (.reg false [⟨(some 10), (.fa 1 (.t 2)), none⟩, ⟨(some 11), (.ld1 (.t 10)), none⟩, ⟨(some 12), (.fa 1 (.t 3)), none⟩, ⟨(some 13), (.ld1 (.t 12)), none⟩, ⟨(some 14), (.bin .neq (.t 11) (.t 13)), none⟩]) (.cond (.t 14) (.seq (.reg false [⟨(some 4), (.mv (.c (.bool false))), none⟩]) .ret) .skip)) (.seq (.reg false [⟨(some 4), (.mv (.c (.bool true))), none⟩]) .ret)))), 15, [(.t 4)]⟩
theorem k_laws_eqFrac : compF Try.prog Try.f51 = some c_laws_eqFrac := by kernel_rfl

def fr (a b : Int) : AV := .agg [.int .i64 a, .int .i64 b]
def isFr (most a b : Int) : Bool := decide (1 ≤ b ∧ b ≤ most ∧ -most ≤ a ∧ a ≤ most ∧ Int.gcd a b = 1)

theorem impl_IsFrac (a b : Int) (h : AH) (n : Nat) : Q Try.prog 111 [fr a b] h n (.bool (isFr 1000000000 a b)) := by
  refine q_intro Try.func111 k_impl_IsFrac ?_
  simp (maxSteps := 2000000) -implicitDefEqProofs (disch := omega) only [c_impl_IsFrac, fr, xsW, xsC, if_true, if_false, ite_true, ite_false, forall_const, ne_eq, beq_self_eq_true, bne_self_eq_false, imp_self, true_implies, false_implies, implies_true, evP, evE, ev, setD, Nat.reduceAdd, Nat.reduceSub, reduceCtorEq, fillA, cutA, Nat.reduceLeDiff, Nat.reduceMul, Int.reduceLT, Int.reduceLE, Int.reduceEq, Int.reduceNe, Int.reduceAdd, Int.reduceSub, Int.reduceMul, Int.reduceNeg, Int.reduceToNat]
  refine q_use (impl_within _ _ _ _ _) fun n1 hn1 => ?_
  simp (maxSteps := 2000000) -implicitDefEqProofs (disch := omega) only [xsW, xsC, if_true, if_false, ite_true, ite_false, forall_const, ne_eq, beq_self_eq_true, bne_self_eq_false, imp_self, true_implies, false_implies, implies_true, evP, evE, ev, setD, Nat.reduceAdd, Nat.reduceSub, reduceCtorEq, fillA, cutA, Nat.reduceLeDiff, Nat.reduceMul, Int.reduceLT, Int.reduceLE, Int.reduceEq, Int.reduceNe, Int.reduceAdd, Int.reduceSub, Int.reduceMul, Int.reduceNeg, Int.reduceToNat]
  (refine gd_dec (fun h1 => ?_) (fun h1 => ?_) <;> simp (maxSteps := 2000000) -implicitDefEqProofs (disch := omega) only [xsW, xsC, if_true, if_false, ite_true, ite_false, forall_const, ne_eq, beq_self_eq_true, bne_self_eq_false, imp_self, true_implies, false_implies, implies_true, evP, evE, ev, setD, Nat.reduceAdd, Nat.reduceSub, reduceCtorEq, fillA, cutA, Nat.reduceLeDiff, Nat.reduceMul, Int.reduceLT, Int.reduceLE, Int.reduceEq, Int.reduceNe, Int.reduceAdd, Int.reduceSub, Int.reduceMul, Int.reduceNeg, Int.reduceToNat,  h1])
  · refine q_use (impl_upTo _ _ (by unfold in64; omega) _ _) fun n2 hn2 => ?_
    simp (maxSteps := 2000000) -implicitDefEqProofs (disch := omega) only [xsW, xsC, if_true, if_false, ite_true, ite_false, forall_const, ne_eq, beq_self_eq_true, bne_self_eq_false, imp_self, true_implies, false_implies, implies_true, evP, evE, ev, setD, Nat.reduceAdd, Nat.reduceSub, reduceCtorEq, fillA, cutA, Nat.reduceLeDiff, Nat.reduceMul, Int.reduceLT, Int.reduceLE, Int.reduceEq, Int.reduceNe, Int.reduceAdd, Int.reduceSub, Int.reduceMul, Int.reduceNeg, Int.reduceToNat,  h1]
    (refine gd_dec (fun h2 => ?_) (fun h2 => ?_) <;> simp (maxSteps := 2000000) -implicitDefEqProofs (disch := omega) only [xsW, xsC, if_true, if_false, ite_true, ite_false, forall_const, ne_eq, beq_self_eq_true, bne_self_eq_false, imp_self, true_implies, false_implies, implies_true, evP, evE, ev, setD, Nat.reduceAdd, Nat.reduceSub, reduceCtorEq, fillA, cutA, Nat.reduceLeDiff, Nat.reduceMul, Int.reduceLT, Int.reduceLE, Int.reduceEq, Int.reduceNe, Int.reduceAdd, Int.reduceSub, Int.reduceMul, Int.reduceNeg, Int.reduceToNat,  h2])
    · refine q_use (impl_common _ _ (by unfold in64; omega) (by unfold in64; omega) _ _) fun n3 hn3 => ?_
      simp (maxSteps := 2000000) -implicitDefEqProofs (disch := omega) only [xsW, xsC, if_true, if_false, ite_true, ite_false, forall_const, ne_eq, beq_self_eq_true, bne_self_eq_false, imp_self, true_implies, false_implies, implies_true, evP, evE, ev, setD, Nat.reduceAdd, Nat.reduceSub, reduceCtorEq, fillA, cutA, Nat.reduceLeDiff, Nat.reduceMul, Int.reduceLT, Int.reduceLE, Int.reduceEq, Int.reduceNe, Int.reduceAdd, Int.reduceSub, Int.reduceMul, Int.reduceNeg, Int.reduceToNat,  h1, h2]
      (first | rfl | omega | (rw [Bool.eq_iff_iff]; simp only [decide_eq_true_eq, Bool.false_eq_true, iff_true, true_iff, false_iff, iff_false, ne_eq, isFr]; omega))
    · (first | rfl | omega | (rw [Bool.eq_iff_iff]; simp only [decide_eq_true_eq, Bool.false_eq_true, iff_true, true_iff, false_iff, iff_false, ne_eq, isFr]; omega))
  · (first | rfl | omega | (rw [Bool.eq_iff_iff]; simp only [decide_eq_true_eq, Bool.false_eq_true, iff_true, true_iff, false_iff, iff_false, ne_eq, isFr]; omega))
/-- A fraction in lowest terms, the denominator above 0. -/
def red (a b : Int) : Int × Int := (a * b.sign / Int.gcd a b, b.natAbs / Int.gcd a b)
theorem tdiv_in (a k : Int) (ha : in64 a ∧ in64 (-a)) : -9223372036854775807 ≤ a.tdiv k ∧ a.tdiv k ≤ 9223372036854775807 := by
  have h := Int.natAbs_tdiv_le_natAbs a k
  unfold in64 at ha
  omega
theorem red_pos {a b : Int} (hb : 0 < b) : red a b = (a.tdiv (Int.gcd a b), b.tdiv (Int.gcd a b)) := by
  have h1 : (Int.gcd a b : Int) ∣ a := Int.gcd_dvd_left ..
  have h2 : (Int.gcd a b : Int) ∣ b := Int.gcd_dvd_right ..
  simp only [red, Int.sign_eq_one_of_pos hb, Int.mul_one, Int.tdiv_eq_ediv_of_dvd h1, Int.tdiv_eq_ediv_of_dvd h2]
  rw [Int.natAbs_of_nonneg (by omega)]
theorem red_neg {a b : Int} (hb : b < 0) : red a b = (a.tdiv (-Int.gcd a b), b.tdiv (-Int.gcd a b)) := by
  have h1 : (Int.gcd a b : Int) ∣ a := Int.gcd_dvd_left ..
  have h2 : (Int.gcd a b : Int) ∣ b := Int.gcd_dvd_right ..
  simp only [red, Int.sign_eq_neg_one_of_neg hb, Int.tdiv_neg, Int.tdiv_eq_ediv_of_dvd h1, Int.tdiv_eq_ediv_of_dvd h2]
  rw [Int.mul_neg, Int.mul_one, Int.neg_ediv_of_dvd h1, ← Int.neg_ediv_of_dvd h2, show (b.natAbs : Int) = -b by omega]
theorem gcd_bound {a b : Int} (hb : b ≠ 0) : 0 < (Int.gcd a b : Int) ∧ (Int.gcd a b : Int) ≤ b.natAbs := by
  have h1 := Int.gcd_pos_of_ne_zero_right a hb
  have h2 : Int.gcd a b ≤ b.natAbs := Nat.le_of_dvd (by omega) (Nat.gcd_dvd_right ..)
  omega
theorem impl_reduced (a b : Int) (ha : in64 a ∧ in64 (-a)) (hb : in64 b ∧ in64 (-b)) (h0 : b ≠ 0) (h : AH) (n : Nat) :
    Q Try.prog 79 [.int .i64 a, .int .i64 b] h n (if isFr 1000000000 (red a b).1 (red a b).2 then .tup [fr (red a b).1 (red a b).2, .int .i64 0] else .tup [fr 0 0, .int .i64 3]) := by
  refine q_intro Try.func79 k_impl_reduced ?_
  have hg := gcd_bound (a := a) h0
  simp (maxSteps := 2000000) -implicitDefEqProofs (disch := omega) only [c_impl_reduced, xsW, xsC, if_true, if_false, ite_true, ite_false, forall_const, ne_eq, beq_self_eq_true, bne_self_eq_false, imp_self, true_implies, false_implies, implies_true, evP, evE, ev, setD, Nat.reduceAdd, Nat.reduceSub, reduceCtorEq, fillA, cutA, Nat.reduceLeDiff, Nat.reduceMul, Int.reduceLT, Int.reduceLE, Int.reduceEq, Int.reduceNe, Int.reduceAdd, Int.reduceSub, Int.reduceMul, Int.reduceNeg, Int.reduceToNat]
  refine q_use (impl_common _ _ ha hb _ _) fun n1 hn1 => ?_
  have hb' := hb
  unfold in64 at hb'
  simp (maxSteps := 2000000) -implicitDefEqProofs (disch := omega) only [xsW, xsC, if_true, if_false, ite_true, ite_false, forall_const, ne_eq, beq_self_eq_true, bne_self_eq_false, imp_self, true_implies, false_implies, implies_true, evP, evE, ev, setD, Nat.reduceAdd, Nat.reduceSub, reduceCtorEq, fillA, cutA, Nat.reduceLeDiff, Nat.reduceMul, Int.reduceLT, Int.reduceLE, Int.reduceEq, Int.reduceNe, Int.reduceAdd, Int.reduceSub, Int.reduceMul, Int.reduceNeg, Int.reduceToNat]
  have k1 := tdiv_in a (-(a.gcd b)) ha
  have k2 := tdiv_in b (-(a.gcd b)) hb
  have k3 := tdiv_in a (a.gcd b) ha
  have k4 := tdiv_in b (a.gcd b) hb
  (refine cd_dec (fun h1 => ?_) (fun h1 => ?_) <;> simp (maxSteps := 2000000) -implicitDefEqProofs (disch := omega) only [xsW, xsC, if_true, if_false, ite_true, ite_false, forall_const, ne_eq, beq_self_eq_true, bne_self_eq_false, imp_self, true_implies, false_implies, implies_true, evP, evE, ev, setD, Nat.reduceAdd, Nat.reduceSub, reduceCtorEq, fillA, cutA, Nat.reduceLeDiff, Nat.reduceMul, Int.reduceLT, Int.reduceLE, Int.reduceEq, Int.reduceNe, Int.reduceAdd, Int.reduceSub, Int.reduceMul, Int.reduceNeg, Int.reduceToNat,  h1])
  · refine q_use (impl_IsFrac _ _ _ _) fun n2 hn2 => ?_
    simp (maxSteps := 2000000) -implicitDefEqProofs (disch := omega) only [xsW, xsC, if_true, if_false, ite_true, ite_false, forall_const, ne_eq, beq_self_eq_true, bne_self_eq_false, imp_self, true_implies, false_implies, implies_true, evP, evE, ev, setD, Nat.reduceAdd, Nat.reduceSub, reduceCtorEq, fillA, cutA, Nat.reduceLeDiff, Nat.reduceMul, Int.reduceLT, Int.reduceLE, Int.reduceEq, Int.reduceNe, Int.reduceAdd, Int.reduceSub, Int.reduceMul, Int.reduceNeg, Int.reduceToNat]
    rw [red_neg h1]
    cases hq : isFr 1000000000 (a.tdiv (-(a.gcd b))) (b.tdiv (-(a.gcd b))) <;> simp (maxSteps := 2000000) -implicitDefEqProofs (disch := omega) only [xsW, xsC, if_true, if_false, ite_true, ite_false, forall_const, ne_eq, beq_self_eq_true, bne_self_eq_false, imp_self, true_implies, false_implies, implies_true, evP, evE, ev, setD, Nat.reduceAdd, Nat.reduceSub, reduceCtorEq, fillA, cutA, Nat.reduceLeDiff, Nat.reduceMul, Int.reduceLT, Int.reduceLE, Int.reduceEq, Int.reduceNe, Int.reduceAdd, Int.reduceSub, Int.reduceMul, Int.reduceNeg, Int.reduceToNat,  fr]
  · refine q_use (impl_IsFrac _ _ _ _) fun n2 hn2 => ?_
    simp (maxSteps := 2000000) -implicitDefEqProofs (disch := omega) only [xsW, xsC, if_true, if_false, ite_true, ite_false, forall_const, ne_eq, beq_self_eq_true, bne_self_eq_false, imp_self, true_implies, false_implies, implies_true, evP, evE, ev, setD, Nat.reduceAdd, Nat.reduceSub, reduceCtorEq, fillA, cutA, Nat.reduceLeDiff, Nat.reduceMul, Int.reduceLT, Int.reduceLE, Int.reduceEq, Int.reduceNe, Int.reduceAdd, Int.reduceSub, Int.reduceMul, Int.reduceNeg, Int.reduceToNat]
    rw [red_pos (by omega)]
    cases hq : isFr 1000000000 (a.tdiv (a.gcd b)) (b.tdiv (a.gcd b)) <;> simp (maxSteps := 2000000) -implicitDefEqProofs (disch := omega) only [xsW, xsC, if_true, if_false, ite_true, ite_false, forall_const, ne_eq, beq_self_eq_true, bne_self_eq_false, imp_self, true_implies, false_implies, implies_true, evP, evE, ev, setD, Nat.reduceAdd, Nat.reduceSub, reduceCtorEq, fillA, cutA, Nat.reduceLeDiff, Nat.reduceMul, Int.reduceLT, Int.reduceLE, Int.reduceEq, Int.reduceNe, Int.reduceAdd, Int.reduceSub, Int.reduceMul, Int.reduceNeg, Int.reduceToNat,  fr]
theorem spec_l01Frac (a b : Int) (ha : in64 a ∧ in64 (-a)) (hb : in64 b ∧ in64 (-b)) (h0 : b ≠ 0) (h : AH) (n : Nat) :
    Q Try.prog 91 [.int .i64 a, .int .i64 b] h n (fr (red a b).1 (red a b).2) := by
  refine q_intro Try.func91 k_spec_l01Frac ?_
  have hg := gcd_bound (a := a) h0
  have hb' := hb
  have ha' := ha
  unfold in64 at ha' hb'
  simp (maxSteps := 2000000) -implicitDefEqProofs (disch := omega) only [c_spec_l01Frac, xsW, xsC, if_true, if_false, ite_true, ite_false, forall_const, ne_eq, beq_self_eq_true, bne_self_eq_false, imp_self, true_implies, false_implies, implies_true, evP, evE, ev, setD, Nat.reduceAdd, Nat.reduceSub, reduceCtorEq, fillA, cutA, Nat.reduceLeDiff, Nat.reduceMul, Int.reduceLT, Int.reduceLE, Int.reduceEq, Int.reduceNe, Int.reduceAdd, Int.reduceSub, Int.reduceMul, Int.reduceNeg, Int.reduceToNat]
  (refine cd_dec (fun h1 => ?_) (fun h1 => ?_) <;> simp (maxSteps := 2000000) -implicitDefEqProofs (disch := omega) only [xsW, xsC, if_true, if_false, ite_true, ite_false, forall_const, ne_eq, beq_self_eq_true, bne_self_eq_false, imp_self, true_implies, false_implies, implies_true, evP, evE, ev, setD, Nat.reduceAdd, Nat.reduceSub, reduceCtorEq, fillA, cutA, Nat.reduceLeDiff, Nat.reduceMul, Int.reduceLT, Int.reduceLE, Int.reduceEq, Int.reduceNe, Int.reduceAdd, Int.reduceSub, Int.reduceMul, Int.reduceNeg, Int.reduceToNat,  h1])
  · refine q_use (spec_l01Gcd _ _ (by unfold in64; omega) (by unfold in64; omega) _ _) fun n1 hn1 => ?_
    have e : (-a).gcd (-b) = a.gcd b := by simp
    rw [e]
    have k1 := tdiv_in (-a) (a.gcd b) (by unfold in64; omega)
    have k2 := tdiv_in (-b) (a.gcd b) (by unfold in64; omega)
    simp (maxSteps := 2000000) -implicitDefEqProofs (disch := omega) only [xsW, xsC, if_true, if_false, ite_true, ite_false, forall_const, ne_eq, beq_self_eq_true, bne_self_eq_false, imp_self, true_implies, false_implies, implies_true, evP, evE, ev, setD, Nat.reduceAdd, Nat.reduceSub, reduceCtorEq, fillA, cutA, Nat.reduceLeDiff, Nat.reduceMul, Int.reduceLT, Int.reduceLE, Int.reduceEq, Int.reduceNe, Int.reduceAdd, Int.reduceSub, Int.reduceMul, Int.reduceNeg, Int.reduceToNat,  fr]
    rw [red_neg h1]
    simp only [Int.neg_tdiv, Int.tdiv_neg]
    exact ⟨trivial, trivial⟩
  · refine q_use (spec_l01Gcd _ _ ha hb _ _) fun n1 hn1 => ?_
    have k1 := tdiv_in a (a.gcd b) ha
    have k2 := tdiv_in b (a.gcd b) hb
    simp (maxSteps := 2000000) -implicitDefEqProofs (disch := omega) only [xsW, xsC, if_true, if_false, ite_true, ite_false, forall_const, ne_eq, beq_self_eq_true, bne_self_eq_false, imp_self, true_implies, false_implies, implies_true, evP, evE, ev, setD, Nat.reduceAdd, Nat.reduceSub, reduceCtorEq, fillA, cutA, Nat.reduceLeDiff, Nat.reduceMul, Int.reduceLT, Int.reduceLE, Int.reduceEq, Int.reduceNe, Int.reduceAdd, Int.reduceSub, Int.reduceMul, Int.reduceNeg, Int.reduceToNat,  fr]
    rw [red_pos (by omega)]
    exact ⟨rfl, rfl⟩
theorem laws_eqFrac (a b a' b' : Int) (h : AH) (n : Nat) : Q Try.prog 51 [fr a b, fr a' b'] h n (.bool (decide (a = a' ∧ b = b'))) := by
  refine q_intro Try.func51 k_laws_eqFrac ?_
  simp (maxSteps := 2000000) -implicitDefEqProofs (disch := omega) only [c_laws_eqFrac, fr, xsW, xsC, if_true, if_false, ite_true, ite_false, forall_const, ne_eq, beq_self_eq_true, bne_self_eq_false, imp_self, true_implies, false_implies, implies_true, evP, evE, ev, setD, Nat.reduceAdd, Nat.reduceSub, reduceCtorEq, fillA, cutA, Nat.reduceLeDiff, Nat.reduceMul, Int.reduceLT, Int.reduceLE, Int.reduceEq, Int.reduceNe, Int.reduceAdd, Int.reduceSub, Int.reduceMul, Int.reduceNeg, Int.reduceToNat]
  (refine cd_dec (fun h1 => ?_) (fun h1 => ?_) <;> simp (maxSteps := 2000000) -implicitDefEqProofs (disch := omega) only [xsW, xsC, if_true, if_false, ite_true, ite_false, forall_const, ne_eq, beq_self_eq_true, bne_self_eq_false, imp_self, true_implies, false_implies, implies_true, evP, evE, ev, setD, Nat.reduceAdd, Nat.reduceSub, reduceCtorEq, fillA, cutA, Nat.reduceLeDiff, Nat.reduceMul, Int.reduceLT, Int.reduceLE, Int.reduceEq, Int.reduceNe, Int.reduceAdd, Int.reduceSub, Int.reduceMul, Int.reduceNeg, Int.reduceToNat,  h1])
  · (refine cd_dec (fun h2 => ?_) (fun h2 => ?_) <;> simp (maxSteps := 2000000) -implicitDefEqProofs (disch := omega) only [xsW, xsC, if_true, if_false, ite_true, ite_false, forall_const, ne_eq, beq_self_eq_true, bne_self_eq_false, imp_self, true_implies, false_implies, implies_true, evP, evE, ev, setD, Nat.reduceAdd, Nat.reduceSub, reduceCtorEq, fillA, cutA, Nat.reduceLeDiff, Nat.reduceMul, Int.reduceLT, Int.reduceLE, Int.reduceEq, Int.reduceNe, Int.reduceAdd, Int.reduceSub, Int.reduceMul, Int.reduceNeg, Int.reduceToNat,  h2])
    · (first | rfl | omega | (rw [Bool.eq_iff_iff]; simp only [decide_eq_true_eq, Bool.false_eq_true, iff_true, true_iff, false_iff, iff_false, ne_eq, isFr]; omega))

/-- What FracOf and its like hand back. -/
def told (p : Int × Int) : AV := if isFr 1000000000 p.1 p.2 then .tup [fr p.1 p.2, .int .i64 0] else .tup [fr 0 0, .int .i64 3]
def fracOf (a b : Int) : AV := if b ≠ 0 ∧ (-1000000000000 ≤ a ∧ a ≤ 1000000000000) ∧ (-1000000000000 ≤ b ∧ b ≤ 1000000000000) then told (red a b) else .tup [fr 0 0, .int .i64 2]
theorem told_two (p : Int × Int) : ∃ x y c, told p = .tup [fr x y, .int .i64 c] := by unfold told; split <;> exact ⟨_, _, _, rfl⟩
theorem fracOf_two (a b : Int) : ∃ x y c, fracOf a b = .tup [fr x y, .int .i64 c] := by
  unfold fracOf; split
  · exact told_two _
  · exact ⟨_, _, _, rfl⟩
end Go.Proofs.Ytmjfekgbbjojdad.L
