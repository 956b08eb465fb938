import Derived.Test.YtkpibnhddhdooabJ3
import Derived.Test.YtkpibnhddhdooabProg
/- Contracts of small functions on numbers and fractions. -/
namespace Go.Proofs.Ytkpibnhddhdooab.L
open Go
set_option linter.unusedSimpArgs false
set_option linter.unusedVariables false
def c_impl_within : F := ⟨(.seq (.reg false [⟨(some 6), (.mv (.c (.bool false))), none⟩]) (.seq (.reg false [⟨(some 7), (.mv (.t 0)), none⟩, ⟨(some 8), (.mv (.t 1)), none⟩, ⟨(some 9), (.bin .geq (.t 7) (.t 8)), none⟩, ⟨(some 10), (.mv (.t 9)), none⟩, ⟨(some 11), (.mv (.t 0)), (some (10, true))⟩, ⟨(some 12), (.mv (.t 2)), (some (10, true))⟩, ⟨(some 13), (.bin .leq (.t 11) (.t 12)), (some (10, true))⟩, ⟨(some 14), (.pick (.t 10) (.t 13) (.c (.bool false))), none⟩, ⟨(some 6), (.mv (.t 14)), none⟩]) .ret)), 15, [(.t 6)]⟩
theorem k_impl_within : compF Try.prog Try.f141 = some c_impl_within := by kernel_rfl
def c_impl_upTo : F := ⟨(.seq (.reg false [⟨(some 4), (.mv (.c (.bool false))), none⟩]) (.seq (.reg false [⟨(some 5), (.mv (.t 0)), none⟩, ⟨(some 6), (.mv (.t 1)), none⟩, ⟨(some 7), (.un .neg (.t 6)), none⟩, ⟨(some 8), (.mv (.t 1)), none⟩, ⟨(some 9), (.call (.f 141) [(.t 5), (.t 7), (.t 8)]), none⟩, ⟨(some 4), (.mv (.t 9)), none⟩]) .ret)), 10, [(.t 4)]⟩
theorem k_impl_upTo : compF Try.prog Try.f121 = some c_impl_upTo := by kernel_rfl
def c_impl_size : F := ⟨(.seq (.reg false [⟨(some 2), (.mv (.c (.int .i64 0))), none⟩]) (.seq (.reg false [⟨(some 3), (.mv (.t 0)), none⟩, ⟨(some 4), (.mv (.t 0)), none⟩, ⟨(some 5), (.un .neg (.t 4)), none⟩, ⟨(some 6), (.mx [(.t 3), (.t 5)]), none⟩, ⟨(some 2), (.mv (.t 6)), none⟩]) .ret)), 7, [(.t 2)]⟩
theorem k_impl_size : compF Try.prog Try.f118 = some c_impl_size := by kernel_rfl
def c_impl_common : F := ⟨(.seq (.reg false [⟨(some 4), (.mv (.c (.int .i64 0))), none⟩]) (.seq (.reg false [⟨(some 5), (.mv (.t 0)), none⟩, ⟨(some 6), (.call (.f 118) [(.t 5)]), none⟩, ⟨(some 7), (.mv (.t 1)), none⟩, ⟨(some 8), (.call (.f 118) [(.t 7)]), none⟩, ⟨(some 0), (.mv (.t 6)), none⟩, ⟨(some 1), (.mv (.t 8)), none⟩]) (.seq (.block 0 (.loop (.seq (.seq (.reg false [⟨(some 9), (.mv (.t 1)), none⟩, ⟨(some 10), (.bin .neq (.t 9) (.c (.int .i64 0))), none⟩]) (.cond (.t 10) .skip (.exit 0))) (.block 1 (.reg false [⟨(some 11), (.mv (.t 1)), none⟩, ⟨(some 12), (.mv (.t 0)), none⟩, ⟨(some 13), (.mv (.t 1)), none⟩, ⟨(some 14), (.bin .rem (.t 12) (.t 13)), none⟩, ⟨(some 0), (.mv (.t 11)), none⟩, ⟨(some 1), (.mv (.t 14)), none⟩]))))) (.seq (.reg false [⟨(some 15), (.mv (.t 0)), none⟩, ⟨(some 4), (.mv (.t 15)), none⟩]) .ret)))), 16, [(.t 4)]⟩
theorem k_impl_common : compF Try.prog Try.f120 = some c_impl_common := by kernel_rfl
def c_impl_sign : F := ⟨(.seq (.reg false [⟨(some 2), (.mv (.c (.int .i64 0))), none⟩]) (.seq (.block 0 (.seq (.reg false [⟨(some 4), (.mv (.t 0)), none⟩, ⟨(some 5), (.bin .lss (.t 4) (.c (.int .i64 0))), none⟩, ⟨(some 3), (.mv (.t 5)), none⟩]) (.cond (.t 3) (.seq (.reg false [⟨(some 2), (.mv (.c (.int .i64 (-1)))), none⟩]) .ret) (.seq (.reg false [⟨(some 7), (.mv (.t 0)), none⟩, ⟨(some 8), (.bin .gtr (.t 7) (.c (.int .i64 0))), none⟩, ⟨(some 6), (.mv (.t 8)), none⟩]) (.cond (.t 6) (.seq (.reg false [⟨(some 2), (.mv (.c (.int .i64 1))), none⟩]) .ret) .skip))))) (.seq (.reg false [⟨(some 2), (.mv (.c (.int .i64 0))), none⟩]) .ret))), 9, [(.t 2)]⟩
theorem k_impl_sign : compF Try.prog Try.f111 = some c_impl_sign := by kernel_rfl
def c_spec_l01In : F := ⟨(.seq (.reg false [⟨(some 6), (.mv (.c (.bool false))), none⟩]) (.seq (.reg false [⟨(some 7), (.mv (.t 0)), none⟩, ⟨(some 8), (.mv (.t 1)), none⟩, ⟨(some 9), (.bin .geq (.t 7) (.t 8)), none⟩, ⟨(some 10), (.mv (.t 9)), none⟩, ⟨(some 11), (.mv (.t 0)), (some (10, true))⟩, ⟨(some 12), (.mv (.t 2)), (some (10, true))⟩, ⟨(some 13), (.bin .leq (.t 11) (.t 12)), (some (10, true))⟩, ⟨(some 14), (.pick (.t 10) (.t 13) (.c (.bool false))), none⟩, ⟨(some 6), (.mv (.t 14)), none⟩]) .ret)), 15, [(.t 6)]⟩
theorem k_spec_l01In : compF Try.prog Try.f92 = some c_spec_l01In := by kernel_rfl
def c_spec_l01Gcd : F := ⟨(.seq (.reg false [⟨(some 4), (.mv (.c (.int .i64 0))), none⟩]) (.seq (.block 0 (.loop (.seq (.seq (.reg false [⟨(some 6), (.mv (.t 1)), none⟩, ⟨(some 7), (.bin .neq (.t 6) (.c (.int .i64 0))), none⟩]) (.cond (.t 7) .skip (.exit 0))) (.block 1 (.seq (.reg false [⟨(some 8), (.mv (.t 0)), none⟩, ⟨(some 9), (.mv (.t 1)), none⟩, ⟨(some 10), (.bin .rem (.t 8) (.t 9)), none⟩, ⟨(some 5), (.mv (.t 10)), none⟩]) (.seq (.reg false [⟨(some 11), (.mv (.t 1)), none⟩, ⟨(some 0), (.mv (.t 11)), none⟩]) (.reg false [⟨(some 12), (.mv (.t 5)), none⟩, ⟨(some 1), (.mv (.t 12)), none⟩]))))))) (.seq (.reg false [⟨(some 13), (.mv (.t 0)), none⟩, ⟨(some 14), (.mv (.t 0)), none⟩, ⟨(some 15), (.un .neg (.t 14)), none⟩, ⟨(some 16), (.mx [(.t 13), (.t 15)]), none⟩, ⟨(some 4), (.mv (.t 16)), none⟩]) .ret))), 17, [(.t 4)]⟩
theorem k_spec_l01Gcd : compF Try.prog Try.f124 = some c_spec_l01Gcd := by kernel_rfl

theorem impl_within (a b c : Int) (h : AH) (n : Nat) : Q Try.prog 141 [.int .i64 a, .int .i64 b, .int .i64 c] h n (.bool (decide (b ≤ a ∧ a ≤ c))) := by
  refine q_intro Try.func141 k_impl_within ?_
  simp (maxSteps := 2000000) -implicitDefEqProofs (disch := omega) only [c_impl_within, xsW, xsC, if_true, if_false, ite_true, ite_false, forall_const, ne_eq, beq_self_eq_true, bne_self_eq_false, imp_self, true_implies, false_implies, implies_true, evP, evE, ev, setD, Nat.reduceAdd, Nat.reduceSub, reduceCtorEq, fillA, cutA, Nat.reduceLeDiff, Nat.reduceMul, Int.reduceLT, Int.reduceLE, Int.reduceEq, Int.reduceNe, Int.reduceAdd, Int.reduceSub, Int.reduceMul, Int.reduceNeg, Int.reduceToNat]
  (refine gd_dec (fun h1 => ?_) (fun h1 => ?_) <;> simp (maxSteps := 2000000) -implicitDefEqProofs (disch := omega) only [xsW, xsC, if_true, if_false, ite_true, ite_false, forall_const, ne_eq, beq_self_eq_true, bne_self_eq_false, imp_self, true_implies, false_implies, implies_true, evP, evE, ev, setD, Nat.reduceAdd, Nat.reduceSub, reduceCtorEq, fillA, cutA, Nat.reduceLeDiff, Nat.reduceMul, Int.reduceLT, Int.reduceLE, Int.reduceEq, Int.reduceNe, Int.reduceAdd, Int.reduceSub, Int.reduceMul, Int.reduceNeg, Int.reduceToNat,  h1]) <;> (first | rfl | omega | (rw [Bool.eq_iff_iff]; simp only [decide_eq_true_eq, Bool.false_eq_true, iff_true, true_iff, false_iff, iff_false, ne_eq, isFr]; omega))
theorem spec_l01In (a b c : Int) (h : AH) (n : Nat) : Q Try.prog 92 [.int .i64 a, .int .i64 b, .int .i64 c] h n (.bool (decide (b ≤ a ∧ a ≤ c))) := by
  refine q_intro Try.func92 k_spec_l01In ?_
  simp (maxSteps := 2000000) -implicitDefEqProofs (disch := omega) only [c_spec_l01In, xsW, xsC, if_true, if_false, ite_true, ite_false, forall_const, ne_eq, beq_self_eq_true, bne_self_eq_false, imp_self, true_implies, false_implies, implies_true, evP, evE, ev, setD, Nat.reduceAdd, Nat.reduceSub, reduceCtorEq, fillA, cutA, Nat.reduceLeDiff, Nat.reduceMul, Int.reduceLT, Int.reduceLE, Int.reduceEq, Int.reduceNe, Int.reduceAdd, Int.reduceSub, Int.reduceMul, Int.reduceNeg, Int.reduceToNat]
  (refine gd_dec (fun h1 => ?_) (fun h1 => ?_) <;> simp (maxSteps := 2000000) -implicitDefEqProofs (disch := omega) only [xsW, xsC, if_true, if_false, ite_true, ite_false, forall_const, ne_eq, beq_self_eq_true, bne_self_eq_false, imp_self, true_implies, false_implies, implies_true, evP, evE, ev, setD, Nat.reduceAdd, Nat.reduceSub, reduceCtorEq, fillA, cutA, Nat.reduceLeDiff, Nat.reduceMul, Int.reduceLT, Int.reduceLE, Int.reduceEq, Int.reduceNe, Int.reduceAdd, Int.reduceSub, Int.reduceMul, Int.reduceNeg, Int.reduceToNat,  h1]) <;> (first | rfl | omega | (rw [Bool.eq_iff_iff]; simp only [decide_eq_true_eq, Bool.false_eq_true, iff_true, true_iff, false_iff, iff_false, ne_eq, isFr]; omega))
theorem impl_upTo (a c : Int) (hc : in64 (-c)) (h : AH) (n : Nat) : Q Try.prog 121 [.int .i64 a, .int .i64 c] h n (.bool (decide (-c ≤ a ∧ a ≤ c))) := by
  refine q_intro Try.func121 k_impl_upTo ?_
  simp (maxSteps := 2000000) -implicitDefEqProofs (disch := omega) only [c_impl_upTo, xsW, xsC, if_true, if_false, ite_true, ite_false, forall_const, ne_eq, beq_self_eq_true, bne_self_eq_false, imp_self, true_implies, false_implies, implies_true, evP, evE, ev, setD, Nat.reduceAdd, Nat.reduceSub, reduceCtorEq, fillA, cutA, Nat.reduceLeDiff, Nat.reduceMul, Int.reduceLT, Int.reduceLE, Int.reduceEq, Int.reduceNe, Int.reduceAdd, Int.reduceSub, Int.reduceMul, Int.reduceNeg, Int.reduceToNat]
  refine ⟨hc, q_use (impl_within _ _ _ _ _) fun n' hn => ?_⟩
  simp (maxSteps := 2000000) -implicitDefEqProofs (disch := omega) only [xsW, xsC, if_true, if_false, ite_true, ite_false, forall_const, ne_eq, beq_self_eq_true, bne_self_eq_false, imp_self, true_implies, false_implies, implies_true, evP, evE, ev, setD, Nat.reduceAdd, Nat.reduceSub, reduceCtorEq, fillA, cutA, Nat.reduceLeDiff, Nat.reduceMul, Int.reduceLT, Int.reduceLE, Int.reduceEq, Int.reduceNe, Int.reduceAdd, Int.reduceSub, Int.reduceMul, Int.reduceNeg, Int.reduceToNat]
theorem impl_size (a : Int) (ha' : in64 (-a)) (h : AH) (n : Nat) : Q Try.prog 118 [.int .i64 a] h n (.int .i64 a.natAbs) := by
  refine q_intro Try.func118 k_impl_size ?_
  simp (maxSteps := 2000000) -implicitDefEqProofs (disch := omega) only [c_impl_size, xsW, xsC, if_true, if_false, ite_true, ite_false, forall_const, ne_eq, beq_self_eq_true, bne_self_eq_false, imp_self, true_implies, false_implies, implies_true, evP, evE, ev, setD, Nat.reduceAdd, Nat.reduceSub, reduceCtorEq, fillA, cutA, Nat.reduceLeDiff, Nat.reduceMul, Int.reduceLT, Int.reduceLE, Int.reduceEq, Int.reduceNe, Int.reduceAdd, Int.reduceSub, Int.reduceMul, Int.reduceNeg, Int.reduceToNat]
  exact ⟨ha', by omega⟩
theorem impl_sign (a : Int) (h : AH) (n : Nat) : Q Try.prog 111 [.int .i64 a] h n (.int .i64 a.sign) := by
  refine q_intro Try.func111 k_impl_sign ?_
  simp (maxSteps := 2000000) -implicitDefEqProofs (disch := omega) only [c_impl_sign, xsW, xsC, if_true, if_false, ite_true, ite_false, forall_const, ne_eq, beq_self_eq_true, bne_self_eq_false, imp_self, true_implies, false_implies, implies_true, evP, evE, ev, setD, Nat.reduceAdd, Nat.reduceSub, reduceCtorEq, fillA, cutA, Nat.reduceLeDiff, Nat.reduceMul, Int.reduceLT, Int.reduceLE, Int.reduceEq, Int.reduceNe, Int.reduceAdd, Int.reduceSub, Int.reduceMul, Int.reduceNeg, Int.reduceToNat]
  (refine cd_dec (fun h1 => ?_) (fun h1 => ?_) <;> simp (maxSteps := 2000000) -implicitDefEqProofs (disch := omega) only [xsW, xsC, if_true, if_false, ite_true, ite_false, forall_const, ne_eq, beq_self_eq_true, bne_self_eq_false, imp_self, true_implies, false_implies, implies_true, evP, evE, ev, setD, Nat.reduceAdd, Nat.reduceSub, reduceCtorEq, fillA, cutA, Nat.reduceLeDiff, Nat.reduceMul, Int.reduceLT, Int.reduceLE, Int.reduceEq, Int.reduceNe, Int.reduceAdd, Int.reduceSub, Int.reduceMul, Int.reduceNeg, Int.reduceToNat,  h1])
  · rw [Int.sign_eq_neg_one_of_neg h1]
  · (refine cd_dec (fun h2 => ?_) (fun h2 => ?_) <;> simp (maxSteps := 2000000) -implicitDefEqProofs (disch := omega) only [xsW, xsC, if_true, if_false, ite_true, ite_false, forall_const, ne_eq, beq_self_eq_true, bne_self_eq_false, imp_self, true_implies, false_implies, implies_true, evP, evE, ev, setD, Nat.reduceAdd, Nat.reduceSub, reduceCtorEq, fillA, cutA, Nat.reduceLeDiff, Nat.reduceMul, Int.reduceLT, Int.reduceLE, Int.reduceEq, Int.reduceNe, Int.reduceAdd, Int.reduceSub, Int.reduceMul, Int.reduceNeg, Int.reduceToNat,  h2])
    · rw [Int.sign_eq_one_of_pos h2]
    · rw [show a = 0 by omega]; rfl
theorem gcd_step (x y : Int) : Int.gcd y (x.tmod y) = Int.gcd x y := by
  unfold Int.gcd
  rw [Int.natAbs_tmod, Nat.gcd_comm y.natAbs, ← Nat.gcd_rec, Nat.gcd_comm]
theorem impl_common (a b : Int) (ha : in64 a ∧ in64 (-a)) (hb : in64 b ∧ in64 (-b)) (h : AH) (n : Nat) : Q Try.prog 120 [.int .i64 a, .int .i64 b] h n (.int .i64 (Int.gcd a b)) := by
  refine q_intro Try.func120 k_impl_common ?_
  simp (maxSteps := 2000000) -implicitDefEqProofs (disch := omega) only [c_impl_common, xsW, xsC, if_true, if_false, ite_true, ite_false, forall_const, ne_eq, beq_self_eq_true, bne_self_eq_false, imp_self, true_implies, false_implies, implies_true, evP, evE, ev, setD, Nat.reduceAdd, Nat.reduceSub, reduceCtorEq, fillA, cutA, Nat.reduceLeDiff, Nat.reduceMul, Int.reduceLT, Int.reduceLE, Int.reduceEq, Int.reduceNe, Int.reduceAdd, Int.reduceSub, Int.reduceMul, Int.reduceNeg, Int.reduceToNat]
  refine q_use (impl_size _ ha.2 _ _) fun n1 hn1 => ?_
  simp (maxSteps := 2000000) -implicitDefEqProofs (disch := omega) only [xsW, xsC, if_true, if_false, ite_true, ite_false, forall_const, ne_eq, beq_self_eq_true, bne_self_eq_false, imp_self, true_implies, false_implies, implies_true, evP, evE, ev, setD, Nat.reduceAdd, Nat.reduceSub, reduceCtorEq, fillA, cutA, Nat.reduceLeDiff, Nat.reduceMul, Int.reduceLT, Int.reduceLE, Int.reduceEq, Int.reduceNe, Int.reduceAdd, Int.reduceSub, Int.reduceMul, Int.reduceNeg, Int.reduceToNat]
  refine q_use (impl_size _ hb.2 _ _) fun n2 hn2 => ?_
  simp (maxSteps := 2000000) -implicitDefEqProofs (disch := omega) only [xsW, xsC, if_true, if_false, ite_true, ite_false, forall_const, ne_eq, beq_self_eq_true, bne_self_eq_false, imp_self, true_implies, false_implies, implies_true, evP, evE, ev, setD, Nat.reduceAdd, Nat.reduceSub, reduceCtorEq, fillA, cutA, Nat.reduceLeDiff, Nat.reduceMul, Int.reduceLT, Int.reduceLE, Int.reduceEq, Int.reduceNe, Int.reduceAdd, Int.reduceSub, Int.reduceMul, Int.reduceNeg, Int.reduceToNat]
  refine loop_rule (α := { p : Int × Int // 0 ≤ p.1 ∧ p.1 ≤ 9223372036854775807 ∧ 0 ≤ p.2 ∧ p.2 ≤ 9223372036854775807 ∧ Int.gcd p.1 p.2 = Int.gcd a b })
    (fun p => [.int .i64 p.1.1, .int .i64 p.1.2, .any, .any, .int .i64 0, .any, .any, .any, .any, .any, .any, .any, .any, .any, .any, .any]) (fun _ => h) (fun _ => n2) (fun p => p.1.2.toNat)
    ⟨(a.natAbs, b.natAbs), by unfold in64 at *; simp only; omega, by unfold in64 at *; simp only; omega, by simp only; omega, by unfold in64 at *; simp only; omega, by simp [Int.gcd]⟩ ⟨by simp [LeL, Le1], fun _ _ h => h, Nat.le_refl _⟩ ?_
  rintro ⟨⟨x, y⟩, hx, hx', hy, hy', hg⟩
  simp only at hx hx' hy hy' hg
  simp (maxSteps := 2000000) -implicitDefEqProofs (disch := omega) only [xsW, xsC, if_true, if_false, ite_true, ite_false, forall_const, ne_eq, beq_self_eq_true, bne_self_eq_false, imp_self, true_implies, false_implies, implies_true, evP, evE, ev, setD, Nat.reduceAdd, Nat.reduceSub, reduceCtorEq, fillA, cutA, Nat.reduceLeDiff, Nat.reduceMul, Int.reduceLT, Int.reduceLE, Int.reduceEq, Int.reduceNe, Int.reduceAdd, Int.reduceSub, Int.reduceMul, Int.reduceNeg, Int.reduceToNat]
  (refine cd_dec (fun h0 => ?_) (fun h0 => ?_) <;> simp (maxSteps := 2000000) -implicitDefEqProofs (disch := omega) only [xsW, xsC, if_true, if_false, ite_true, ite_false, forall_const, ne_eq, beq_self_eq_true, bne_self_eq_false, imp_self, true_implies, false_implies, implies_true, evP, evE, ev, setD, Nat.reduceAdd, Nat.reduceSub, reduceCtorEq, fillA, cutA, Nat.reduceLeDiff, Nat.reduceMul, Int.reduceLT, Int.reduceLE, Int.reduceEq, Int.reduceNe, Int.reduceAdd, Int.reduceSub, Int.reduceMul, Int.reduceNeg, Int.reduceToNat,  h0])
  · have hm := Int.emod_nonneg x h0
    have hm2 := Int.emod_lt_of_pos x (show 0 < y by omega)
    have he : x.tmod y = x % y := Int.tmod_eq_emod_of_nonneg hx
    refine ⟨ ⟨(y, x % y), hy, hy', hm, by simp only; omega, ?_⟩, by simp only; omega, by simp [LeL, Le1, he], fun _ _ h => h, Nat.le_refl _⟩
    simp only
    rw [← hg, ← he, gcd_step]
  · have hy0 : y = 0 := by omega
    subst hy0
    rw [← hg, Int.gcd_zero_right]
    omega
theorem spec_l01Gcd (a b : Int) (ha : in64 a ∧ in64 (-a)) (hb : in64 b ∧ in64 (-b)) (h : AH) (n : Nat) : Q Try.prog 124 [.int .i64 a, .int .i64 b] h n (.int .i64 (Int.gcd a b)) := by
  refine q_intro Try.func124 k_spec_l01Gcd ?_
  simp (maxSteps := 2000000) -implicitDefEqProofs (disch := omega) only [c_spec_l01Gcd, xsW, xsC, if_true, if_false, ite_true, ite_false, forall_const, ne_eq, beq_self_eq_true, bne_self_eq_false, imp_self, true_implies, false_implies, implies_true, evP, evE, ev, setD, Nat.reduceAdd, Nat.reduceSub, reduceCtorEq, fillA, cutA, Nat.reduceLeDiff, Nat.reduceMul, Int.reduceLT, Int.reduceLE, Int.reduceEq, Int.reduceNe, Int.reduceAdd, Int.reduceSub, Int.reduceMul, Int.reduceNeg, Int.reduceToNat]
  refine loop_rule (α := { p : Int × Int // p.1.natAbs ≤ 9223372036854775807 ∧ p.2.natAbs ≤ 9223372036854775807 ∧ Int.gcd p.1 p.2 = Int.gcd a b })
    (fun p => [.int .i64 p.1.1, .int .i64 p.1.2, .any, .any, .int .i64 0, .any, .any, .any, .any, .any, .any, .any, .any, .any, .any, .any, .any]) (fun _ => h) (fun _ => n) (fun p => p.1.2.natAbs)
    ⟨(a, b), by unfold in64 at *; simp only; omega, by unfold in64 at *; simp only; omega, rfl⟩ ⟨by simp [LeL, Le1], fun _ _ h => h, Nat.le_refl _⟩ ?_
  rintro ⟨⟨x, y⟩, hx, hy, hg⟩
  simp only at hx hy hg
  simp (maxSteps := 2000000) -implicitDefEqProofs (disch := omega) only [xsW, xsC, if_true, if_false, ite_true, ite_false, forall_const, ne_eq, beq_self_eq_true, bne_self_eq_false, imp_self, true_implies, false_implies, implies_true, evP, evE, ev, setD, Nat.reduceAdd, Nat.reduceSub, reduceCtorEq, fillA, cutA, Nat.reduceLeDiff, Nat.reduceMul, Int.reduceLT, Int.reduceLE, Int.reduceEq, Int.reduceNe, Int.reduceAdd, Int.reduceSub, Int.reduceMul, Int.reduceNeg, Int.reduceToNat]
  (refine cd_dec (fun h0 => ?_) (fun h0 => ?_) <;> simp (maxSteps := 2000000) -implicitDefEqProofs (disch := omega) only [xsW, xsC, if_true, if_false, ite_true, ite_false, forall_const, ne_eq, beq_self_eq_true, bne_self_eq_false, imp_self, true_implies, false_implies, implies_true, evP, evE, ev, setD, Nat.reduceAdd, Nat.reduceSub, reduceCtorEq, fillA, cutA, Nat.reduceLeDiff, Nat.reduceMul, Int.reduceLT, Int.reduceLE, Int.reduceEq, Int.reduceNe, Int.reduceAdd, Int.reduceSub, Int.reduceMul, Int.reduceNeg, Int.reduceToNat,  h0])
  · have hm : (x.tmod y).natAbs < y.natAbs := by
      rw [Int.natAbs_tmod]; exact Nat.mod_lt _ (by omega)
    refine ⟨ ⟨(y, x.tmod y), hy, by simp only; omega, ?_⟩, by simp only; omega, by simp [LeL, Le1], fun _ _ h => h, Nat.le_refl _⟩
    simp only
    rw [← hg, gcd_step]
  · have hy0 : y = 0 := by omega
    subst hy0
    have e := Int.gcd_zero_right x
    rw [← hg, e]
    omega
end Go.Proofs.Ytkpibnhddhdooab.L
