/- Contracts: the columns of a set. -/
import Derived.Test.YtkpibnhddhdooabA8
import Derived.Test.YtkpibnhddhdooabA19
namespace Go.Proofs.Ytkpibnhddhdooab.L
open Go
set_option linter.unusedSimpArgs false
set_option linter.unusedVariables false
def c_impl_setCode : F := ⟨(.seq (.reg false [⟨(some 2), (.box 31 (.t 0)), none⟩, ⟨(some 4), (.mv (.c (.int .i64 0))), none⟩]) (.seq (.block 0 (.seq (.reg false [⟨(some 6), (.ld 2 (.t 2)), none⟩, ⟨(some 7), (.call (.f 101) [(.t 6)]), none⟩, ⟨(some 8), (.un .not (.t 7)), none⟩, ⟨(some 5), (.mv (.t 8)), none⟩]) (.cond (.t 5) (.seq (.reg false [⟨(some 4), (.mv (.c (.int .i64 1))), none⟩]) .ret) (.seq (.reg false [⟨(some 10), (.mv (.t 1)), none⟩, ⟨(some 11), (.fa 1 (.t 2)), none⟩, ⟨(some 12), (.ld1 (.t 11)), none⟩, ⟨(some 13), (.len (.t 12)), none⟩, ⟨(some 14), (.call (.f 102) [(.t 10), (.t 13)]), none⟩, ⟨(some 15), (.un .not (.t 14)), none⟩, ⟨(some 9), (.mv (.t 15)), none⟩]) (.cond (.t 9) (.seq (.reg false [⟨(some 4), (.mv (.c (.int .i64 2))), none⟩]) .ret) .skip))))) (.seq (.reg false [⟨(some 4), (.mv (.c (.int .i64 0))), none⟩]) .ret))), 16, [(.t 4)]⟩
theorem k_impl_setCode : compF Try.prog Try.f65 = some c_impl_setCode := by kernel_rfl
def c_spec_l02Code : F := ⟨(.seq (.reg false [⟨(some 2), (.box 31 (.t 0)), none⟩, ⟨(some 4), (.mv (.c (.int .i64 0))), none⟩]) (.seq (.block 0 (.seq (.reg false [⟨(some 6), (.ld 2 (.t 2)), none⟩, ⟨(some 7), (.call (.f 53) [(.t 6)]), none⟩, ⟨(some 8), (.un .not (.t 7)), none⟩, ⟨(some 5), (.mv (.t 8)), none⟩]) (.cond (.t 5) (.seq (.reg false [⟨(some 4), (.mv (.c (.int .i64 1))), none⟩]) .ret) (.seq (.reg false [⟨(some 10), (.mv (.t 1)), none⟩, ⟨(some 11), (.fa 1 (.t 2)), none⟩, ⟨(some 12), (.ld1 (.t 11)), none⟩, ⟨(some 13), (.len (.t 12)), none⟩, ⟨(some 14), (.cvi .u64 (.t 13)), none⟩, ⟨(some 15), (.bin .shl (.c (.int .i64 1)) (.t 14)), none⟩, ⟨(some 16), (.bin .sub (.t 15) (.c (.int .i64 1))), none⟩, ⟨(some 17), (.call (.f 92) [(.t 10), (.c (.int .i64 0)), (.t 16)]), none⟩, ⟨(some 18), (.un .not (.t 17)), none⟩, ⟨(some 9), (.mv (.t 18)), none⟩]) (.cond (.t 9) (.seq (.reg false [⟨(some 4), (.mv (.c (.int .i64 2))), none⟩]) .ret) .skip))))) (.seq (.reg false [⟨(some 4), (.mv (.c (.int .i64 0))), none⟩]) .ret))), 19, [(.t 4)]⟩
theorem k_spec_l02Code : compF Try.prog Try.f70 = some c_spec_l02Code := by kernel_rfl
def c_impl_Problem_column : F := ⟨(.seq (.reg false [⟨(some 3), (.box 31 (.t 0)), none⟩, ⟨(some 6), (.mv (.c .nilsl)), none⟩]) (.seq (.reg false [⟨(some 10), (.fa 1 (.t 3)), none⟩, ⟨(some 11), (.ld1 (.t 10)), none⟩, ⟨(some 12), (.len (.t 11)), none⟩, ⟨(some 13), (.mks 2 1 [(.int .i64 0)] (.t 12) (.t 12)), none⟩, ⟨(some 7), (.mv (.t 13)), none⟩]) (.seq (.seq (.reg false [⟨(some 14), (.fa 0 (.t 3)), none⟩, ⟨(some 15), (.ld1 (.t 14)), none⟩, ⟨(some 16), (.len (.t 15)), none⟩, ⟨(some 17), (.mv (.c (.int .i64 0))), none⟩]) (.block 0 (.loop (.seq (.reg false [⟨(some 18), (.bin .lss (.t 17) (.t 16)), none⟩]) (.seq (.cond (.t 18) .skip (.exit 0)) (.seq (.block 1 (.seq (.reg false [⟨(some 19), (.mv (.t 17)), none⟩, ⟨(some 20), (.ia 1 (.t 15) (.t 17)), none⟩, ⟨(some 21), (.ld1 (.t 20)), none⟩, ⟨(some 8), (.mv (.t 19)), none⟩, ⟨(some 9), (.mv (.t 21)), none⟩]) (.seq (.reg false [⟨(some 22), (.mv (.t 2)), none⟩]) (.cond (.t 22) (.reg false [⟨(some 23), (.mv (.t 7)), none⟩, ⟨(some 24), (.mv (.t 8)), none⟩, ⟨(some 25), (.mv (.t 9)), none⟩, ⟨(some 26), (.mv (.t 1)), none⟩, ⟨(some 27), (.ia 1 (.t 25) (.t 26)), none⟩, ⟨(some 28), (.ld1 (.t 27)), none⟩, ⟨(some 29), (.un .neg (.t 28)), none⟩, ⟨(some 30), (.ia 1 (.t 23) (.t 24)), none⟩, ⟨none, (.st 1 (.t 30) (.t 29)), none⟩]) .skip)))) (.reg false [⟨(some 31), (.bin .add (.t 17) (.c (.int .i64 1))), none⟩, ⟨(some 17), (.mv (.t 31)), none⟩]))))))) (.seq (.seq (.reg false [⟨(some 32), (.mv (.t 2)), none⟩, ⟨(some 33), (.un .not (.t 32)), none⟩]) (.cond (.t 33) (.reg false [⟨(some 34), (.mv (.t 7)), none⟩, ⟨(some 35), (.mv (.t 1)), none⟩, ⟨(some 36), (.ia 1 (.t 34) (.t 35)), none⟩, ⟨none, (.st 1 (.t 36) (.c (.int .i64 1))), none⟩]) .skip)) (.seq (.reg false [⟨(some 37), (.mv (.t 7)), none⟩, ⟨(some 6), (.mv (.t 37)), none⟩]) .ret))))), 38, [(.t 6)]⟩
theorem k_impl_Problem_column : compF Try.prog Try.f145 = some c_impl_Problem_column := by kernel_rfl
def c_impl_put : F := ⟨(.seq (.reg false [⟨(some 8), (.mv (.t 0)), none⟩, ⟨(some 9), (.len (.t 8)), none⟩, ⟨(some 10), (.mv (.c (.int .i64 0))), none⟩]) (.block 0 (.loop (.seq (.reg false [⟨(some 11), (.bin .lss (.t 10) (.t 9)), none⟩]) (.seq (.cond (.t 11) .skip (.exit 0)) (.seq (.block 1 (.seq (.reg false [⟨(some 12), (.mv (.t 10)), none⟩, ⟨(some 13), (.ia 1 (.t 8) (.t 10)), none⟩, ⟨(some 14), (.ld1 (.t 13)), none⟩, ⟨(some 6), (.mv (.t 12)), none⟩, ⟨(some 7), (.mv (.t 14)), none⟩]) (.reg false [⟨(some 15), (.mv (.t 7)), none⟩, ⟨(some 16), (.mv (.t 1)), none⟩, ⟨(some 17), (.mv (.t 2)), none⟩, ⟨(some 18), (.mv (.t 6)), none⟩, ⟨(some 19), (.ia 1 (.t 17) (.t 18)), none⟩, ⟨(some 20), (.ld1 (.t 19)), none⟩, ⟨(some 21), (.ia 1 (.t 15) (.t 16)), none⟩, ⟨none, (.st 1 (.t 21) (.t 20)), none⟩]))) (.reg false [⟨(some 22), (.bin .add (.t 10) (.c (.int .i64 1))), none⟩, ⟨(some 10), (.mv (.t 22)), none⟩]))))))), 23, []⟩
theorem k_impl_put : compF Try.prog Try.f117 = some c_impl_put := by kernel_rfl
def c_impl_Problem_columns : F := ⟨(.seq (.reg false [⟨(some 2), (.box 31 (.t 0)), none⟩, ⟨(some 4), (.mv (.c .nilsl)), none⟩]) (.seq (.reg false [⟨(some 9), (.fa 1 (.t 2)), none⟩, ⟨(some 10), (.ld1 (.t 9)), none⟩, ⟨(some 11), (.len (.t 10)), none⟩, ⟨(some 5), (.mv (.t 11)), none⟩]) (.seq (.reg false [⟨(some 12), (.mv (.t 5)), none⟩, ⟨(some 13), (.mks 23 1 [.nilsl] (.t 12) (.t 12)), none⟩, ⟨(some 6), (.mv (.t 13)), none⟩]) (.seq (.seq (.reg false [⟨(some 14), (.mv (.t 6)), none⟩, ⟨(some 15), (.len (.t 14)), none⟩, ⟨(some 16), (.mv (.c (.int .i64 0))), none⟩]) (.block 0 (.loop (.seq (.reg false [⟨(some 17), (.bin .lss (.t 16) (.t 15)), none⟩]) (.seq (.cond (.t 17) .skip (.exit 0)) (.seq (.block 1 (.seq (.reg false [⟨(some 18), (.mv (.t 16)), none⟩, ⟨(some 7), (.mv (.t 18)), none⟩]) (.reg false [⟨(some 19), (.mv (.t 6)), none⟩, ⟨(some 20), (.mv (.t 7)), none⟩, ⟨(some 21), (.mv (.t 5)), none⟩, ⟨(some 22), (.mks 2 1 [(.int .i64 0)] (.t 21) (.t 21)), none⟩, ⟨(some 23), (.ia 1 (.t 19) (.t 20)), none⟩, ⟨none, (.st 1 (.t 23) (.t 22)), none⟩]))) (.reg false [⟨(some 24), (.bin .add (.t 16) (.c (.int .i64 1))), none⟩, ⟨(some 16), (.mv (.t 24)), none⟩]))))))) (.seq (.seq (.reg false [⟨(some 25), (.mv (.t 5)), none⟩, ⟨(some 26), (.mv (.c (.int .i64 0))), none⟩]) (.block 2 (.loop (.seq (.reg false [⟨(some 27), (.bin .lss (.t 26) (.t 25)), none⟩]) (.seq (.cond (.t 27) .skip (.exit 2)) (.seq (.block 3 (.seq (.reg false [⟨(some 28), (.mv (.t 26)), none⟩, ⟨(some 8), (.mv (.t 28)), none⟩]) (.reg true [⟨(some 29), (.mv (.t 6)), none⟩, ⟨(some 30), (.mv (.t 8)), none⟩, ⟨(some 31), (.ld 2 (.t 2)), none⟩, ⟨(some 32), (.mv (.t 8)), none⟩, ⟨(some 33), (.mv (.t 1)), none⟩, ⟨(some 34), (.mv (.t 8)), none⟩, ⟨(some 35), (.call (.f 107) [(.t 33), (.t 34)]), none⟩, ⟨(some 36), (.call (.f 145) [(.t 31), (.t 32), (.t 35)]), none⟩, ⟨(some 37), (.callw (.f 117) [(.t 29), (.t 30), (.t 36)]), none⟩]))) (.reg false [⟨(some 38), (.bin .add (.t 26) (.c (.int .i64 1))), none⟩, ⟨(some 26), (.mv (.t 38)), none⟩]))))))) (.seq (.reg false [⟨(some 39), (.mv (.t 6)), none⟩, ⟨(some 4), (.mv (.t 39)), none⟩]) .ret)))))), 40, [(.t 4)]⟩
theorem k_impl_Problem_columns : compF Try.prog Try.f114 = some c_impl_Problem_columns := by kernel_rfl
def c_spec_l01Columns : F := ⟨(.seq (.reg false [⟨(some 4), (.mv (.c .nilsl)), none⟩]) (.seq (.reg false [⟨(some 9), (.lit 23 1 0 [.nilsl] []), none⟩, ⟨(some 5), (.mv (.t 9)), none⟩]) (.seq (.seq (.reg false [⟨(some 6), (.mv (.c (.int .i64 0))), none⟩]) (.block 0 (.loop (.seq (.seq (.reg false [⟨(some 10), (.mv (.t 6)), none⟩, ⟨(some 11), (.mv (.t 0)), none⟩, ⟨(some 12), (.len (.t 11)), none⟩, ⟨(some 13), (.bin .lss (.t 10) (.t 12)), none⟩]) (.cond (.t 13) .skip (.exit 0))) (.seq (.block 1 (.seq (.reg false [⟨(some 16), (.lit 2 1 0 [(.int .i64 0)] []), none⟩, ⟨(some 7), (.mv (.t 16)), none⟩]) (.seq (.seq (.reg false [⟨(some 8), (.mv (.c (.int .i64 0))), none⟩]) (.block 2 (.loop (.seq (.seq (.reg false [⟨(some 17), (.mv (.t 8)), none⟩, ⟨(some 18), (.mv (.t 0)), none⟩, ⟨(some 19), (.len (.t 18)), none⟩, ⟨(some 20), (.bin .lss (.t 17) (.t 19)), none⟩]) (.cond (.t 20) .skip (.exit 2))) (.seq (.block 3 (.block 4 (.seq (.reg false [⟨(some 27), (.mv (.t 1)), none⟩, ⟨(some 28), (.mv (.t 8)), none⟩, ⟨(some 29), (.cvi .u64 (.t 28)), none⟩, ⟨(some 30), (.bin .shr (.t 27) (.t 29)), none⟩, ⟨(some 31), (.bin .and (.t 30) (.c (.int .i64 1))), none⟩, ⟨(some 32), (.bin .eql (.t 31) (.c (.int .i64 1))), none⟩, ⟨(some 26), (.mv (.t 32)), none⟩]) (.cond (.t 26) (.reg false [⟨(some 33), (.mv (.t 7)), none⟩, ⟨(some 34), (.mv (.t 0)), none⟩, ⟨(some 35), (.mv (.t 6)), none⟩, ⟨(some 36), (.ia 1 (.t 34) (.t 35)), none⟩, ⟨(some 37), (.ld1 (.t 36)), none⟩, ⟨(some 38), (.mv (.t 8)), none⟩, ⟨(some 39), (.ia 1 (.t 37) (.t 38)), none⟩, ⟨(some 40), (.ld1 (.t 39)), none⟩, ⟨(some 41), (.un .neg (.t 40)), none⟩, ⟨(some 42), (.lit 2 1 1 [(.int .i64 0)] [(0, (.t 41))]), none⟩, ⟨(some 43), (.app 2 1 8 [(.int .i64 0)] (.t 33) (.t 42)), none⟩, ⟨(some 7), (.mv (.t 43)), none⟩]) (.seq (.reg false [⟨(some 45), (.mv (.t 6)), none⟩, ⟨(some 46), (.mv (.t 8)), none⟩, ⟨(some 47), (.bin .eql (.t 45) (.t 46)), none⟩, ⟨(some 44), (.mv (.t 47)), none⟩]) (.cond (.t 44) (.reg false [⟨(some 48), (.mv (.t 7)), none⟩, ⟨(some 49), (.lit 2 1 1 [(.int .i64 0)] [(0, (.c (.int .i64 1)))]), none⟩, ⟨(some 50), (.app 2 1 8 [(.int .i64 0)] (.t 48) (.t 49)), none⟩, ⟨(some 7), (.mv (.t 50)), none⟩]) (.reg false [⟨(some 23), (.mv (.t 7)), none⟩, ⟨(some 24), (.lit 2 1 1 [(.int .i64 0)] [(0, (.c (.int .i64 0)))]), none⟩, ⟨(some 25), (.app 2 1 8 [(.int .i64 0)] (.t 23) (.t 24)), none⟩, ⟨(some 7), (.mv (.t 25)), none⟩]))))))) (.reg false [⟨(some 21), (.mv (.t 8)), none⟩, ⟨(some 22), (.bin .add (.t 21) (.c (.int .i64 1))), none⟩, ⟨(some 8), (.mv (.t 22)), none⟩])))))) (.reg false [⟨(some 51), (.mv (.t 5)), none⟩, ⟨(some 52), (.mv (.t 7)), none⟩, ⟨(some 53), (.lit 23 1 1 [.nilsl] [(0, (.t 52))]), none⟩, ⟨(some 54), (.app 23 1 24 [.nilsl] (.t 51) (.t 53)), none⟩, ⟨(some 5), (.mv (.t 54)), none⟩])))) (.reg false [⟨(some 14), (.mv (.t 6)), none⟩, ⟨(some 15), (.bin .add (.t 14) (.c (.int .i64 1))), none⟩, ⟨(some 6), (.mv (.t 15)), none⟩])))))) (.seq (.reg false [⟨(some 55), (.mv (.t 5)), none⟩, ⟨(some 4), (.mv (.t 55)), none⟩]) .ret)))), 56, [(.t 4)]⟩
theorem k_spec_l01Columns : compF Try.prog Try.f110 = some c_spec_l01Columns := by kernel_rfl

theorem isProb_facts {ll : List (List Int)} {q : List Int} (h : isProb ll q = true) : isMat ll = true ∧ q.length = ll.length ∧ within 100 q = true := by
  simp only [isProb, Bool.and_eq_true, decide_eq_true_eq] at h
  exact ⟨h.1.1, h.1.2, h.2⟩
def codeP (ll : List (List Int)) (q : List Int) (s : Int) : Int := if isProb ll q = true then (if inSet ll.length s = true then 0 else 2) else 1
theorem codeP_zero {ll : List (List Int)} {q : List Int} {s : Int} : codeP ll q s = 0 ↔ isProb ll q = true ∧ inSet ll.length s = true := by
  unfold codeP
  by_cases h1 : isProb ll q = true
  · by_cases h2 : inSet ll.length s = true <;> simp [h1, h2]
  · simp [h1]
section
variable {w : Bool} {lo hi : Nat} {h : AH} {v u : AV} {vs : List AV} {ll : List (List Int)} {q : List Int}
theorem impl_setCode (s : Prob w lo hi h v u vs ll q) (hl : ll.length ≤ 1048576) (hll : ∀ l ∈ ll, l.length ≤ 1048576) (hq : q.length ≤ 1048576) (a : Int) (n : Nat) (hn : hi ≤ n) :
    Q Try.prog 65 [.agg [v, u], .int .i64 a] h n (.int .i64 (codeP ll q a)) := by
  refine q_intro Try.func65 k_impl_setCode ?_
  have o1 := one_any (Sl.any s.M.out)
  have o2 := one_any (Sl.any s.Q)
  simp (maxSteps := 2000000) -implicitDefEqProofs (disch := omega) only [c_impl_setCode, o1, o2, xsW, xsC, if_true, if_false, ite_true, ite_false, forall_const, ne_eq, beq_self_eq_true, bne_self_eq_false, imp_self, true_implies, false_implies, implies_true, evP, evE, ev, setD, Nat.reduceAdd, Nat.reduceSub, reduceCtorEq, fillA, cutA, Nat.reduceLeDiff, Nat.reduceMul, Int.reduceLT, Int.reduceLE, Int.reduceEq, Int.reduceNe, Int.reduceAdd, Int.reduceSub, Int.reduceMul, Int.reduceNeg, Int.reduceToNat]
  refine q_use (impl_IsProblem (s.keep (fun i _ hi9 => by simp (disch := omega) only [upd_other])) hl hll hq _ (by omega)) fun n1 hn1 => ?_
  unfold codeP
  cases hm : isProb ll q
  · simp (maxSteps := 2000000) -implicitDefEqProofs (disch := omega) only [xsW, xsC, if_true, if_false, ite_true, ite_false, forall_const, ne_eq, beq_self_eq_true, bne_self_eq_false, imp_self, true_implies, false_implies, implies_true, evP, evE, ev, setD, Nat.reduceAdd, Nat.reduceSub, reduceCtorEq, fillA, cutA, Nat.reduceLeDiff, Nat.reduceMul, Int.reduceLT, Int.reduceLE, Int.reduceEq, Int.reduceNe, Int.reduceAdd, Int.reduceSub, Int.reduceMul, Int.reduceNeg, Int.reduceToNat]
  · obtain ⟨h1, h2, h3⟩ := isProb_facts hm
    have hN := ((isMat_iff ll).1 h1).2.1
    simp (maxSteps := 2000000) -implicitDefEqProofs (disch := omega) only [xsW, xsC, if_true, if_false, ite_true, ite_false, forall_const, ne_eq, beq_self_eq_true, bne_self_eq_false, imp_self, true_implies, false_implies, implies_true, evP, evE, ev, setD, Nat.reduceAdd, Nat.reduceSub, reduceCtorEq, fillA, cutA, Nat.reduceLeDiff, Nat.reduceMul, Int.reduceLT, Int.reduceLE, Int.reduceEq, Int.reduceNe, Int.reduceAdd, Int.reduceSub, Int.reduceMul, Int.reduceNeg, Int.reduceToNat,  s.Q.ln]
    refine q_use (impl_isSet _ _ (by omega) _ _) fun n2 hn2 => ?_
    rw [h2]
    cases ha : inSet ll.length a
    · simp (maxSteps := 2000000) -implicitDefEqProofs (disch := omega) only [xsW, xsC, if_true, if_false, ite_true, ite_false, forall_const, ne_eq, beq_self_eq_true, bne_self_eq_false, imp_self, true_implies, false_implies, implies_true, evP, evE, ev, setD, Nat.reduceAdd, Nat.reduceSub, reduceCtorEq, fillA, cutA, Nat.reduceLeDiff, Nat.reduceMul, Int.reduceLT, Int.reduceLE, Int.reduceEq, Int.reduceNe, Int.reduceAdd, Int.reduceSub, Int.reduceMul, Int.reduceNeg, Int.reduceToNat]
    · simp (maxSteps := 2000000) -implicitDefEqProofs (disch := omega) only [xsW, xsC, if_true, if_false, ite_true, ite_false, forall_const, ne_eq, beq_self_eq_true, bne_self_eq_false, imp_self, true_implies, false_implies, implies_true, evP, evE, ev, setD, Nat.reduceAdd, Nat.reduceSub, reduceCtorEq, fillA, cutA, Nat.reduceLeDiff, Nat.reduceMul, Int.reduceLT, Int.reduceLE, Int.reduceEq, Int.reduceNe, Int.reduceAdd, Int.reduceSub, Int.reduceMul, Int.reduceNeg, Int.reduceToNat]
theorem spec_l02Code (s : Prob w lo hi h v u vs ll q) (hl : ll.length ≤ 1048576) (hll : ∀ l ∈ ll, l.length ≤ 1048576) (hq : q.length ≤ 1048576) (a : Int) (n : Nat) (hn : hi ≤ n) :
    Q Try.prog 70 [.agg [v, u], .int .i64 a] h n (.int .i64 (codeP ll q a)) := by
  refine q_intro Try.func70 k_spec_l02Code ?_
  have o1 := one_any (Sl.any s.M.out)
  have o2 := one_any (Sl.any s.Q)
  simp (maxSteps := 2000000) -implicitDefEqProofs (disch := omega) only [c_spec_l02Code, o1, o2, xsW, xsC, if_true, if_false, ite_true, ite_false, forall_const, ne_eq, beq_self_eq_true, bne_self_eq_false, imp_self, true_implies, false_implies, implies_true, evP, evE, ev, setD, Nat.reduceAdd, Nat.reduceSub, reduceCtorEq, fillA, cutA, Nat.reduceLeDiff, Nat.reduceMul, Int.reduceLT, Int.reduceLE, Int.reduceEq, Int.reduceNe, Int.reduceAdd, Int.reduceSub, Int.reduceMul, Int.reduceNeg, Int.reduceToNat]
  refine q_use (spec_l01Is (s.keep (fun i _ hi9 => by simp (disch := omega) only [upd_other])) hl hll hq _ (by omega)) fun n1 hn1 => ?_
  unfold codeP
  cases hm : isProb ll q
  · simp (maxSteps := 2000000) -implicitDefEqProofs (disch := omega) only [xsW, xsC, if_true, if_false, ite_true, ite_false, forall_const, ne_eq, beq_self_eq_true, bne_self_eq_false, imp_self, true_implies, false_implies, implies_true, evP, evE, ev, setD, Nat.reduceAdd, Nat.reduceSub, reduceCtorEq, fillA, cutA, Nat.reduceLeDiff, Nat.reduceMul, Int.reduceLT, Int.reduceLE, Int.reduceEq, Int.reduceNe, Int.reduceAdd, Int.reduceSub, Int.reduceMul, Int.reduceNeg, Int.reduceToNat]
  · obtain ⟨h1, h2, h3⟩ := isProb_facts hm
    have hN := ((isMat_iff ll).1 h1).2.1
    have hp := pw_le hN
    simp (maxSteps := 2000000) -implicitDefEqProofs (disch := omega) only [xsW, xsC, if_true, if_false, ite_true, ite_false, forall_const, ne_eq, beq_self_eq_true, bne_self_eq_false, imp_self, true_implies, false_implies, implies_true, evP, evE, ev, setD, Nat.reduceAdd, Nat.reduceSub, reduceCtorEq, fillA, cutA, Nat.reduceLeDiff, Nat.reduceMul, Int.reduceLT, Int.reduceLE, Int.reduceEq, Int.reduceNe, Int.reduceAdd, Int.reduceSub, Int.reduceMul, Int.reduceNeg, Int.reduceToNat,  s.Q.ln, h2, shl1]
    refine q_use (spec_l01In _ _ _ _ _) fun n2 hn2 => ?_
    have e : decide (0 ≤ a ∧ a ≤ (pw ll.length : Int) - 1) = inSet ll.length a := rfl
    rw [e]
    cases ha : inSet ll.length a
    · simp (maxSteps := 2000000) -implicitDefEqProofs (disch := omega) only [xsW, xsC, if_true, if_false, ite_true, ite_false, forall_const, ne_eq, beq_self_eq_true, bne_self_eq_false, imp_self, true_implies, false_implies, implies_true, evP, evE, ev, setD, Nat.reduceAdd, Nat.reduceSub, reduceCtorEq, fillA, cutA, Nat.reduceLeDiff, Nat.reduceMul, Int.reduceLT, Int.reduceLE, Int.reduceEq, Int.reduceNe, Int.reduceAdd, Int.reduceSub, Int.reduceMul, Int.reduceNeg, Int.reduceToNat]
    · simp (maxSteps := 2000000) -implicitDefEqProofs (disch := omega) only [xsW, xsC, if_true, if_false, ite_true, ite_false, forall_const, ne_eq, beq_self_eq_true, bne_self_eq_false, imp_self, true_implies, false_implies, implies_true, evP, evE, ev, setD, Nat.reduceAdd, Nat.reduceSub, reduceCtorEq, fillA, cutA, Nat.reduceLeDiff, Nat.reduceMul, Int.reduceLT, Int.reduceLE, Int.reduceEq, Int.reduceNe, Int.reduceAdd, Int.reduceSub, Int.reduceMul, Int.reduceNeg, Int.reduceToNat]
end
/-- An entry of the columns of a set. -/
def colE (ll : List (List Int)) (s : Int) (r c : Nat) : Int := if hasB s c = true then -at2 ll r c else if r = c then 1 else 0
def colsL (ll : List (List Int)) (s : Int) : List (List Int) := rowsOf ll.length fun r => rowOf ll.length fun c => colE ll s r c
theorem colsL_at {ll : List (List Int)} {s : Int} {r c : Nat} (hr : r < ll.length) (hc : c < ll.length) : at2 (colsL ll s) r c = colE ll s r c := by
  unfold at2 colsL
  rw [rowsOf_get hr, rowOf_get hc]
theorem colsL_sq (ll : List (List Int)) (s : Int) : Sq ll.length (colsL ll s) := ⟨rowsOf_len _ _, fun k hk => by rw [colsL, rowsOf_get hk, rowOf_len]⟩
theorem colE_b {ll : List (List Int)} (hm : isMat ll = true) (s : Int) {r c : Nat} (hr : r < ll.length) (hc : c < ll.length) : -20 ≤ colE ll s r c ∧ colE ll s r c ≤ 20 := by
  have := isMat_at hm hr hc
  unfold colE
  split
  · omega
  · split <;> omega
theorem colsL_lim {ll : List (List Int)} (hm : isMat ll = true) (s : Int) : Lim 0 ll.length (mx (colsL ll s)) := fun r c hr hc => by
  have := colE_b hm s hr hc
  unfold mx
  rw [colsL_at hr hc]
  split <;> omega
def colV (ll : List (List Int)) (i : Nat) (z : Bool) : List Int := rowOf ll.length fun k => if z = true then -at2 ll k i else if k = i then 1 else 0
theorem one_in (N i : Nat) (hi : i < N) : (List.replicate N (AV.int .i64 0)).set i (.int .i64 1) = ints (rowOf N fun k => if k = i then 1 else 0) := by
  refine List.ext_getElem (by simp [ints, rowOf]) fun j h1 h2 => ?_
  simp only [List.length_set, List.length_replicate] at h1
  simp only [List.getElem_set, List.getElem_replicate, ints, rowOf, List.getElem_map, List.getElem_range]
  by_cases e : i = j
  · subst e; simp
  · rw [if_neg e, if_neg fun h => e h.symm]
section
variable {w : Bool} {lo hi : Nat} {h : AH} {v u : AV} {vs : List AV} {ll : List (List Int)} {q : List Int}
theorem impl_column (s : Prob w lo hi h v u vs ll q) (hp : isProb ll q = true) (i : Nat) (hi2 : i < ll.length) (z : Bool) (n : Nat) (hn : hi ≤ n) :
    FQ Try.prog 145 [.agg [v, u], .int .i64 i, .bool z] h n fun v' h' n' => Ints true n n' h' v' (colV ll i z) := by
  refine fq_intro Try.func145 k_impl_Problem_column ?_
  obtain ⟨hm, hq, _⟩ := isProb_facts hp
  have hM := ((isMat_iff ll).1 hm).2
  have hN := hM.1
  have o1 := one_any (Sl.any s.M.out)
  have o2 := one_any (Sl.any s.Q)
  have hlen : (colV ll i z).length = ll.length := rowOf_len _ _
  simp (maxSteps := 2000000) -implicitDefEqProofs (disch := omega) only [c_impl_Problem_column, o1, o2, s.Q.ln, s.M.ln, hq, xsW, xsC, if_true, if_false, ite_true, ite_false, forall_const, ne_eq, beq_self_eq_true, bne_self_eq_false, imp_self, true_implies, false_implies, implies_true, evP, evE, ev, setD, Nat.reduceAdd, Nat.reduceSub, reduceCtorEq, fillA, cutA, Nat.reduceLeDiff, Nat.reduceMul, Int.reduceLT, Int.reduceLE, Int.reduceEq, Int.reduceNe, Int.reduceAdd, Int.reduceSub, Int.reduceMul, Int.reduceNeg, Int.reduceToNat]
  cases z
  · refine loop_for ll.length 0 (fun k (_ : Unit) => [.agg [v, u], .int .i64 i, .bool false, .ptr n 0, .any, .any, .nilsl, .sl (n + 1) 0 ll.length ll.length, .any, .any, .any, .any, .any, .any, .any, v, .int .i64 ll.length, .int .i64 k, .any, .any, .any, .any, .any, .any, .any, .any, .any, .any, .any, .any, .any, .any, .any, .any, .any, .any, .any, .any])
      (fun k _ => upd (upd h n (some ⟨31, [v, u], true, 0⟩)) (n + 1) (some ⟨2, List.replicate ll.length (.int .i64 0), true, 0⟩)) (fun _ _ _ => True) () (Nat.zero_le _) trivial (by simp [LeL, Le1]) (fun _ _ h => h) ?_
    rintro k - n1 - hk hn1 -
    simp (maxSteps := 2000000) -implicitDefEqProofs (disch := omega) only [xsW, xsC, if_true, if_false, ite_true, ite_false, forall_const, ne_eq, beq_self_eq_true, bne_self_eq_false, imp_self, true_implies, false_implies, implies_true, evP, evE, ev, setD, Nat.reduceAdd, Nat.reduceSub, reduceCtorEq, fillA, cutA, Nat.reduceLeDiff, Nat.reduceMul, Int.reduceLT, Int.reduceLE, Int.reduceEq, Int.reduceNe, Int.reduceAdd, Int.reduceSub, Int.reduceMul, Int.reduceNeg, Int.reduceToNat]
    (refine cd_dec (fun c1 => ?_) (fun c1 => ?_) <;> simp (maxSteps := 2000000) -implicitDefEqProofs (disch := omega) only [xsW, xsC, if_true, if_false, ite_true, ite_false, forall_const, ne_eq, beq_self_eq_true, bne_self_eq_false, imp_self, true_implies, false_implies, implies_true, evP, evE, ev, setD, Nat.reduceAdd, Nat.reduceSub, reduceCtorEq, fillA, cutA, Nat.reduceLeDiff, Nat.reduceMul, Int.reduceLT, Int.reduceLE, Int.reduceEq, Int.reduceNe, Int.reduceAdd, Int.reduceSub, Int.reduceMul, Int.reduceNeg, Int.reduceToNat,  c1])
    · have hk2 : k < ll.length := by omega
      have hb := s.M.out.below (by rw [s.M.slen]; omega)
      simp (maxSteps := 2000000) -implicitDefEqProofs (disch := omega) only [xsW, xsC, if_true, if_false, ite_true, ite_false, forall_const, ne_eq, beq_self_eq_true, bne_self_eq_false, imp_self, true_implies, false_implies, implies_true, evP, evE, ev, setD, Nat.reduceAdd, Nat.reduceSub, reduceCtorEq, fillA, cutA, Nat.reduceLeDiff, Nat.reduceMul, Int.reduceLT, Int.reduceLE, Int.reduceEq, Int.reduceNe, Int.reduceAdd, Int.reduceSub, Int.reduceMul, Int.reduceNeg, Int.reduceToNat,  s.M.ia, s.M.ld]
      exact ⟨(), by omega, by omega, (by simp [LeL, Le1])⟩
    · refine ⟨by omega, ?_⟩
      intro _ h2 hh
      refine Sl.of_sl (ty := 2) (op := 0) ?_ (by simp [ints, hlen]) (Nat.le_refl _) (by omega) (by omega)
      rw [hh (n + 1) (by omega) (by omega), upd_same, putA_eq_set (by simp; omega), one_in _ _ hi2]
      simp [colV]
  · refine loop_for ll.length 0 (fun k (_ : Unit) => [.agg [v, u], .int .i64 i, .bool true, .ptr n 0, .any, .any, .nilsl, .sl (n + 1) 0 ll.length ll.length, .any, .any, .any, .any, .any, .any, .any, v, .int .i64 ll.length, .int .i64 k, .any, .any, .any, .any, .any, .any, .any, .any, .any, .any, .any, .any, .any, .any, .any, .any, .any, .any, .any, .any])
      (fun k _ => upd (upd h n (some ⟨31, [v, u], true, 0⟩)) (n + 1) (some ⟨2, (ints (colV ll i true)).take k ++ List.replicate ((colV ll i true).length - k) (.int .i64 0), true, 0⟩)) (fun _ _ _ => True) () (Nat.zero_le _) trivial (by simp [LeL, Le1]) (by simp [hlen]) ?_
    rintro k - n1 - hk hn1 -
    simp (maxSteps := 2000000) -implicitDefEqProofs (disch := omega) only [xsW, xsC, if_true, if_false, ite_true, ite_false, forall_const, ne_eq, beq_self_eq_true, bne_self_eq_false, imp_self, true_implies, false_implies, implies_true, evP, evE, ev, setD, Nat.reduceAdd, Nat.reduceSub, reduceCtorEq, fillA, cutA, Nat.reduceLeDiff, Nat.reduceMul, Int.reduceLT, Int.reduceLE, Int.reduceEq, Int.reduceNe, Int.reduceAdd, Int.reduceSub, Int.reduceMul, Int.reduceNeg, Int.reduceToNat]
    (refine cd_dec (fun c1 => ?_) (fun c1 => ?_) <;> simp (maxSteps := 2000000) -implicitDefEqProofs (disch := omega) only [xsW, xsC, if_true, if_false, ite_true, ite_false, forall_const, ne_eq, beq_self_eq_true, bne_self_eq_false, imp_self, true_implies, false_implies, implies_true, evP, evE, ev, setD, Nat.reduceAdd, Nat.reduceSub, reduceCtorEq, fillA, cutA, Nat.reduceLeDiff, Nat.reduceMul, Int.reduceLT, Int.reduceLE, Int.reduceEq, Int.reduceNe, Int.reduceAdd, Int.reduceSub, Int.reduceMul, Int.reduceNeg, Int.reduceToNat,  c1])
    · have hk2 : k < ll.length := by omega
      have hb := s.M.out.below (by rw [s.M.slen]; omega)
      have hr := s.M.row k hk2
      have lr := (hM.2 k hk2).1
      have hbr := Sl.below hr (by rw [hr.slen]; omega)
      have xk := isMat_at hm hk2 hi2
      have e : -(ll.getD k []).getD i 0 = (colV ll i true).getD k 0 := by rw [colV, rowOf_get hk2]; simp [at2]
      unfold at2 at xk
      simp (maxSteps := 2000000) -implicitDefEqProofs (disch := omega) only [xsW, xsC, if_true, if_false, ite_true, ite_false, forall_const, ne_eq, beq_self_eq_true, bne_self_eq_false, imp_self, true_implies, false_implies, implies_true, evP, evE, ev, setD, Nat.reduceAdd, Nat.reduceSub, reduceCtorEq, fillA, cutA, Nat.reduceLeDiff, Nat.reduceMul, Int.reduceLT, Int.reduceLE, Int.reduceEq, Int.reduceNe, Int.reduceAdd, Int.reduceSub, Int.reduceMul, Int.reduceNeg, Int.reduceToNat,  s.M.ia, s.M.ld, hr.ia, hr.ld, e, fill_ints]
      exact ⟨by omega, (), by omega, by omega, (by simp [LeL, Le1])⟩
    · have e : k = ll.length := by omega
      subst e
      intro _ h2 hh
      refine Sl.of_sl (ty := 2) (op := 0) ?_ (by simp [ints, hlen]) (Nat.le_refl _) (by omega) (by omega)
      rw [hh (n + 1) (by omega) (by omega), upd_same]
      simp [hlen, ints, List.take_of_length_le]
end
def putL (ll : List (List Int)) (i : Nat) (c : List Int) : List (List Int) := rowsOf ll.length fun r => (ll.getD r []).set i (c.getD r 0)
theorem impl_put {lo hi : Nat} {h : AH} {v : AV} {vs : List AV} {ll : List (List Int)} (sR : Rows true lo hi h v vs ll) (hl : ll.length ≤ 1048576) {w' : Bool} {lo' hi' : Nat} {u : AV} {c : List Int} (qc : Ints w' lo' hi' h u c) (hc : c.length = ll.length) (hd : hi' ≤ lo ∨ hi ≤ lo') (i : Nat)
    (hi2 : ∀ r, r < ll.length → i < (ll.getD r []).length) (n : Nat) (hn : hi ≤ n) :
    MQ Try.prog 117 [v, .int .i64 i, u] h n lo hi fun x h' n' => Rows true lo hi h' v vs (putL ll i c) ∧ ∀ j, (j < lo ∨ hi ≤ j) → h' j = h j := by
  refine mq_intro Try.func117 k_impl_put ?_
  simp (maxSteps := 2000000) -implicitDefEqProofs (disch := omega) only [c_impl_put, sR.ln, xsW, xsC, if_true, if_false, ite_true, ite_false, forall_const, ne_eq, beq_self_eq_true, bne_self_eq_false, imp_self, true_implies, false_implies, implies_true, evP, evE, ev, setD, Nat.reduceAdd, Nat.reduceSub, reduceCtorEq, fillA, cutA, Nat.reduceLeDiff, Nat.reduceMul, Int.reduceLT, Int.reduceLE, Int.reduceEq, Int.reduceNe, Int.reduceAdd, Int.reduceSub, Int.reduceMul, Int.reduceNeg, Int.reduceToNat]
  refine loop_for ll.length 0 (fun k _ => [v, .int .i64 i, u, .any, .any, .any, .any, .any, v, .int .i64 ll.length, .int .i64 k, .any, .any, .any, .any, .any, .any, .any, .any, .any, .any, .any, .any]) (fun _ (p : AH × List (List Int)) => p.1)
    (fun k p m => Rows true lo hi p.1 v vs p.2 ∧ p.2.length = ll.length ∧ (∀ r, r < ll.length → p.2.getD r [] = if r < k then (ll.getD r []).set i (c.getD r 0) else ll.getD r []) ∧ ∀ j, (j < lo ∨ hi ≤ j) → p.1 j = h j)
    (h, ll) (Nat.zero_le _) ⟨sR, rfl, fun r hr => by rw [if_neg (by omega)], fun _ _ => rfl⟩ (by simp [LeL, Le1]) (fun _ _ h => h) ?_
  rintro k ⟨hp, l1⟩ m - hk hm ⟨g1, g2, g3, g4⟩
  simp only at g1 g2 g3 g4
  simp (maxSteps := 2000000) -implicitDefEqProofs (disch := omega) only [xsW, xsC, if_true, if_false, ite_true, ite_false, forall_const, ne_eq, beq_self_eq_true, bne_self_eq_false, imp_self, true_implies, false_implies, implies_true, evP, evE, ev, setD, Nat.reduceAdd, Nat.reduceSub, reduceCtorEq, fillA, cutA, Nat.reduceLeDiff, Nat.reduceMul, Int.reduceLT, Int.reduceLE, Int.reduceEq, Int.reduceNe, Int.reduceAdd, Int.reduceSub, Int.reduceMul, Int.reduceNeg, Int.reduceToNat]
  (refine cd_dec (fun c1 => ?_) (fun c1 => ?_) <;> simp (maxSteps := 2000000) -implicitDefEqProofs (disch := omega) only [xsW, xsC, if_true, if_false, ite_true, ite_false, forall_const, ne_eq, beq_self_eq_true, bne_self_eq_false, imp_self, true_implies, false_implies, implies_true, evP, evE, ev, setD, Nat.reduceAdd, Nat.reduceSub, reduceCtorEq, fillA, cutA, Nat.reduceLeDiff, Nat.reduceMul, Int.reduceLT, Int.reduceLE, Int.reduceEq, Int.reduceNe, Int.reduceAdd, Int.reduceSub, Int.reduceMul, Int.reduceNeg, Int.reduceToNat,  c1])
  · have hk2 : k < ll.length := by omega
    have hr := g1.row k (by omega)
    rw [g3 k hk2, if_neg (by omega)] at hr
    have hl2 := hi2 k hk2
    have qk := qc.keep (h' := hp) fun j a b => g4 j (by omega)
    have hsr := Sl.isReal hr (slen_ne hr (by omega)).2
    have e1 := fun K => Ints.st hr (k := i) (x := c.getD k 0) (n0 := n) (n := m) (W := fun i => lo ≤ i ∧ i < hi) hl2 (fun i a b => .inr ⟨a, b⟩) (by omega) K
    simp (maxSteps := 2000000) -implicitDefEqProofs (disch := omega) only [xsW, xsC, if_true, if_false, ite_true, ite_false, forall_const, ne_eq, beq_self_eq_true, bne_self_eq_false, imp_self, true_implies, false_implies, implies_true, evP, evE, ev, setD, Nat.reduceAdd, Nat.reduceSub, reduceCtorEq, fillA, cutA, Nat.reduceLeDiff, Nat.reduceMul, Int.reduceLT, Int.reduceLE, Int.reduceEq, Int.reduceNe, Int.reduceAdd, Int.reduceSub, Int.reduceMul, Int.reduceNeg, Int.reduceToNat,  g1.ia, g1.ld, qk.ia, qk.ld, hr.ia, e1]
    have hown := Sl.own hr hsr
    refine ⟨(wr hp (bid (vs.getD k .any)) (boff (vs.getD k .any) + i) (.int .i64 (c.getD k 0)), _), ⟨g1.row1 (by omega) (hr.wr hl2 (c.getD k 0)) (.inl hsr) (fun j hj => wr_other hj), by simpa using g2, fun r hr' => ?_, fun j hj => (wr_other (by omega)).trans (g4 j hj)⟩, by omega, by omega, (by simp [LeL, Le1]), fun _ _ h => h⟩
    rw [getD_set, g3 r hr']
    by_cases e : k = r
    · subst e; rw [if_pos ⟨rfl, by omega⟩, if_pos (by omega)]
    · rw [if_neg fun h => e h.1]
      by_cases e2 : r < k
      · rw [if_pos e2, if_pos (by omega)]
      · rw [if_neg e2, if_neg (by omega)]
  · have e : k = ll.length := by omega
    subst e
    refine ⟨?_, g4⟩
    have : l1 = putL ll i c := getD_ext (d := []) (by rw [g2, putL, rowsOf_len]) fun r hr => by rw [g3 r (by omega), if_pos (by omega), putL, rowsOf_get (by omega)]
    rw [← this]; exact g1
section
variable {w : Bool} {lo hi : Nat} {h : AH} {v u : AV} {vs : List AV} {ll : List (List Int)} {q : List Int}
theorem impl_columns (s : Prob w lo hi h v u vs ll q) (hp : isProb ll q = true) (a : Int) (n : Nat) (hn : hi ≤ n) :
    FQ Try.prog 114 [.agg [v, u], .int .i64 a] h n fun v' h' n' => ∃ vs', Rows true n n' h' v' vs' (colsL ll a) := by
  refine fq_intro Try.func114 k_impl_Problem_columns ?_
  obtain ⟨hm, hq, _⟩ := isProb_facts hp
  have hM := ((isMat_iff ll).1 hm).2
  have hN := hM.1
  have o1 := one_any (Sl.any s.M.out)
  have o2 := one_any (Sl.any s.Q)
  simp (maxSteps := 2000000) -implicitDefEqProofs (disch := omega) only [c_impl_Problem_columns, o1, o2, s.Q.ln, hq, xsW, xsC, if_true, if_false, ite_true, ite_false, forall_const, ne_eq, beq_self_eq_true, bne_self_eq_false, imp_self, true_implies, false_implies, implies_true, evP, evE, ev, setD, Nat.reduceAdd, Nat.reduceSub, reduceCtorEq, fillA, cutA, Nat.reduceLeDiff, Nat.reduceMul, Int.reduceLT, Int.reduceLE, Int.reduceEq, Int.reduceNe, Int.reduceAdd, Int.reduceSub, Int.reduceMul, Int.reduceNeg, Int.reduceToNat]
  refine loop_for ll.length 0 (fun k _ => [.agg [v, u], .int .i64 a, .ptr n 0, .any, .nilsl, .int .i64 ll.length, .sl (n + 1) 0 ll.length ll.length, .any, .any, .any, .any, .any, .any, .any, .sl (n + 1) 0 ll.length ll.length, .int .i64 ll.length, .int .i64 k, .any, .any, .any, .any, .any, .any, .any, .any, .any, .any, .any, .any, .any, .any, .any, .any, .any, .any, .any, .any, .any, .any, .any]) (fun _ (p : List AV × AH) => p.2)
    (fun k p m => p.1.length = k ∧ p.2 (n + 1) = some ⟨23, p.1 ++ List.replicate (ll.length - k) .nilsl, true, 0⟩ ∧ (∀ i, i < n + 1 → p.2 i = upd h n (some ⟨31, [v, u], true, 0⟩) i) ∧ n + 2 ≤ m ∧ RowsV true (n + 2) m p.2 p.1 (List.replicate k (List.replicate ll.length 0)))
    ([], upd (upd h n (some ⟨31, [v, u], true, 0⟩)) (n + 1) (some ⟨23, List.replicate ll.length .nilsl, true, 0⟩)) (Nat.zero_le _) ⟨rfl, by simp [upd], fun i hi => upd_other (by omega), by omega, RowsV.nil⟩ (by simp [LeL, Le1]) (fun _ _ h => h) ?_
  rintro k ⟨ws, hp1⟩ m - hk hm1 ⟨g1, g2, g3, g4, g5⟩
  simp only at g1 g2 g3 g4 g5
  simp (maxSteps := 2000000) -implicitDefEqProofs (disch := omega) only [xsW, xsC, if_true, if_false, ite_true, ite_false, forall_const, ne_eq, beq_self_eq_true, bne_self_eq_false, imp_self, true_implies, false_implies, implies_true, evP, evE, ev, setD, Nat.reduceAdd, Nat.reduceSub, reduceCtorEq, fillA, cutA, Nat.reduceLeDiff, Nat.reduceMul, Int.reduceLT, Int.reduceLE, Int.reduceEq, Int.reduceNe, Int.reduceAdd, Int.reduceSub, Int.reduceMul, Int.reduceNeg, Int.reduceToNat]
  (refine cd_dec (fun c1 => ?_) (fun c1 => ?_) <;> simp (maxSteps := 2000000) -implicitDefEqProofs (disch := omega) only [xsW, xsC, if_true, if_false, ite_true, ite_false, forall_const, ne_eq, beq_self_eq_true, bne_self_eq_false, imp_self, true_implies, false_implies, implies_true, evP, evE, ev, setD, Nat.reduceAdd, Nat.reduceSub, reduceCtorEq, fillA, cutA, Nat.reduceLeDiff, Nat.reduceMul, Int.reduceLT, Int.reduceLE, Int.reduceEq, Int.reduceNe, Int.reduceAdd, Int.reduceSub, Int.reduceMul, Int.reduceNeg, Int.reduceToNat,  c1])
  · have hk2 : k < ll.length := by omega
    simp (maxSteps := 2000000) -implicitDefEqProofs (disch := omega) only [xsW, xsC, if_true, if_false, ite_true, ite_false, forall_const, ne_eq, beq_self_eq_true, bne_self_eq_false, imp_self, true_implies, false_implies, implies_true, evP, evE, ev, setD, Nat.reduceAdd, Nat.reduceSub, reduceCtorEq, fillA, cutA, Nat.reduceLeDiff, Nat.reduceMul, Int.reduceLT, Int.reduceLE, Int.reduceEq, Int.reduceNe, Int.reduceAdd, Int.reduceSub, Int.reduceMul, Int.reduceNeg, Int.reduceToNat,  g2, fill_avs]
    refine ⟨by omega, (ws ++ [.sl m 0 ll.length ll.length], upd (upd hp1 m (some ⟨2, List.replicate ll.length (.int .i64 0), true, 0⟩)) (n + 1) (some ⟨23, (ws ++ [.sl m 0 ll.length ll.length]) ++ List.replicate (ll.length - (k + 1)) .nilsl, true, 0⟩)), ⟨by simp [g1], upd_same _ _ _, fun i hi => (upd_other (by omega)).trans ((upd_other (by omega)).trans (g3 i hi)), by omega, ?_⟩, by omega, by omega, (by simp [LeL, Le1]), fun _ _ h => h⟩
    dsimp only
    rw [show List.replicate ll.length (0 : Int) :: List.replicate k (List.replicate ll.length 0) = List.replicate k (List.replicate ll.length 0) ++ [List.replicate ll.length 0] by rw [← List.replicate_succ, List.replicate_succ']]
    refine g5.snoc (fun i h1 h2 => by rw [upd_other (by omega), upd_other (by omega)]) (Sl.of_sl (ty := 2) (op := 0) (by rw [upd_other (by omega), upd_same]; simp [ints]) (by simp [ints]) (Nat.le_refl _) (Nat.le_refl _) (by omega)) g4 (by omega)
  · have e : k = ll.length := by omega
    subst e
    have hR : Rows true (n + 1) m hp1 (.sl (n + 1) 0 ll.length ll.length) ws (List.replicate ll.length (List.replicate ll.length 0)) := by
      refine ⟨Sl.of_sl (ty := 23) (op := 0) (by rw [g2]; simp) (by omega) (Nat.le_refl _) (Nat.le_refl _) (by omega), g5.wide (by omega) (Nat.le_refl _), fun _ j hj hsl => ?_⟩
      have := Sl.own (g5.row j hj) hsl
      change bid _ ≠ n + 1
      omega
    have hbox : hp1 n = some ⟨31, [v, u], true, 0⟩ := by rw [g3 n (by omega), upd_same]
    refine loop_for ll.length 0 (fun k _ => [.agg [v, u], .int .i64 a, .ptr n 0, .any, .nilsl, .int .i64 ll.length, .sl (n + 1) 0 ll.length ll.length, .any, .any, .any, .any, .any, .any, .any, .any, .any, .any, .any, .any, .any, .any, .any, .any, .any, .any, .int .i64 ll.length, .int .i64 k, .any, .any, .any, .any, .any, .any, .any, .any, .any, .any, .any, .any, .any]) (fun _ (p : AH × List (List Int)) => p.1)
      (fun k p m' => Rows true (n + 1) m p.1 (.sl (n + 1) 0 ll.length ll.length) ws p.2 ∧ Sq ll.length p.2 ∧ (∀ r c, r < ll.length → c < ll.length → at2 p.2 r c = if c < k then colE ll a r c else 0) ∧ (∀ j, j < n + 1 → p.1 j = hp1 j) ∧ m ≤ m')
      (hp1, List.replicate ll.length (List.replicate ll.length 0)) (Nat.zero_le _) ⟨hR, ⟨by simp, fun r hr => by simp [List.getD, hr]⟩, fun r c hr hc => by rw [if_neg (by omega)]; simp [at2, List.getD, hr, hc], fun _ _ => rfl, Nat.le_refl _⟩ (by simp [LeL, Le1]) (fun _ _ h => h) ?_
    rintro i ⟨hp2, l2⟩ m2' - hi1 hm2 ⟨f1', f2', f3', f4', f5'⟩
    simp only at f1' f2' f3' f4'
    have hL2 := f2'.1
    simp (maxSteps := 2000000) -implicitDefEqProofs (disch := omega) only [xsW, xsC, if_true, if_false, ite_true, ite_false, forall_const, ne_eq, beq_self_eq_true, bne_self_eq_false, imp_self, true_implies, false_implies, implies_true, evP, evE, ev, setD, Nat.reduceAdd, Nat.reduceSub, reduceCtorEq, fillA, cutA, Nat.reduceLeDiff, Nat.reduceMul, Int.reduceLT, Int.reduceLE, Int.reduceEq, Int.reduceNe, Int.reduceAdd, Int.reduceSub, Int.reduceMul, Int.reduceNeg, Int.reduceToNat]
    (refine cd_dec (fun c2 => ?_) (fun c2 => ?_) <;> simp (maxSteps := 2000000) -implicitDefEqProofs (disch := omega) only [xsW, xsC, if_true, if_false, ite_true, ite_false, forall_const, ne_eq, beq_self_eq_true, bne_self_eq_false, imp_self, true_implies, false_implies, implies_true, evP, evE, ev, setD, Nat.reduceAdd, Nat.reduceSub, reduceCtorEq, fillA, cutA, Nat.reduceLeDiff, Nat.reduceMul, Int.reduceLT, Int.reduceLE, Int.reduceEq, Int.reduceNe, Int.reduceAdd, Int.reduceSub, Int.reduceMul, Int.reduceNeg, Int.reduceToNat,  c2])
    · have hi2 : i < ll.length := by omega
      have hbox2 := f4' n (by omega)
      rw [hbox] at hbox2
      simp (maxSteps := 2000000) -implicitDefEqProofs (disch := omega) only [xsW, xsC, if_true, if_false, ite_true, ite_false, forall_const, ne_eq, beq_self_eq_true, bne_self_eq_false, imp_self, true_implies, false_implies, implies_true, evP, evE, ev, setD, Nat.reduceAdd, Nat.reduceSub, reduceCtorEq, fillA, cutA, Nat.reduceLeDiff, Nat.reduceMul, Int.reduceLT, Int.reduceLE, Int.reduceEq, Int.reduceNe, Int.reduceAdd, Int.reduceSub, Int.reduceMul, Int.reduceNeg, Int.reduceToNat,  hbox2]
      refine q_use (impl_has _ _ _ _) fun n3 hn3 => ?_
      simp (maxSteps := 2000000) -implicitDefEqProofs (disch := omega) only [xsW, xsC, if_true, if_false, ite_true, ite_false, forall_const, ne_eq, beq_self_eq_true, bne_self_eq_false, imp_self, true_implies, false_implies, implies_true, evP, evE, ev, setD, Nat.reduceAdd, Nat.reduceSub, reduceCtorEq, fillA, cutA, Nat.reduceLeDiff, Nat.reduceMul, Int.reduceLT, Int.reduceLE, Int.reduceEq, Int.reduceNe, Int.reduceAdd, Int.reduceSub, Int.reduceMul, Int.reduceNeg, Int.reduceToNat,  hbox2]
      have hs2 : ∀ i, i < n → hp2 i = h i := fun i hi => by rw [f4' i (by omega), g3 i (by omega), upd_other (by omega)]
      refine fq_use (impl_column (s.keep (h' := hp2) (fun i _ hi9 => by simp (disch := omega) only [upd_other, hs2])) hp i hi2 (hasB a i) n3 (by omega)) fun v4 h4 n4 hn4 hs4 hv4 => ?_
      simp (maxSteps := 2000000) -implicitDefEqProofs (disch := omega) only [xsW, xsC, if_true, if_false, ite_true, ite_false, forall_const, ne_eq, beq_self_eq_true, bne_self_eq_false, imp_self, true_implies, false_implies, implies_true, evP, evE, ev, setD, Nat.reduceAdd, Nat.reduceSub, reduceCtorEq, fillA, cutA, Nat.reduceLeDiff, Nat.reduceMul, Int.reduceLT, Int.reduceLE, Int.reduceEq, Int.reduceNe, Int.reduceAdd, Int.reduceSub, Int.reduceMul, Int.reduceNeg, Int.reduceToNat]
      have f1k := f1'.keep (h' := h4) (fun i _ hi9 => by simp (disch := omega) only [upd_other, hs4])
      refine mqw_use (impl_put f1k (by omega) hv4 (by rw [colV, rowOf_len, hL2]) (.inr (by omega)) i (fun r hr => by rw [f2'.2 r (by omega)]; exact hi2) n4 (by omega)) (fun j h1 h2 => .inl (by omega)) (fun _ _ _ hr _ j hj => hr.2 j (by omega)) fun v5 h5 n5 hn5 ⟨r1', r2'⟩ => ?_
      simp (maxSteps := 2000000) -implicitDefEqProofs (disch := omega) only [xsW, xsC, if_true, if_false, ite_true, ite_false, forall_const, ne_eq, beq_self_eq_true, bne_self_eq_false, imp_self, true_implies, false_implies, implies_true, evP, evE, ev, setD, Nat.reduceAdd, Nat.reduceSub, reduceCtorEq, fillA, cutA, Nat.reduceLeDiff, Nat.reduceMul, Int.reduceLT, Int.reduceLE, Int.reduceEq, Int.reduceNe, Int.reduceAdd, Int.reduceSub, Int.reduceMul, Int.reduceNeg, Int.reduceToNat]
      refine ⟨(h5, putL l2 i (colV ll i (hasB a i))), ⟨r1', ⟨by dsimp only; rw [putL, rowsOf_len, hL2], fun r hr => by dsimp only; rw [putL, rowsOf_get (by omega), List.length_set]; exact f2'.2 r hr⟩, fun r c hr hc => ?_, fun j hj => (r2' j (by omega)).trans ((hs4 j (by omega)).trans (f4' j hj)), by omega⟩, by omega, by omega, (by simp [LeL, Le1]), fun _ _ h => h⟩
      dsimp only
      unfold at2
      rw [putL, rowsOf_get (by omega), getD_set, colV, rowOf_get hr]
      by_cases e : i = c
      · subst e
        rw [if_pos ⟨rfl, by rw [f2'.2 r hr]; exact hc⟩, if_pos (show i < i + 1 by omega)]
        rfl
      · rw [if_neg fun h => e h.1]
        have := f3' r c hr hc
        unfold at2 at this
        rw [this]
        by_cases e2 : c < i
        · rw [if_pos e2, if_pos (by omega)]
        · rw [if_neg e2, if_neg (by omega)]
    · have e : i = ll.length := by omega
      subst e
      intro _ h2 hh
      refine ⟨ws, ?_⟩
      have : l2 = colsL ll a := getD_ext (d := []) (by rw [hL2, (colsL_sq ll a).1]) fun r hr => getD_ext (d := 0) (by rw [f2'.2 r (by omega), (colsL_sq ll a).2 r (by omega)]) fun c hc => by
        have h1 := f3' r c (by omega) (by rw [f2'.2 r (by omega)] at hc; exact hc)
        rw [if_pos (by rw [f2'.2 r (by omega)] at hc; exact hc), ← colsL_at (by omega) (by rw [f2'.2 r (by omega)] at hc; exact hc)] at h1
        exact h1
      rw [← this]
      exact (f1'.keep fun i h1 h2 => hh i (by omega) (by omega)).wide (by omega) (by omega)
theorem spec_l01Columns (sR : Rows w lo hi h v vs ll) (hm : isMat ll = true) (a : Int) (n : Nat) (hn : hi ≤ n) :
    FQ Try.prog 110 [v, .int .i64 a] h n fun v' h' n' => ∃ vs', Rows true n n' h' v' vs' (colsL ll a) := by
  refine fq_intro Try.func110 k_spec_l01Columns ?_
  have hN := ((isMat_iff ll).1 hm).2
  simp (maxSteps := 2000000) -implicitDefEqProofs (disch := omega) only [c_spec_l01Columns, xsW, xsC, if_true, if_false, ite_true, ite_false, forall_const, ne_eq, beq_self_eq_true, bne_self_eq_false, imp_self, true_implies, false_implies, implies_true, evP, evE, ev, setD, Nat.reduceAdd, Nat.reduceSub, reduceCtorEq, fillA, cutA, Nat.reduceLeDiff, Nat.reduceMul, Int.reduceLT, Int.reduceLE, Int.reduceEq, Int.reduceNe, Int.reduceAdd, Int.reduceSub, Int.reduceMul, Int.reduceNeg, Int.reduceToNat]
  refine loop_for ll.length 0 (fun k p => [v, .int .i64 a, .any, .any, .nilsl, p.1, .int .i64 k, .any, .any, .any, .any, .any, .any, .any, .any, .any, .any, .any, .any, .any, .any, .any, .any, .any, .any, .any, .any, .any, .any, .any, .any, .any, .any, .any, .any, .any, .any, .any, .any, .any, .any, .any, .any, .any, .any, .any, .any, .any, .any, .any, .any, .any, .any, .any, .any, .any]) (fun k (p : AV × List AV × AH) => p.2.2)
    (fun k p m => Grow n m h p.2.2 23 p.1 p.2.1 (rowsOf k fun i => rowOf ll.length fun k => colE ll a i k)) (.sl n 0 0 0, [], _) (Nat.zero_le _) (Grow.start0 rfl) (by simp [LeL, Le1]) (fun _ _ h => h) ?_
  rintro i ⟨out, ws, hp⟩ m - hi1 hm1 g
  simp only at g
  have hold := g.old
  simp (maxSteps := 2000000) -implicitDefEqProofs (disch := omega) only [xsW, xsC, if_true, if_false, ite_true, ite_false, forall_const, ne_eq, beq_self_eq_true, bne_self_eq_false, imp_self, true_implies, false_implies, implies_true, evP, evE, ev, setD, Nat.reduceAdd, Nat.reduceSub, reduceCtorEq, fillA, cutA, Nat.reduceLeDiff, Nat.reduceMul, Int.reduceLT, Int.reduceLE, Int.reduceEq, Int.reduceNe, Int.reduceAdd, Int.reduceSub, Int.reduceMul, Int.reduceNeg, Int.reduceToNat,  sR.ln]
  (refine cd_dec (fun c1 => ?_) (fun c1 => ?_) <;> simp (maxSteps := 2000000) -implicitDefEqProofs (disch := omega) only [xsW, xsC, if_true, if_false, ite_true, ite_false, forall_const, ne_eq, beq_self_eq_true, bne_self_eq_false, imp_self, true_implies, false_implies, implies_true, evP, evE, ev, setD, Nat.reduceAdd, Nat.reduceSub, reduceCtorEq, fillA, cutA, Nat.reduceLeDiff, Nat.reduceMul, Int.reduceLT, Int.reduceLE, Int.reduceEq, Int.reduceNe, Int.reduceAdd, Int.reduceSub, Int.reduceMul, Int.reduceNeg, Int.reduceToNat,  c1])
  · have hi2 : i < ll.length := by omega
    have hri := sR.row i hi2
    have hb := sR.out.below (by rw [sR.slen]; omega)
    refine loop_for ll.length 0 (fun k p => [v, .int .i64 a, .any, .any, .nilsl, out, .int .i64 i, p.1, .int .i64 k, .any, .any, .any, .any, .any, .any, .any, .any, .any, .any, .any, .any, .any, .any, .any, .any, .any, .any, .any, .any, .any, .any, .any, .any, .any, .any, .any, .any, .any, .any, .any, .any, .any, .any, .any, .any, .any, .any, .any, .any, .any, .any, .any, .any, .any, .any, .any]) (fun k (p : AV × AH) => p.2)
      (fun k p m' => Acc m m' p.2 2 1 p.1 (ints (rowOf k fun k => colE ll a i k)) ∧ m ≤ m' ∧ ∀ j, j < m → p.2 j = hp j) (.sl m 0 0 0, _) (Nat.zero_le _) ⟨Acc.empty (upd_same _ _ _) rfl (Nat.le_refl _) (by omega), by omega, fun j hj => upd_other (by omega)⟩ (by simp [LeL, Le1]) (fun _ _ h => h) ?_
    rintro k ⟨row, hq⟩ mq - hk1 hm2 ⟨acc, hle, hold2⟩
    simp only at acc hold2
    simp (maxSteps := 2000000) -implicitDefEqProofs (disch := omega) only [xsW, xsC, if_true, if_false, ite_true, ite_false, forall_const, ne_eq, beq_self_eq_true, bne_self_eq_false, imp_self, true_implies, false_implies, implies_true, evP, evE, ev, setD, Nat.reduceAdd, Nat.reduceSub, reduceCtorEq, fillA, cutA, Nat.reduceLeDiff, Nat.reduceMul, Int.reduceLT, Int.reduceLE, Int.reduceEq, Int.reduceNe, Int.reduceAdd, Int.reduceSub, Int.reduceMul, Int.reduceNeg, Int.reduceToNat,  sR.ln]
    (refine cd_dec (fun c2 => ?_) (fun c2 => ?_) <;> simp (maxSteps := 2000000) -implicitDefEqProofs (disch := omega) only [xsW, xsC, if_true, if_false, ite_true, ite_false, forall_const, ne_eq, beq_self_eq_true, bne_self_eq_false, imp_self, true_implies, false_implies, implies_true, evP, evE, ev, setD, Nat.reduceAdd, Nat.reduceSub, reduceCtorEq, fillA, cutA, Nat.reduceLeDiff, Nat.reduceMul, Int.reduceLT, Int.reduceLE, Int.reduceEq, Int.reduceNe, Int.reduceAdd, Int.reduceSub, Int.reduceMul, Int.reduceNeg, Int.reduceToNat,  c2])
    · have hk2 : k < ll.length := by omega
      have li := (hN.2 i hi2).1
      have bi := Sl.below hri (by rw [hri.slen]; omega)
      have xi := isMat_at hm hi2 hk2
      unfold at2 at xi
      simp (maxSteps := 2000000) -implicitDefEqProofs (disch := omega) only [xsW, xsC, if_true, if_false, ite_true, ite_false, forall_const, ne_eq, beq_self_eq_true, bne_self_eq_false, imp_self, true_implies, false_implies, implies_true, evP, evE, ev, setD, Nat.reduceAdd, Nat.reduceSub, reduceCtorEq, fillA, cutA, Nat.reduceLeDiff, Nat.reduceMul, Int.reduceLT, Int.reduceLE, Int.reduceEq, Int.reduceNe, Int.reduceAdd, Int.reduceSub, Int.reduceMul, Int.reduceNeg, Int.reduceToNat,  bitf]
      have hz : ∃ z, z = colE ll a i k := ⟨_, rfl⟩
      obtain ⟨z, hz⟩ := hz
      (refine cd_dec (fun c3 => ?_) (fun c3 => ?_) <;> simp (maxSteps := 2000000) -implicitDefEqProofs (disch := omega) only [xsW, xsC, if_true, if_false, ite_true, ite_false, forall_const, ne_eq, beq_self_eq_true, bne_self_eq_false, imp_self, true_implies, false_implies, implies_true, evP, evE, ev, setD, Nat.reduceAdd, Nat.reduceSub, reduceCtorEq, fillA, cutA, Nat.reduceLeDiff, Nat.reduceMul, Int.reduceLT, Int.reduceLE, Int.reduceEq, Int.reduceNe, Int.reduceAdd, Int.reduceSub, Int.reduceMul, Int.reduceNeg, Int.reduceToNat,  c3])
      · have hB := hasB_t.2 c3
        simp (maxSteps := 2000000) -implicitDefEqProofs (disch := omega) only [xsW, xsC, if_true, if_false, ite_true, ite_false, forall_const, ne_eq, beq_self_eq_true, bne_self_eq_false, imp_self, true_implies, false_implies, implies_true, evP, evE, ev, setD, Nat.reduceAdd, Nat.reduceSub, reduceCtorEq, fillA, cutA, Nat.reduceLeDiff, Nat.reduceMul, Int.reduceLT, Int.reduceLE, Int.reduceEq, Int.reduceNe, Int.reduceAdd, Int.reduceSub, Int.reduceMul, Int.reduceNeg, Int.reduceToNat,  hold2, hold, sR.ia, sR.ld, hri.ia, hri.ld]
        refine app_int (y := z) (acc.keep (fun i _ hi9 => by simp (disch := omega) only [upd_other]) |>.wide (Nat.le_refl _) (by omega)) (by omega) (by omega) ⟨rfl, _, upd_same _ _ _, by simp, by simp [cutA, hz, colE, hB, at2]⟩ (by rw [rowOf_len]; omega) fun v' h' n' q1 q2 q3 => ?_
        simp (maxSteps := 2000000) -implicitDefEqProofs (disch := omega) only [xsW, xsC, if_true, if_false, ite_true, ite_false, forall_const, ne_eq, beq_self_eq_true, bne_self_eq_false, imp_self, true_implies, false_implies, implies_true, evP, evE, ev, setD, Nat.reduceAdd, Nat.reduceSub, reduceCtorEq, fillA, cutA, Nat.reduceLeDiff, Nat.reduceMul, Int.reduceLT, Int.reduceLE, Int.reduceEq, Int.reduceNe, Int.reduceAdd, Int.reduceSub, Int.reduceMul, Int.reduceNeg, Int.reduceToNat]
        exact ⟨(v', h'), ⟨by rw [rowOf_succ, ← hz]; exact q2, by omega, fun j hj => (q3 j hj).trans (by rw [upd_other (by omega), hold2 j hj])⟩, by omega, by omega, (by simp [LeL, Le1]), fun _ _ h => h⟩
      · have hB := hasB_f.2 ((bitI_or a k).resolve_right c3)
        (refine cd_dec (fun c4 => ?_) (fun c4 => ?_) <;> simp (maxSteps := 2000000) -implicitDefEqProofs (disch := omega) only [xsW, xsC, if_true, if_false, ite_true, ite_false, forall_const, ne_eq, beq_self_eq_true, bne_self_eq_false, imp_self, true_implies, false_implies, implies_true, evP, evE, ev, setD, Nat.reduceAdd, Nat.reduceSub, reduceCtorEq, fillA, cutA, Nat.reduceLeDiff, Nat.reduceMul, Int.reduceLT, Int.reduceLE, Int.reduceEq, Int.reduceNe, Int.reduceAdd, Int.reduceSub, Int.reduceMul, Int.reduceNeg, Int.reduceToNat,  c4])
        · have e4 : i = k := by omega
          refine app_int (y := z) (acc.keep (fun i _ hi9 => by simp (disch := omega) only [upd_other]) |>.wide (Nat.le_refl _) (by omega)) (by omega) (by omega) ⟨rfl, _, upd_same _ _ _, by simp, by simp [cutA, hz, colE, hB, e4]⟩ (by rw [rowOf_len]; omega) fun v' h' n' q1 q2 q3 => ?_
          simp (maxSteps := 2000000) -implicitDefEqProofs (disch := omega) only [xsW, xsC, if_true, if_false, ite_true, ite_false, forall_const, ne_eq, beq_self_eq_true, bne_self_eq_false, imp_self, true_implies, false_implies, implies_true, evP, evE, ev, setD, Nat.reduceAdd, Nat.reduceSub, reduceCtorEq, fillA, cutA, Nat.reduceLeDiff, Nat.reduceMul, Int.reduceLT, Int.reduceLE, Int.reduceEq, Int.reduceNe, Int.reduceAdd, Int.reduceSub, Int.reduceMul, Int.reduceNeg, Int.reduceToNat]
          exact ⟨(v', h'), ⟨by rw [rowOf_succ, ← hz]; exact q2, by omega, fun j hj => (q3 j hj).trans (by rw [upd_other (by omega), hold2 j hj])⟩, by omega, by omega, (by simp [LeL, Le1]), fun _ _ h => h⟩
        · have e4 : ¬ i = k := by omega
          refine app_int (y := z) (acc.keep (fun i _ hi9 => by simp (disch := omega) only [upd_other]) |>.wide (Nat.le_refl _) (by omega)) (by omega) (by omega) ⟨rfl, _, upd_same _ _ _, by simp, by simp [cutA, hz, colE, hB, e4]⟩ (by rw [rowOf_len]; omega) fun v' h' n' q1 q2 q3 => ?_
          simp (maxSteps := 2000000) -implicitDefEqProofs (disch := omega) only [xsW, xsC, if_true, if_false, ite_true, ite_false, forall_const, ne_eq, beq_self_eq_true, bne_self_eq_false, imp_self, true_implies, false_implies, implies_true, evP, evE, ev, setD, Nat.reduceAdd, Nat.reduceSub, reduceCtorEq, fillA, cutA, Nat.reduceLeDiff, Nat.reduceMul, Int.reduceLT, Int.reduceLE, Int.reduceEq, Int.reduceNe, Int.reduceAdd, Int.reduceSub, Int.reduceMul, Int.reduceNeg, Int.reduceToNat]
          exact ⟨(v', h'), ⟨by rw [rowOf_succ, ← hz]; exact q2, by omega, fun j hj => (q3 j hj).trans (by rw [upd_other (by omega), hold2 j hj])⟩, by omega, by omega, (by simp [LeL, Le1]), fun _ _ h => h⟩
    · have e : k = ll.length := by omega
      subst e
      have o1 := one_any acc.any
      have o2 := sto_any acc.any
      have o3 := cel_any acc.any
      simp (maxSteps := 2000000) -implicitDefEqProofs (disch := omega) only [xsW, xsC, if_true, if_false, ite_true, ite_false, forall_const, ne_eq, beq_self_eq_true, bne_self_eq_false, imp_self, true_implies, false_implies, implies_true, evP, evE, ev, setD, Nat.reduceAdd, Nat.reduceSub, reduceCtorEq, fillA, cutA, Nat.reduceLeDiff, Nat.reduceMul, Int.reduceLT, Int.reduceLE, Int.reduceEq, Int.reduceNe, Int.reduceAdd, Int.reduceSub, Int.reduceMul, Int.reduceNeg, Int.reduceToNat,  o1, o2, o3]
      refine g.app (hB := upd hq mq _) (v1 := row) (l := rowOf ll.length fun k => colE ll a i k) (acc.sl.keep (fun i _ hi9 => by simp (disch := omega) only [upd_other])) (fun i hi9 => by simp (disch := omega) only [upd_other, hold2]) hle (by omega) (by omega) ⟨rfl, _, upd_same _ _ _, by simp, by simp [cutA]⟩ (by rw [rowsOf_len]; omega) fun out' h' n' q1 q2 => ?_
      simp (maxSteps := 2000000) -implicitDefEqProofs (disch := omega) only [xsW, xsC, if_true, if_false, ite_true, ite_false, forall_const, ne_eq, beq_self_eq_true, bne_self_eq_false, imp_self, true_implies, false_implies, implies_true, evP, evE, ev, setD, Nat.reduceAdd, Nat.reduceSub, reduceCtorEq, fillA, cutA, Nat.reduceLeDiff, Nat.reduceMul, Int.reduceLT, Int.reduceLE, Int.reduceEq, Int.reduceNe, Int.reduceAdd, Int.reduceSub, Int.reduceMul, Int.reduceNeg, Int.reduceToNat]
      exact ⟨(out', ws ++ [row], h'), by rw [rowsOf_succ]; exact q2, by omega, by omega, (by simp [LeL, Le1]), fun _ _ h => h⟩
  · intro _ h2 hh
    have e : i = ll.length := by omega
    subst e
    exact ⟨ws, g.rowsOf hh⟩
end
end Go.Proofs.Ytkpibnhddhdooab.L
