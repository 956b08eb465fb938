/- Contracts: the statement on IsMatrix. -/
import Derived.Test.YtkpibnhddhdooabB1
namespace Go.Proofs.Ytkpibnhddhdooab.L
open Go
set_option linter.unusedSimpArgs false
set_option linter.unusedVariables false


end Go.Proofs.Ytkpibnhddhdooab.L
/- Contracts on problems. -/
namespace Go.Proofs.Ytkpibnhddhdooab.L
open Go
set_option linter.unusedSimpArgs false
set_option linter.unusedVariables false
def c_spec_l01Is : F := ⟨(.seq (.reg false [⟨(some 1), (.box 31 (.t 0)), none⟩, ⟨(some 2), (.mv (.c (.bool false))), none⟩]) (.seq (.seq (.reg false [⟨(some 4), (.fa 0 (.t 1)), none⟩, ⟨(some 5), (.ld1 (.t 4)), none⟩, ⟨(some 6), (.call (.f 91) [(.t 5)]), none⟩, ⟨(some 7), (.un .not (.t 6)), none⟩, ⟨(some 8), (.mv (.t 7)), none⟩, ⟨(some 9), (.fa 1 (.t 1)), (some (8, false))⟩, ⟨(some 10), (.ld1 (.t 9)), (some (8, false))⟩, ⟨(some 11), (.len (.t 10)), (some (8, false))⟩, ⟨(some 12), (.fa 0 (.t 1)), (some (8, false))⟩, ⟨(some 13), (.ld1 (.t 12)), (some (8, false))⟩, ⟨(some 14), (.len (.t 13)), (some (8, false))⟩, ⟨(some 15), (.bin .neq (.t 11) (.t 14)), (some (8, false))⟩, ⟨(some 16), (.pick (.t 8) (.c (.bool true)) (.t 15)), none⟩]) (.cond (.t 16) (.seq (.reg false [⟨(some 2), (.mv (.c (.bool false))), none⟩]) .ret) .skip)) (.seq (.seq (.reg false [⟨(some 3), (.mv (.c (.int .i64 0))), none⟩]) (.block 0 (.loop (.seq (.seq (.reg false [⟨(some 17), (.mv (.t 3)), none⟩, ⟨(some 18), (.fa 1 (.t 1)), none⟩, ⟨(some 19), (.ld1 (.t 18)), none⟩, ⟨(some 20), (.len (.t 19)), none⟩, ⟨(some 21), (.bin .lss (.t 17) (.t 20)), none⟩]) (.cond (.t 21) .skip (.exit 0))) (.seq (.block 1 (.seq (.reg false [⟨(some 24), (.fa 1 (.t 1)), none⟩, ⟨(some 25), (.ld1 (.t 24)), none⟩, ⟨(some 26), (.mv (.t 3)), none⟩, ⟨(some 27), (.ia 1 (.t 25) (.t 26)), none⟩, ⟨(some 28), (.ld1 (.t 27)), none⟩, ⟨(some 29), (.call (.f 92) [(.t 28), (.c (.int .i64 (-100))), (.c (.int .i64 100))]), none⟩, ⟨(some 30), (.un .not (.t 29)), none⟩]) (.cond (.t 30) (.seq (.reg false [⟨(some 2), (.mv (.c (.bool false))), none⟩]) .ret) .skip))) (.reg false [⟨(some 22), (.mv (.t 3)), none⟩, ⟨(some 23), (.bin .add (.t 22) (.c (.int .i64 1))), none⟩, ⟨(some 3), (.mv (.t 23)), none⟩])))))) (.seq (.reg false [⟨(some 2), (.mv (.c (.bool true))), none⟩]) .ret)))), 31, [(.t 2)]⟩
theorem k_spec_l01Is : compF Try.prog Try.f53 = some c_spec_l01Is := by kernel_rfl
def c_impl_IsProblem : F := ⟨(.seq (.reg false [⟨(some 1), (.box 31 (.t 0)), none⟩, ⟨(some 2), (.mv (.c (.bool false))), none⟩]) (.seq (.reg false [⟨(some 3), (.fa 0 (.t 1)), none⟩, ⟨(some 4), (.ld1 (.t 3)), none⟩, ⟨(some 5), (.call (.f 139) [(.t 4)]), none⟩, ⟨(some 6), (.mv (.t 5)), none⟩, ⟨(some 7), (.fa 1 (.t 1)), (some (6, true))⟩, ⟨(some 8), (.ld1 (.t 7)), (some (6, true))⟩, ⟨(some 9), (.len (.t 8)), (some (6, true))⟩, ⟨(some 10), (.fa 0 (.t 1)), (some (6, true))⟩, ⟨(some 11), (.ld1 (.t 10)), (some (6, true))⟩, ⟨(some 12), (.len (.t 11)), (some (6, true))⟩, ⟨(some 13), (.bin .eql (.t 9) (.t 12)), (some (6, true))⟩, ⟨(some 14), (.pick (.t 6) (.t 13) (.c (.bool false))), none⟩, ⟨(some 15), (.mv (.t 14)), none⟩, ⟨(some 16), (.fa 1 (.t 1)), (some (15, true))⟩, ⟨(some 17), (.ld1 (.t 16)), (some (15, true))⟩, ⟨(some 18), (.call (.f 140) [(.t 17), (.c (.int .i64 100))]), (some (15, true))⟩, ⟨(some 19), (.pick (.t 15) (.t 18) (.c (.bool false))), none⟩, ⟨(some 2), (.mv (.t 19)), none⟩]) .ret)), 20, [(.t 2)]⟩
theorem k_impl_IsProblem : compF Try.prog Try.f101 = some c_impl_IsProblem := by kernel_rfl

/-- A problem told: rows and a list. -/
structure Prob (w : Bool) (lo hi : Nat) (h : AH) (v u : AV) (vs : List AV) (ll : List (List Int)) (l : List Int) : Prop where
  M : Rows w lo hi h v vs ll
  Q : Ints w lo hi h u l
  apart : w = true → isSl u = true → (isSl v = true → bid u ≠ bid v) ∧ ∀ k, k < ll.length → isSl (vs.getD k .any) = true → bid (vs.getD k .any) ≠ bid u
theorem Prob.keep {w : Bool} {lo hi : Nat} {h h' : AH} {v u : AV} {vs : List AV} {ll : List (List Int)} {l : List Int} (s : Prob w lo hi h v u vs ll l) (k : ∀ i, lo ≤ i → i < hi → h' i = h i) : Prob w lo hi h' v u vs ll l := ⟨s.M.keep k, s.Q.keep k, s.apart⟩
theorem Prob.wide {w : Bool} {lo hi lo' hi' : Nat} {h : AH} {v u : AV} {vs : List AV} {ll : List (List Int)} {l : List Int} (s : Prob w lo hi h v u vs ll l) (h1 : lo' ≤ lo) (h2 : hi ≤ hi') : Prob w lo' hi' h v u vs ll l := ⟨s.M.wide h1 h2, s.Q.wide h1 h2, s.apart⟩
theorem Prob.of_args {lo hi : Nat} {h : AH} {v u : AV} {vs : List AV} {ll : List (List Int)} {l : List Int} (s : Rows false lo hi h v vs ll) (q : Ints false lo hi h u l) : Prob false lo hi h v u vs ll l := ⟨s, q, fun h => (by cases h)⟩
def isProb (ll : List (List Int)) (l : List Int) : Bool := isMat ll && decide (l.length = ll.length) && within 100 l

section
variable {w : Bool} {lo hi : Nat} {h : AH} {v u : AV} {vs : List AV} {ll : List (List Int)} {l : List Int}
theorem impl_IsProblem (s : Prob w lo hi h v u vs ll l) (hl : ll.length ≤ 1048576) (hll : ∀ l ∈ ll, l.length ≤ 1048576) (hq : l.length ≤ 1048576) (n : Nat) (hn : hi ≤ n) :
    Q Try.prog 101 [.agg [v, u]] h n (.bool (isProb ll l)) := by
  refine q_intro Try.func101 k_impl_IsProblem ?_
  have o1 := one_any (Sl.any s.M.out)
  have o2 := one_any (Sl.any s.Q)
  simp (maxSteps := 2000000) -implicitDefEqProofs (disch := omega) only [c_impl_IsProblem, o1, o2, xsW, xsC, if_true, if_false, ite_true, ite_false, forall_const, ne_eq, beq_self_eq_true, bne_self_eq_false, imp_self, true_implies, false_implies, implies_true, evP, evE, ev, setD, Nat.reduceAdd, Nat.reduceSub, reduceCtorEq, fillA, cutA, Nat.reduceLeDiff, Nat.reduceMul, Int.reduceLT, Int.reduceLE, Int.reduceEq, Int.reduceNe, Int.reduceAdd, Int.reduceSub, Int.reduceMul, Int.reduceNeg, Int.reduceToNat]
  refine q_use (impl_IsMatrix (s.M.keep (fun i _ hi9 => by simp (disch := omega) only [upd_other])) hl hll _ (by omega)) fun n1 hn1 => ?_
  simp only [isProb]
  cases hm : isMat ll
  · simp (maxSteps := 2000000) -implicitDefEqProofs (disch := omega) only [xsW, xsC, if_true, if_false, ite_true, ite_false, forall_const, ne_eq, beq_self_eq_true, bne_self_eq_false, imp_self, true_implies, false_implies, implies_true, evP, evE, ev, setD, Nat.reduceAdd, Nat.reduceSub, reduceCtorEq, fillA, cutA, Nat.reduceLeDiff, Nat.reduceMul, Int.reduceLT, Int.reduceLE, Int.reduceEq, Int.reduceNe, Int.reduceAdd, Int.reduceSub, Int.reduceMul, Int.reduceNeg, Int.reduceToNat]
  simp (maxSteps := 2000000) -implicitDefEqProofs (disch := omega) only [xsW, xsC, if_true, if_false, ite_true, ite_false, forall_const, ne_eq, beq_self_eq_true, bne_self_eq_false, imp_self, true_implies, false_implies, implies_true, evP, evE, ev, setD, Nat.reduceAdd, Nat.reduceSub, reduceCtorEq, fillA, cutA, Nat.reduceLeDiff, Nat.reduceMul, Int.reduceLT, Int.reduceLE, Int.reduceEq, Int.reduceNe, Int.reduceAdd, Int.reduceSub, Int.reduceMul, Int.reduceNeg, Int.reduceToNat,  s.M.ln, s.Q.ln]
  (refine gd_dec (fun h1 => ?_) (fun h1 => ?_) <;> simp (maxSteps := 2000000) -implicitDefEqProofs (disch := omega) only [xsW, xsC, if_true, if_false, ite_true, ite_false, forall_const, ne_eq, beq_self_eq_true, bne_self_eq_false, imp_self, true_implies, false_implies, implies_true, evP, evE, ev, setD, Nat.reduceAdd, Nat.reduceSub, reduceCtorEq, fillA, cutA, Nat.reduceLeDiff, Nat.reduceMul, Int.reduceLT, Int.reduceLE, Int.reduceEq, Int.reduceNe, Int.reduceAdd, Int.reduceSub, Int.reduceMul, Int.reduceNeg, Int.reduceToNat,  h1])
  · refine q_use (impl_allUpTo (s.Q.keep (fun i _ hi9 => by simp (disch := omega) only [upd_other])) (by omega) _ (by unfold in64; omega) _ (by omega)) fun n2 hn2 => ?_
    simp (maxSteps := 2000000) -implicitDefEqProofs (disch := omega) only [xsW, xsC, if_true, if_false, ite_true, ite_false, forall_const, ne_eq, beq_self_eq_true, bne_self_eq_false, imp_self, true_implies, false_implies, implies_true, evP, evE, ev, setD, Nat.reduceAdd, Nat.reduceSub, reduceCtorEq, fillA, cutA, Nat.reduceLeDiff, Nat.reduceMul, Int.reduceLT, Int.reduceLE, Int.reduceEq, Int.reduceNe, Int.reduceAdd, Int.reduceSub, Int.reduceMul, Int.reduceNeg, Int.reduceToNat]
    rw [decide_eq_true (show l.length = ll.length by omega)]
    rfl
  · rw [decide_eq_false (show ¬ l.length = ll.length by omega)]
    rfl
theorem spec_l01Is (s : Prob w lo hi h v u vs ll l) (hl : ll.length ≤ 1048576) (hll : ∀ l ∈ ll, l.length ≤ 1048576) (hq : l.length ≤ 1048576) (n : Nat) (hn : hi ≤ n) :
    Q Try.prog 53 [.agg [v, u]] h n (.bool (isProb ll l)) := by
  refine q_intro Try.func53 k_spec_l01Is ?_
  have o1 := one_any (Sl.any s.M.out)
  have o2 := one_any (Sl.any s.Q)
  simp (maxSteps := 2000000) -implicitDefEqProofs (disch := omega) only [c_spec_l01Is, o1, o2, xsW, xsC, if_true, if_false, ite_true, ite_false, forall_const, ne_eq, beq_self_eq_true, bne_self_eq_false, imp_self, true_implies, false_implies, implies_true, evP, evE, ev, setD, Nat.reduceAdd, Nat.reduceSub, reduceCtorEq, fillA, cutA, Nat.reduceLeDiff, Nat.reduceMul, Int.reduceLT, Int.reduceLE, Int.reduceEq, Int.reduceNe, Int.reduceAdd, Int.reduceSub, Int.reduceMul, Int.reduceNeg, Int.reduceToNat]
  refine q_use (spec_l01Matrix (s.M.keep (fun i _ hi9 => by simp (disch := omega) only [upd_other])) hl _) fun n1 hn1 => ?_
  simp only [isProb]
  cases hm : isMat ll
  · simp (maxSteps := 2000000) -implicitDefEqProofs (disch := omega) only [xsW, xsC, if_true, if_false, ite_true, ite_false, forall_const, ne_eq, beq_self_eq_true, bne_self_eq_false, imp_self, true_implies, false_implies, implies_true, evP, evE, ev, setD, Nat.reduceAdd, Nat.reduceSub, reduceCtorEq, fillA, cutA, Nat.reduceLeDiff, Nat.reduceMul, Int.reduceLT, Int.reduceLE, Int.reduceEq, Int.reduceNe, Int.reduceAdd, Int.reduceSub, Int.reduceMul, Int.reduceNeg, Int.reduceToNat]
  simp (maxSteps := 2000000) -implicitDefEqProofs (disch := omega) only [xsW, xsC, if_true, if_false, ite_true, ite_false, forall_const, ne_eq, beq_self_eq_true, bne_self_eq_false, imp_self, true_implies, false_implies, implies_true, evP, evE, ev, setD, Nat.reduceAdd, Nat.reduceSub, reduceCtorEq, fillA, cutA, Nat.reduceLeDiff, Nat.reduceMul, Int.reduceLT, Int.reduceLE, Int.reduceEq, Int.reduceNe, Int.reduceAdd, Int.reduceSub, Int.reduceMul, Int.reduceNeg, Int.reduceToNat,  s.M.ln, s.Q.ln]
  (refine cd_dec (fun h1 => ?_) (fun h1 => ?_) <;> simp (maxSteps := 2000000) -implicitDefEqProofs (disch := omega) only [xsW, xsC, if_true, if_false, ite_true, ite_false, forall_const, ne_eq, beq_self_eq_true, bne_self_eq_false, imp_self, true_implies, false_implies, implies_true, evP, evE, ev, setD, Nat.reduceAdd, Nat.reduceSub, reduceCtorEq, fillA, cutA, Nat.reduceLeDiff, Nat.reduceMul, Int.reduceLT, Int.reduceLE, Int.reduceEq, Int.reduceNe, Int.reduceAdd, Int.reduceSub, Int.reduceMul, Int.reduceNeg, Int.reduceToNat,  h1])
  · rw [decide_eq_false (show ¬ l.length = ll.length by omega)]; rfl
  rw [decide_eq_true (show l.length = ll.length by omega)]
  refine loop_for l.length 0 (fun k (_ : Unit) => [.any, .ptr n 0, .bool false, .int .i64 k, .any, .any, .any, .any, .any, .any, .any, .any, .any, .any, .any, .any, .any, .any, .any, .any, .any, .any, .any, .any, .any, .any, .any, .any, .any, .any, .any]) (fun k _ => upd h n (some ⟨31, [v, u], true, 0⟩))
    (fun j _ _ => ∀ i, i < j → -100 ≤ l.getD i 0 ∧ l.getD i 0 ≤ 100) () (Nat.zero_le _) (fun j hj => absurd hj (Nat.not_lt_zero _)) (by simp [LeL, Le1]) (fun _ _ h => h) ?_
  rintro k - n2 - hk hn2 he
  simp (maxSteps := 2000000) -implicitDefEqProofs (disch := omega) only [xsW, xsC, if_true, if_false, ite_true, ite_false, forall_const, ne_eq, beq_self_eq_true, bne_self_eq_false, imp_self, true_implies, false_implies, implies_true, evP, evE, ev, setD, Nat.reduceAdd, Nat.reduceSub, reduceCtorEq, fillA, cutA, Nat.reduceLeDiff, Nat.reduceMul, Int.reduceLT, Int.reduceLE, Int.reduceEq, Int.reduceNe, Int.reduceAdd, Int.reduceSub, Int.reduceMul, Int.reduceNeg, Int.reduceToNat,  s.Q.ln]
  (refine cd_dec (fun h2 => ?_) (fun h2 => ?_) <;> simp (maxSteps := 2000000) -implicitDefEqProofs (disch := omega) only [xsW, xsC, if_true, if_false, ite_true, ite_false, forall_const, ne_eq, beq_self_eq_true, bne_self_eq_false, imp_self, true_implies, false_implies, implies_true, evP, evE, ev, setD, Nat.reduceAdd, Nat.reduceSub, reduceCtorEq, fillA, cutA, Nat.reduceLeDiff, Nat.reduceMul, Int.reduceLT, Int.reduceLE, Int.reduceEq, Int.reduceNe, Int.reduceAdd, Int.reduceSub, Int.reduceMul, Int.reduceNeg, Int.reduceToNat,  h2])
  · have hk' : k < l.length := by omega
    have hb := Sl.below s.Q (by rw [s.Q.slen]; omega)
    simp (maxSteps := 2000000) -implicitDefEqProofs (disch := omega) only [xsW, xsC, if_true, if_false, ite_true, ite_false, forall_const, ne_eq, beq_self_eq_true, bne_self_eq_false, imp_self, true_implies, false_implies, implies_true, evP, evE, ev, setD, Nat.reduceAdd, Nat.reduceSub, reduceCtorEq, fillA, cutA, Nat.reduceLeDiff, Nat.reduceMul, Int.reduceLT, Int.reduceLE, Int.reduceEq, Int.reduceNe, Int.reduceAdd, Int.reduceSub, Int.reduceMul, Int.reduceNeg, Int.reduceToNat,  s.Q.ia, s.Q.ld]
    refine q_use (spec_l01In _ _ _ _ _) fun n3 hn3 => ?_
    simp (maxSteps := 2000000) -implicitDefEqProofs (disch := omega) only [xsW, xsC, if_true, if_false, ite_true, ite_false, forall_const, ne_eq, beq_self_eq_true, bne_self_eq_false, imp_self, true_implies, false_implies, implies_true, evP, evE, ev, setD, Nat.reduceAdd, Nat.reduceSub, reduceCtorEq, fillA, cutA, Nat.reduceLeDiff, Nat.reduceMul, Int.reduceLT, Int.reduceLE, Int.reduceEq, Int.reduceNe, Int.reduceAdd, Int.reduceSub, Int.reduceMul, Int.reduceNeg, Int.reduceToNat]
    (refine cd_dec (fun h3 => ?_) (fun h3 => ?_) <;> simp (maxSteps := 2000000) -implicitDefEqProofs (disch := omega) only [xsW, xsC, if_true, if_false, ite_true, ite_false, forall_const, ne_eq, beq_self_eq_true, bne_self_eq_false, imp_self, true_implies, false_implies, implies_true, evP, evE, ev, setD, Nat.reduceAdd, Nat.reduceSub, reduceCtorEq, fillA, cutA, Nat.reduceLeDiff, Nat.reduceMul, Int.reduceLT, Int.reduceLE, Int.reduceEq, Int.reduceNe, Int.reduceAdd, Int.reduceSub, Int.reduceMul, Int.reduceNeg, Int.reduceToNat,  h3])
    · symm
      rw [Bool.eq_false_iff]
      intro hx
      rw [within_iff] at hx
      have := hx k hk'
      omega
    · exact ⟨(), fun i hi' => (Nat.lt_succ_iff_lt_or_eq.1 hi').elim (he i) (fun e => by rw [e]; omega), by omega, by omega, (by simp [LeL, Le1])⟩
  · symm
    rw [within_iff]
    exact fun i hi' => he i (by omega)
end
end Go.Proofs.Ytkpibnhddhdooab.L
/- Contracts: the form of a matrix at a point. -/
namespace Go.Proofs.Ytkpibnhddhdooab.L
open Go
set_option linter.unusedSimpArgs false
set_option linter.unusedVariables false
def c_impl_sum : F := ⟨(.seq (.reg false [⟨(some 4), (.mv (.c (.int .i64 0))), none⟩]) (.seq (.reg false [⟨(some 5), (.mv (.c (.int .i64 0))), none⟩]) (.seq (.seq (.reg false [⟨(some 8), (.mv (.t 0)), none⟩, ⟨(some 9), (.len (.t 8)), none⟩, ⟨(some 10), (.mv (.c (.int .i64 0))), none⟩]) (.block 0 (.loop (.seq (.reg false [⟨(some 11), (.bin .lss (.t 10) (.t 9)), none⟩]) (.seq (.cond (.t 11) .skip (.exit 0)) (.seq (.block 1 (.seq (.reg false [⟨(some 12), (.mv (.t 10)), none⟩, ⟨(some 13), (.ia 1 (.t 8) (.t 10)), none⟩, ⟨(some 14), (.ld1 (.t 13)), none⟩, ⟨(some 6), (.mv (.t 12)), none⟩, ⟨(some 7), (.mv (.t 14)), none⟩]) (.reg false [⟨(some 15), (.mv (.t 5)), none⟩, ⟨(some 16), (.mv (.t 7)), none⟩, ⟨(some 17), (.mv (.t 1)), none⟩, ⟨(some 18), (.mv (.t 6)), none⟩, ⟨(some 19), (.ia 1 (.t 17) (.t 18)), none⟩, ⟨(some 20), (.ld1 (.t 19)), none⟩, ⟨(some 21), (.bin .mul (.t 16) (.t 20)), none⟩, ⟨(some 22), (.bin .add (.t 15) (.t 21)), none⟩, ⟨(some 5), (.mv (.t 22)), none⟩]))) (.reg false [⟨(some 23), (.bin .add (.t 10) (.c (.int .i64 1))), none⟩, ⟨(some 10), (.mv (.t 23)), none⟩]))))))) (.seq (.reg false [⟨(some 24), (.mv (.t 5)), none⟩, ⟨(some 4), (.mv (.t 24)), none⟩]) .ret)))), 25, [(.t 4)]⟩
theorem k_impl_sum : compF Try.prog Try.f122 = some c_impl_sum := by kernel_rfl

theorem impl_sum {w w' : Bool} {lo hi lo' hi' : Nat} {h : AH} {v v' : AV} {l l' : List Int} (s : Ints w lo hi h v l) (s' : Ints w' lo' hi' h v' l') (hl : l.length ≤ l'.length) (B : Int) (hB : 0 ≤ B) (hn : l.length * B ≤ 4611686018427387904) (hm : l.length ≤ 1048576)
    (hb : ∀ i, i < l.length → -B ≤ l.getD i 0 * l'.getD i 0 ∧ l.getD i 0 * l'.getD i 0 ≤ B) (n : Nat) :
    Q Try.prog 122 [v, v'] h n (.int .i64 (sumTo l.length fun i => l.getD i 0 * l'.getD i 0)) := by
  refine q_intro Try.func122 k_impl_sum ?_
  have hs := fun k hk => sumTo_small (n := l.length) (k := k) (f := fun i => l.getD i 0 * l'.getD i 0) hb hk hB hn
  simp (maxSteps := 2000000) -implicitDefEqProofs (disch := omega) only [c_impl_sum, s.ln, xsW, xsC, if_true, if_false, ite_true, ite_false, forall_const, ne_eq, beq_self_eq_true, bne_self_eq_false, imp_self, true_implies, false_implies, implies_true, evP, evE, ev, setD, Nat.reduceAdd, Nat.reduceSub, reduceCtorEq, fillA, cutA, Nat.reduceLeDiff, Nat.reduceMul, Int.reduceLT, Int.reduceLE, Int.reduceEq, Int.reduceNe, Int.reduceAdd, Int.reduceSub, Int.reduceMul, Int.reduceNeg, Int.reduceToNat]
  refine loop_for l.length 0 (fun k (_ : Unit) => [v, v', .any, .any, .int .i64 0, .int .i64 (sumTo k fun i => l.getD i 0 * l'.getD i 0), .any, .any, v, .int .i64 l.length, .int .i64 k, .any, .any, .any, .any, .any, .any, .any, .any, .any, .any, .any, .any, .any, .any]) (fun k _ => h)
    (fun k _ _ => True) () (Nat.zero_le _) trivial (by simp [LeL, Le1, sumTo]) (fun _ _ h => h) ?_
  rintro k - n1 - hk hn1 -
  simp (maxSteps := 2000000) -implicitDefEqProofs (disch := omega) only [xsW, xsC, if_true, if_false, ite_true, ite_false, forall_const, ne_eq, beq_self_eq_true, bne_self_eq_false, imp_self, true_implies, false_implies, implies_true, evP, evE, ev, setD, Nat.reduceAdd, Nat.reduceSub, reduceCtorEq, fillA, cutA, Nat.reduceLeDiff, Nat.reduceMul, Int.reduceLT, Int.reduceLE, Int.reduceEq, Int.reduceNe, Int.reduceAdd, Int.reduceSub, Int.reduceMul, Int.reduceNeg, Int.reduceToNat]
  (refine cd_dec (fun h1 => ?_) (fun h1 => ?_) <;> simp (maxSteps := 2000000) -implicitDefEqProofs (disch := omega) only [xsW, xsC, if_true, if_false, ite_true, ite_false, forall_const, ne_eq, beq_self_eq_true, bne_self_eq_false, imp_self, true_implies, false_implies, implies_true, evP, evE, ev, setD, Nat.reduceAdd, Nat.reduceSub, reduceCtorEq, fillA, cutA, Nat.reduceLeDiff, Nat.reduceMul, Int.reduceLT, Int.reduceLE, Int.reduceEq, Int.reduceNe, Int.reduceAdd, Int.reduceSub, Int.reduceMul, Int.reduceNeg, Int.reduceToNat,  h1])
  · have hk' : k < l.length := by omega
    have b1 := hb k hk'
    have b2 := hs k hk
    have b3 := hs (k + 1) hk'
    rw [sumTo_succ] at b3
    have hB2 := Int.mul_le_mul_of_nonneg_right (show (1 : Int) ≤ l.length by omega) hB
    simp (maxSteps := 2000000) -implicitDefEqProofs (disch := omega) only [xsW, xsC, if_true, if_false, ite_true, ite_false, forall_const, ne_eq, beq_self_eq_true, bne_self_eq_false, imp_self, true_implies, false_implies, implies_true, evP, evE, ev, setD, Nat.reduceAdd, Nat.reduceSub, reduceCtorEq, fillA, cutA, Nat.reduceLeDiff, Nat.reduceMul, Int.reduceLT, Int.reduceLE, Int.reduceEq, Int.reduceNe, Int.reduceAdd, Int.reduceSub, Int.reduceMul, Int.reduceNeg, Int.reduceToNat,  s.ia, s.ld, s'.ia, s'.ld]
    exact ⟨(), by omega, by omega, by simp [LeL, Le1, sumTo]⟩
  · rw [show k = l.length by omega]
section
variable {w w' : Bool} {lo hi lo' hi' : Nat} {h : AH} {v u : AV} {vs : List AV} {ll : List (List Int)} {l : List Int}
end
end Go.Proofs.Ytkpibnhddhdooab.L
/- Contracts: copies of lists and of rows. -/
namespace Go.Proofs.Ytkpibnhddhdooab.L
open Go
set_option linter.unusedSimpArgs false
set_option linter.unusedVariables false
def c_slices_Clone_Sint64_int64 : F := ⟨(.seq (.reg false [⟨(some 2), (.mv (.c .nilsl)), none⟩]) (.seq (.seq (.reg false [⟨(some 3), (.mv (.t 0)), none⟩, ⟨(some 4), (.nilseq false (.t 3)), none⟩]) (.cond (.t 4) (.seq (.reg false [⟨(some 2), (.mv (.c .nilsl)), none⟩]) .ret) .skip)) (.seq (.reg false [⟨(some 5), (.lit 2 1 0 [(.int .i64 0)] []), none⟩, ⟨(some 6), (.mv (.t 0)), none⟩, ⟨(some 7), (.app 2 1 8 [(.int .i64 0)] (.t 5) (.t 6)), none⟩, ⟨(some 2), (.mv (.t 7)), none⟩]) .ret))), 8, [(.t 2)]⟩
theorem k_slices_Clone_Sint64_int64 : compF Try.prog Try.f106 = some c_slices_Clone_Sint64_int64 := by kernel_rfl
def c_spec_l01Own : F := ⟨(.seq (.reg false [⟨(some 2), (.mv (.c .nilsl)), none⟩]) (.seq (.reg false [⟨(some 3), (.lit 2 1 0 [(.int .i64 0)] []), none⟩, ⟨(some 4), (.mv (.t 0)), none⟩, ⟨(some 5), (.app 2 1 8 [(.int .i64 0)] (.t 3) (.t 4)), none⟩, ⟨(some 2), (.mv (.t 5)), none⟩]) .ret)), 6, [(.t 2)]⟩
theorem k_spec_l01Own : compF Try.prog Try.f144 = some c_spec_l01Own := by kernel_rfl
def c_impl_copyRows : F := ⟨(.seq (.reg false [⟨(some 2), (.mv (.c .nilsl)), none⟩]) (.seq (.reg false [⟨(some 3), (.mv (.c .nilsl)), none⟩]) (.seq (.seq (.reg false [⟨(some 6), (.mv (.t 0)), none⟩, ⟨(some 7), (.len (.t 6)), none⟩, ⟨(some 8), (.mv (.c (.int .i64 0))), none⟩]) (.block 0 (.loop (.seq (.reg false [⟨(some 9), (.bin .lss (.t 8) (.t 7)), none⟩]) (.seq (.cond (.t 9) .skip (.exit 0)) (.seq (.block 1 (.seq (.reg false [⟨(some 10), (.ia 1 (.t 6) (.t 8)), none⟩, ⟨(some 11), (.ld1 (.t 10)), none⟩, ⟨(some 5), (.mv (.t 11)), none⟩]) (.reg false [⟨(some 12), (.mv (.t 3)), none⟩, ⟨(some 13), (.mv (.t 5)), none⟩, ⟨(some 14), (.call (.f 106) [(.t 13)]), none⟩, ⟨(some 15), (.lit 23 1 1 [.nilsl] [(0, (.t 14))]), none⟩, ⟨(some 16), (.app 23 1 24 [.nilsl] (.t 12) (.t 15)), none⟩, ⟨(some 3), (.mv (.t 16)), none⟩]))) (.reg false [⟨(some 17), (.bin .add (.t 8) (.c (.int .i64 1))), none⟩, ⟨(some 8), (.mv (.t 17)), none⟩]))))))) (.seq (.reg false [⟨(some 18), (.mv (.t 3)), none⟩, ⟨(some 2), (.mv (.t 18)), none⟩]) .ret)))), 19, [(.t 2)]⟩
theorem k_impl_copyRows : compF Try.prog Try.f116 = some c_impl_copyRows := by kernel_rfl

theorem ints_one (l : List Int) : (ints l).all AV.one = true := by
  simp only [List.all_eq_true, ints, List.mem_map]
  rintro _ ⟨a, _, rfl⟩
  rfl
theorem sq_any {neg : Bool} {v : AV} (hs : isSl v = true) (K : AV → AH → Nat → Prop) (h : AH) (n : Nat) : SQ neg v K h n = K (.bool neg) h n := by
  cases v <;> first | rfl | simp [isSl] at hs
theorem slices_Clone {lo hi : Nat} {h : AH} {v : AV} {l : List Int} (s : Ints true lo hi h v l) (hl : l.length ≤ 1048576) (n : Nat) (hn : hi ≤ n) :
    FQ Try.prog 106 [v] h n fun v' h' n' => Ints true n n' h' v' l := by
  refine fq_intro Try.func106 k_slices_Clone_Sint64_int64 ?_
  by_cases h0 : v = .nilsl
  · subst h0
    have hl0 : l = [] := by have := s.slen; simpa [slen] using this.symm
    subst hl0
    simp (maxSteps := 2000000) -implicitDefEqProofs (disch := omega) only [c_slices_Clone_Sint64_int64, xsW, xsC, if_true, if_false, ite_true, ite_false, forall_const, ne_eq, beq_self_eq_true, bne_self_eq_false, imp_self, true_implies, false_implies, implies_true, evP, evE, ev, setD, Nat.reduceAdd, Nat.reduceSub, reduceCtorEq, fillA, cutA, Nat.reduceLeDiff, Nat.reduceMul, Int.reduceLT, Int.reduceLE, Int.reduceEq, Int.reduceNe, Int.reduceAdd, Int.reduceSub, Int.reduceMul, Int.reduceNeg, Int.reduceToNat]
    intro h2 _
    exact Sl.nil
  · have hs := Sl.isReal s h0
    simp (maxSteps := 2000000) -implicitDefEqProofs (disch := omega) only [c_slices_Clone_Sint64_int64, sq_any hs, xsW, xsC, if_true, if_false, ite_true, ite_false, forall_const, ne_eq, beq_self_eq_true, bne_self_eq_false, imp_self, true_implies, false_implies, implies_true, evP, evE, ev, setD, Nat.reduceAdd, Nat.reduceSub, reduceCtorEq, fillA, cutA, Nat.reduceLeDiff, Nat.reduceMul, Int.reduceLT, Int.reduceLE, Int.reduceEq, Int.reduceNe, Int.reduceAdd, Int.reduceSub, Int.reduceMul, Int.reduceNeg, Int.reduceToNat]
    refine app_acc (lo := n) (Acc.empty (upd_same _ _ _) rfl (Nat.le_refl _) (by omega)) (Nat.le_refl _) (by omega) (Sl.src (s.keep (fun i _ hi9 => by simp (disch := omega) only [upd_other]))) (by rw [Sl.len s]) (ints_one l) (by rw [s.slen]; simp [slen]; omega) fun v' h' n' g1 g2 g3 g4 g5 g6 => ?_
    simp (maxSteps := 2000000) -implicitDefEqProofs (disch := omega) only [xsW, xsC, if_true, if_false, ite_true, ite_false, forall_const, ne_eq, beq_self_eq_true, bne_self_eq_false, imp_self, true_implies, false_implies, implies_true, evP, evE, ev, setD, Nat.reduceAdd, Nat.reduceSub, reduceCtorEq, fillA, cutA, Nat.reduceLeDiff, Nat.reduceMul, Int.reduceLT, Int.reduceLE, Int.reduceEq, Int.reduceNe, Int.reduceAdd, Int.reduceSub, Int.reduceMul, Int.reduceNeg, Int.reduceToNat]
    intro _ h2 hh
    exact (g3.keep fun i a b => hh i a b).sl
theorem spec_l01Own {w : Bool} {lo hi : Nat} {h : AH} {v : AV} {l : List Int} (s : Ints w lo hi h v l) (hl : l.length ≤ 1048576) (n : Nat) (hn : hi ≤ n) :
    FQ Try.prog 144 [v] h n fun v' h' n' => Ints true n n' h' v' l := by
  refine fq_intro Try.func144 k_spec_l01Own ?_
  simp (maxSteps := 2000000) -implicitDefEqProofs (disch := omega) only [c_spec_l01Own, xsW, xsC, if_true, if_false, ite_true, ite_false, forall_const, ne_eq, beq_self_eq_true, bne_self_eq_false, imp_self, true_implies, false_implies, implies_true, evP, evE, ev, setD, Nat.reduceAdd, Nat.reduceSub, reduceCtorEq, fillA, cutA, Nat.reduceLeDiff, Nat.reduceMul, Int.reduceLT, Int.reduceLE, Int.reduceEq, Int.reduceNe, Int.reduceAdd, Int.reduceSub, Int.reduceMul, Int.reduceNeg, Int.reduceToNat]
  refine app_acc (lo := n) (Acc.empty (upd_same _ _ _) rfl (Nat.le_refl _) (by omega)) (Nat.le_refl _) (by omega) (Sl.src (s.keep (fun i _ hi9 => by simp (disch := omega) only [upd_other]))) (by rw [Sl.len s]) (ints_one l) (by rw [s.slen]; simp [slen]; omega) fun v' h' n' g1 g2 g3 g4 g5 g6 => ?_
  simp (maxSteps := 2000000) -implicitDefEqProofs (disch := omega) only [xsW, xsC, if_true, if_false, ite_true, ite_false, forall_const, ne_eq, beq_self_eq_true, bne_self_eq_false, imp_self, true_implies, false_implies, implies_true, evP, evE, ev, setD, Nat.reduceAdd, Nat.reduceSub, reduceCtorEq, fillA, cutA, Nat.reduceLeDiff, Nat.reduceMul, Int.reduceLT, Int.reduceLE, Int.reduceEq, Int.reduceNe, Int.reduceAdd, Int.reduceSub, Int.reduceMul, Int.reduceNeg, Int.reduceToNat]
  intro _ h2 hh
  exact (g3.keep fun i a b => hh i a b).sl
theorem impl_copyRows {lo hi : Nat} {h : AH} {v : AV} {vs : List AV} {ll : List (List Int)} (s : Rows true lo hi h v vs ll) (hl : ll.length ≤ 1048576) (hll : ∀ l ∈ ll, l.length ≤ 1048576) (n : Nat) (hn : hi ≤ n) :
    FQ Try.prog 116 [v] h n fun v' h' n' => ∃ vs', Rows true n n' h' v' vs' ll := by
  refine fq_intro Try.func116 k_impl_copyRows ?_
  simp (maxSteps := 2000000) -implicitDefEqProofs (disch := omega) only [c_impl_copyRows, s.ln, xsW, xsC, if_true, if_false, ite_true, ite_false, forall_const, ne_eq, beq_self_eq_true, bne_self_eq_false, imp_self, true_implies, false_implies, implies_true, evP, evE, ev, setD, Nat.reduceAdd, Nat.reduceSub, reduceCtorEq, fillA, cutA, Nat.reduceLeDiff, Nat.reduceMul, Int.reduceLT, Int.reduceLE, Int.reduceEq, Int.reduceNe, Int.reduceAdd, Int.reduceSub, Int.reduceMul, Int.reduceNeg, Int.reduceToNat]
  refine loop_for ll.length 0 (fun k p => [v, .any, .nilsl, p.1, .any, .any, v, .int .i64 ll.length, .int .i64 k, .any, .any, .any, .any, .any, .any, .any, .any, .any, .any]) (fun k (p : AV × List AV × AH) => p.2.2)
    (fun k p m => Grow n m h p.2.2 23 p.1 p.2.1 (ll.take k)) (.nilsl, [], h) (Nat.zero_le _) Grow.start (by simp [LeL, Le1]) (fun _ _ h => h) ?_
  rintro k ⟨out, ws, hp⟩ m - hk hm g
  simp only at g
  simp (maxSteps := 2000000) -implicitDefEqProofs (disch := omega) only [xsW, xsC, if_true, if_false, ite_true, ite_false, forall_const, ne_eq, beq_self_eq_true, bne_self_eq_false, imp_self, true_implies, false_implies, implies_true, evP, evE, ev, setD, Nat.reduceAdd, Nat.reduceSub, reduceCtorEq, fillA, cutA, Nat.reduceLeDiff, Nat.reduceMul, Int.reduceLT, Int.reduceLE, Int.reduceEq, Int.reduceNe, Int.reduceAdd, Int.reduceSub, Int.reduceMul, Int.reduceNeg, Int.reduceToNat]
  (refine cd_dec (fun h1 => ?_) (fun h1 => ?_) <;> simp (maxSteps := 2000000) -implicitDefEqProofs (disch := omega) only [xsW, xsC, if_true, if_false, ite_true, ite_false, forall_const, ne_eq, beq_self_eq_true, bne_self_eq_false, imp_self, true_implies, false_implies, implies_true, evP, evE, ev, setD, Nat.reduceAdd, Nat.reduceSub, reduceCtorEq, fillA, cutA, Nat.reduceLeDiff, Nat.reduceMul, Int.reduceLT, Int.reduceLE, Int.reduceEq, Int.reduceNe, Int.reduceAdd, Int.reduceSub, Int.reduceMul, Int.reduceNeg, Int.reduceToNat,  h1])
  · have hk' : k < ll.length := by omega
    have hb := s.out.below (by rw [s.slen]; omega)
    have hold := g.old
    simp (maxSteps := 2000000) -implicitDefEqProofs (disch := omega) only [xsW, xsC, if_true, if_false, ite_true, ite_false, forall_const, ne_eq, beq_self_eq_true, bne_self_eq_false, imp_self, true_implies, false_implies, implies_true, evP, evE, ev, setD, Nat.reduceAdd, Nat.reduceSub, reduceCtorEq, fillA, cutA, Nat.reduceLeDiff, Nat.reduceMul, Int.reduceLT, Int.reduceLE, Int.reduceEq, Int.reduceNe, Int.reduceAdd, Int.reduceSub, Int.reduceMul, Int.reduceNeg, Int.reduceToNat,  s.ia, hold, s.ld]
    refine fq_use (slices_Clone ((s.row k hk').keep (fun i _ hi9 => by simp (disch := omega) only [upd_other, hold])) (hll _ (getD_mem hk')) m (by omega)) fun v1 h1' n2 hn2 hs1 hv1 => ?_
    have o1 := one_any (Sl.any hv1)
    have o2 := sto_any (Sl.any hv1)
    have o3 := cel_any (Sl.any hv1)
    simp (maxSteps := 2000000) -implicitDefEqProofs (disch := omega) only [xsW, xsC, if_true, if_false, ite_true, ite_false, forall_const, ne_eq, beq_self_eq_true, bne_self_eq_false, imp_self, true_implies, false_implies, implies_true, evP, evE, ev, setD, Nat.reduceAdd, Nat.reduceSub, reduceCtorEq, fillA, cutA, Nat.reduceLeDiff, Nat.reduceMul, Int.reduceLT, Int.reduceLE, Int.reduceEq, Int.reduceNe, Int.reduceAdd, Int.reduceSub, Int.reduceMul, Int.reduceNeg, Int.reduceToNat,  o1, o2, o3]
    refine g.app (hv1.keep (fun i _ hi9 => by simp (disch := omega) only [upd_other])) (fun i hi9 => by simp (disch := omega) only [upd_other, hs1]) hn2 (by omega) (Nat.le_refl _) ⟨rfl, _, upd_same _ _ _, by simp, by simp [cutA]⟩ (by simp; omega) fun out' h' n' q1 q2 => ?_
    simp (maxSteps := 2000000) -implicitDefEqProofs (disch := omega) only [xsW, xsC, if_true, if_false, ite_true, ite_false, forall_const, ne_eq, beq_self_eq_true, bne_self_eq_false, imp_self, true_implies, false_implies, implies_true, evP, evE, ev, setD, Nat.reduceAdd, Nat.reduceSub, reduceCtorEq, fillA, cutA, Nat.reduceLeDiff, Nat.reduceMul, Int.reduceLT, Int.reduceLE, Int.reduceEq, Int.reduceNe, Int.reduceAdd, Int.reduceSub, Int.reduceMul, Int.reduceNeg, Int.reduceToNat]
    exact ⟨(out', ws ++ [v1], h'), by rw [take_succ_getD hk']; exact q2, by omega, by omega, (by simp [LeL, Le1]), fun _ _ h => h⟩
  · intro _ h2 hh
    rw [List.take_of_length_le (by omega)] at g
    exact ⟨ws, g.rowsOf hh⟩
end Go.Proofs.Ytkpibnhddhdooab.L
/- Contracts: marking and looking at marks. -/
namespace Go.Proofs.Ytkpibnhddhdooab.L
open Go
set_option linter.unusedSimpArgs false
set_option linter.unusedVariables false
end Go.Proofs.Ytkpibnhddhdooab.L
/- Contracts: matrices made out of matrices, place by place. -/
namespace Go.Proofs.Ytkpibnhddhdooab.L
open Go
set_option linter.unusedSimpArgs false
set_option linter.unusedVariables false


theorem isMat_at {ll : List (List Int)} (h : isMat ll = true) {i k : Nat} (hi : i < ll.length) (hk : k < ll.length) : -20 ≤ at2 ll i k ∧ at2 ll i k ≤ 20 := by
  rw [isMat_iff] at h
  have h1 := h.2.2 i hi
  have h2 := h1.2
  rw [within_iff] at h2
  exact h2 k (by omega)
section
variable {w : Bool} {lo hi : Nat} {h : AH} {v : AV} {vs : List AV} {ll : List (List Int)}
end
end Go.Proofs.Ytkpibnhddhdooab.L
