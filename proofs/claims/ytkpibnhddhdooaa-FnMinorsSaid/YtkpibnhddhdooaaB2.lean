/- Contracts: marking and looking at marks. -/
import Derived.Test.YtkpibnhddhdooaaB1
namespace Go.Proofs.Ytkpibnhddhdooaa.L
open Go
set_option linter.unusedSimpArgs false
set_option linter.unusedVariables false
def c_laws_markInt64S : F := ⟨(.seq (.reg false [⟨(some 4), (.mv (.c (.int .i64 0))), none⟩]) (.seq (.seq (.reg false [⟨(some 5), (.mv (.c (.int .i64 0))), none⟩]) (.block 0 (.loop (.seq (.seq (.reg false [⟨(some 6), (.mv (.t 5)), none⟩, ⟨(some 7), (.mv (.t 0)), none⟩, ⟨(some 8), (.len (.t 7)), none⟩, ⟨(some 9), (.bin .lss (.t 6) (.t 8)), none⟩]) (.cond (.t 9) .skip (.exit 0))) (.seq (.block 1 (.seq (.reg false [⟨(some 12), (.mv (.t 0)), none⟩, ⟨(some 13), (.mv (.t 5)), none⟩, ⟨(some 14), (.mv (.t 1)), none⟩, ⟨(some 15), (.ia 1 (.t 12) (.t 13)), none⟩, ⟨none, (.st 1 (.t 15) (.t 14)), none⟩]) (.reg false [⟨(some 16), (.mv (.t 1)), none⟩, ⟨(some 17), (.bin .add (.t 16) (.c (.int .i64 1))), none⟩, ⟨(some 1), (.mv (.t 17)), none⟩]))) (.reg false [⟨(some 10), (.mv (.t 5)), none⟩, ⟨(some 11), (.bin .add (.t 10) (.c (.int .i64 1))), none⟩, ⟨(some 5), (.mv (.t 11)), none⟩])))))) (.seq (.reg false [⟨(some 18), (.mv (.t 1)), none⟩, ⟨(some 4), (.mv (.t 18)), none⟩]) .ret))), 19, [(.t 4)]⟩
theorem k_laws_markInt64S : compF Try.prog Try.f16 = some c_laws_markInt64S := by kernel_rfl
def c_laws_heldInt64S : F := ⟨(.seq (.reg false [⟨(some 4), (.mv (.c (.int .i64 0))), none⟩]) (.seq (.seq (.reg false [⟨(some 5), (.mv (.c (.int .i64 0))), none⟩]) (.block 0 (.loop (.seq (.seq (.reg false [⟨(some 6), (.mv (.t 5)), none⟩, ⟨(some 7), (.mv (.t 0)), none⟩, ⟨(some 8), (.len (.t 7)), none⟩, ⟨(some 9), (.bin .lss (.t 6) (.t 8)), none⟩]) (.cond (.t 9) .skip (.exit 0))) (.seq (.block 1 (.seq (.seq (.reg false [⟨(some 12), (.mv (.t 0)), none⟩, ⟨(some 13), (.mv (.t 5)), none⟩, ⟨(some 14), (.ia 1 (.t 12) (.t 13)), none⟩, ⟨(some 15), (.ld1 (.t 14)), none⟩, ⟨(some 16), (.mv (.t 1)), none⟩, ⟨(some 17), (.bin .neq (.t 15) (.t 16)), none⟩]) (.cond (.t 17) (.seq (.reg false [⟨(some 4), (.mv (.c (.int .i64 (-1)))), none⟩]) .ret) .skip)) (.reg false [⟨(some 18), (.mv (.t 1)), none⟩, ⟨(some 19), (.bin .add (.t 18) (.c (.int .i64 1))), none⟩, ⟨(some 1), (.mv (.t 19)), none⟩]))) (.reg false [⟨(some 10), (.mv (.t 5)), none⟩, ⟨(some 11), (.bin .add (.t 10) (.c (.int .i64 1))), none⟩, ⟨(some 5), (.mv (.t 11)), none⟩])))))) (.seq (.reg false [⟨(some 20), (.mv (.t 1)), none⟩, ⟨(some 4), (.mv (.t 20)), none⟩]) .ret))), 21, [(.t 4)]⟩
theorem k_laws_heldInt64S : compF Try.prog Try.f17 = some c_laws_heldInt64S := by kernel_rfl
def c_laws_markInt64SS : F := ⟨(.seq (.reg false [⟨(some 4), (.mv (.c (.int .i64 0))), none⟩]) (.seq (.seq (.reg false [⟨(some 5), (.mv (.c (.int .i64 0))), none⟩]) (.block 0 (.loop (.seq (.seq (.reg false [⟨(some 6), (.mv (.t 5)), none⟩, ⟨(some 7), (.mv (.t 0)), none⟩, ⟨(some 8), (.len (.t 7)), none⟩, ⟨(some 9), (.bin .lss (.t 6) (.t 8)), none⟩]) (.cond (.t 9) .skip (.exit 0))) (.seq (.block 1 (.reg false [⟨(some 12), (.mv (.t 0)), none⟩, ⟨(some 13), (.mv (.t 5)), none⟩, ⟨(some 14), (.ia 1 (.t 12) (.t 13)), none⟩, ⟨(some 15), (.ld1 (.t 14)), none⟩, ⟨(some 16), (.mv (.t 1)), none⟩, ⟨(some 17), (.call (.f 16) [(.t 15), (.t 16)]), none⟩, ⟨(some 1), (.mv (.t 17)), none⟩])) (.reg false [⟨(some 10), (.mv (.t 5)), none⟩, ⟨(some 11), (.bin .add (.t 10) (.c (.int .i64 1))), none⟩, ⟨(some 5), (.mv (.t 11)), none⟩])))))) (.seq (.reg false [⟨(some 18), (.mv (.t 1)), none⟩, ⟨(some 4), (.mv (.t 18)), none⟩]) .ret))), 19, [(.t 4)]⟩
theorem k_laws_markInt64SS : compF Try.prog Try.f15 = some c_laws_markInt64SS := by kernel_rfl

theorem laws_markInt64S {lo hi : Nat} {h : AH} {v : AV} {l : List Int} (s : Ints true lo hi h v l) (k : Int) (h0 : 0 ≤ k) (hb : k + l.length ≤ 4611686018427387904) (n : Nat) (hn : hi ≤ n) :
    MQ Try.prog 16 [v, .int .i64 k] h n lo hi fun x h' n' => x = .int .i64 (k + l.length) ∧ Ints true lo hi h' v (markL k l.length) ∧ (∀ i, i ≠ bid v → h' i = h i) ∧ (l = [] → h' = h) := by
  refine mq_intro Try.func16 k_laws_markInt64S ?_
  simp (maxSteps := 2000000) -implicitDefEqProofs (disch := omega) only [c_laws_markInt64S, xsW, xsC, if_true, if_false, ite_true, ite_false, forall_const, ne_eq, beq_self_eq_true, bne_self_eq_false, imp_self, true_implies, false_implies, implies_true, evP, evE, ev, setD, Nat.reduceAdd, Nat.reduceSub, reduceCtorEq, fillA, cutA, Nat.reduceLeDiff, Nat.reduceMul, Int.reduceLT, Int.reduceLE, Int.reduceEq, Int.reduceNe, Int.reduceAdd, Int.reduceSub, Int.reduceMul, Int.reduceNeg, Int.reduceToNat]
  refine loop_for l.length 0 (fun j _ => [v, .int .i64 (k + j), .any, .any, .int .i64 0, .int .i64 j, .any, .any, .any, .any, .any, .any, .any, .any, .any, .any, .any, .any, .any]) (fun _ hp => hp)
    (fun j hp m => Ints true lo hi hp v (markL k j ++ l.drop j) ∧ (∀ i, i ≠ bid v → hp i = h i) ∧ (l = [] → hp = h)) h (Nat.zero_le _) ⟨by simpa [markL] using s, fun _ _ => rfl, fun _ => rfl⟩ (by simp [LeL, Le1]) (fun _ _ h => h) ?_
  rintro j hp m - hj hm ⟨g1, g2, g3⟩
  have hlen : (markL k j ++ l.drop j).length = l.length := by simp [markL_len]; omega
  simp (maxSteps := 2000000) -implicitDefEqProofs (disch := omega) only [xsW, xsC, if_true, if_false, ite_true, ite_false, forall_const, ne_eq, beq_self_eq_true, bne_self_eq_false, imp_self, true_implies, false_implies, implies_true, evP, evE, ev, setD, Nat.reduceAdd, Nat.reduceSub, reduceCtorEq, fillA, cutA, Nat.reduceLeDiff, Nat.reduceMul, Int.reduceLT, Int.reduceLE, Int.reduceEq, Int.reduceNe, Int.reduceAdd, Int.reduceSub, Int.reduceMul, Int.reduceNeg, Int.reduceToNat,  s.ln]
  (refine cd_dec (fun c1 => ?_) (fun c1 => ?_) <;> simp (maxSteps := 2000000) -implicitDefEqProofs (disch := omega) only [xsW, xsC, if_true, if_false, ite_true, ite_false, forall_const, ne_eq, beq_self_eq_true, bne_self_eq_false, imp_self, true_implies, false_implies, implies_true, evP, evE, ev, setD, Nat.reduceAdd, Nat.reduceSub, reduceCtorEq, fillA, cutA, Nat.reduceLeDiff, Nat.reduceMul, Int.reduceLT, Int.reduceLE, Int.reduceEq, Int.reduceNe, Int.reduceAdd, Int.reduceSub, Int.reduceMul, Int.reduceNeg, Int.reduceToNat,  c1])
  · have hj' : j < l.length := by omega
    have e1 := fun K => Ints.st g1 (k := j) (x := k + j) (n0 := n) (n := m) (W := fun i => lo ≤ i ∧ i < hi) (by omega) (fun i a b => .inr ⟨a, b⟩) (by omega) K
    simp (maxSteps := 2000000) -implicitDefEqProofs (disch := omega) only [xsW, xsC, if_true, if_false, ite_true, ite_false, forall_const, ne_eq, beq_self_eq_true, bne_self_eq_false, imp_self, true_implies, false_implies, implies_true, evP, evE, ev, setD, Nat.reduceAdd, Nat.reduceSub, reduceCtorEq, fillA, cutA, Nat.reduceLeDiff, Nat.reduceMul, Int.reduceLT, Int.reduceLE, Int.reduceEq, Int.reduceNe, Int.reduceAdd, Int.reduceSub, Int.reduceMul, Int.reduceNeg, Int.reduceToNat,  s.ia, e1]
    refine ⟨_, ⟨?_, ?_, ?_⟩, by omega, by omega, by simp [LeL, Le1]; omega, fun _ _ h => h⟩
    · have := g1.wr (k := j) (by omega) (k + j)
      rw [markL_step k l j hj'] at this
      exact this
    · intro i hi'
      rw [wr_other hi', g2 i hi']
    · intro e; subst e; simp at hj'
  · have e : j = l.length := by omega
    subst e
    exact ⟨rfl, by simpa using g1, g2, g3⟩
theorem laws_heldInt64S {w : Bool} {lo hi : Nat} {h : AH} {v : AV} {k : Int} {m : Nat} (s : Ints w lo hi h v (markL k m)) (h0 : 0 ≤ k) (hb : k + m ≤ 4611686018427387904) (n : Nat) :
    Q Try.prog 17 [v, .int .i64 k] h n (.int .i64 (k + m)) := by
  refine q_intro Try.func17 k_laws_heldInt64S ?_
  have hlen := markL_len k m
  simp (maxSteps := 2000000) -implicitDefEqProofs (disch := omega) only [c_laws_heldInt64S, xsW, xsC, if_true, if_false, ite_true, ite_false, forall_const, ne_eq, beq_self_eq_true, bne_self_eq_false, imp_self, true_implies, false_implies, implies_true, evP, evE, ev, setD, Nat.reduceAdd, Nat.reduceSub, reduceCtorEq, fillA, cutA, Nat.reduceLeDiff, Nat.reduceMul, Int.reduceLT, Int.reduceLE, Int.reduceEq, Int.reduceNe, Int.reduceAdd, Int.reduceSub, Int.reduceMul, Int.reduceNeg, Int.reduceToNat]
  refine loop_for m 0 (fun j (_ : Unit) => [v, .int .i64 (k + j), .any, .any, .int .i64 0, .int .i64 j, .any, .any, .any, .any, .any, .any, .any, .any, .any, .any, .any, .any, .any, .any, .any]) (fun _ _ => h)
    (fun j _ m => True) () (Nat.zero_le _) trivial (by simp [LeL, Le1]) (fun _ _ h => h) ?_
  rintro j - n1 - hj hm -
  simp (maxSteps := 2000000) -implicitDefEqProofs (disch := omega) only [xsW, xsC, if_true, if_false, ite_true, ite_false, forall_const, ne_eq, beq_self_eq_true, bne_self_eq_false, imp_self, true_implies, false_implies, implies_true, evP, evE, ev, setD, Nat.reduceAdd, Nat.reduceSub, reduceCtorEq, fillA, cutA, Nat.reduceLeDiff, Nat.reduceMul, Int.reduceLT, Int.reduceLE, Int.reduceEq, Int.reduceNe, Int.reduceAdd, Int.reduceSub, Int.reduceMul, Int.reduceNeg, Int.reduceToNat,  s.ln, hlen]
  (refine cd_dec (fun c1 => ?_) (fun c1 => ?_) <;> simp (maxSteps := 2000000) -implicitDefEqProofs (disch := omega) only [xsW, xsC, if_true, if_false, ite_true, ite_false, forall_const, ne_eq, beq_self_eq_true, bne_self_eq_false, imp_self, true_implies, false_implies, implies_true, evP, evE, ev, setD, Nat.reduceAdd, Nat.reduceSub, reduceCtorEq, fillA, cutA, Nat.reduceLeDiff, Nat.reduceMul, Int.reduceLT, Int.reduceLE, Int.reduceEq, Int.reduceNe, Int.reduceAdd, Int.reduceSub, Int.reduceMul, Int.reduceNeg, Int.reduceToNat,  c1])
  · have hj' : j < m := by omega
    have e := markL_get k m j hj'
    simp (maxSteps := 2000000) -implicitDefEqProofs (disch := omega) only [xsW, xsC, if_true, if_false, ite_true, ite_false, forall_const, ne_eq, beq_self_eq_true, bne_self_eq_false, imp_self, true_implies, false_implies, implies_true, evP, evE, ev, setD, Nat.reduceAdd, Nat.reduceSub, reduceCtorEq, fillA, cutA, Nat.reduceLeDiff, Nat.reduceMul, Int.reduceLT, Int.reduceLE, Int.reduceEq, Int.reduceNe, Int.reduceAdd, Int.reduceSub, Int.reduceMul, Int.reduceNeg, Int.reduceToNat,  s.ia, s.ld, e, hlen]
    exact ⟨(), by omega, by omega, by simp [LeL, Le1]; omega⟩
  · rw [show j = m by omega]
theorem laws_markInt64SS {lo hi : Nat} {h : AH} {v : AV} {vs : List AV} {ll : List (List Int)} (s : Rows true lo hi h v vs ll) (k : Int) (h0 : 0 ≤ k) (hb : k + tot ll ≤ 4611686018427387904) (hl : ll.length ≤ 1048576) (n : Nat) (hn : hi ≤ n) :
    MQ Try.prog 15 [v, .int .i64 k] h n lo hi fun x h' n' => x = .int .i64 (k + tot ll) ∧ Rows true lo hi h' v vs (markLL k ll) ∧ (∀ i, i < n → (i < lo ∨ hi ≤ i) → h' i = h i) := by
  refine mq_intro Try.func15 k_laws_markInt64SS ?_
  simp (maxSteps := 2000000) -implicitDefEqProofs (disch := omega) only [c_laws_markInt64SS, xsW, xsC, if_true, if_false, ite_true, ite_false, forall_const, ne_eq, beq_self_eq_true, bne_self_eq_false, imp_self, true_implies, false_implies, implies_true, evP, evE, ev, setD, Nat.reduceAdd, Nat.reduceSub, reduceCtorEq, fillA, cutA, Nat.reduceLeDiff, Nat.reduceMul, Int.reduceLT, Int.reduceLE, Int.reduceEq, Int.reduceNe, Int.reduceAdd, Int.reduceSub, Int.reduceMul, Int.reduceNeg, Int.reduceToNat]
  refine loop_for ll.length 0 (fun j _ => [v, .int .i64 (k + tot (ll.take j)), .any, .any, .int .i64 0, .int .i64 j, .any, .any, .any, .any, .any, .any, .any, .any, .any, .any, .any, .any, .any]) (fun _ hp => hp)
    (fun j hp m => Rows true lo hi hp v vs (markLL k (ll.take j) ++ ll.drop j) ∧ (∀ i, i < n → (i < lo ∨ hi ≤ i) → hp i = h i)) h (Nat.zero_le _) ⟨by simpa [markLL] using s, fun _ _ _ => rfl⟩ (by simp [LeL, Le1, tot]) (fun _ _ h => h) ?_
  rintro j hp m - hj hm ⟨g1, g2⟩
  have hlen : (markLL k (ll.take j) ++ ll.drop j).length = ll.length := by simp [markLL_len]; omega
  simp (maxSteps := 2000000) -implicitDefEqProofs (disch := omega) only [xsW, xsC, if_true, if_false, ite_true, ite_false, forall_const, ne_eq, beq_self_eq_true, bne_self_eq_false, imp_self, true_implies, false_implies, implies_true, evP, evE, ev, setD, Nat.reduceAdd, Nat.reduceSub, reduceCtorEq, fillA, cutA, Nat.reduceLeDiff, Nat.reduceMul, Int.reduceLT, Int.reduceLE, Int.reduceEq, Int.reduceNe, Int.reduceAdd, Int.reduceSub, Int.reduceMul, Int.reduceNeg, Int.reduceToNat,  g1.ln, hlen]
  (refine cd_dec (fun c1 => ?_) (fun c1 => ?_) <;> simp (maxSteps := 2000000) -implicitDefEqProofs (disch := omega) only [xsW, xsC, if_true, if_false, ite_true, ite_false, forall_const, ne_eq, beq_self_eq_true, bne_self_eq_false, imp_self, true_implies, false_implies, implies_true, evP, evE, ev, setD, Nat.reduceAdd, Nat.reduceSub, reduceCtorEq, fillA, cutA, Nat.reduceLeDiff, Nat.reduceMul, Int.reduceLT, Int.reduceLE, Int.reduceEq, Int.reduceNe, Int.reduceAdd, Int.reduceSub, Int.reduceMul, Int.reduceNeg, Int.reduceToNat,  c1])
  · have hj' : j < ll.length := by omega
    have hr := g1.row j (by omega)
    have e : (markLL k (ll.take j) ++ ll.drop j).getD j [] = ll.getD j [] := by
      have h1 : (markLL k (ll.take j)).length = j := by rw [markLL_len]; simp; omega
      simp [List.getD, List.getElem?_append_right, h1]
    rw [e] at hr
    have t1 := tot_take ll (j + 1)
    rw [take_succ_getD (d := []) hj', tot_snoc] at t1
    simp (maxSteps := 2000000) -implicitDefEqProofs (disch := omega) only [xsW, xsC, if_true, if_false, ite_true, ite_false, forall_const, ne_eq, beq_self_eq_true, bne_self_eq_false, imp_self, true_implies, false_implies, implies_true, evP, evE, ev, setD, Nat.reduceAdd, Nat.reduceSub, reduceCtorEq, fillA, cutA, Nat.reduceLeDiff, Nat.reduceMul, Int.reduceLT, Int.reduceLE, Int.reduceEq, Int.reduceNe, Int.reduceAdd, Int.reduceSub, Int.reduceMul, Int.reduceNeg, Int.reduceToNat,  g1.ia, hlen, g1.ld]
    refine mq_use (laws_markInt64S hr (k + tot (ll.take j)) (by omega) (by omega) m (by omega)) (fun i a b => .inr ⟨a, b⟩) fun x h' n' q0 ⟨q1, q2, q3, q4⟩ => ?_
    subst q1
    simp (maxSteps := 2000000) -implicitDefEqProofs (disch := omega) only [xsW, xsC, if_true, if_false, ite_true, ite_false, forall_const, ne_eq, beq_self_eq_true, bne_self_eq_false, imp_self, true_implies, false_implies, implies_true, evP, evE, ev, setD, Nat.reduceAdd, Nat.reduceSub, reduceCtorEq, fillA, cutA, Nat.reduceLeDiff, Nat.reduceMul, Int.reduceLT, Int.reduceLE, Int.reduceEq, Int.reduceNe, Int.reduceAdd, Int.reduceSub, Int.reduceMul, Int.reduceNeg, Int.reduceToNat]
    have hne : isSl (vs.getD j .any) = true ∨ h' = hp := by
      by_cases e0 : vs.getD j .any = .nilsl
      · right
        apply q4
        have := hr.slen
        rw [e0] at this
        exact List.eq_nil_of_length_eq_zero this.symm
      · exact .inl (Sl.isReal hr e0)
    have g3 := g1.row1 (by omega) q2 hne q3
    rw [markLL_step k ll j hj'] at g3
    refine ⟨h', ⟨g3, fun i h1 h2 => ?_⟩, by omega, by omega, ?_, fun _ _ h => h⟩
    · rcases hne with hne | rfl
      · have := Sl.own hr hne
        rw [q3 i (by omega), g2 i h1 h2]
      · exact g2 i h1 h2
    · rw [take_succ_getD (d := []) hj', tot_snoc]
      simp [LeL, Le1]
      omega
  · rw [List.take_of_length_le (by omega), List.drop_of_length_le (by omega), List.append_nil] at g1
    rw [List.take_of_length_le (by omega)]
    exact ⟨rfl, g1, g2⟩
end Go.Proofs.Ytkpibnhddhdooaa.L
/- Contracts: matrices made out of matrices, place by place. -/
namespace Go.Proofs.Ytkpibnhddhdooaa.L
open Go
set_option linter.unusedSimpArgs false
set_option linter.unusedVariables false
def c_spec_l03Symmetric : F := ⟨(.seq (.reg false [⟨(some 2), (.mv (.c .nilsl)), none⟩]) (.seq (.reg false [⟨(some 7), (.lit 29 1 0 [.nilsl] []), none⟩, ⟨(some 3), (.mv (.t 7)), none⟩]) (.seq (.seq (.reg false [⟨(some 4), (.mv (.c (.int .i64 0))), none⟩]) (.block 0 (.loop (.seq (.seq (.reg false [⟨(some 8), (.mv (.t 4)), none⟩, ⟨(some 9), (.mv (.t 0)), none⟩, ⟨(some 10), (.len (.t 9)), none⟩, ⟨(some 11), (.bin .lss (.t 8) (.t 10)), none⟩]) (.cond (.t 11) .skip (.exit 0))) (.seq (.block 1 (.seq (.reg false [⟨(some 14), (.lit 2 1 0 [(.int .i64 0)] []), none⟩, ⟨(some 5), (.mv (.t 14)), none⟩]) (.seq (.seq (.reg false [⟨(some 6), (.mv (.c (.int .i64 0))), none⟩]) (.block 2 (.loop (.seq (.seq (.reg false [⟨(some 15), (.mv (.t 6)), none⟩, ⟨(some 16), (.mv (.t 0)), none⟩, ⟨(some 17), (.len (.t 16)), none⟩, ⟨(some 18), (.bin .lss (.t 15) (.t 17)), none⟩]) (.cond (.t 18) .skip (.exit 2))) (.seq (.block 3 (.reg true [⟨(some 21), (.mv (.t 5)), none⟩, ⟨(some 22), (.mv (.t 0)), none⟩, ⟨(some 23), (.mv (.t 4)), none⟩, ⟨(some 24), (.ia 1 (.t 22) (.t 23)), none⟩, ⟨(some 25), (.ld1 (.t 24)), none⟩, ⟨(some 26), (.mv (.t 6)), none⟩, ⟨(some 27), (.ia 1 (.t 25) (.t 26)), none⟩, ⟨(some 28), (.ld1 (.t 27)), none⟩, ⟨(some 29), (.mv (.t 0)), none⟩, ⟨(some 30), (.mv (.t 6)), none⟩, ⟨(some 31), (.ia 1 (.t 29) (.t 30)), none⟩, ⟨(some 32), (.ld1 (.t 31)), none⟩, ⟨(some 33), (.mv (.t 4)), none⟩, ⟨(some 34), (.ia 1 (.t 32) (.t 33)), none⟩, ⟨(some 35), (.ld1 (.t 34)), none⟩, ⟨(some 36), (.bin .add (.t 28) (.t 35)), none⟩, ⟨(some 37), (.lit 2 1 1 [(.int .i64 0)] [(0, (.t 36))]), none⟩, ⟨(some 38), (.app 2 1 8 [(.int .i64 0)] (.t 21) (.t 37)), none⟩, ⟨(some 5), (.mv (.t 38)), none⟩])) (.reg false [⟨(some 19), (.mv (.t 6)), none⟩, ⟨(some 20), (.bin .add (.t 19) (.c (.int .i64 1))), none⟩, ⟨(some 6), (.mv (.t 20)), none⟩])))))) (.reg false [⟨(some 39), (.mv (.t 3)), none⟩, ⟨(some 40), (.mv (.t 5)), none⟩, ⟨(some 41), (.lit 29 1 1 [.nilsl] [(0, (.t 40))]), none⟩, ⟨(some 42), (.app 29 1 24 [.nilsl] (.t 39) (.t 41)), none⟩, ⟨(some 3), (.mv (.t 42)), none⟩])))) (.reg false [⟨(some 12), (.mv (.t 4)), none⟩, ⟨(some 13), (.bin .add (.t 12) (.c (.int .i64 1))), none⟩, ⟨(some 4), (.mv (.t 13)), none⟩])))))) (.seq (.reg false [⟨(some 43), (.mv (.t 3)), none⟩, ⟨(some 2), (.mv (.t 43)), none⟩]) .ret)))), 44, [(.t 2)]⟩
theorem k_spec_l03Symmetric : compF Try.prog Try.f76 = some c_spec_l03Symmetric := by kernel_rfl
def c_spec_l03Comparison : F := ⟨(.seq (.reg false [⟨(some 2), (.mv (.c .nilsl)), none⟩]) (.seq (.reg false [⟨(some 8), (.lit 29 1 0 [.nilsl] []), none⟩, ⟨(some 3), (.mv (.t 8)), none⟩]) (.seq (.seq (.reg false [⟨(some 4), (.mv (.c (.int .i64 0))), none⟩]) (.block 0 (.loop (.seq (.seq (.reg false [⟨(some 9), (.mv (.t 4)), none⟩, ⟨(some 10), (.mv (.t 0)), none⟩, ⟨(some 11), (.len (.t 10)), none⟩, ⟨(some 12), (.bin .lss (.t 9) (.t 11)), none⟩]) (.cond (.t 12) .skip (.exit 0))) (.seq (.block 1 (.seq (.reg false [⟨(some 15), (.lit 2 1 0 [(.int .i64 0)] []), none⟩, ⟨(some 5), (.mv (.t 15)), none⟩]) (.seq (.seq (.reg false [⟨(some 6), (.mv (.c (.int .i64 0))), none⟩]) (.block 2 (.loop (.seq (.seq (.reg false [⟨(some 16), (.mv (.t 6)), none⟩, ⟨(some 17), (.mv (.t 0)), none⟩, ⟨(some 18), (.len (.t 17)), none⟩, ⟨(some 19), (.bin .lss (.t 16) (.t 18)), none⟩]) (.cond (.t 19) .skip (.exit 2))) (.seq (.block 3 (.seq (.reg true [⟨(some 22), (.mv (.t 0)), none⟩, ⟨(some 23), (.mv (.t 4)), none⟩, ⟨(some 24), (.ia 1 (.t 22) (.t 23)), none⟩, ⟨(some 25), (.ld1 (.t 24)), none⟩, ⟨(some 26), (.mv (.t 6)), none⟩, ⟨(some 27), (.ia 1 (.t 25) (.t 26)), none⟩, ⟨(some 28), (.ld1 (.t 27)), none⟩, ⟨(some 29), (.mv (.t 0)), none⟩, ⟨(some 30), (.mv (.t 4)), none⟩, ⟨(some 31), (.ia 1 (.t 29) (.t 30)), none⟩, ⟨(some 32), (.ld1 (.t 31)), none⟩, ⟨(some 33), (.mv (.t 6)), none⟩, ⟨(some 34), (.ia 1 (.t 32) (.t 33)), none⟩, ⟨(some 35), (.ld1 (.t 34)), none⟩, ⟨(some 36), (.un .neg (.t 35)), none⟩, ⟨(some 37), (.mx [(.t 28), (.t 36)]), none⟩, ⟨(some 7), (.mv (.t 37)), none⟩]) (.seq (.seq (.reg false [⟨(some 38), (.mv (.t 4)), none⟩, ⟨(some 39), (.mv (.t 6)), none⟩, ⟨(some 40), (.bin .neq (.t 38) (.t 39)), none⟩]) (.cond (.t 40) (.reg false [⟨(some 41), (.mv (.t 7)), none⟩, ⟨(some 42), (.un .neg (.t 41)), none⟩, ⟨(some 7), (.mv (.t 42)), none⟩]) .skip)) (.reg false [⟨(some 43), (.mv (.t 5)), none⟩, ⟨(some 44), (.mv (.t 7)), none⟩, ⟨(some 45), (.lit 2 1 1 [(.int .i64 0)] [(0, (.t 44))]), none⟩, ⟨(some 46), (.app 2 1 8 [(.int .i64 0)] (.t 43) (.t 45)), none⟩, ⟨(some 5), (.mv (.t 46)), none⟩])))) (.reg false [⟨(some 20), (.mv (.t 6)), none⟩, ⟨(some 21), (.bin .add (.t 20) (.c (.int .i64 1))), none⟩, ⟨(some 6), (.mv (.t 21)), none⟩])))))) (.reg false [⟨(some 47), (.mv (.t 3)), none⟩, ⟨(some 48), (.mv (.t 5)), none⟩, ⟨(some 49), (.lit 29 1 1 [.nilsl] [(0, (.t 48))]), none⟩, ⟨(some 50), (.app 29 1 24 [.nilsl] (.t 47) (.t 49)), none⟩, ⟨(some 3), (.mv (.t 50)), none⟩])))) (.reg false [⟨(some 13), (.mv (.t 4)), none⟩, ⟨(some 14), (.bin .add (.t 13) (.c (.int .i64 1))), none⟩, ⟨(some 4), (.mv (.t 14)), none⟩])))))) (.seq (.reg false [⟨(some 51), (.mv (.t 3)), none⟩, ⟨(some 2), (.mv (.t 51)), none⟩]) .ret)))), 52, [(.t 2)]⟩
theorem k_spec_l03Comparison : compF Try.prog Try.f78 = some c_spec_l03Comparison := by kernel_rfl
def c_spec_l03Set : F := ⟨(.seq (.reg false [⟨(some 4), (.mv (.c (.int .i64 0))), none⟩]) (.seq (.seq (.reg false [⟨(some 6), (.mv (.t 0)), none⟩, ⟨(some 7), (.call (.f 56) [(.t 6)]), none⟩, ⟨(some 8), (.un .not (.t 7)), none⟩]) (.cond (.t 8) (.seq (.reg false [⟨(some 4), (.mv (.c (.int .i64 1))), none⟩]) .ret) .skip)) (.seq (.seq (.reg false [⟨(some 5), (.mv (.c (.int .i64 0))), none⟩]) (.block 0 (.loop (.seq (.seq (.reg false [⟨(some 9), (.mv (.t 5)), none⟩, ⟨(some 10), (.mv (.t 1)), none⟩, ⟨(some 11), (.len (.t 10)), none⟩, ⟨(some 12), (.bin .lss (.t 9) (.t 11)), none⟩]) (.cond (.t 12) .skip (.exit 0))) (.seq (.block 1 (.seq (.reg false [⟨(some 15), (.mv (.t 1)), none⟩, ⟨(some 16), (.mv (.t 5)), none⟩, ⟨(some 17), (.ia 1 (.t 15) (.t 16)), none⟩, ⟨(some 18), (.ld1 (.t 17)), none⟩, ⟨(some 19), (.mv (.t 0)), none⟩, ⟨(some 20), (.len (.t 19)), none⟩, ⟨(some 21), (.cvi .u64 (.t 20)), none⟩, ⟨(some 22), (.bin .shl (.c (.int .i64 1)) (.t 21)), none⟩, ⟨(some 23), (.bin .sub (.t 22) (.c (.int .i64 1))), none⟩, ⟨(some 24), (.call (.f 57) [(.t 18), (.c (.int .i64 0)), (.t 23)]), none⟩, ⟨(some 25), (.un .not (.t 24)), none⟩]) (.cond (.t 25) (.seq (.reg false [⟨(some 4), (.mv (.c (.int .i64 2))), none⟩]) .ret) .skip))) (.reg false [⟨(some 13), (.mv (.t 5)), none⟩, ⟨(some 14), (.bin .add (.t 13) (.c (.int .i64 1))), none⟩, ⟨(some 5), (.mv (.t 14)), none⟩])))))) (.seq (.reg false [⟨(some 4), (.mv (.c (.int .i64 0))), none⟩]) .ret)))), 26, [(.t 4)]⟩
theorem k_spec_l03Set : compF Try.prog Try.f62 = some c_spec_l03Set := by kernel_rfl
def c_spec_SignsOf : F := ⟨(.seq (.reg false [⟨(some 2), (.mv (.c .nilsl)), none⟩, ⟨(some 3), (.mv (.c (.int .i64 0))), none⟩]) (.seq (.seq (.reg false [⟨(some 8), (.mv (.t 0)), none⟩, ⟨(some 9), (.call (.f 56) [(.t 8)]), none⟩, ⟨(some 10), (.un .not (.t 9)), none⟩]) (.cond (.t 10) (.seq (.reg false [⟨(some 2), (.mv (.c .nilsl)), none⟩, ⟨(some 3), (.mv (.c (.int .i64 1))), none⟩]) .ret) .skip)) (.seq (.reg false [⟨(some 11), (.lit 29 1 0 [.nilsl] []), none⟩, ⟨(some 4), (.mv (.t 11)), none⟩]) (.seq (.seq (.reg false [⟨(some 5), (.mv (.c (.int .i64 0))), none⟩]) (.block 0 (.loop (.seq (.seq (.reg false [⟨(some 12), (.mv (.t 5)), none⟩, ⟨(some 13), (.mv (.t 0)), none⟩, ⟨(some 14), (.len (.t 13)), none⟩, ⟨(some 15), (.bin .lss (.t 12) (.t 14)), none⟩]) (.cond (.t 15) .skip (.exit 0))) (.seq (.block 1 (.seq (.reg false [⟨(some 18), (.lit 2 1 0 [(.int .i64 0)] []), none⟩, ⟨(some 6), (.mv (.t 18)), none⟩]) (.seq (.seq (.reg false [⟨(some 7), (.mv (.c (.int .i64 0))), none⟩]) (.block 2 (.loop (.seq (.seq (.reg false [⟨(some 19), (.mv (.t 7)), none⟩, ⟨(some 20), (.mv (.t 0)), none⟩, ⟨(some 21), (.len (.t 20)), none⟩, ⟨(some 22), (.bin .lss (.t 19) (.t 21)), none⟩]) (.cond (.t 22) .skip (.exit 2))) (.seq (.block 3 (.reg false [⟨(some 25), (.mv (.t 6)), none⟩, ⟨(some 26), (.mv (.t 0)), none⟩, ⟨(some 27), (.mv (.t 5)), none⟩, ⟨(some 28), (.ia 1 (.t 26) (.t 27)), none⟩, ⟨(some 29), (.ld1 (.t 28)), none⟩, ⟨(some 30), (.mv (.t 7)), none⟩, ⟨(some 31), (.ia 1 (.t 29) (.t 30)), none⟩, ⟨(some 32), (.ld1 (.t 31)), none⟩, ⟨(some 33), (.mn [(.c (.int .i64 1)), (.t 32)]), none⟩, ⟨(some 34), (.mx [(.c (.int .i64 (-1))), (.t 33)]), none⟩, ⟨(some 35), (.lit 2 1 1 [(.int .i64 0)] [(0, (.t 34))]), none⟩, ⟨(some 36), (.app 2 1 8 [(.int .i64 0)] (.t 25) (.t 35)), none⟩, ⟨(some 6), (.mv (.t 36)), none⟩])) (.reg false [⟨(some 23), (.mv (.t 7)), none⟩, ⟨(some 24), (.bin .add (.t 23) (.c (.int .i64 1))), none⟩, ⟨(some 7), (.mv (.t 24)), none⟩])))))) (.reg false [⟨(some 37), (.mv (.t 4)), none⟩, ⟨(some 38), (.mv (.t 6)), none⟩, ⟨(some 39), (.lit 29 1 1 [.nilsl] [(0, (.t 38))]), none⟩, ⟨(some 40), (.app 29 1 24 [.nilsl] (.t 37) (.t 39)), none⟩, ⟨(some 4), (.mv (.t 40)), none⟩])))) (.reg false [⟨(some 16), (.mv (.t 5)), none⟩, ⟨(some 17), (.bin .add (.t 16) (.c (.int .i64 1))), none⟩, ⟨(some 5), (.mv (.t 17)), none⟩])))))) (.seq (.reg false [⟨(some 41), (.mv (.t 4)), none⟩, ⟨(some 2), (.mv (.t 41)), none⟩, ⟨(some 3), (.mv (.c (.int .i64 0))), none⟩]) .ret))))), 42, [(.t 2), (.t 3)]⟩
theorem k_spec_SignsOf : compF Try.prog Try.f31 = some c_spec_SignsOf := by kernel_rfl
def c_spec_SymmetricPart : F := ⟨(.seq (.reg false [⟨(some 2), (.mv (.c .nilsl)), none⟩, ⟨(some 3), (.mv (.c (.int .i64 0))), none⟩]) (.seq (.seq (.reg false [⟨(some 5), (.mv (.t 0)), none⟩, ⟨(some 6), (.call (.f 62) [(.t 5), (.c .nilsl)]), none⟩, ⟨(some 4), (.mv (.t 6)), none⟩]) (.seq (.reg false [⟨(some 7), (.mv (.t 4)), none⟩, ⟨(some 8), (.bin .neq (.t 7) (.c (.int .i64 0))), none⟩]) (.cond (.t 8) (.seq (.reg false [⟨(some 9), (.mv (.t 4)), none⟩, ⟨(some 2), (.mv (.c .nilsl)), none⟩, ⟨(some 3), (.mv (.t 9)), none⟩]) .ret) .skip))) (.seq (.reg false [⟨(some 10), (.mv (.t 0)), none⟩, ⟨(some 11), (.call (.f 76) [(.t 10)]), none⟩, ⟨(some 2), (.mv (.t 11)), none⟩, ⟨(some 3), (.mv (.c (.int .i64 0))), none⟩]) .ret))), 12, [(.t 2), (.t 3)]⟩
theorem k_spec_SymmetricPart : compF Try.prog Try.f27 = some c_spec_SymmetricPart := by kernel_rfl
def c_spec_ComparisonOf : F := ⟨(.seq (.reg false [⟨(some 2), (.mv (.c .nilsl)), none⟩, ⟨(some 3), (.mv (.c (.int .i64 0))), none⟩]) (.seq (.seq (.reg false [⟨(some 5), (.mv (.t 0)), none⟩, ⟨(some 6), (.call (.f 62) [(.t 5), (.c .nilsl)]), none⟩, ⟨(some 4), (.mv (.t 6)), none⟩]) (.seq (.reg false [⟨(some 7), (.mv (.t 4)), none⟩, ⟨(some 8), (.bin .neq (.t 7) (.c (.int .i64 0))), none⟩]) (.cond (.t 8) (.seq (.reg false [⟨(some 9), (.mv (.t 4)), none⟩, ⟨(some 2), (.mv (.c .nilsl)), none⟩, ⟨(some 3), (.mv (.t 9)), none⟩]) .ret) .skip))) (.seq (.reg false [⟨(some 10), (.mv (.t 0)), none⟩, ⟨(some 11), (.call (.f 78) [(.t 10)]), none⟩, ⟨(some 2), (.mv (.t 11)), none⟩, ⟨(some 3), (.mv (.c (.int .i64 0))), none⟩]) .ret))), 12, [(.t 2), (.t 3)]⟩
theorem k_spec_ComparisonOf : compF Try.prog Try.f29 = some c_spec_ComparisonOf := by kernel_rfl

theorem isMat_at {ll : List (List Int)} (h : isMat ll = true) {i k : Nat} (hi : i < ll.length) (hk : k < ll.length) : -20 ≤ at2 ll i k ∧ at2 ll i k ≤ 20 := by
  rw [isMat_iff] at h
  have h1 := h.2.2 i hi
  have h2 := h1.2
  rw [within_iff] at h2
  exact h2 k (by omega)
section
variable {w : Bool} {lo hi : Nat} {h : AH} {v : AV} {vs : List AV} {ll : List (List Int)}
theorem spec_l03Symmetric (s : Rows w lo hi h v vs ll) (hm : isMat ll = true) (n : Nat) (hn : hi ≤ n) :
    FQ Try.prog 76 [v] h n fun v' h' n' => ∃ vs', Rows true n n' h' v' vs' (rowsOf ll.length fun i => rowOf ll.length fun k => at2 ll i k + at2 ll k i) := by
  refine fq_intro Try.func76 k_spec_l03Symmetric ?_
  have hN := ((isMat_iff ll).1 hm).2
  simp (maxSteps := 2000000) -implicitDefEqProofs (disch := omega) only [c_spec_l03Symmetric, xsW, xsC, if_true, if_false, ite_true, ite_false, forall_const, ne_eq, beq_self_eq_true, bne_self_eq_false, imp_self, true_implies, false_implies, implies_true, evP, evE, ev, setD, Nat.reduceAdd, Nat.reduceSub, reduceCtorEq, fillA, cutA, Nat.reduceLeDiff, Nat.reduceMul, Int.reduceLT, Int.reduceLE, Int.reduceEq, Int.reduceNe, Int.reduceAdd, Int.reduceSub, Int.reduceMul, Int.reduceNeg, Int.reduceToNat]
  refine loop_for ll.length 0 (fun k p => [v, .any, .nilsl, p.1, .int .i64 k, .any, .any, .any, .any, .any, .any, .any, .any, .any, .any, .any, .any, .any, .any, .any, .any, .any, .any, .any, .any, .any, .any, .any, .any, .any, .any, .any, .any, .any, .any, .any, .any, .any, .any, .any, .any, .any, .any, .any]) (fun k (p : AV × List AV × AH) => p.2.2)
    (fun k p m => Grow n m h p.2.2 29 p.1 p.2.1 (rowsOf k fun i => rowOf ll.length fun k => at2 ll i k + at2 ll k i)) (.sl n 0 0 0, [], _) (Nat.zero_le _) (Grow.start0 rfl) (by simp [LeL, Le1]) (fun _ _ h => h) ?_
  rintro i ⟨out, ws, hp⟩ m - hi1 hm1 g
  simp only at g
  have hold := g.old
  simp (maxSteps := 2000000) -implicitDefEqProofs (disch := omega) only [xsW, xsC, if_true, if_false, ite_true, ite_false, forall_const, ne_eq, beq_self_eq_true, bne_self_eq_false, imp_self, true_implies, false_implies, implies_true, evP, evE, ev, setD, Nat.reduceAdd, Nat.reduceSub, reduceCtorEq, fillA, cutA, Nat.reduceLeDiff, Nat.reduceMul, Int.reduceLT, Int.reduceLE, Int.reduceEq, Int.reduceNe, Int.reduceAdd, Int.reduceSub, Int.reduceMul, Int.reduceNeg, Int.reduceToNat,  s.ln]
  (refine cd_dec (fun c1 => ?_) (fun c1 => ?_) <;> simp (maxSteps := 2000000) -implicitDefEqProofs (disch := omega) only [xsW, xsC, if_true, if_false, ite_true, ite_false, forall_const, ne_eq, beq_self_eq_true, bne_self_eq_false, imp_self, true_implies, false_implies, implies_true, evP, evE, ev, setD, Nat.reduceAdd, Nat.reduceSub, reduceCtorEq, fillA, cutA, Nat.reduceLeDiff, Nat.reduceMul, Int.reduceLT, Int.reduceLE, Int.reduceEq, Int.reduceNe, Int.reduceAdd, Int.reduceSub, Int.reduceMul, Int.reduceNeg, Int.reduceToNat,  c1])
  · have hi2 : i < ll.length := by omega
    have hri := s.row i hi2
    have hb := s.out.below (by rw [s.slen]; omega)
    refine loop_for ll.length 0 (fun k p => [v, .any, .nilsl, out, .int .i64 i, p.1, .int .i64 k, .any, .any, .any, .any, .any, .any, .any, .any, .any, .any, .any, .any, .any, .any, .any, .any, .any, .any, .any, .any, .any, .any, .any, .any, .any, .any, .any, .any, .any, .any, .any, .any, .any, .any, .any, .any, .any]) (fun k (p : AV × AH) => p.2)
      (fun k p m' => Acc m m' p.2 2 1 p.1 (ints (rowOf k fun k => at2 ll i k + at2 ll k i)) ∧ m ≤ m' ∧ ∀ j, j < m → p.2 j = hp j) (.sl m 0 0 0, _) (Nat.zero_le _) ⟨Acc.empty (upd_same _ _ _) rfl (Nat.le_refl _) (by omega), by omega, fun j hj => upd_other (by omega)⟩ (by simp [LeL, Le1]) (fun _ _ h => h) ?_
    rintro k ⟨row, hq⟩ mq - hk1 hm2 ⟨a, hle, hold2⟩
    simp only at a hold2
    simp (maxSteps := 2000000) -implicitDefEqProofs (disch := omega) only [xsW, xsC, if_true, if_false, ite_true, ite_false, forall_const, ne_eq, beq_self_eq_true, bne_self_eq_false, imp_self, true_implies, false_implies, implies_true, evP, evE, ev, setD, Nat.reduceAdd, Nat.reduceSub, reduceCtorEq, fillA, cutA, Nat.reduceLeDiff, Nat.reduceMul, Int.reduceLT, Int.reduceLE, Int.reduceEq, Int.reduceNe, Int.reduceAdd, Int.reduceSub, Int.reduceMul, Int.reduceNeg, Int.reduceToNat,  s.ln]
    (refine cd_dec (fun c2 => ?_) (fun c2 => ?_) <;> simp (maxSteps := 2000000) -implicitDefEqProofs (disch := omega) only [xsW, xsC, if_true, if_false, ite_true, ite_false, forall_const, ne_eq, beq_self_eq_true, bne_self_eq_false, imp_self, true_implies, false_implies, implies_true, evP, evE, ev, setD, Nat.reduceAdd, Nat.reduceSub, reduceCtorEq, fillA, cutA, Nat.reduceLeDiff, Nat.reduceMul, Int.reduceLT, Int.reduceLE, Int.reduceEq, Int.reduceNe, Int.reduceAdd, Int.reduceSub, Int.reduceMul, Int.reduceNeg, Int.reduceToNat,  c2])
    · have hk2 : k < ll.length := by omega
      have hrk := s.row k hk2
      have li := (hN.2 i hi2).1
      have lk := (hN.2 k hk2).1
      have bi := Sl.below hri (by rw [hri.slen]; omega)
      have bk := Sl.below hrk (by rw [hrk.slen]; omega)
      have xi := isMat_at hm hi2 hk2
      have xk := isMat_at hm hk2 hi2
      unfold at2 at xi xk
      simp (maxSteps := 2000000) -implicitDefEqProofs (disch := omega) only [xsW, xsC, if_true, if_false, ite_true, ite_false, forall_const, ne_eq, beq_self_eq_true, bne_self_eq_false, imp_self, true_implies, false_implies, implies_true, evP, evE, ev, setD, Nat.reduceAdd, Nat.reduceSub, reduceCtorEq, fillA, cutA, Nat.reduceLeDiff, Nat.reduceMul, Int.reduceLT, Int.reduceLE, Int.reduceEq, Int.reduceNe, Int.reduceAdd, Int.reduceSub, Int.reduceMul, Int.reduceNeg, Int.reduceToNat,  s.ia, s.ld, hri.ia, hri.ld, hrk.ia, hrk.ld, hold, hold2]
      refine app_int (y := at2 ll i k + at2 ll k i) (a.keep (fun i _ hi9 => by simp (disch := omega) only [upd_other]) |>.wide (Nat.le_refl _) (by omega)) (by omega) (by omega) ⟨rfl, _, upd_same _ _ _, by simp, by simp [cutA, at2]⟩ (by rw [rowOf_len]; omega) fun v' h' n' q1 q2 q3 => ?_
      simp (maxSteps := 2000000) -implicitDefEqProofs (disch := omega) only [xsW, xsC, if_true, if_false, ite_true, ite_false, forall_const, ne_eq, beq_self_eq_true, bne_self_eq_false, imp_self, true_implies, false_implies, implies_true, evP, evE, ev, setD, Nat.reduceAdd, Nat.reduceSub, reduceCtorEq, fillA, cutA, Nat.reduceLeDiff, Nat.reduceMul, Int.reduceLT, Int.reduceLE, Int.reduceEq, Int.reduceNe, Int.reduceAdd, Int.reduceSub, Int.reduceMul, Int.reduceNeg, Int.reduceToNat]
      exact ⟨(v', h'), ⟨by rw [rowOf_succ]; exact q2, by omega, fun j hj => (q3 j hj).trans (by rw [upd_other (by omega), hold2 j hj])⟩, by omega, by omega, (by simp [LeL, Le1]), fun _ _ h => h⟩
    · have e : k = ll.length := by omega
      subst e
      have o1 := one_any a.any
      have o2 := sto_any a.any
      have o3 := cel_any a.any
      simp (maxSteps := 2000000) -implicitDefEqProofs (disch := omega) only [xsW, xsC, if_true, if_false, ite_true, ite_false, forall_const, ne_eq, beq_self_eq_true, bne_self_eq_false, imp_self, true_implies, false_implies, implies_true, evP, evE, ev, setD, Nat.reduceAdd, Nat.reduceSub, reduceCtorEq, fillA, cutA, Nat.reduceLeDiff, Nat.reduceMul, Int.reduceLT, Int.reduceLE, Int.reduceEq, Int.reduceNe, Int.reduceAdd, Int.reduceSub, Int.reduceMul, Int.reduceNeg, Int.reduceToNat,  o1, o2, o3]
      refine g.app (hB := upd hq mq _) (l := rowOf ll.length fun k => at2 ll i k + at2 ll k i) (a.sl.keep (fun i _ hi9 => by simp (disch := omega) only [upd_other])) (fun i hi9 => by simp (disch := omega) only [upd_other, hold2]) hle (by omega) (Nat.le_refl _) ⟨rfl, _, upd_same _ _ _, by simp, by simp [cutA]⟩ (by rw [rowsOf_len]; omega) fun out' h' n' q1 q2 => ?_
      simp (maxSteps := 2000000) -implicitDefEqProofs (disch := omega) only [xsW, xsC, if_true, if_false, ite_true, ite_false, forall_const, ne_eq, beq_self_eq_true, bne_self_eq_false, imp_self, true_implies, false_implies, implies_true, evP, evE, ev, setD, Nat.reduceAdd, Nat.reduceSub, reduceCtorEq, fillA, cutA, Nat.reduceLeDiff, Nat.reduceMul, Int.reduceLT, Int.reduceLE, Int.reduceEq, Int.reduceNe, Int.reduceAdd, Int.reduceSub, Int.reduceMul, Int.reduceNeg, Int.reduceToNat]
      exact ⟨(out', ws ++ [row], h'), by rw [rowsOf_succ]; exact q2, by omega, by omega, (by simp [LeL, Le1]), fun _ _ h => h⟩
  · intro _ h2 hh
    have e : i = ll.length := by omega
    subst e
    exact ⟨ws, g.rowsOf hh⟩
def cmp2 (ll : List (List Int)) (i k : Nat) : Int := if i = k then (at2 ll i k).natAbs else -(at2 ll i k).natAbs
theorem spec_l03Comparison (s : Rows w lo hi h v vs ll) (hm : isMat ll = true) (n : Nat) (hn : hi ≤ n) :
    FQ Try.prog 78 [v] h n fun v' h' n' => ∃ vs', Rows true n n' h' v' vs' (rowsOf ll.length fun i => rowOf ll.length fun k => cmp2 ll i k) := by
  refine fq_intro Try.func78 k_spec_l03Comparison ?_
  have hN := ((isMat_iff ll).1 hm).2
  simp (maxSteps := 2000000) -implicitDefEqProofs (disch := omega) only [c_spec_l03Comparison, xsW, xsC, if_true, if_false, ite_true, ite_false, forall_const, ne_eq, beq_self_eq_true, bne_self_eq_false, imp_self, true_implies, false_implies, implies_true, evP, evE, ev, setD, Nat.reduceAdd, Nat.reduceSub, reduceCtorEq, fillA, cutA, Nat.reduceLeDiff, Nat.reduceMul, Int.reduceLT, Int.reduceLE, Int.reduceEq, Int.reduceNe, Int.reduceAdd, Int.reduceSub, Int.reduceMul, Int.reduceNeg, Int.reduceToNat]
  refine loop_for ll.length 0 (fun k p => [v, .any, .nilsl, p.1, .int .i64 k, .any, .any, .any, .any, .any, .any, .any, .any, .any, .any, .any, .any, .any, .any, .any, .any, .any, .any, .any, .any, .any, .any, .any, .any, .any, .any, .any, .any, .any, .any, .any, .any, .any, .any, .any, .any, .any, .any, .any, .any, .any, .any, .any, .any, .any, .any, .any]) (fun k (p : AV × List AV × AH) => p.2.2)
    (fun k p m => Grow n m h p.2.2 29 p.1 p.2.1 (rowsOf k fun i => rowOf ll.length fun k => cmp2 ll i k)) (.sl n 0 0 0, [], _) (Nat.zero_le _) (Grow.start0 rfl) (by simp [LeL, Le1]) (fun _ _ h => h) ?_
  rintro i ⟨out, ws, hp⟩ m - hi1 hm1 g
  simp only at g
  have hold := g.old
  simp (maxSteps := 2000000) -implicitDefEqProofs (disch := omega) only [xsW, xsC, if_true, if_false, ite_true, ite_false, forall_const, ne_eq, beq_self_eq_true, bne_self_eq_false, imp_self, true_implies, false_implies, implies_true, evP, evE, ev, setD, Nat.reduceAdd, Nat.reduceSub, reduceCtorEq, fillA, cutA, Nat.reduceLeDiff, Nat.reduceMul, Int.reduceLT, Int.reduceLE, Int.reduceEq, Int.reduceNe, Int.reduceAdd, Int.reduceSub, Int.reduceMul, Int.reduceNeg, Int.reduceToNat,  s.ln]
  (refine cd_dec (fun c1 => ?_) (fun c1 => ?_) <;> simp (maxSteps := 2000000) -implicitDefEqProofs (disch := omega) only [xsW, xsC, if_true, if_false, ite_true, ite_false, forall_const, ne_eq, beq_self_eq_true, bne_self_eq_false, imp_self, true_implies, false_implies, implies_true, evP, evE, ev, setD, Nat.reduceAdd, Nat.reduceSub, reduceCtorEq, fillA, cutA, Nat.reduceLeDiff, Nat.reduceMul, Int.reduceLT, Int.reduceLE, Int.reduceEq, Int.reduceNe, Int.reduceAdd, Int.reduceSub, Int.reduceMul, Int.reduceNeg, Int.reduceToNat,  c1])
  · have hi2 : i < ll.length := by omega
    have hri := s.row i hi2
    have hb := s.out.below (by rw [s.slen]; omega)
    refine loop_for ll.length 0 (fun k p => [v, .any, .nilsl, out, .int .i64 i, p.1, .int .i64 k, .any, .any, .any, .any, .any, .any, .any, .any, .any, .any, .any, .any, .any, .any, .any, .any, .any, .any, .any, .any, .any, .any, .any, .any, .any, .any, .any, .any, .any, .any, .any, .any, .any, .any, .any, .any, .any, .any, .any, .any, .any, .any, .any, .any, .any]) (fun k (p : AV × AH) => p.2)
      (fun k p m' => Acc m m' p.2 2 1 p.1 (ints (rowOf k fun k => cmp2 ll i k)) ∧ m ≤ m' ∧ ∀ j, j < m → p.2 j = hp j) (.sl m 0 0 0, _) (Nat.zero_le _) ⟨Acc.empty (upd_same _ _ _) rfl (Nat.le_refl _) (by omega), by omega, fun j hj => upd_other (by omega)⟩ (by simp [LeL, Le1]) (fun _ _ h => h) ?_
    rintro k ⟨row, hq⟩ mq - hk1 hm2 ⟨a, hle, hold2⟩
    simp only at a hold2
    simp (maxSteps := 2000000) -implicitDefEqProofs (disch := omega) only [xsW, xsC, if_true, if_false, ite_true, ite_false, forall_const, ne_eq, beq_self_eq_true, bne_self_eq_false, imp_self, true_implies, false_implies, implies_true, evP, evE, ev, setD, Nat.reduceAdd, Nat.reduceSub, reduceCtorEq, fillA, cutA, Nat.reduceLeDiff, Nat.reduceMul, Int.reduceLT, Int.reduceLE, Int.reduceEq, Int.reduceNe, Int.reduceAdd, Int.reduceSub, Int.reduceMul, Int.reduceNeg, Int.reduceToNat,  s.ln]
    (refine cd_dec (fun c2 => ?_) (fun c2 => ?_) <;> simp (maxSteps := 2000000) -implicitDefEqProofs (disch := omega) only [xsW, xsC, if_true, if_false, ite_true, ite_false, forall_const, ne_eq, beq_self_eq_true, bne_self_eq_false, imp_self, true_implies, false_implies, implies_true, evP, evE, ev, setD, Nat.reduceAdd, Nat.reduceSub, reduceCtorEq, fillA, cutA, Nat.reduceLeDiff, Nat.reduceMul, Int.reduceLT, Int.reduceLE, Int.reduceEq, Int.reduceNe, Int.reduceAdd, Int.reduceSub, Int.reduceMul, Int.reduceNeg, Int.reduceToNat,  c2])
    · have hk2 : k < ll.length := by omega
      have li := (hN.2 i hi2).1
      have bi := Sl.below hri (by rw [hri.slen]; omega)
      have xi := isMat_at hm hi2 hk2
      unfold at2 at xi
      simp (maxSteps := 2000000) -implicitDefEqProofs (disch := omega) only [xsW, xsC, if_true, if_false, ite_true, ite_false, forall_const, ne_eq, beq_self_eq_true, bne_self_eq_false, imp_self, true_implies, false_implies, implies_true, evP, evE, ev, setD, Nat.reduceAdd, Nat.reduceSub, reduceCtorEq, fillA, cutA, Nat.reduceLeDiff, Nat.reduceMul, Int.reduceLT, Int.reduceLE, Int.reduceEq, Int.reduceNe, Int.reduceAdd, Int.reduceSub, Int.reduceMul, Int.reduceNeg, Int.reduceToNat,  s.ia, s.ld, hri.ia, hri.ld, hold, hold2]
      have hz : ∃ z, z = cmp2 ll i k := ⟨_, rfl⟩
      obtain ⟨z, hz⟩ := hz
      (refine cd_dec (fun c3 => ?_) (fun c3 => ?_) <;> simp (maxSteps := 2000000) -implicitDefEqProofs (disch := omega) only [xsW, xsC, if_true, if_false, ite_true, ite_false, forall_const, ne_eq, beq_self_eq_true, bne_self_eq_false, imp_self, true_implies, false_implies, implies_true, evP, evE, ev, setD, Nat.reduceAdd, Nat.reduceSub, reduceCtorEq, fillA, cutA, Nat.reduceLeDiff, Nat.reduceMul, Int.reduceLT, Int.reduceLE, Int.reduceEq, Int.reduceNe, Int.reduceAdd, Int.reduceSub, Int.reduceMul, Int.reduceNeg, Int.reduceToNat,  c3])
      all_goals
        refine app_int (y := z) (a.keep (fun i _ hi9 => by simp (disch := omega) only [upd_other]) |>.wide (Nat.le_refl _) (by omega)) (by omega) (by omega) ⟨rfl, _, upd_same _ _ _, by simp, by simp [cutA, hz, cmp2, at2]; omega⟩ (by rw [rowOf_len]; omega) fun v' h' n' q1 q2 q3 => ?_
        simp (maxSteps := 2000000) -implicitDefEqProofs (disch := omega) only [xsW, xsC, if_true, if_false, ite_true, ite_false, forall_const, ne_eq, beq_self_eq_true, bne_self_eq_false, imp_self, true_implies, false_implies, implies_true, evP, evE, ev, setD, Nat.reduceAdd, Nat.reduceSub, reduceCtorEq, fillA, cutA, Nat.reduceLeDiff, Nat.reduceMul, Int.reduceLT, Int.reduceLE, Int.reduceEq, Int.reduceNe, Int.reduceAdd, Int.reduceSub, Int.reduceMul, Int.reduceNeg, Int.reduceToNat]
        exact ⟨(v', h'), ⟨by rw [rowOf_succ, ← hz]; exact q2, by omega, fun j hj => (q3 j hj).trans (by rw [upd_other (by omega), hold2 j hj])⟩, by omega, by omega, (by simp [LeL, Le1]), fun _ _ h => h⟩
    · have e : k = ll.length := by omega
      subst e
      have o1 := one_any a.any
      have o2 := sto_any a.any
      have o3 := cel_any a.any
      simp (maxSteps := 2000000) -implicitDefEqProofs (disch := omega) only [xsW, xsC, if_true, if_false, ite_true, ite_false, forall_const, ne_eq, beq_self_eq_true, bne_self_eq_false, imp_self, true_implies, false_implies, implies_true, evP, evE, ev, setD, Nat.reduceAdd, Nat.reduceSub, reduceCtorEq, fillA, cutA, Nat.reduceLeDiff, Nat.reduceMul, Int.reduceLT, Int.reduceLE, Int.reduceEq, Int.reduceNe, Int.reduceAdd, Int.reduceSub, Int.reduceMul, Int.reduceNeg, Int.reduceToNat,  o1, o2, o3]
      refine g.app (hB := upd hq mq _) (l := rowOf ll.length fun k => cmp2 ll i k) (a.sl.keep (fun i _ hi9 => by simp (disch := omega) only [upd_other])) (fun i hi9 => by simp (disch := omega) only [upd_other, hold2]) hle (by omega) (Nat.le_refl _) ⟨rfl, _, upd_same _ _ _, by simp, by simp [cutA]⟩ (by rw [rowsOf_len]; omega) fun out' h' n' q1 q2 => ?_
      simp (maxSteps := 2000000) -implicitDefEqProofs (disch := omega) only [xsW, xsC, if_true, if_false, ite_true, ite_false, forall_const, ne_eq, beq_self_eq_true, bne_self_eq_false, imp_self, true_implies, false_implies, implies_true, evP, evE, ev, setD, Nat.reduceAdd, Nat.reduceSub, reduceCtorEq, fillA, cutA, Nat.reduceLeDiff, Nat.reduceMul, Int.reduceLT, Int.reduceLE, Int.reduceEq, Int.reduceNe, Int.reduceAdd, Int.reduceSub, Int.reduceMul, Int.reduceNeg, Int.reduceToNat]
      exact ⟨(out', ws ++ [row], h'), by rw [rowsOf_succ]; exact q2, by omega, by omega, (by simp [LeL, Le1]), fun _ _ h => h⟩
  · intro _ h2 hh
    have e : i = ll.length := by omega
    subst e
    exact ⟨ws, g.rowsOf hh⟩
theorem spec_l03Set0 (s : Rows w lo hi h v vs ll) (hl : ll.length ≤ 1048576) (n : Nat) : Q Try.prog 62 [v, .nilsl] h n (.int .i64 (if isMat ll = true then 0 else 1)) := by
  refine q_intro Try.func62 k_spec_l03Set ?_
  simp (maxSteps := 2000000) -implicitDefEqProofs (disch := omega) only [c_spec_l03Set, xsW, xsC, if_true, if_false, ite_true, ite_false, forall_const, ne_eq, beq_self_eq_true, bne_self_eq_false, imp_self, true_implies, false_implies, implies_true, evP, evE, ev, setD, Nat.reduceAdd, Nat.reduceSub, reduceCtorEq, fillA, cutA, Nat.reduceLeDiff, Nat.reduceMul, Int.reduceLT, Int.reduceLE, Int.reduceEq, Int.reduceNe, Int.reduceAdd, Int.reduceSub, Int.reduceMul, Int.reduceNeg, Int.reduceToNat]
  refine q_use (spec_l01Matrix s hl _) fun n1 hn1 => ?_
  cases hm : isMat ll
  · simp (maxSteps := 2000000) -implicitDefEqProofs (disch := omega) only [xsW, xsC, if_true, if_false, ite_true, ite_false, forall_const, ne_eq, beq_self_eq_true, bne_self_eq_false, imp_self, true_implies, false_implies, implies_true, evP, evE, ev, setD, Nat.reduceAdd, Nat.reduceSub, reduceCtorEq, fillA, cutA, Nat.reduceLeDiff, Nat.reduceMul, Int.reduceLT, Int.reduceLE, Int.reduceEq, Int.reduceNe, Int.reduceAdd, Int.reduceSub, Int.reduceMul, Int.reduceNeg, Int.reduceToNat]
  · simp (maxSteps := 2000000) -implicitDefEqProofs (disch := omega) only [xsW, xsC, if_true, if_false, ite_true, ite_false, forall_const, ne_eq, beq_self_eq_true, bne_self_eq_false, imp_self, true_implies, false_implies, implies_true, evP, evE, ev, setD, Nat.reduceAdd, Nat.reduceSub, reduceCtorEq, fillA, cutA, Nat.reduceLeDiff, Nat.reduceMul, Int.reduceLT, Int.reduceLE, Int.reduceEq, Int.reduceNe, Int.reduceAdd, Int.reduceSub, Int.reduceMul, Int.reduceNeg, Int.reduceToNat]
    refine loop_for 0 0 (fun k (_ : Unit) => [v, .nilsl, .any, .any, .int .i64 0, .int .i64 k, .any, .any, .any, .any, .any, .any, .any, .any, .any, .any, .any, .any, .any, .any, .any, .any, .any, .any, .any, .any]) (fun k _ => h) (fun _ _ _ => True) () (Nat.zero_le _) trivial (by simp [LeL, Le1]) (fun _ _ h => h) ?_
    rintro k - n2 - hk hn2 -
    simp (maxSteps := 2000000) -implicitDefEqProofs (disch := omega) only [xsW, xsC, if_true, if_false, ite_true, ite_false, forall_const, ne_eq, beq_self_eq_true, bne_self_eq_false, imp_self, true_implies, false_implies, implies_true, evP, evE, ev, setD, Nat.reduceAdd, Nat.reduceSub, reduceCtorEq, fillA, cutA, Nat.reduceLeDiff, Nat.reduceMul, Int.reduceLT, Int.reduceLE, Int.reduceEq, Int.reduceNe, Int.reduceAdd, Int.reduceSub, Int.reduceMul, Int.reduceNeg, Int.reduceToNat]
def symF (ll : List (List Int)) : List (List Int) := rowsOf ll.length fun i => rowOf ll.length fun k => at2 ll i k + at2 ll k i
def cmpF2 (ll : List (List Int)) : List (List Int) := rowsOf ll.length fun i => rowOf ll.length fun k => cmp2 ll i k
theorem spec_SymmetricPart (s : Rows w lo hi h v vs ll) (hl : ll.length ≤ 1048576) (n : Nat) (hn : hi ≤ n) :
    FQ Try.prog 27 [v] h n fun x h' n' => ∃ v' vs' r c, x = .tup [v', .int .i64 c] ∧ Rows true n n' h' v' vs' r ∧ r = (if isMat ll = true then symF ll else []) ∧ c = (if isMat ll = true then 0 else 1) := by
  refine fq_intro Try.func27 k_spec_SymmetricPart ?_
  simp (maxSteps := 2000000) -implicitDefEqProofs (disch := omega) only [c_spec_SymmetricPart, xsW, xsC, if_true, if_false, ite_true, ite_false, forall_const, ne_eq, beq_self_eq_true, bne_self_eq_false, imp_self, true_implies, false_implies, implies_true, evP, evE, ev, setD, Nat.reduceAdd, Nat.reduceSub, reduceCtorEq, fillA, cutA, Nat.reduceLeDiff, Nat.reduceMul, Int.reduceLT, Int.reduceLE, Int.reduceEq, Int.reduceNe, Int.reduceAdd, Int.reduceSub, Int.reduceMul, Int.reduceNeg, Int.reduceToNat]
  refine q_use (spec_l03Set0 s hl _) fun n1 hn1 => ?_
  cases hm : isMat ll
  · simp (maxSteps := 2000000) -implicitDefEqProofs (disch := omega) only [xsW, xsC, if_true, if_false, ite_true, ite_false, forall_const, ne_eq, beq_self_eq_true, bne_self_eq_false, imp_self, true_implies, false_implies, implies_true, evP, evE, ev, setD, Nat.reduceAdd, Nat.reduceSub, reduceCtorEq, fillA, cutA, Nat.reduceLeDiff, Nat.reduceMul, Int.reduceLT, Int.reduceLE, Int.reduceEq, Int.reduceNe, Int.reduceAdd, Int.reduceSub, Int.reduceMul, Int.reduceNeg, Int.reduceToNat]
    intro _ h2 _
    exact ⟨.nilsl, [], [], 1, ⟨rfl, rfl⟩, ⟨Sl.nil, RowsV.nil, fun _ j hj => absurd hj (Nat.not_lt_zero _)⟩, rfl, rfl⟩
  · simp (maxSteps := 2000000) -implicitDefEqProofs (disch := omega) only [xsW, xsC, if_true, if_false, ite_true, ite_false, forall_const, ne_eq, beq_self_eq_true, bne_self_eq_false, imp_self, true_implies, false_implies, implies_true, evP, evE, ev, setD, Nat.reduceAdd, Nat.reduceSub, reduceCtorEq, fillA, cutA, Nat.reduceLeDiff, Nat.reduceMul, Int.reduceLT, Int.reduceLE, Int.reduceEq, Int.reduceNe, Int.reduceAdd, Int.reduceSub, Int.reduceMul, Int.reduceNeg, Int.reduceToNat]
    refine fq_use (spec_l03Symmetric s hm n1 (by omega)) fun v' h' n' hn' hs ⟨vs', hv'⟩ => ?_
    simp (maxSteps := 2000000) -implicitDefEqProofs (disch := omega) only [xsW, xsC, if_true, if_false, ite_true, ite_false, forall_const, ne_eq, beq_self_eq_true, bne_self_eq_false, imp_self, true_implies, false_implies, implies_true, evP, evE, ev, setD, Nat.reduceAdd, Nat.reduceSub, reduceCtorEq, fillA, cutA, Nat.reduceLeDiff, Nat.reduceMul, Int.reduceLT, Int.reduceLE, Int.reduceEq, Int.reduceNe, Int.reduceAdd, Int.reduceSub, Int.reduceMul, Int.reduceNeg, Int.reduceToNat]
    intro _ h2 hh
    exact ⟨v', vs', _, 0, ⟨rfl, rfl⟩, (hv'.keep fun i a b => hh i (by omega) b).wide (by omega) (Nat.le_refl _), rfl, rfl⟩
theorem spec_ComparisonOf (s : Rows w lo hi h v vs ll) (hl : ll.length ≤ 1048576) (n : Nat) (hn : hi ≤ n) :
    FQ Try.prog 29 [v] h n fun x h' n' => ∃ v' vs' r c, x = .tup [v', .int .i64 c] ∧ Rows true n n' h' v' vs' r ∧ r = (if isMat ll = true then cmpF2 ll else []) ∧ c = (if isMat ll = true then 0 else 1) := by
  refine fq_intro Try.func29 k_spec_ComparisonOf ?_
  simp (maxSteps := 2000000) -implicitDefEqProofs (disch := omega) only [c_spec_ComparisonOf, xsW, xsC, if_true, if_false, ite_true, ite_false, forall_const, ne_eq, beq_self_eq_true, bne_self_eq_false, imp_self, true_implies, false_implies, implies_true, evP, evE, ev, setD, Nat.reduceAdd, Nat.reduceSub, reduceCtorEq, fillA, cutA, Nat.reduceLeDiff, Nat.reduceMul, Int.reduceLT, Int.reduceLE, Int.reduceEq, Int.reduceNe, Int.reduceAdd, Int.reduceSub, Int.reduceMul, Int.reduceNeg, Int.reduceToNat]
  refine q_use (spec_l03Set0 s hl _) fun n1 hn1 => ?_
  cases hm : isMat ll
  · simp (maxSteps := 2000000) -implicitDefEqProofs (disch := omega) only [xsW, xsC, if_true, if_false, ite_true, ite_false, forall_const, ne_eq, beq_self_eq_true, bne_self_eq_false, imp_self, true_implies, false_implies, implies_true, evP, evE, ev, setD, Nat.reduceAdd, Nat.reduceSub, reduceCtorEq, fillA, cutA, Nat.reduceLeDiff, Nat.reduceMul, Int.reduceLT, Int.reduceLE, Int.reduceEq, Int.reduceNe, Int.reduceAdd, Int.reduceSub, Int.reduceMul, Int.reduceNeg, Int.reduceToNat]
    intro _ h2 _
    exact ⟨.nilsl, [], [], 1, ⟨rfl, rfl⟩, ⟨Sl.nil, RowsV.nil, fun _ j hj => absurd hj (Nat.not_lt_zero _)⟩, rfl, rfl⟩
  · simp (maxSteps := 2000000) -implicitDefEqProofs (disch := omega) only [xsW, xsC, if_true, if_false, ite_true, ite_false, forall_const, ne_eq, beq_self_eq_true, bne_self_eq_false, imp_self, true_implies, false_implies, implies_true, evP, evE, ev, setD, Nat.reduceAdd, Nat.reduceSub, reduceCtorEq, fillA, cutA, Nat.reduceLeDiff, Nat.reduceMul, Int.reduceLT, Int.reduceLE, Int.reduceEq, Int.reduceNe, Int.reduceAdd, Int.reduceSub, Int.reduceMul, Int.reduceNeg, Int.reduceToNat]
    refine fq_use (spec_l03Comparison s hm n1 (by omega)) fun v' h' n' hn' hs ⟨vs', hv'⟩ => ?_
    simp (maxSteps := 2000000) -implicitDefEqProofs (disch := omega) only [xsW, xsC, if_true, if_false, ite_true, ite_false, forall_const, ne_eq, beq_self_eq_true, bne_self_eq_false, imp_self, true_implies, false_implies, implies_true, evP, evE, ev, setD, Nat.reduceAdd, Nat.reduceSub, reduceCtorEq, fillA, cutA, Nat.reduceLeDiff, Nat.reduceMul, Int.reduceLT, Int.reduceLE, Int.reduceEq, Int.reduceNe, Int.reduceAdd, Int.reduceSub, Int.reduceMul, Int.reduceNeg, Int.reduceToNat]
    intro _ h2 hh
    exact ⟨v', vs', _, 0, ⟨rfl, rfl⟩, (hv'.keep fun i a b => hh i (by omega) b).wide (by omega) (Nat.le_refl _), rfl, rfl⟩
end
end Go.Proofs.Ytkpibnhddhdooaa.L
/- Contracts: mapped, and what is made by it. -/
namespace Go.Proofs.Ytkpibnhddhdooaa.L
open Go
set_option linter.unusedSimpArgs false
set_option linter.unusedVariables false
def c_impl_mapped : F := ⟨(.seq (.reg false [⟨(some 4), (.mv (.c .nilsl)), none⟩]) (.seq (.reg false [⟨(some 9), (.mv (.t 0)), none⟩, ⟨(some 10), (.call (.f 87) [(.t 9)]), none⟩, ⟨(some 5), (.mv (.t 10)), none⟩]) (.seq (.seq (.reg false [⟨(some 11), (.mv (.t 5)), none⟩, ⟨(some 12), (.len (.t 11)), none⟩, ⟨(some 13), (.mv (.c (.int .i64 0))), none⟩]) (.block 0 (.loop (.seq (.reg false [⟨(some 14), (.bin .lss (.t 13) (.t 12)), none⟩]) (.seq (.cond (.t 14) .skip (.exit 0)) (.seq (.block 1 (.seq (.reg false [⟨(some 15), (.mv (.t 13)), none⟩, ⟨(some 16), (.ia 1 (.t 11) (.t 13)), none⟩, ⟨(some 17), (.ld1 (.t 16)), none⟩, ⟨(some 6), (.mv (.t 15)), none⟩, ⟨(some 7), (.mv (.t 17)), none⟩]) (.seq (.reg false [⟨(some 18), (.mv (.t 7)), none⟩, ⟨(some 19), (.len (.t 18)), none⟩, ⟨(some 20), (.mv (.c (.int .i64 0))), none⟩]) (.block 2 (.loop (.seq (.reg false [⟨(some 21), (.bin .lss (.t 20) (.t 19)), none⟩]) (.seq (.cond (.t 21) .skip (.exit 2)) (.seq (.block 3 (.seq (.reg false [⟨(some 22), (.mv (.t 20)), none⟩, ⟨(some 8), (.mv (.t 22)), none⟩]) (.reg false [⟨(some 23), (.mv (.t 7)), none⟩, ⟨(some 24), (.mv (.t 8)), none⟩, ⟨(some 25), (.mv (.t 1)), none⟩, ⟨(some 26), (.mv (.t 6)), none⟩, ⟨(some 27), (.mv (.t 8)), none⟩, ⟨(some 28), (.call (.t 25) [(.t 26), (.t 27)]), none⟩, ⟨(some 29), (.ia 1 (.t 23) (.t 24)), none⟩, ⟨none, (.st 1 (.t 29) (.t 28)), none⟩]))) (.reg false [⟨(some 30), (.bin .add (.t 20) (.c (.int .i64 1))), none⟩, ⟨(some 20), (.mv (.t 30)), none⟩]))))))))) (.reg false [⟨(some 31), (.bin .add (.t 13) (.c (.int .i64 1))), none⟩, ⟨(some 13), (.mv (.t 31)), none⟩]))))))) (.seq (.reg false [⟨(some 32), (.mv (.t 5)), none⟩, ⟨(some 4), (.mv (.t 32)), none⟩]) .ret)))), 33, [(.t 4)]⟩
theorem k_impl_mapped : compF Try.prog Try.f79 = some c_impl_mapped := by kernel_rfl
def c_impl_symmetric : F := ⟨(.seq (.reg false [⟨(some 1), (.box 22 (.t 0)), none⟩, ⟨(some 2), (.mv (.c .nilsl)), none⟩]) (.seq (.reg false [⟨(some 3), (.ld1 (.t 1)), none⟩, ⟨(some 4), (.mkf 119 [(.t 1)]), none⟩, ⟨(some 5), (.call (.f 79) [(.t 3), (.t 4)]), none⟩, ⟨(some 2), (.mv (.t 5)), none⟩]) .ret)), 6, [(.t 2)]⟩
theorem k_impl_symmetric : compF Try.prog Try.f75 = some c_impl_symmetric := by kernel_rfl
def c_impl_symmetric_1 : F := ⟨(.seq (.reg false [⟨(some 5), (.mv (.c (.int .i64 0))), none⟩]) (.seq (.reg true [⟨(some 6), (.ld1 (.t 2)), none⟩, ⟨(some 7), (.mv (.t 0)), none⟩, ⟨(some 8), (.ia 1 (.t 6) (.t 7)), none⟩, ⟨(some 9), (.ld1 (.t 8)), none⟩, ⟨(some 10), (.mv (.t 1)), none⟩, ⟨(some 11), (.ia 1 (.t 9) (.t 10)), none⟩, ⟨(some 12), (.ld1 (.t 11)), none⟩, ⟨(some 13), (.ld1 (.t 2)), none⟩, ⟨(some 14), (.mv (.t 1)), none⟩, ⟨(some 15), (.ia 1 (.t 13) (.t 14)), none⟩, ⟨(some 16), (.ld1 (.t 15)), none⟩, ⟨(some 17), (.mv (.t 0)), none⟩, ⟨(some 18), (.ia 1 (.t 16) (.t 17)), none⟩, ⟨(some 19), (.ld1 (.t 18)), none⟩, ⟨(some 20), (.bin .add (.t 12) (.t 19)), none⟩, ⟨(some 5), (.mv (.t 20)), none⟩]) .ret)), 21, [(.t 5)]⟩
theorem k_impl_symmetric_1 : compF Try.prog Try.f119 = some c_impl_symmetric_1 := by kernel_rfl
def c_impl_SymmetricPart : F := ⟨(.seq (.reg false [⟨(some 2), (.mv (.c .nilsl)), none⟩, ⟨(some 3), (.mv (.c (.int .i64 0))), none⟩]) (.seq (.seq (.reg false [⟨(some 4), (.mv (.t 0)), none⟩, ⟨(some 5), (.call (.f 47) [(.t 4)]), none⟩, ⟨(some 6), (.un .not (.t 5)), none⟩]) (.cond (.t 6) (.seq (.reg false [⟨(some 2), (.mv (.c .nilsl)), none⟩, ⟨(some 3), (.mv (.c (.int .i64 1))), none⟩]) .ret) .skip)) (.seq (.reg false [⟨(some 7), (.mv (.t 0)), none⟩, ⟨(some 8), (.call (.f 75) [(.t 7)]), none⟩, ⟨(some 2), (.mv (.t 8)), none⟩, ⟨(some 3), (.mv (.c (.int .i64 0))), none⟩]) .ret))), 9, [(.t 2), (.t 3)]⟩
theorem k_impl_SymmetricPart : compF Try.prog Try.f26 = some c_impl_SymmetricPart := by kernel_rfl
def c_impl_comparison : F := ⟨(.seq (.reg false [⟨(some 1), (.box 22 (.t 0)), none⟩, ⟨(some 2), (.mv (.c .nilsl)), none⟩]) (.seq (.reg false [⟨(some 3), (.ld1 (.t 1)), none⟩, ⟨(some 4), (.mkf 120 [(.t 1)]), none⟩, ⟨(some 5), (.call (.f 79) [(.t 3), (.t 4)]), none⟩, ⟨(some 2), (.mv (.t 5)), none⟩]) .ret)), 6, [(.t 2)]⟩
theorem k_impl_comparison : compF Try.prog Try.f77 = some c_impl_comparison := by kernel_rfl
def c_impl_comparison_1 : F := ⟨(.seq (.reg false [⟨(some 5), (.mv (.c (.int .i64 0))), none⟩]) (.seq (.seq (.reg false [⟨(some 6), (.mv (.t 0)), none⟩, ⟨(some 7), (.mv (.t 1)), none⟩, ⟨(some 8), (.bin .eql (.t 6) (.t 7)), none⟩]) (.cond (.t 8) (.seq (.reg false [⟨(some 9), (.ld1 (.t 2)), none⟩, ⟨(some 10), (.mv (.t 0)), none⟩, ⟨(some 11), (.ia 1 (.t 9) (.t 10)), none⟩, ⟨(some 12), (.ld1 (.t 11)), none⟩, ⟨(some 13), (.mv (.t 1)), none⟩, ⟨(some 14), (.ia 1 (.t 12) (.t 13)), none⟩, ⟨(some 15), (.ld1 (.t 14)), none⟩, ⟨(some 16), (.call (.f 121) [(.t 15)]), none⟩, ⟨(some 5), (.mv (.t 16)), none⟩]) .ret) .skip)) (.seq (.reg false [⟨(some 17), (.ld1 (.t 2)), none⟩, ⟨(some 18), (.mv (.t 0)), none⟩, ⟨(some 19), (.ia 1 (.t 17) (.t 18)), none⟩, ⟨(some 20), (.ld1 (.t 19)), none⟩, ⟨(some 21), (.mv (.t 1)), none⟩, ⟨(some 22), (.ia 1 (.t 20) (.t 21)), none⟩, ⟨(some 23), (.ld1 (.t 22)), none⟩, ⟨(some 24), (.call (.f 121) [(.t 23)]), none⟩, ⟨(some 25), (.un .neg (.t 24)), none⟩, ⟨(some 5), (.mv (.t 25)), none⟩]) .ret))), 26, [(.t 5)]⟩
theorem k_impl_comparison_1 : compF Try.prog Try.f120 = some c_impl_comparison_1 := by kernel_rfl
def c_impl_ComparisonOf : F := ⟨(.seq (.reg false [⟨(some 2), (.mv (.c .nilsl)), none⟩, ⟨(some 3), (.mv (.c (.int .i64 0))), none⟩]) (.seq (.seq (.reg false [⟨(some 4), (.mv (.t 0)), none⟩, ⟨(some 5), (.call (.f 47) [(.t 4)]), none⟩, ⟨(some 6), (.un .not (.t 5)), none⟩]) (.cond (.t 6) (.seq (.reg false [⟨(some 2), (.mv (.c .nilsl)), none⟩, ⟨(some 3), (.mv (.c (.int .i64 1))), none⟩]) .ret) .skip)) (.seq (.reg false [⟨(some 7), (.mv (.t 0)), none⟩, ⟨(some 8), (.call (.f 77) [(.t 7)]), none⟩, ⟨(some 2), (.mv (.t 8)), none⟩, ⟨(some 3), (.mv (.c (.int .i64 0))), none⟩]) .ret))), 9, [(.t 2), (.t 3)]⟩
theorem k_impl_ComparisonOf : compF Try.prog Try.f28 = some c_impl_ComparisonOf := by kernel_rfl

/-- Rows of which the first i are those of F, and the rest those of ll. -/
def mixR (ll : List (List Int)) (F : Nat → Nat → Int) (i : Nat) : List (List Int) := (rowsOf i fun j => rowOf ll.length (F j)) ++ ll.drop i
theorem mixR_len (ll : List (List Int)) (F : Nat → Nat → Int) (i : Nat) (hi : i ≤ ll.length) : (mixR ll F i).length = ll.length := by simp [mixR, rowsOf]; omega
theorem mixR_get (ll : List (List Int)) (F : Nat → Nat → Int) (i : Nat) (hi : i < ll.length) : (mixR ll F i).getD i [] = ll.getD i [] := by
  have h1 : (rowsOf i fun j => rowOf ll.length (F j)).length = i := rowsOf_len ..
  simp [mixR, List.getD, List.getElem?_append_right, h1]
theorem mixR_set (ll : List (List Int)) (F : Nat → Nat → Int) (i : Nat) (hi : i < ll.length) : (mixR ll F i).set i (rowOf ll.length (F i)) = mixR ll F (i + 1) := by
  have h1 : (rowsOf i fun j => rowOf ll.length (F j)).length = i := rowsOf_len ..
  rw [mixR, mixR, rowsOf_succ, List.set_append, if_neg (by omega), h1, Nat.sub_self, List.drop_eq_getElem_cons hi, List.set_cons_zero]
  simp
theorem mixL_set (l : List Int) (f : Nat → Int) (k : Nat) (hk : k < l.length) : (rowOf k f ++ l.drop k).set k (f k) = rowOf (k + 1) f ++ l.drop (k + 1) := by
  have h1 : (rowOf k f).length = k := rowOf_len ..
  rw [rowOf_succ, List.set_append, if_neg (by omega), h1, Nat.sub_self, List.drop_eq_getElem_cons hk, List.set_cons_zero]
  simp
section
variable {lo hi : Nat} {h : AH} {v : AV} {vs : List AV} {ll : List (List Int)}
theorem impl_mapped (s : Rows true lo hi h v vs ll) (hm : isMat ll = true) (g : Nat) (ds : List AV) (F : Nat → Nat → Int) (n : Nat) (hn : hi ≤ n)
    (hF : ∀ i k (hp : AH) n', i < ll.length → k < ll.length → (∀ j, j < n → hp j = h j) → n ≤ n' → Q Try.prog g (.int .i64 i :: .int .i64 k :: ds) hp n' (.int .i64 (F i k))) :
    FQ Try.prog 79 [v, .fn g ds] h n fun v' h' n' => ∃ vs', Rows true n n' h' v' vs' (rowsOf ll.length fun i => rowOf ll.length (F i)) := by
  refine fq_intro Try.func79 k_impl_mapped ?_
  obtain ⟨hN1, hN⟩ := ((isMat_iff ll).1 hm).2
  simp (maxSteps := 2000000) -implicitDefEqProofs (disch := omega) only [c_impl_mapped, xsW, xsC, if_true, if_false, ite_true, ite_false, forall_const, ne_eq, beq_self_eq_true, bne_self_eq_false, imp_self, true_implies, false_implies, implies_true, evP, evE, ev, setD, Nat.reduceAdd, Nat.reduceSub, reduceCtorEq, fillA, cutA, Nat.reduceLeDiff, Nat.reduceMul, Int.reduceLT, Int.reduceLE, Int.reduceEq, Int.reduceNe, Int.reduceAdd, Int.reduceSub, Int.reduceMul, Int.reduceNeg, Int.reduceToNat]
  refine fq_use (impl_copyRows s (by omega) (fun l hl => by
    obtain ⟨k, hk, rfl⟩ := List.mem_iff_getElem.1 hl
    have := (hN k hk).1
    simp [List.getD, hk] at this
    omega) n hn) fun o h0 n0' hn0 hs0 ⟨ws, ho⟩ => ?_
  simp (maxSteps := 2000000) -implicitDefEqProofs (disch := omega) only [xsW, xsC, if_true, if_false, ite_true, ite_false, forall_const, ne_eq, beq_self_eq_true, bne_self_eq_false, imp_self, true_implies, false_implies, implies_true, evP, evE, ev, setD, Nat.reduceAdd, Nat.reduceSub, reduceCtorEq, fillA, cutA, Nat.reduceLeDiff, Nat.reduceMul, Int.reduceLT, Int.reduceLE, Int.reduceEq, Int.reduceNe, Int.reduceAdd, Int.reduceSub, Int.reduceMul, Int.reduceNeg, Int.reduceToNat,  ho.ln]
  refine loop_for ll.length 0 (fun k hp => [v, .fn g ds, .any, .any, .nilsl, o, .any, .any, .any, .any, .any, o, .int .i64 ll.length, .int .i64 k, .any, .any, .any, .any, .any, .any, .any, .any, .any, .any, .any, .any, .any, .any, .any, .any, .any, .any, .any]) (fun k (hp : AH) => hp)
    (fun i hp m => Rows true n n0' hp o ws (mixR ll F i) ∧ (∀ j, j < n → hp j = h j) ∧ n0' ≤ m) h0 (Nat.zero_le _) ⟨by simpa [mixR, rowsOf] using ho, hs0, Nat.le_refl _⟩ (by simp [LeL, Le1]) (fun _ _ h => h) ?_
  rintro i hp m - hi1 hm1 ⟨g1, g2, g3⟩
  have hlen := mixR_len ll F i hi1
  simp (maxSteps := 2000000) -implicitDefEqProofs (disch := omega) only [xsW, xsC, if_true, if_false, ite_true, ite_false, forall_const, ne_eq, beq_self_eq_true, bne_self_eq_false, imp_self, true_implies, false_implies, implies_true, evP, evE, ev, setD, Nat.reduceAdd, Nat.reduceSub, reduceCtorEq, fillA, cutA, Nat.reduceLeDiff, Nat.reduceMul, Int.reduceLT, Int.reduceLE, Int.reduceEq, Int.reduceNe, Int.reduceAdd, Int.reduceSub, Int.reduceMul, Int.reduceNeg, Int.reduceToNat]
  (refine cd_dec (fun c1 => ?_) (fun c1 => ?_) <;> simp (maxSteps := 2000000) -implicitDefEqProofs (disch := omega) only [xsW, xsC, if_true, if_false, ite_true, ite_false, forall_const, ne_eq, beq_self_eq_true, bne_self_eq_false, imp_self, true_implies, false_implies, implies_true, evP, evE, ev, setD, Nat.reduceAdd, Nat.reduceSub, reduceCtorEq, fillA, cutA, Nat.reduceLeDiff, Nat.reduceMul, Int.reduceLT, Int.reduceLE, Int.reduceEq, Int.reduceNe, Int.reduceAdd, Int.reduceSub, Int.reduceMul, Int.reduceNeg, Int.reduceToNat,  c1])
  · have hi2 : i < ll.length := by omega
    have hr := g1.row i (by omega)
    rw [mixR_get ll F i hi2] at hr
    have hrl := (hN i hi2).1
    simp (maxSteps := 2000000) -implicitDefEqProofs (disch := omega) only [xsW, xsC, if_true, if_false, ite_true, ite_false, forall_const, ne_eq, beq_self_eq_true, bne_self_eq_false, imp_self, true_implies, false_implies, implies_true, evP, evE, ev, setD, Nat.reduceAdd, Nat.reduceSub, reduceCtorEq, fillA, cutA, Nat.reduceLeDiff, Nat.reduceMul, Int.reduceLT, Int.reduceLE, Int.reduceEq, Int.reduceNe, Int.reduceAdd, Int.reduceSub, Int.reduceMul, Int.reduceNeg, Int.reduceToNat,  g1.ia, g1.ld, hlen, hr.ln, hrl]
    refine loop_for ll.length 0 (fun k hp => [v, .fn g ds, .any, .any, .nilsl, o, .int .i64 i, ws.getD i .any, .any, .any, .any, o, .int .i64 ll.length, .int .i64 i, .any, .any, .any, .any, .any, .int .i64 ll.length, .int .i64 k, .any, .any, .any, .any, .any, .any, .any, .any, .any, .any, .any, .any]) (fun k (hp : AH) => hp)
      (fun k hq m => Ints true n n0' hq (ws.getD i .any) (rowOf k (F i) ++ (ll.getD i []).drop k) ∧ (∀ j, j ≠ bid (ws.getD i .any) → hq j = hp j) ∧ n0' ≤ m) hp (Nat.zero_le _) ⟨by simpa [rowOf] using hr, fun _ _ => rfl, g3⟩ (by simp [LeL, Le1]) (fun _ _ h => h) ?_
    rintro k hq mk - hk1 hm2 ⟨a1, a2, a3⟩
    have hl2 : (rowOf k (F i) ++ (ll.getD i []).drop k).length = ll.length := by simp only [List.length_append, rowOf_len, List.length_drop]; omega
    simp (maxSteps := 2000000) -implicitDefEqProofs (disch := omega) only [xsW, xsC, if_true, if_false, ite_true, ite_false, forall_const, ne_eq, beq_self_eq_true, bne_self_eq_false, imp_self, true_implies, false_implies, implies_true, evP, evE, ev, setD, Nat.reduceAdd, Nat.reduceSub, reduceCtorEq, fillA, cutA, Nat.reduceLeDiff, Nat.reduceMul, Int.reduceLT, Int.reduceLE, Int.reduceEq, Int.reduceNe, Int.reduceAdd, Int.reduceSub, Int.reduceMul, Int.reduceNeg, Int.reduceToNat]
    (refine cd_dec (fun c2 => ?_) (fun c2 => ?_) <;> simp (maxSteps := 2000000) -implicitDefEqProofs (disch := omega) only [xsW, xsC, if_true, if_false, ite_true, ite_false, forall_const, ne_eq, beq_self_eq_true, bne_self_eq_false, imp_self, true_implies, false_implies, implies_true, evP, evE, ev, setD, Nat.reduceAdd, Nat.reduceSub, reduceCtorEq, fillA, cutA, Nat.reduceLeDiff, Nat.reduceMul, Int.reduceLT, Int.reduceLE, Int.reduceEq, Int.reduceNe, Int.reduceAdd, Int.reduceSub, Int.reduceMul, Int.reduceNeg, Int.reduceToNat,  c2])
    · have hk2 : k < ll.length := by omega
      have hown := Sl.own hr (Sl.isReal hr (by
        intro e'
        have := hr.slen
        rw [e'] at this
        change 0 = _ at this
        omega))
      refine q_use (hF i k hq mk hi2 hk2 (fun j hj => by rw [a2 j (by omega), g2 j hj]) (by omega)) fun n5 hn5 => ?_
      have e1 := fun K => Ints.st a1 (k := k) (x := F i k) (n0 := n) (n := n5) (W := none') (by omega) (fun i a b => .inl a) (by omega) K
      simp (maxSteps := 2000000) -implicitDefEqProofs (disch := omega) only [xsW, xsC, if_true, if_false, ite_true, ite_false, forall_const, ne_eq, beq_self_eq_true, bne_self_eq_false, imp_self, true_implies, false_implies, implies_true, evP, evE, ev, setD, Nat.reduceAdd, Nat.reduceSub, reduceCtorEq, fillA, cutA, Nat.reduceLeDiff, Nat.reduceMul, Int.reduceLT, Int.reduceLE, Int.reduceEq, Int.reduceNe, Int.reduceAdd, Int.reduceSub, Int.reduceMul, Int.reduceNeg, Int.reduceToNat,  a1.ia, hl2, e1]
      refine ⟨_, ⟨?_, ?_, by omega⟩, by omega, by omega, (by simp [LeL, Le1]), fun _ _ h => h⟩
      · have := a1.wr (k := k) (by omega) (F i k)
        rw [mixL_set _ (F i) k (by omega)] at this
        exact this
      · intro j hj
        rw [wr_other hj, a2 j hj]
    · have hkk : k = ll.length := by omega
      subst hkk
      rw [List.drop_of_length_le (by omega), List.append_nil] at a1
      have hne : isSl (ws.getD i .any) = true ∨ hq = hp := .inl (Sl.isReal hr (by
        intro e'
        have := hr.slen
        rw [e'] at this
        change 0 = _ at this
        omega))
      have g4 := g1.row1 (by omega) a1 hne a2
      rw [mixR_set ll F i hi2] at g4
      have hown := Sl.own hr (Sl.isReal hr (by
        intro e'
        have := hr.slen
        rw [e'] at this
        change 0 = _ at this
        omega))
      exact ⟨hq, ⟨g4, fun j hj => by rw [a2 j (by omega), g2 j hj], by omega⟩, by omega, by omega, (by simp [LeL, Le1]), fun _ _ h => h⟩
  · intro _ h2 hh
    have e : i = ll.length := by omega
    subst e
    refine ⟨ws, ?_⟩
    have : mixR ll F ll.length = rowsOf ll.length fun i => rowOf ll.length (F i) := by simp [mixR]
    rw [this] at g1
    exact (g1.keep fun i a b => hh i a (by omega)).wide (Nat.le_refl _) (by omega)
theorem impl_symmetric1 {w : Bool} (s : Rows w lo hi h v vs ll) (hm : isMat ll = true) {b : Nat} {wr : Bool} {op ty n : Nat} (hb : h b = some ⟨ty, [v], wr, op⟩) {i k : Nat} (hi2 : i < ll.length) (hk2 : k < ll.length) :
    Q Try.prog 119 [.int .i64 i, .int .i64 k, .ptr b 0] h n (.int .i64 (at2 ll i k + at2 ll k i)) := by
  refine q_intro Try.func119 k_impl_symmetric_1 ?_
  obtain ⟨hN1, hN⟩ := ((isMat_iff ll).1 hm).2
  have hri := s.row i hi2
  have hrk := s.row k hk2
  have li := (hN i hi2).1
  have lk := (hN k hk2).1
  have xi := isMat_at hm hi2 hk2
  have xk := isMat_at hm hk2 hi2
  unfold at2 at xi xk
  simp (maxSteps := 2000000) -implicitDefEqProofs (disch := omega) only [c_impl_symmetric_1, hb, s.ia, s.ld, hri.ia, hri.ld, hrk.ia, hrk.ld, xsW, xsC, if_true, if_false, ite_true, ite_false, forall_const, ne_eq, beq_self_eq_true, bne_self_eq_false, imp_self, true_implies, false_implies, implies_true, evP, evE, ev, setD, Nat.reduceAdd, Nat.reduceSub, reduceCtorEq, fillA, cutA, Nat.reduceLeDiff, Nat.reduceMul, Int.reduceLT, Int.reduceLE, Int.reduceEq, Int.reduceNe, Int.reduceAdd, Int.reduceSub, Int.reduceMul, Int.reduceNeg, Int.reduceToNat]
  rfl
theorem impl_comparison1 {w : Bool} (s : Rows w lo hi h v vs ll) (hm : isMat ll = true) {b : Nat} {wr : Bool} {op ty n : Nat} (hb : h b = some ⟨ty, [v], wr, op⟩) {i k : Nat} (hi2 : i < ll.length) (hk2 : k < ll.length) :
    Q Try.prog 120 [.int .i64 i, .int .i64 k, .ptr b 0] h n (.int .i64 (cmp2 ll i k)) := by
  refine q_intro Try.func120 k_impl_comparison_1 ?_
  obtain ⟨hN1, hN⟩ := ((isMat_iff ll).1 hm).2
  have hri := s.row i hi2
  have li := (hN i hi2).1
  have xi := isMat_at hm hi2 hk2
  unfold at2 at xi
  simp (maxSteps := 2000000) -implicitDefEqProofs (disch := omega) only [c_impl_comparison_1, hb, s.ia, s.ld, hri.ia, hri.ld, xsW, xsC, if_true, if_false, ite_true, ite_false, forall_const, ne_eq, beq_self_eq_true, bne_self_eq_false, imp_self, true_implies, false_implies, implies_true, evP, evE, ev, setD, Nat.reduceAdd, Nat.reduceSub, reduceCtorEq, fillA, cutA, Nat.reduceLeDiff, Nat.reduceMul, Int.reduceLT, Int.reduceLE, Int.reduceEq, Int.reduceNe, Int.reduceAdd, Int.reduceSub, Int.reduceMul, Int.reduceNeg, Int.reduceToNat]
  refine cd_dec (fun c1 => ?_) (fun c1 => ?_)
  all_goals
    simp (maxSteps := 2000000) -implicitDefEqProofs (disch := omega) only [xsW, xsC, if_true, if_false, ite_true, ite_false, forall_const, ne_eq, beq_self_eq_true, bne_self_eq_false, imp_self, true_implies, false_implies, implies_true, evP, evE, ev, setD, Nat.reduceAdd, Nat.reduceSub, reduceCtorEq, fillA, cutA, Nat.reduceLeDiff, Nat.reduceMul, Int.reduceLT, Int.reduceLE, Int.reduceEq, Int.reduceNe, Int.reduceAdd, Int.reduceSub, Int.reduceMul, Int.reduceNeg, Int.reduceToNat,  hb, s.ia, s.ld, hri.ia, hri.ld]
    refine q_use (impl_size _ (by unfold in64; omega) _ _) fun n1 hn1 => ?_
    simp (maxSteps := 2000000) -implicitDefEqProofs (disch := omega) only [xsW, xsC, if_true, if_false, ite_true, ite_false, forall_const, ne_eq, beq_self_eq_true, bne_self_eq_false, imp_self, true_implies, false_implies, implies_true, evP, evE, ev, setD, Nat.reduceAdd, Nat.reduceSub, reduceCtorEq, fillA, cutA, Nat.reduceLeDiff, Nat.reduceMul, Int.reduceLT, Int.reduceLE, Int.reduceEq, Int.reduceNe, Int.reduceAdd, Int.reduceSub, Int.reduceMul, Int.reduceNeg, Int.reduceToNat]
    simp [cmp2, at2]
    omega
theorem impl_symmetric (s : Rows true lo hi h v vs ll) (hm : isMat ll = true) (n : Nat) (hn : hi ≤ n) :
    FQ Try.prog 75 [v] h n fun v' h' n' => ∃ vs', Rows true n n' h' v' vs' (symF ll) := by
  refine fq_intro Try.func75 k_impl_symmetric ?_
  have o1 := one_any (Sl.any s.out)
  have o2 := sto_any (Sl.any s.out)
  have o3 := cel_any (Sl.any s.out)
  simp (maxSteps := 2000000) -implicitDefEqProofs (disch := omega) only [c_impl_symmetric, o1, o2, o3, xsW, xsC, if_true, if_false, ite_true, ite_false, forall_const, ne_eq, beq_self_eq_true, bne_self_eq_false, imp_self, true_implies, false_implies, implies_true, evP, evE, ev, setD, Nat.reduceAdd, Nat.reduceSub, reduceCtorEq, fillA, cutA, Nat.reduceLeDiff, Nat.reduceMul, Int.reduceLT, Int.reduceLE, Int.reduceEq, Int.reduceNe, Int.reduceAdd, Int.reduceSub, Int.reduceMul, Int.reduceNeg, Int.reduceToNat]
  refine fq_use (impl_mapped (s.keep (fun i _ hi9 => by simp (disch := omega) only [upd_other])) hm _ _ (fun i k => at2 ll i k + at2 ll k i) _ (by omega) fun i k hp n' hi2 hk2 hag hn' =>
    impl_symmetric1 (s.keep (fun i _ hi9 => by simp (disch := omega) only [upd_other, hag])) hm (by rw [hag n (by omega)]; exact upd_same _ _ _) hi2 hk2) fun v' h' n' hn' hs ⟨vs', hv'⟩ => ?_
  simp (maxSteps := 2000000) -implicitDefEqProofs (disch := omega) only [xsW, xsC, if_true, if_false, ite_true, ite_false, forall_const, ne_eq, beq_self_eq_true, bne_self_eq_false, imp_self, true_implies, false_implies, implies_true, evP, evE, ev, setD, Nat.reduceAdd, Nat.reduceSub, reduceCtorEq, fillA, cutA, Nat.reduceLeDiff, Nat.reduceMul, Int.reduceLT, Int.reduceLE, Int.reduceEq, Int.reduceNe, Int.reduceAdd, Int.reduceSub, Int.reduceMul, Int.reduceNeg, Int.reduceToNat]
  intro _ h2 hh
  exact ⟨vs', (hv'.keep fun i a b => hh i (by omega) b).wide (by omega) (Nat.le_refl _)⟩
theorem impl_SymmetricPart (s : Rows true lo hi h v vs ll) (hl : ll.length ≤ 1048576) (hll : ∀ l ∈ ll, l.length ≤ 1048576) (n : Nat) (hn : hi ≤ n) :
    FQ Try.prog 26 [v] h n fun x h' n' => ∃ v' vs' r c, x = .tup [v', .int .i64 c] ∧ Rows true n n' h' v' vs' r ∧ r = (if isMat ll = true then symF ll else []) ∧ c = (if isMat ll = true then 0 else 1) := by
  refine fq_intro Try.func26 k_impl_SymmetricPart ?_
  simp (maxSteps := 2000000) -implicitDefEqProofs (disch := omega) only [c_impl_SymmetricPart, xsW, xsC, if_true, if_false, ite_true, ite_false, forall_const, ne_eq, beq_self_eq_true, bne_self_eq_false, imp_self, true_implies, false_implies, implies_true, evP, evE, ev, setD, Nat.reduceAdd, Nat.reduceSub, reduceCtorEq, fillA, cutA, Nat.reduceLeDiff, Nat.reduceMul, Int.reduceLT, Int.reduceLE, Int.reduceEq, Int.reduceNe, Int.reduceAdd, Int.reduceSub, Int.reduceMul, Int.reduceNeg, Int.reduceToNat]
  refine q_use (impl_IsMatrix s hl hll _ hn) fun n1 hn1 => ?_
  cases hm : isMat ll
  · simp (maxSteps := 2000000) -implicitDefEqProofs (disch := omega) only [xsW, xsC, if_true, if_false, ite_true, ite_false, forall_const, ne_eq, beq_self_eq_true, bne_self_eq_false, imp_self, true_implies, false_implies, implies_true, evP, evE, ev, setD, Nat.reduceAdd, Nat.reduceSub, reduceCtorEq, fillA, cutA, Nat.reduceLeDiff, Nat.reduceMul, Int.reduceLT, Int.reduceLE, Int.reduceEq, Int.reduceNe, Int.reduceAdd, Int.reduceSub, Int.reduceMul, Int.reduceNeg, Int.reduceToNat]
    intro _ h2 _
    exact ⟨.nilsl, [], [], 1, ⟨rfl, rfl⟩, ⟨Sl.nil, RowsV.nil, fun _ j hj => absurd hj (Nat.not_lt_zero _)⟩, rfl, rfl⟩
  · simp (maxSteps := 2000000) -implicitDefEqProofs (disch := omega) only [xsW, xsC, if_true, if_false, ite_true, ite_false, forall_const, ne_eq, beq_self_eq_true, bne_self_eq_false, imp_self, true_implies, false_implies, implies_true, evP, evE, ev, setD, Nat.reduceAdd, Nat.reduceSub, reduceCtorEq, fillA, cutA, Nat.reduceLeDiff, Nat.reduceMul, Int.reduceLT, Int.reduceLE, Int.reduceEq, Int.reduceNe, Int.reduceAdd, Int.reduceSub, Int.reduceMul, Int.reduceNeg, Int.reduceToNat]
    refine fq_use (impl_symmetric s hm n1 (by omega)) fun v' h' n' hn' hs ⟨vs', hv'⟩ => ?_
    simp (maxSteps := 2000000) -implicitDefEqProofs (disch := omega) only [xsW, xsC, if_true, if_false, ite_true, ite_false, forall_const, ne_eq, beq_self_eq_true, bne_self_eq_false, imp_self, true_implies, false_implies, implies_true, evP, evE, ev, setD, Nat.reduceAdd, Nat.reduceSub, reduceCtorEq, fillA, cutA, Nat.reduceLeDiff, Nat.reduceMul, Int.reduceLT, Int.reduceLE, Int.reduceEq, Int.reduceNe, Int.reduceAdd, Int.reduceSub, Int.reduceMul, Int.reduceNeg, Int.reduceToNat]
    intro _ h2 hh
    exact ⟨v', vs', _, 0, ⟨rfl, rfl⟩, (hv'.keep fun i a b => hh i (by omega) b).wide (by omega) (Nat.le_refl _), rfl, rfl⟩
theorem impl_comparison (s : Rows true lo hi h v vs ll) (hm : isMat ll = true) (n : Nat) (hn : hi ≤ n) :
    FQ Try.prog 77 [v] h n fun v' h' n' => ∃ vs', Rows true n n' h' v' vs' (cmpF2 ll) := by
  refine fq_intro Try.func77 k_impl_comparison ?_
  have o1 := one_any (Sl.any s.out)
  have o2 := sto_any (Sl.any s.out)
  have o3 := cel_any (Sl.any s.out)
  simp (maxSteps := 2000000) -implicitDefEqProofs (disch := omega) only [c_impl_comparison, o1, o2, o3, xsW, xsC, if_true, if_false, ite_true, ite_false, forall_const, ne_eq, beq_self_eq_true, bne_self_eq_false, imp_self, true_implies, false_implies, implies_true, evP, evE, ev, setD, Nat.reduceAdd, Nat.reduceSub, reduceCtorEq, fillA, cutA, Nat.reduceLeDiff, Nat.reduceMul, Int.reduceLT, Int.reduceLE, Int.reduceEq, Int.reduceNe, Int.reduceAdd, Int.reduceSub, Int.reduceMul, Int.reduceNeg, Int.reduceToNat]
  refine fq_use (impl_mapped (s.keep (fun i _ hi9 => by simp (disch := omega) only [upd_other])) hm _ _ (fun i k => cmp2 ll i k) _ (by omega) fun i k hp n' hi2 hk2 hag hn' =>
    impl_comparison1 (s.keep (fun i _ hi9 => by simp (disch := omega) only [upd_other, hag])) hm (by rw [hag n (by omega)]; exact upd_same _ _ _) hi2 hk2) fun v' h' n' hn' hs ⟨vs', hv'⟩ => ?_
  simp (maxSteps := 2000000) -implicitDefEqProofs (disch := omega) only [xsW, xsC, if_true, if_false, ite_true, ite_false, forall_const, ne_eq, beq_self_eq_true, bne_self_eq_false, imp_self, true_implies, false_implies, implies_true, evP, evE, ev, setD, Nat.reduceAdd, Nat.reduceSub, reduceCtorEq, fillA, cutA, Nat.reduceLeDiff, Nat.reduceMul, Int.reduceLT, Int.reduceLE, Int.reduceEq, Int.reduceNe, Int.reduceAdd, Int.reduceSub, Int.reduceMul, Int.reduceNeg, Int.reduceToNat]
  intro _ h2 hh
  exact ⟨vs', (hv'.keep fun i a b => hh i (by omega) b).wide (by omega) (Nat.le_refl _)⟩
theorem impl_ComparisonOf (s : Rows true lo hi h v vs ll) (hl : ll.length ≤ 1048576) (hll : ∀ l ∈ ll, l.length ≤ 1048576) (n : Nat) (hn : hi ≤ n) :
    FQ Try.prog 28 [v] h n fun x h' n' => ∃ v' vs' r c, x = .tup [v', .int .i64 c] ∧ Rows true n n' h' v' vs' r ∧ r = (if isMat ll = true then cmpF2 ll else []) ∧ c = (if isMat ll = true then 0 else 1) := by
  refine fq_intro Try.func28 k_impl_ComparisonOf ?_
  simp (maxSteps := 2000000) -implicitDefEqProofs (disch := omega) only [c_impl_ComparisonOf, xsW, xsC, if_true, if_false, ite_true, ite_false, forall_const, ne_eq, beq_self_eq_true, bne_self_eq_false, imp_self, true_implies, false_implies, implies_true, evP, evE, ev, setD, Nat.reduceAdd, Nat.reduceSub, reduceCtorEq, fillA, cutA, Nat.reduceLeDiff, Nat.reduceMul, Int.reduceLT, Int.reduceLE, Int.reduceEq, Int.reduceNe, Int.reduceAdd, Int.reduceSub, Int.reduceMul, Int.reduceNeg, Int.reduceToNat]
  refine q_use (impl_IsMatrix s hl hll _ hn) fun n1 hn1 => ?_
  cases hm : isMat ll
  · simp (maxSteps := 2000000) -implicitDefEqProofs (disch := omega) only [xsW, xsC, if_true, if_false, ite_true, ite_false, forall_const, ne_eq, beq_self_eq_true, bne_self_eq_false, imp_self, true_implies, false_implies, implies_true, evP, evE, ev, setD, Nat.reduceAdd, Nat.reduceSub, reduceCtorEq, fillA, cutA, Nat.reduceLeDiff, Nat.reduceMul, Int.reduceLT, Int.reduceLE, Int.reduceEq, Int.reduceNe, Int.reduceAdd, Int.reduceSub, Int.reduceMul, Int.reduceNeg, Int.reduceToNat]
    intro _ h2 _
    exact ⟨.nilsl, [], [], 1, ⟨rfl, rfl⟩, ⟨Sl.nil, RowsV.nil, fun _ j hj => absurd hj (Nat.not_lt_zero _)⟩, rfl, rfl⟩
  · simp (maxSteps := 2000000) -implicitDefEqProofs (disch := omega) only [xsW, xsC, if_true, if_false, ite_true, ite_false, forall_const, ne_eq, beq_self_eq_true, bne_self_eq_false, imp_self, true_implies, false_implies, implies_true, evP, evE, ev, setD, Nat.reduceAdd, Nat.reduceSub, reduceCtorEq, fillA, cutA, Nat.reduceLeDiff, Nat.reduceMul, Int.reduceLT, Int.reduceLE, Int.reduceEq, Int.reduceNe, Int.reduceAdd, Int.reduceSub, Int.reduceMul, Int.reduceNeg, Int.reduceToNat]
    refine fq_use (impl_comparison s hm n1 (by omega)) fun v' h' n' hn' hs ⟨vs', hv'⟩ => ?_
    simp (maxSteps := 2000000) -implicitDefEqProofs (disch := omega) only [xsW, xsC, if_true, if_false, ite_true, ite_false, forall_const, ne_eq, beq_self_eq_true, bne_self_eq_false, imp_self, true_implies, false_implies, implies_true, evP, evE, ev, setD, Nat.reduceAdd, Nat.reduceSub, reduceCtorEq, fillA, cutA, Nat.reduceLeDiff, Nat.reduceMul, Int.reduceLT, Int.reduceLE, Int.reduceEq, Int.reduceNe, Int.reduceAdd, Int.reduceSub, Int.reduceMul, Int.reduceNeg, Int.reduceToNat]
    intro _ h2 hh
    exact ⟨v', vs', _, 0, ⟨rfl, rfl⟩, (hv'.keep fun i a b => hh i (by omega) b).wide (by omega) (Nat.le_refl _), rfl, rfl⟩
end
end Go.Proofs.Ytkpibnhddhdooaa.L
/- Contracts: statements on functions from rows to rows. -/
namespace Go.Proofs.Ytkpibnhddhdooaa.L
open Go
set_option linter.unusedSimpArgs false
set_option linter.unusedVariables false
theorem rowsOf_small {N : Nat} (hN : N ≤ 5) (F : Nat → Nat → Int) : (rowsOf N fun i => rowOf N (F i)).length ≤ 5 ∧ ∀ l ∈ (rowsOf N fun i => rowOf N (F i)), l.length ≤ 5 := by
  refine ⟨by rw [rowsOf_len]; exact hN, fun l hl => ?_⟩
  simp only [rowsOf, List.mem_map] at hl
  obtain ⟨i, _, rfl⟩ := hl
  rw [rowOf_len]
  exact hN
section
variable {w : Bool} {lo hi : Nat} {h : AH} {v : AV} {vs : List AV} {ll : List (List Int)}


end
end Go.Proofs.Ytkpibnhddhdooaa.L
/- Contracts: a matrix with a number added on its diagonal. -/
namespace Go.Proofs.Ytkpibnhddhdooaa.L
open Go
set_option linter.unusedSimpArgs false
set_option linter.unusedVariables false
def c_impl_AddMatrices : F := ⟨(.seq (.reg false [⟨(some 4), (.mv (.c .nilsl)), none⟩, ⟨(some 5), (.mv (.c (.int .i64 0))), none⟩]) (.seq (.seq (.reg false [⟨(some 8), (.mv (.t 0)), none⟩, ⟨(some 9), (.call (.f 47) [(.t 8)]), none⟩, ⟨(some 10), (.un .not (.t 9)), none⟩]) (.cond (.t 10) (.seq (.reg false [⟨(some 4), (.mv (.c .nilsl)), none⟩, ⟨(some 5), (.mv (.c (.int .i64 1))), none⟩]) .ret) .skip)) (.seq (.seq (.reg false [⟨(some 11), (.mv (.t 1)), none⟩, ⟨(some 12), (.call (.f 60) [(.t 11), (.c (.int .i64 0)), (.c (.int .i64 20))]), none⟩, ⟨(some 13), (.un .not (.t 12)), none⟩]) (.cond (.t 13) (.seq (.reg false [⟨(some 4), (.mv (.c .nilsl)), none⟩, ⟨(some 5), (.mv (.c (.int .i64 2))), none⟩]) .ret) .skip)) (.seq (.reg false [⟨(some 14), (.mv (.t 0)), none⟩, ⟨(some 15), (.call (.f 87) [(.t 14)]), none⟩, ⟨(some 6), (.mv (.t 15)), none⟩]) (.seq (.seq (.reg false [⟨(some 16), (.mv (.t 6)), none⟩, ⟨(some 17), (.len (.t 16)), none⟩, ⟨(some 18), (.mv (.c (.int .i64 0))), none⟩]) (.block 0 (.loop (.seq (.reg false [⟨(some 19), (.bin .lss (.t 18) (.t 17)), none⟩]) (.seq (.cond (.t 19) .skip (.exit 0)) (.seq (.block 1 (.seq (.reg false [⟨(some 20), (.mv (.t 18)), none⟩, ⟨(some 7), (.mv (.t 20)), none⟩]) (.reg false [⟨(some 21), (.mv (.t 6)), none⟩, ⟨(some 22), (.mv (.t 7)), none⟩, ⟨(some 23), (.ia 1 (.t 21) (.t 22)), none⟩, ⟨(some 24), (.ld1 (.t 23)), none⟩, ⟨(some 25), (.mv (.t 7)), none⟩, ⟨(some 26), (.ia 1 (.t 24) (.t 25)), none⟩, ⟨(some 27), (.ld1 (.t 26)), none⟩, ⟨(some 28), (.mv (.t 1)), none⟩, ⟨(some 29), (.bin .add (.t 27) (.t 28)), none⟩, ⟨(some 30), (.ia 1 (.t 24) (.t 25)), none⟩, ⟨none, (.st 1 (.t 30) (.t 29)), none⟩]))) (.reg false [⟨(some 31), (.bin .add (.t 18) (.c (.int .i64 1))), none⟩, ⟨(some 18), (.mv (.t 31)), none⟩]))))))) (.seq (.seq (.reg false [⟨(some 32), (.mv (.t 6)), none⟩, ⟨(some 33), (.call (.f 47) [(.t 32)]), none⟩, ⟨(some 34), (.un .not (.t 33)), none⟩]) (.cond (.t 34) (.seq (.reg false [⟨(some 4), (.mv (.c .nilsl)), none⟩, ⟨(some 5), (.mv (.c (.int .i64 3))), none⟩]) .ret) .skip)) (.seq (.reg false [⟨(some 35), (.mv (.t 6)), none⟩, ⟨(some 4), (.mv (.t 35)), none⟩, ⟨(some 5), (.mv (.c (.int .i64 0))), none⟩]) .ret))))))), 36, [(.t 4), (.t 5)]⟩
theorem k_impl_AddMatrices : compF Try.prog Try.f39 = some c_impl_AddMatrices := by kernel_rfl
def c_spec_AddMatrices : F := ⟨(.seq (.reg false [⟨(some 4), (.mv (.c .nilsl)), none⟩, ⟨(some 5), (.mv (.c (.int .i64 0))), none⟩]) (.seq (.block 0 (.seq (.reg false [⟨(some 10), (.mv (.t 0)), none⟩, ⟨(some 11), (.call (.f 56) [(.t 10)]), none⟩, ⟨(some 12), (.un .not (.t 11)), none⟩, ⟨(some 9), (.mv (.t 12)), none⟩]) (.cond (.t 9) (.seq (.reg false [⟨(some 4), (.mv (.c .nilsl)), none⟩, ⟨(some 5), (.mv (.c (.int .i64 1))), none⟩]) .ret) (.seq (.reg false [⟨(some 14), (.mv (.t 1)), none⟩, ⟨(some 15), (.call (.f 57) [(.t 14), (.c (.int .i64 0)), (.c (.int .i64 20))]), none⟩, ⟨(some 16), (.un .not (.t 15)), none⟩, ⟨(some 13), (.mv (.t 16)), none⟩]) (.cond (.t 13) (.seq (.reg false [⟨(some 4), (.mv (.c .nilsl)), none⟩, ⟨(some 5), (.mv (.c (.int .i64 2))), none⟩]) .ret) .skip))))) (.seq (.reg false [⟨(some 17), (.lit 29 1 0 [.nilsl] []), none⟩, ⟨(some 6), (.mv (.t 17)), none⟩]) (.seq (.seq (.reg false [⟨(some 7), (.mv (.c (.int .i64 0))), none⟩]) (.block 1 (.loop (.seq (.seq (.reg false [⟨(some 18), (.mv (.t 7)), none⟩, ⟨(some 19), (.mv (.t 0)), none⟩, ⟨(some 20), (.len (.t 19)), none⟩, ⟨(some 21), (.bin .lss (.t 18) (.t 20)), none⟩]) (.cond (.t 21) .skip (.exit 1))) (.seq (.block 2 (.seq (.reg false [⟨(some 24), (.mv (.t 0)), none⟩, ⟨(some 25), (.mv (.t 7)), none⟩, ⟨(some 26), (.ia 1 (.t 24) (.t 25)), none⟩, ⟨(some 27), (.ld1 (.t 26)), none⟩, ⟨(some 28), (.call (.f 88) [(.t 27)]), none⟩, ⟨(some 8), (.mv (.t 28)), none⟩]) (.seq (.reg false [⟨(some 29), (.mv (.t 8)), none⟩, ⟨(some 30), (.mv (.t 7)), none⟩, ⟨(some 31), (.mv (.t 8)), none⟩, ⟨(some 32), (.mv (.t 7)), none⟩, ⟨(some 33), (.ia 1 (.t 31) (.t 32)), none⟩, ⟨(some 34), (.ld1 (.t 33)), none⟩, ⟨(some 35), (.mv (.t 1)), none⟩, ⟨(some 36), (.bin .add (.t 34) (.t 35)), none⟩, ⟨(some 37), (.ia 1 (.t 29) (.t 30)), none⟩, ⟨none, (.st 1 (.t 37) (.t 36)), none⟩]) (.reg false [⟨(some 38), (.mv (.t 6)), none⟩, ⟨(some 39), (.mv (.t 8)), none⟩, ⟨(some 40), (.lit 29 1 1 [.nilsl] [(0, (.t 39))]), none⟩, ⟨(some 41), (.app 29 1 24 [.nilsl] (.t 38) (.t 40)), none⟩, ⟨(some 6), (.mv (.t 41)), none⟩])))) (.reg false [⟨(some 22), (.mv (.t 7)), none⟩, ⟨(some 23), (.bin .add (.t 22) (.c (.int .i64 1))), none⟩, ⟨(some 7), (.mv (.t 23)), none⟩])))))) (.seq (.seq (.reg false [⟨(some 42), (.mv (.t 6)), none⟩, ⟨(some 43), (.call (.f 56) [(.t 42)]), none⟩, ⟨(some 44), (.un .not (.t 43)), none⟩]) (.cond (.t 44) (.seq (.reg false [⟨(some 4), (.mv (.c .nilsl)), none⟩, ⟨(some 5), (.mv (.c (.int .i64 3))), none⟩]) .ret) .skip)) (.seq (.reg false [⟨(some 45), (.mv (.t 6)), none⟩, ⟨(some 4), (.mv (.t 45)), none⟩, ⟨(some 5), (.mv (.c (.int .i64 0))), none⟩]) .ret)))))), 46, [(.t 4), (.t 5)]⟩
theorem k_spec_AddMatrices : compF Try.prog Try.f40 = some c_spec_AddMatrices := by kernel_rfl

def diag1 (ll : List (List Int)) (c : Int) (i : Nat) : List Int := (ll.getD i []).set i ((ll.getD i []).getD i 0 + c)
def addM (ll : List (List Int)) (c : Int) : List (List Int) := rowsOf ll.length (diag1 ll c)
def mixD (ll : List (List Int)) (c : Int) (i : Nat) : List (List Int) := rowsOf i (diag1 ll c) ++ ll.drop i
theorem mixD_len (ll : List (List Int)) (c : Int) (i : Nat) (hi : i ≤ ll.length) : (mixD ll c i).length = ll.length := by simp [mixD, rowsOf]; omega
theorem mixD_get (ll : List (List Int)) (c : Int) (i : Nat) (hi : i < ll.length) : (mixD ll c i).getD i [] = ll.getD i [] := by
  have h1 : (rowsOf i (diag1 ll c)).length = i := rowsOf_len ..
  simp [mixD, List.getD, List.getElem?_append_right, h1]
theorem mixD_set (ll : List (List Int)) (c : Int) (i : Nat) (hi : i < ll.length) : (mixD ll c i).set i (diag1 ll c i) = mixD ll c (i + 1) := by
  have h1 : (rowsOf i (diag1 ll c)).length = i := rowsOf_len ..
  rw [mixD, mixD, rowsOf_succ, List.set_append, if_neg (by omega), h1, Nat.sub_self, List.drop_eq_getElem_cons hi, List.set_cons_zero]
  simp
/-- Code and rows of AddMatrices. -/
def addC (ll : List (List Int)) (c : Int) : Int := if isMat ll = true then (if 0 ≤ c ∧ c ≤ 20 then (if isMat (addM ll c) = true then 0 else 3) else 2) else 1
def addR (ll : List (List Int)) (c : Int) : List (List Int) := if isMat ll = true ∧ (0 ≤ c ∧ c ≤ 20) ∧ isMat (addM ll c) = true then addM ll c else []
section
variable {lo hi : Nat} {h : AH} {v : AV} {vs : List AV} {ll : List (List Int)}
theorem no_rows {n n' : Nat} {h2 : AH} : Rows true n n' h2 .nilsl [] [] := ⟨Sl.nil, RowsV.nil, fun _ j hj => absurd hj (Nat.not_lt_zero _)⟩
theorem impl_AddMatrices (s : Rows true lo hi h v vs ll) (hl : ll.length ≤ 1048576) (hll : ∀ l ∈ ll, l.length ≤ 1048576) (c : Int) (n : Nat) (hn : hi ≤ n) :
    FQ Try.prog 39 [v, .int .i64 c] h n fun x h' n' => ∃ v' vs' r k, x = .tup [v', .int .i64 k] ∧ Rows true n n' h' v' vs' r ∧ r = addR ll c ∧ k = addC ll c := by
  refine fq_intro Try.func39 k_impl_AddMatrices ?_
  simp (maxSteps := 2000000) -implicitDefEqProofs (disch := omega) only [c_impl_AddMatrices, xsW, xsC, if_true, if_false, ite_true, ite_false, forall_const, ne_eq, beq_self_eq_true, bne_self_eq_false, imp_self, true_implies, false_implies, implies_true, evP, evE, ev, setD, Nat.reduceAdd, Nat.reduceSub, reduceCtorEq, fillA, cutA, Nat.reduceLeDiff, Nat.reduceMul, Int.reduceLT, Int.reduceLE, Int.reduceEq, Int.reduceNe, Int.reduceAdd, Int.reduceSub, Int.reduceMul, Int.reduceNeg, Int.reduceToNat]
  refine q_use (impl_IsMatrix s hl hll _ hn) fun n1 hn1 => ?_
  simp only [addR, addC]
  cases hm : isMat ll
  · simp (maxSteps := 2000000) -implicitDefEqProofs (disch := omega) only [xsW, xsC, if_true, if_false, ite_true, ite_false, forall_const, ne_eq, beq_self_eq_true, bne_self_eq_false, imp_self, true_implies, false_implies, implies_true, evP, evE, ev, setD, Nat.reduceAdd, Nat.reduceSub, reduceCtorEq, fillA, cutA, Nat.reduceLeDiff, Nat.reduceMul, Int.reduceLT, Int.reduceLE, Int.reduceEq, Int.reduceNe, Int.reduceAdd, Int.reduceSub, Int.reduceMul, Int.reduceNeg, Int.reduceToNat]
    intro _ h2 _
    exact ⟨.nilsl, [], [], 1, ⟨rfl, rfl⟩, no_rows, rfl, rfl⟩
  obtain ⟨hN1, hN⟩ := ((isMat_iff ll).1 hm).2
  simp (maxSteps := 2000000) -implicitDefEqProofs (disch := omega) only [xsW, xsC, if_true, if_false, ite_true, ite_false, forall_const, ne_eq, beq_self_eq_true, bne_self_eq_false, imp_self, true_implies, false_implies, implies_true, evP, evE, ev, setD, Nat.reduceAdd, Nat.reduceSub, reduceCtorEq, fillA, cutA, Nat.reduceLeDiff, Nat.reduceMul, Int.reduceLT, Int.reduceLE, Int.reduceEq, Int.reduceNe, Int.reduceAdd, Int.reduceSub, Int.reduceMul, Int.reduceNeg, Int.reduceToNat]
  refine q_use (impl_within _ _ _ _ _) fun n2 hn2 => ?_
  simp (maxSteps := 2000000) -implicitDefEqProofs (disch := omega) only [xsW, xsC, if_true, if_false, ite_true, ite_false, forall_const, ne_eq, beq_self_eq_true, bne_self_eq_false, imp_self, true_implies, false_implies, implies_true, evP, evE, ev, setD, Nat.reduceAdd, Nat.reduceSub, reduceCtorEq, fillA, cutA, Nat.reduceLeDiff, Nat.reduceMul, Int.reduceLT, Int.reduceLE, Int.reduceEq, Int.reduceNe, Int.reduceAdd, Int.reduceSub, Int.reduceMul, Int.reduceNeg, Int.reduceToNat]
  (refine cd_dec (fun c1 => ?_) (fun c1 => ?_) <;> simp (maxSteps := 2000000) -implicitDefEqProofs (disch := omega) only [xsW, xsC, if_true, if_false, ite_true, ite_false, forall_const, ne_eq, beq_self_eq_true, bne_self_eq_false, imp_self, true_implies, false_implies, implies_true, evP, evE, ev, setD, Nat.reduceAdd, Nat.reduceSub, reduceCtorEq, fillA, cutA, Nat.reduceLeDiff, Nat.reduceMul, Int.reduceLT, Int.reduceLE, Int.reduceEq, Int.reduceNe, Int.reduceAdd, Int.reduceSub, Int.reduceMul, Int.reduceNeg, Int.reduceToNat,  c1])
  · intro _ h2 _
    exact ⟨.nilsl, [], [], 2, ⟨rfl, rfl⟩, no_rows, rfl, rfl⟩
  refine fq_use (impl_copyRows s hl hll n2 (by omega)) fun o h0 n0' hn0 hs0 ⟨ws, ho⟩ => ?_
  simp (maxSteps := 2000000) -implicitDefEqProofs (disch := omega) only [xsW, xsC, if_true, if_false, ite_true, ite_false, forall_const, ne_eq, beq_self_eq_true, bne_self_eq_false, imp_self, true_implies, false_implies, implies_true, evP, evE, ev, setD, Nat.reduceAdd, Nat.reduceSub, reduceCtorEq, fillA, cutA, Nat.reduceLeDiff, Nat.reduceMul, Int.reduceLT, Int.reduceLE, Int.reduceEq, Int.reduceNe, Int.reduceAdd, Int.reduceSub, Int.reduceMul, Int.reduceNeg, Int.reduceToNat,  ho.ln]
  refine loop_for ll.length 0 (fun k hp => [v, .int .i64 c, .any, .any, .nilsl, .int .i64 0, o, .any, .any, .any, .any, .any, .any, .any, .any, .any, .any, .int .i64 ll.length, .int .i64 k, .any, .any, .any, .any, .any, .any, .any, .any, .any, .any, .any, .any, .any, .any, .any, .any, .any]) (fun k (hp : AH) => hp)
    (fun i hp m => Rows true n2 n0' hp o ws (mixD ll c i) ∧ (∀ j, j < n2 → hp j = h j) ∧ n0' ≤ m) h0 (Nat.zero_le _) ⟨by simpa [mixD, rowsOf] using ho, hs0, Nat.le_refl _⟩ (by simp [LeL, Le1]) (fun _ _ h => h) ?_
  rintro i hp m - hi1 hm1 ⟨g1, g2, g3⟩
  have hlen := mixD_len ll c i hi1
  simp (maxSteps := 2000000) -implicitDefEqProofs (disch := omega) only [xsW, xsC, if_true, if_false, ite_true, ite_false, forall_const, ne_eq, beq_self_eq_true, bne_self_eq_false, imp_self, true_implies, false_implies, implies_true, evP, evE, ev, setD, Nat.reduceAdd, Nat.reduceSub, reduceCtorEq, fillA, cutA, Nat.reduceLeDiff, Nat.reduceMul, Int.reduceLT, Int.reduceLE, Int.reduceEq, Int.reduceNe, Int.reduceAdd, Int.reduceSub, Int.reduceMul, Int.reduceNeg, Int.reduceToNat]
  (refine cd_dec (fun c2 => ?_) (fun c2 => ?_) <;> simp (maxSteps := 2000000) -implicitDefEqProofs (disch := omega) only [xsW, xsC, if_true, if_false, ite_true, ite_false, forall_const, ne_eq, beq_self_eq_true, bne_self_eq_false, imp_self, true_implies, false_implies, implies_true, evP, evE, ev, setD, Nat.reduceAdd, Nat.reduceSub, reduceCtorEq, fillA, cutA, Nat.reduceLeDiff, Nat.reduceMul, Int.reduceLT, Int.reduceLE, Int.reduceEq, Int.reduceNe, Int.reduceAdd, Int.reduceSub, Int.reduceMul, Int.reduceNeg, Int.reduceToNat,  c2])
  · have hi2 : i < ll.length := by omega
    have hr := g1.row i (by omega)
    rw [mixD_get ll c i hi2] at hr
    have hrl := (hN i hi2).1
    have hw := (hN i hi2).2
    rw [within_iff] at hw
    have hwi := hw i (by omega)
    have e1 := fun x K => Ints.st hr (k := i) (x := x) (n0 := n) (n := m) (W := none') (by omega) (fun i a b => .inl (by omega)) (by omega) K
    simp (maxSteps := 2000000) -implicitDefEqProofs (disch := omega) only [xsW, xsC, if_true, if_false, ite_true, ite_false, forall_const, ne_eq, beq_self_eq_true, bne_self_eq_false, imp_self, true_implies, false_implies, implies_true, evP, evE, ev, setD, Nat.reduceAdd, Nat.reduceSub, reduceCtorEq, fillA, cutA, Nat.reduceLeDiff, Nat.reduceMul, Int.reduceLT, Int.reduceLE, Int.reduceEq, Int.reduceNe, Int.reduceAdd, Int.reduceSub, Int.reduceMul, Int.reduceNeg, Int.reduceToNat,  g1.ia, g1.ld, hlen, hr.ia, hr.ld, hrl, e1]
    refine ⟨_, ⟨?_, fun j hj => ?_, by omega⟩, by omega, by omega, (by simp [LeL, Le1]), fun _ _ h => h⟩
    · have g4 := g1.wr (i := i) (k := i) (by omega) (by rw [mixD_get ll c i hi2]; omega) ((ll.getD i []).getD i 0 + c)
      rw [mixD_get ll c i hi2] at g4
      rw [show (ll.getD i []).set i ((ll.getD i []).getD i 0 + c) = diag1 ll c i from rfl, mixD_set ll c i hi2] at g4
      exact g4
    · have hown := Sl.own hr (Sl.isReal hr (by
        intro e'
        have := hr.slen
        rw [e'] at this
        change 0 = _ at this
        omega))
      rw [wr_other (by omega), g2 j hj]
  · have e : i = ll.length := by omega
    subst e
    have e2 : mixD ll c ll.length = addM ll c := by simp [mixD, addM]
    rw [e2] at g1
    have hbl : (addM ll c).length ≤ 1048576 := by rw [addM, rowsOf_len]; omega
    have hbb : ∀ l ∈ addM ll c, l.length ≤ 1048576 := by
      intro l hl
      simp only [addM, rowsOf, List.mem_map, List.mem_range] at hl
      obtain ⟨k, hk, rfl⟩ := hl
      have := (hN k hk).1
      simp only [diag1, List.length_set]
      omega
    refine q_use (impl_IsMatrix g1 hbl hbb _ (by omega)) fun n5 hn5 => ?_
    cases hm2 : isMat (addM ll c)
    · simp (maxSteps := 2000000) -implicitDefEqProofs (disch := omega) only [xsW, xsC, if_true, if_false, ite_true, ite_false, forall_const, ne_eq, beq_self_eq_true, bne_self_eq_false, imp_self, true_implies, false_implies, implies_true, evP, evE, ev, setD, Nat.reduceAdd, Nat.reduceSub, reduceCtorEq, fillA, cutA, Nat.reduceLeDiff, Nat.reduceMul, Int.reduceLT, Int.reduceLE, Int.reduceEq, Int.reduceNe, Int.reduceAdd, Int.reduceSub, Int.reduceMul, Int.reduceNeg, Int.reduceToNat]
      intro _ h2 _
      exact ⟨.nilsl, [], [], 3, ⟨rfl, rfl⟩, no_rows, by simp, by rw [if_pos (Decidable.not_not.1 c1)]⟩
    · simp (maxSteps := 2000000) -implicitDefEqProofs (disch := omega) only [xsW, xsC, if_true, if_false, ite_true, ite_false, forall_const, ne_eq, beq_self_eq_true, bne_self_eq_false, imp_self, true_implies, false_implies, implies_true, evP, evE, ev, setD, Nat.reduceAdd, Nat.reduceSub, reduceCtorEq, fillA, cutA, Nat.reduceLeDiff, Nat.reduceMul, Int.reduceLT, Int.reduceLE, Int.reduceEq, Int.reduceNe, Int.reduceAdd, Int.reduceSub, Int.reduceMul, Int.reduceNeg, Int.reduceToNat]
      intro _ h2 hh
      exact ⟨o, ws, _, 0, ⟨rfl, rfl⟩, (g1.keep fun i a b => hh i (by omega) (by omega)).wide (by omega) (by omega), by rw [if_pos (Decidable.not_not.1 c1)], by rw [if_pos (Decidable.not_not.1 c1)]⟩
theorem spec_AddMatrices (s : Rows true lo hi h v vs ll) (hl : ll.length ≤ 1048576) (c : Int) (n : Nat) (hn : hi ≤ n) :
    FQ Try.prog 40 [v, .int .i64 c] h n fun x h' n' => ∃ v' vs' r k, x = .tup [v', .int .i64 k] ∧ Rows true n n' h' v' vs' r ∧ r = addR ll c ∧ k = addC ll c := by
  refine fq_intro Try.func40 k_spec_AddMatrices ?_
  simp (maxSteps := 2000000) -implicitDefEqProofs (disch := omega) only [c_spec_AddMatrices, xsW, xsC, if_true, if_false, ite_true, ite_false, forall_const, ne_eq, beq_self_eq_true, bne_self_eq_false, imp_self, true_implies, false_implies, implies_true, evP, evE, ev, setD, Nat.reduceAdd, Nat.reduceSub, reduceCtorEq, fillA, cutA, Nat.reduceLeDiff, Nat.reduceMul, Int.reduceLT, Int.reduceLE, Int.reduceEq, Int.reduceNe, Int.reduceAdd, Int.reduceSub, Int.reduceMul, Int.reduceNeg, Int.reduceToNat]
  refine q_use (spec_l01Matrix s hl _) fun n1 hn1 => ?_
  simp only [addR, addC]
  cases hm : isMat ll
  · simp (maxSteps := 2000000) -implicitDefEqProofs (disch := omega) only [xsW, xsC, if_true, if_false, ite_true, ite_false, forall_const, ne_eq, beq_self_eq_true, bne_self_eq_false, imp_self, true_implies, false_implies, implies_true, evP, evE, ev, setD, Nat.reduceAdd, Nat.reduceSub, reduceCtorEq, fillA, cutA, Nat.reduceLeDiff, Nat.reduceMul, Int.reduceLT, Int.reduceLE, Int.reduceEq, Int.reduceNe, Int.reduceAdd, Int.reduceSub, Int.reduceMul, Int.reduceNeg, Int.reduceToNat]
    intro _ h2 _
    exact ⟨.nilsl, [], [], 1, ⟨rfl, rfl⟩, no_rows, rfl, rfl⟩
  obtain ⟨hN1, hN⟩ := ((isMat_iff ll).1 hm).2
  simp (maxSteps := 2000000) -implicitDefEqProofs (disch := omega) only [xsW, xsC, if_true, if_false, ite_true, ite_false, forall_const, ne_eq, beq_self_eq_true, bne_self_eq_false, imp_self, true_implies, false_implies, implies_true, evP, evE, ev, setD, Nat.reduceAdd, Nat.reduceSub, reduceCtorEq, fillA, cutA, Nat.reduceLeDiff, Nat.reduceMul, Int.reduceLT, Int.reduceLE, Int.reduceEq, Int.reduceNe, Int.reduceAdd, Int.reduceSub, Int.reduceMul, Int.reduceNeg, Int.reduceToNat]
  refine q_use (spec_l01In _ _ _ _ _) fun n2 hn2 => ?_
  simp (maxSteps := 2000000) -implicitDefEqProofs (disch := omega) only [xsW, xsC, if_true, if_false, ite_true, ite_false, forall_const, ne_eq, beq_self_eq_true, bne_self_eq_false, imp_self, true_implies, false_implies, implies_true, evP, evE, ev, setD, Nat.reduceAdd, Nat.reduceSub, reduceCtorEq, fillA, cutA, Nat.reduceLeDiff, Nat.reduceMul, Int.reduceLT, Int.reduceLE, Int.reduceEq, Int.reduceNe, Int.reduceAdd, Int.reduceSub, Int.reduceMul, Int.reduceNeg, Int.reduceToNat]
  (refine cd_dec (fun c1 => ?_) (fun c1 => ?_) <;> simp (maxSteps := 2000000) -implicitDefEqProofs (disch := omega) only [xsW, xsC, if_true, if_false, ite_true, ite_false, forall_const, ne_eq, beq_self_eq_true, bne_self_eq_false, imp_self, true_implies, false_implies, implies_true, evP, evE, ev, setD, Nat.reduceAdd, Nat.reduceSub, reduceCtorEq, fillA, cutA, Nat.reduceLeDiff, Nat.reduceMul, Int.reduceLT, Int.reduceLE, Int.reduceEq, Int.reduceNe, Int.reduceAdd, Int.reduceSub, Int.reduceMul, Int.reduceNeg, Int.reduceToNat,  c1])
  · intro _ h2 _
    exact ⟨.nilsl, [], [], 2, ⟨rfl, rfl⟩, no_rows, rfl, rfl⟩
  refine loop_for ll.length 0 (fun k p => [v, .int .i64 c, .any, .any, .nilsl, .int .i64 0, p.1, .int .i64 k, .any, .any, .any, .any, .any, .any, .any, .any, .any, .any, .any, .any, .any, .any, .any, .any, .any, .any, .any, .any, .any, .any, .any, .any, .any, .any, .any, .any, .any, .any, .any, .any, .any, .any, .any, .any, .any, .any]) (fun k (p : AV × List AV × AH) => p.2.2)
    (fun i p m => Grow n2 m h p.2.2 29 p.1 p.2.1 (rowsOf i (diag1 ll c))) (.sl n2 0 0 0, [], _) (Nat.zero_le _) (Grow.start0 rfl) (by simp [LeL, Le1]) (fun _ _ h => h) ?_
  rintro i ⟨out, ws, hp⟩ m - hi1 hm1 g
  simp only at g
  have hold := g.old
  simp (maxSteps := 2000000) -implicitDefEqProofs (disch := omega) only [xsW, xsC, if_true, if_false, ite_true, ite_false, forall_const, ne_eq, beq_self_eq_true, bne_self_eq_false, imp_self, true_implies, false_implies, implies_true, evP, evE, ev, setD, Nat.reduceAdd, Nat.reduceSub, reduceCtorEq, fillA, cutA, Nat.reduceLeDiff, Nat.reduceMul, Int.reduceLT, Int.reduceLE, Int.reduceEq, Int.reduceNe, Int.reduceAdd, Int.reduceSub, Int.reduceMul, Int.reduceNeg, Int.reduceToNat,  s.ln]
  (refine cd_dec (fun c2 => ?_) (fun c2 => ?_) <;> simp (maxSteps := 2000000) -implicitDefEqProofs (disch := omega) only [xsW, xsC, if_true, if_false, ite_true, ite_false, forall_const, ne_eq, beq_self_eq_true, bne_self_eq_false, imp_self, true_implies, false_implies, implies_true, evP, evE, ev, setD, Nat.reduceAdd, Nat.reduceSub, reduceCtorEq, fillA, cutA, Nat.reduceLeDiff, Nat.reduceMul, Int.reduceLT, Int.reduceLE, Int.reduceEq, Int.reduceNe, Int.reduceAdd, Int.reduceSub, Int.reduceMul, Int.reduceNeg, Int.reduceToNat,  c2])
  · have hi2 : i < ll.length := by omega
    have hri := s.row i hi2
    have hrl := (hN i hi2).1
    have hb := s.out.below (by rw [s.slen]; omega)
    have hw := (hN i hi2).2
    rw [within_iff] at hw
    have hwi := hw i (by omega)
    simp (maxSteps := 2000000) -implicitDefEqProofs (disch := omega) only [xsW, xsC, if_true, if_false, ite_true, ite_false, forall_const, ne_eq, beq_self_eq_true, bne_self_eq_false, imp_self, true_implies, false_implies, implies_true, evP, evE, ev, setD, Nat.reduceAdd, Nat.reduceSub, reduceCtorEq, fillA, cutA, Nat.reduceLeDiff, Nat.reduceMul, Int.reduceLT, Int.reduceLE, Int.reduceEq, Int.reduceNe, Int.reduceAdd, Int.reduceSub, Int.reduceMul, Int.reduceNeg, Int.reduceToNat,  s.ia, s.ld, hold]
    refine fq_use (spec_l01Own (hri.keep (fun i _ hi9 => by simp (disch := omega) only [upd_other, hold])) (by omega) m (by omega)) fun v3 h3 n3 hn3 hs3 hv3 => ?_
    have e1 := fun x K => Ints.st hv3 (k := i) (x := x) (n0 := n) (n := n3) (W := none') (by omega) (fun i a b => .inl (by omega)) (by omega) K
    have o1 := one_any (Sl.any hv3)
    have o2 := sto_any (Sl.any hv3)
    have o3 := cel_any (Sl.any hv3)
    simp (maxSteps := 2000000) -implicitDefEqProofs (disch := omega) only [xsW, xsC, if_true, if_false, ite_true, ite_false, forall_const, ne_eq, beq_self_eq_true, bne_self_eq_false, imp_self, true_implies, false_implies, implies_true, evP, evE, ev, setD, Nat.reduceAdd, Nat.reduceSub, reduceCtorEq, fillA, cutA, Nat.reduceLeDiff, Nat.reduceMul, Int.reduceLT, Int.reduceLE, Int.reduceEq, Int.reduceNe, Int.reduceAdd, Int.reduceSub, Int.reduceMul, Int.reduceNeg, Int.reduceToNat,  hv3.ia, hv3.ld, e1, o1, o2, o3]
    have g4 := hv3.wr (k := i) (by omega) ((ll.getD i []).getD i 0 + c)
    have hsl : isSl v3 = true := Sl.isReal hv3 (by
      intro e'
      have := hv3.slen
      rw [e'] at this
      change 0 = _ at this
      omega)
    have hown := Sl.own hv3 hsl
    refine g.app (l := diag1 ll c i) (g4.keep (fun i _ hi9 => by simp (disch := omega) only [upd_other])) (fun j hj => by rw [upd_other (by omega), wr_other (by omega), hs3 j hj]) (by omega) (by omega) (by omega) ⟨rfl, _, upd_same _ _ _, by simp, by simp [cutA]⟩ (by rw [rowsOf_len]; omega) fun out' h' n' q1 q2 => ?_
    simp (maxSteps := 2000000) -implicitDefEqProofs (disch := omega) only [xsW, xsC, if_true, if_false, ite_true, ite_false, forall_const, ne_eq, beq_self_eq_true, bne_self_eq_false, imp_self, true_implies, false_implies, implies_true, evP, evE, ev, setD, Nat.reduceAdd, Nat.reduceSub, reduceCtorEq, fillA, cutA, Nat.reduceLeDiff, Nat.reduceMul, Int.reduceLT, Int.reduceLE, Int.reduceEq, Int.reduceNe, Int.reduceAdd, Int.reduceSub, Int.reduceMul, Int.reduceNeg, Int.reduceToNat]
    exact ⟨(out', ws ++ [v3], h'), by rw [rowsOf_succ]; exact q2, by omega, by omega, (by simp [LeL, Le1]), fun _ _ h => h⟩
  · have e : i = ll.length := by omega
    subst e
    have g1 := g.rowsOf (h2 := hp) fun _ _ _ => rfl
    refine q_use (spec_l01Matrix g1 (by rw [rowsOf_len]; omega) _) fun n5 hn5 => ?_
    rw [show rowsOf ll.length (diag1 ll c) = addM ll c from rfl] at *
    cases hm2 : isMat (addM ll c)
    · simp (maxSteps := 2000000) -implicitDefEqProofs (disch := omega) only [xsW, xsC, if_true, if_false, ite_true, ite_false, forall_const, ne_eq, beq_self_eq_true, bne_self_eq_false, imp_self, true_implies, false_implies, implies_true, evP, evE, ev, setD, Nat.reduceAdd, Nat.reduceSub, reduceCtorEq, fillA, cutA, Nat.reduceLeDiff, Nat.reduceMul, Int.reduceLT, Int.reduceLE, Int.reduceEq, Int.reduceNe, Int.reduceAdd, Int.reduceSub, Int.reduceMul, Int.reduceNeg, Int.reduceToNat]
      intro _ h2 _
      exact ⟨.nilsl, [], [], 3, ⟨rfl, rfl⟩, no_rows, by simp, by rw [if_pos (Decidable.not_not.1 c1)]⟩
    · simp (maxSteps := 2000000) -implicitDefEqProofs (disch := omega) only [xsW, xsC, if_true, if_false, ite_true, ite_false, forall_const, ne_eq, beq_self_eq_true, bne_self_eq_false, imp_self, true_implies, false_implies, implies_true, evP, evE, ev, setD, Nat.reduceAdd, Nat.reduceSub, reduceCtorEq, fillA, cutA, Nat.reduceLeDiff, Nat.reduceMul, Int.reduceLT, Int.reduceLE, Int.reduceEq, Int.reduceNe, Int.reduceAdd, Int.reduceSub, Int.reduceMul, Int.reduceNeg, Int.reduceToNat]
      intro _ h2 hh
      exact ⟨out, ws, _, 0, ⟨rfl, rfl⟩, (g1.keep fun i a b => hh i (by omega) (by omega)).wide (by omega) (by omega), by rw [if_pos (Decidable.not_not.1 c1)], by rw [if_pos (Decidable.not_not.1 c1)]⟩
end
end Go.Proofs.Ytkpibnhddhdooaa.L
/- Contracts: determinants by the first row (the reference's), and what a slice of a row is. -/
namespace Go.Proofs.Ytkpibnhddhdooaa.L
open Go
set_option linter.unusedSimpArgs false
set_option linter.unusedVariables false
def c_spec_l01Det : F := ⟨(.seq (.reg false [⟨(some 2), (.mv (.c (.int .i64 0))), none⟩]) (.seq (.seq (.reg false [⟨(some 8), (.mv (.t 0)), none⟩, ⟨(some 9), (.len (.t 8)), none⟩, ⟨(some 10), (.bin .eql (.t 9) (.c (.int .i64 0))), none⟩]) (.cond (.t 10) (.seq (.reg false [⟨(some 2), (.mv (.c (.int .i64 1))), none⟩]) .ret) .skip)) (.seq (.reg false [⟨(some 3), (.mv (.c (.int .i64 0))), none⟩]) (.seq (.seq (.reg false [⟨(some 4), (.mv (.c (.int .i64 0))), none⟩]) (.block 0 (.loop (.seq (.seq (.reg false [⟨(some 11), (.mv (.t 4)), none⟩, ⟨(some 12), (.mv (.t 0)), none⟩, ⟨(some 13), (.len (.t 12)), none⟩, ⟨(some 14), (.bin .lss (.t 11) (.t 13)), none⟩]) (.cond (.t 14) .skip (.exit 0))) (.seq (.block 1 (.seq (.seq (.reg false [⟨(some 17), (.mv (.t 0)), none⟩, ⟨(some 18), (.ia 1 (.t 17) (.c (.int .i64 0))), none⟩, ⟨(some 19), (.ld1 (.t 18)), none⟩, ⟨(some 20), (.mv (.t 4)), none⟩, ⟨(some 21), (.ia 1 (.t 19) (.t 20)), none⟩, ⟨(some 22), (.ld1 (.t 21)), none⟩, ⟨(some 23), (.bin .eql (.t 22) (.c (.int .i64 0))), none⟩]) (.cond (.t 23) (.exit 1) .skip)) (.seq (.reg false [⟨(some 24), (.lit 29 1 0 [.nilsl] []), none⟩, ⟨(some 5), (.mv (.t 24)), none⟩]) (.seq (.seq (.reg false [⟨(some 6), (.mv (.c (.int .i64 1))), none⟩]) (.block 2 (.loop (.seq (.seq (.reg false [⟨(some 25), (.mv (.t 6)), none⟩, ⟨(some 26), (.mv (.t 0)), none⟩, ⟨(some 27), (.len (.t 26)), none⟩, ⟨(some 28), (.bin .lss (.t 25) (.t 27)), none⟩]) (.cond (.t 28) .skip (.exit 2))) (.seq (.block 3 (.reg true [⟨(some 31), (.mv (.t 5)), none⟩, ⟨(some 32), (.mv (.t 0)), none⟩, ⟨(some 33), (.mv (.t 6)), none⟩, ⟨(some 34), (.ia 1 (.t 32) (.t 33)), none⟩, ⟨(some 35), (.ld1 (.t 34)), none⟩, ⟨(some 36), (.mv (.t 4)), none⟩, ⟨(some 37), (.slc 1 (.t 35) none (some (.t 36)) none), none⟩, ⟨(some 39), (.mv (.t 0)), none⟩, ⟨(some 40), (.mv (.t 6)), none⟩, ⟨(some 41), (.ia 1 (.t 39) (.t 40)), none⟩, ⟨(some 42), (.ld1 (.t 41)), none⟩, ⟨(some 43), (.mv (.t 4)), none⟩, ⟨(some 44), (.bin .add (.t 43) (.c (.int .i64 1))), none⟩, ⟨(some 45), (.slc 1 (.t 42) (some (.t 44)) none none), none⟩, ⟨(some 38), (.call (.f 88) [(.t 37)]), none⟩, ⟨(some 46), (.app 2 1 8 [(.int .i64 0)] (.t 38) (.t 45)), none⟩, ⟨(some 47), (.lit 29 1 1 [.nilsl] [(0, (.t 46))]), none⟩, ⟨(some 48), (.app 29 1 24 [.nilsl] (.t 31) (.t 47)), none⟩, ⟨(some 5), (.mv (.t 48)), none⟩])) (.reg false [⟨(some 29), (.mv (.t 6)), none⟩, ⟨(some 30), (.bin .add (.t 29) (.c (.int .i64 1))), none⟩, ⟨(some 6), (.mv (.t 30)), none⟩])))))) (.seq (.reg true [⟨(some 49), (.mv (.t 0)), none⟩, ⟨(some 50), (.ia 1 (.t 49) (.c (.int .i64 0))), none⟩, ⟨(some 51), (.ld1 (.t 50)), none⟩, ⟨(some 52), (.mv (.t 4)), none⟩, ⟨(some 53), (.ia 1 (.t 51) (.t 52)), none⟩, ⟨(some 54), (.ld1 (.t 53)), none⟩, ⟨(some 55), (.mv (.t 5)), none⟩, ⟨(some 56), (.call (.f 114) [(.t 55)]), none⟩, ⟨(some 57), (.bin .mul (.t 54) (.t 56)), none⟩, ⟨(some 7), (.mv (.t 57)), none⟩]) (.seq (.seq (.reg false [⟨(some 58), (.mv (.t 4)), none⟩, ⟨(some 59), (.bin .rem (.t 58) (.c (.int .i64 2))), none⟩, ⟨(some 60), (.bin .eql (.t 59) (.c (.int .i64 1))), none⟩]) (.cond (.t 60) (.reg false [⟨(some 61), (.mv (.t 7)), none⟩, ⟨(some 62), (.un .neg (.t 61)), none⟩, ⟨(some 7), (.mv (.t 62)), none⟩]) .skip)) (.reg false [⟨(some 63), (.mv (.t 3)), none⟩, ⟨(some 64), (.mv (.t 7)), none⟩, ⟨(some 65), (.bin .add (.t 63) (.t 64)), none⟩, ⟨(some 3), (.mv (.t 65)), none⟩]))))))) (.reg false [⟨(some 15), (.mv (.t 4)), none⟩, ⟨(some 16), (.bin .add (.t 15) (.c (.int .i64 1))), none⟩, ⟨(some 4), (.mv (.t 16)), none⟩])))))) (.seq (.reg false [⟨(some 66), (.mv (.t 3)), none⟩, ⟨(some 2), (.mv (.t 66)), none⟩]) .ret))))), 67, [(.t 2)]⟩
theorem k_spec_l01Det : compF Try.prog Try.f114 = some c_spec_l01Det := by kernel_rfl

theorem spec_l01OwnA {w : Bool} {lo hi : Nat} {h : AH} {v : AV} {l : List Int} (s : Ints w lo hi h v l) (hl : l.length ≤ 1048576) (n : Nat) (hn : hi ≤ n) :
    FQ Try.prog 88 [v] h n fun v' h' n' => Acc n n' h' 2 1 v' (ints l) := by
  refine fq_intro Try.func88 k_spec_l01Own ?_
  simp (maxSteps := 2000000) -implicitDefEqProofs (disch := omega) only [c_spec_l01Own, xsW, xsC, if_true, if_false, ite_true, ite_false, forall_const, ne_eq, beq_self_eq_true, bne_self_eq_false, imp_self, true_implies, false_implies, implies_true, evP, evE, ev, setD, Nat.reduceAdd, Nat.reduceSub, reduceCtorEq, fillA, cutA, Nat.reduceLeDiff, Nat.reduceMul, Int.reduceLT, Int.reduceLE, Int.reduceEq, Int.reduceNe, Int.reduceAdd, Int.reduceSub, Int.reduceMul, Int.reduceNeg, Int.reduceToNat]
  refine app_acc (lo := n) (Acc.empty (upd_same _ _ _) rfl (Nat.le_refl _) (by omega)) (Nat.le_refl _) (by omega) (Sl.src (s.keep (fun i _ hi9 => by simp (disch := omega) only [upd_other]))) (by rw [Sl.len s]) (ints_one l) (by rw [s.slen]; simp [slen]; omega) fun v' h' n' g1 g2 g3 g4 g5 g6 => ?_
  simp (maxSteps := 2000000) -implicitDefEqProofs (disch := omega) only [xsW, xsC, if_true, if_false, ite_true, ite_false, forall_const, ne_eq, beq_self_eq_true, bne_self_eq_false, imp_self, true_implies, false_implies, implies_true, evP, evE, ev, setD, Nat.reduceAdd, Nat.reduceSub, reduceCtorEq, fillA, cutA, Nat.reduceLeDiff, Nat.reduceMul, Int.reduceLT, Int.reduceLE, Int.reduceEq, Int.reduceNe, Int.reduceAdd, Int.reduceSub, Int.reduceMul, Int.reduceNeg, Int.reduceToNat]
  intro _ h2 hh
  exact g3.keep fun i a b => hh i a b
theorem ints_take (l : List Int) (k : Nat) : (ints l).take k = ints (l.take k) := by simp [ints]
theorem ints_drop (l : List Int) (k : Nat) : (ints l).drop k = ints (l.drop k) := by simp [ints]
theorem ints_append (l m : List Int) : ints l ++ ints m = ints (l ++ m) := by simp [ints]
theorem slen_ne {w : Bool} {lo hi : Nat} {h : AH} {v : AV} {l : List Int} (s : Ints w lo hi h v l) (hl : 0 < l.length) : v ≠ .sl0 ∧ v ≠ .nilsl := by
  have := s.slen
  constructor <;> intro e <;> (rw [e] at this; simp [slen] at this; omega)
theorem tm2 (k : Nat) : (k : Int).tmod 2 = ((k % 2 : Nat) : Int) := by rw [Int.tmod_eq_emod_of_nonneg (by omega)]; omega
/-- A row without the place k. -/
def cutRow (l : List Int) (k : Nat) : List Int := l.take k ++ l.drop (k + 1)
theorem cutRow_get (l : List Int) (k j : Nat) (hk : k < l.length) (hj : j + 1 < l.length) : (cutRow l k).getD j 0 = l.getD (sk k j) 0 := by
  unfold cutRow sk
  by_cases e : j < k
  · rw [if_pos e]
    simp only [List.getD, List.getElem?_append, List.length_take]
    rw [if_pos (by omega), List.getElem?_take, if_pos e]
  · rw [if_neg e]
    simp only [List.getD, List.getElem?_append, List.length_take]
    rw [if_neg (by omega), List.getElem?_drop]
    congr 2
    omega
theorem cutRow_len (l : List Int) (k : Nat) (hk : k < l.length) : (cutRow l k).length = l.length - 1 := by simp [cutRow]; omega
def restL (ll : List (List Int)) (k m : Nat) : List (List Int) := rowsOf m fun j => cutRow (ll.getD (j + 1) []) k
theorem restL_sq {n k : Nat} {ll : List (List Int)} (hs : Sq (n + 1) ll) (hk : k < n + 1) : Sq n (restL ll k n) := by
  refine ⟨rowsOf_len _ _, fun j hj => ?_⟩
  rw [restL, rowsOf_get hj, cutRow_len _ _ (by rw [hs.2 _ (by omega)]; exact hk), hs.2 _ (by omega)]; omega
theorem restL_at {n k : Nat} {ll : List (List Int)} (hs : Sq (n + 1) ll) (hk : k < n + 1) {r c : Nat} (hr : r < n) (hc : c < n) : mx (restL ll k n) r c = mi (mx ll) 0 k r c := by
  have h1 := hs.2 (r + 1) (by omega)
  simp only [mx, at2, mi, restL]
  rw [rowsOf_get hr, cutRow_get _ _ _ (by omega) (by omega)]
  rfl
theorem restL_lim {n k : Nat} {ll : List (List Int)} (hs : Sq (n + 1) ll) (hk : k < n + 1) (hl : ∃ q, Lim q (n + 1) (mx ll)) : ∃ q, Lim q n (mx (restL ll k n)) := by
  obtain ⟨q, hq⟩ := hl
  obtain ⟨q', h'⟩ := hq.sub (m := n) (sk 0) (sk k) (fun a ha => sk_lt ha) (fun a ha => sk_lt ha) (fun a b _ _ e => by unfold sk at e; grind)
  exact ⟨q', fun r c hr hc => by rw [restL_at hs hk hr hc]; exact h' r c hr hc⟩
theorem spec_l01Det (N : Nat) : ∀ {w : Bool} {lo hi : Nat} {h : AH} {v : AV} {vs : List AV} {ll : List (List Int)} (_ : Rows w lo hi h v vs ll) (_ : N ≤ 5) (_ : Sq N ll) (_ : ∃ q, Lim q N (mx ll)) (n : Nat) (_ : hi ≤ n),
    Q Try.prog 114 [v] h n (.int .i64 (det N (mx ll))) := by
  induction N with
  | zero =>
    intro w lo hi h v vs ll s hN hs hl n hn
    refine q_intro Try.func114 k_spec_l01Det ?_
    have hL := hs.1
    simp (maxSteps := 2000000) -implicitDefEqProofs (disch := omega) only [c_spec_l01Det, s.ln, xsW, xsC, if_true, if_false, ite_true, ite_false, forall_const, ne_eq, beq_self_eq_true, bne_self_eq_false, imp_self, true_implies, false_implies, implies_true, evP, evE, ev, setD, Nat.reduceAdd, Nat.reduceSub, reduceCtorEq, fillA, cutA, Nat.reduceLeDiff, Nat.reduceMul, Int.reduceLT, Int.reduceLE, Int.reduceEq, Int.reduceNe, Int.reduceAdd, Int.reduceSub, Int.reduceMul, Int.reduceNeg, Int.reduceToNat]
    simp [det]
  | succ N ih =>
    intro w lo hi h v vs ll s hN hs hl n hn
    refine q_intro Try.func114 k_spec_l01Det ?_
    have hL := hs.1
    obtain ⟨q, hq⟩ := hl
    have hT := Tm_le4 (n := N) (by omega)
    have term : ∀ k, k < N + 1 → 2 * (sg k * (mx ll) 0 k * det N (mi (mx ll) 0 k)).natAbs ≤ 12288000000 := fun k hk => by
      have := hq.term.2.2 k hk
      simp only [Nat.add_sub_cancel] at this
      omega
    have psum : ∀ k, k ≤ N + 1 → 2 * (sumTo k fun k => sg k * (mx ll) 0 k * det N (mi (mx ll) 0 k)).natAbs ≤ 61440000000 := fun k hk => by
      have := sumTo_abs (n := k) fun i hi => term i (by omega)
      omega
    simp (maxSteps := 2000000) -implicitDefEqProofs (disch := omega) only [c_spec_l01Det, s.ln, xsW, xsC, if_true, if_false, ite_true, ite_false, forall_const, ne_eq, beq_self_eq_true, bne_self_eq_false, imp_self, true_implies, false_implies, implies_true, evP, evE, ev, setD, Nat.reduceAdd, Nat.reduceSub, reduceCtorEq, fillA, cutA, Nat.reduceLeDiff, Nat.reduceMul, Int.reduceLT, Int.reduceLE, Int.reduceEq, Int.reduceNe, Int.reduceAdd, Int.reduceSub, Int.reduceMul, Int.reduceNeg, Int.reduceToNat]
    refine loop_for (N + 1) 0 (fun k _ => [v, .any, .int .i64 0, .int .i64 (sumTo k fun k => sg k * (mx ll) 0 k * det N (mi (mx ll) 0 k)), .int .i64 k, .any, .any, .any, .any, .any, .any, .any, .any, .any, .any, .any, .any, .any, .any, .any, .any, .any, .any, .any, .any, .any, .any, .any, .any, .any, .any, .any, .any, .any, .any, .any, .any, .any, .any, .any, .any, .any, .any, .any, .any, .any, .any, .any, .any, .any, .any, .any, .any, .any, .any, .any, .any, .any, .any, .any, .any, .any, .any, .any, .any, .any, .any]) (fun _ hp => hp)
      (fun k hp m => ∀ i, i < n → hp i = h i) h (Nat.zero_le _) (fun _ _ => rfl) (by simp [LeL, Le1, sumTo]) (fun _ _ h => h) ?_
    rintro k hp m - hk hm hold
    simp (maxSteps := 2000000) -implicitDefEqProofs (disch := omega) only [xsW, xsC, if_true, if_false, ite_true, ite_false, forall_const, ne_eq, beq_self_eq_true, bne_self_eq_false, imp_self, true_implies, false_implies, implies_true, evP, evE, ev, setD, Nat.reduceAdd, Nat.reduceSub, reduceCtorEq, fillA, cutA, Nat.reduceLeDiff, Nat.reduceMul, Int.reduceLT, Int.reduceLE, Int.reduceEq, Int.reduceNe, Int.reduceAdd, Int.reduceSub, Int.reduceMul, Int.reduceNeg, Int.reduceToNat,  s.ln]
    (refine cd_dec (fun c1 => ?_) (fun c1 => ?_) <;> simp (maxSteps := 2000000) -implicitDefEqProofs (disch := omega) only [xsW, xsC, if_true, if_false, ite_true, ite_false, forall_const, ne_eq, beq_self_eq_true, bne_self_eq_false, imp_self, true_implies, false_implies, implies_true, evP, evE, ev, setD, Nat.reduceAdd, Nat.reduceSub, reduceCtorEq, fillA, cutA, Nat.reduceLeDiff, Nat.reduceMul, Int.reduceLT, Int.reduceLE, Int.reduceEq, Int.reduceNe, Int.reduceAdd, Int.reduceSub, Int.reduceMul, Int.reduceNeg, Int.reduceToNat,  c1])
    · have hk2 : k < N + 1 := by omega
      have hb := s.out.below (by rw [s.slen]; omega)
      have hr0 := s.row 0 (by omega)
      have l0 := hs.2 0 (by omega)
      have hb0 := Sl.below hr0 (by rw [hr0.slen]; omega)
      have b1 := term k hk2
      have b2 := psum k hk
      have b3 := psum (k + 1) hk2
      rw [sumTo_succ] at b3
      simp (maxSteps := 2000000) -implicitDefEqProofs (disch := omega) only [xsW, xsC, if_true, if_false, ite_true, ite_false, forall_const, ne_eq, beq_self_eq_true, bne_self_eq_false, imp_self, true_implies, false_implies, implies_true, evP, evE, ev, setD, Nat.reduceAdd, Nat.reduceSub, reduceCtorEq, fillA, cutA, Nat.reduceLeDiff, Nat.reduceMul, Int.reduceLT, Int.reduceLE, Int.reduceEq, Int.reduceNe, Int.reduceAdd, Int.reduceSub, Int.reduceMul, Int.reduceNeg, Int.reduceToNat,  hold, s.ia, s.ld0, hr0.ia, hr0.ld]
      (refine cd_dec (fun c2 => ?_) (fun c2 => ?_) <;> simp (maxSteps := 2000000) -implicitDefEqProofs (disch := omega) only [xsW, xsC, if_true, if_false, ite_true, ite_false, forall_const, ne_eq, beq_self_eq_true, bne_self_eq_false, imp_self, true_implies, false_implies, implies_true, evP, evE, ev, setD, Nat.reduceAdd, Nat.reduceSub, reduceCtorEq, fillA, cutA, Nat.reduceLeDiff, Nat.reduceMul, Int.reduceLT, Int.reduceLE, Int.reduceEq, Int.reduceNe, Int.reduceAdd, Int.reduceSub, Int.reduceMul, Int.reduceNeg, Int.reduceToNat,  c2])
      · have e0 : mx ll 0 k = 0 := c2
        exact ⟨hp, hold, by omega, by omega, by simp [LeL, Le1, sumTo, e0], fun _ _ h => h⟩
      · refine loop_for (N + 1) 1 (fun i p => [v, .any, .int .i64 0, .int .i64 (sumTo k fun k => sg k * (mx ll) 0 k * det N (mi (mx ll) 0 k)), .int .i64 k, p.1, .int .i64 i, .any, .any, .any, .any, .any, .any, .any, .any, .any, .any, .any, .any, .any, .any, .any, .any, .any, .any, .any, .any, .any, .any, .any, .any, .any, .any, .any, .any, .any, .any, .any, .any, .any, .any, .any, .any, .any, .any, .any, .any, .any, .any, .any, .any, .any, .any, .any, .any, .any, .any, .any, .any, .any, .any, .any, .any, .any, .any, .any, .any]) (fun _ (p : AV × List AV × AH) => p.2.2)
          (fun i p m' => Grow m m' hp p.2.2 29 p.1 p.2.1 (restL ll k (i - 1))) (.sl m 0 0 0, [], _) (by omega) (Grow.start0 rfl) (by simp [LeL, Le1]) (fun _ _ h => h) ?_
        rintro i ⟨out, ws, hr⟩ mB hi1 hi2 hm2 g
        simp only at g
        have hold2 := g.old
        simp (maxSteps := 2000000) -implicitDefEqProofs (disch := omega) only [xsW, xsC, if_true, if_false, ite_true, ite_false, forall_const, ne_eq, beq_self_eq_true, bne_self_eq_false, imp_self, true_implies, false_implies, implies_true, evP, evE, ev, setD, Nat.reduceAdd, Nat.reduceSub, reduceCtorEq, fillA, cutA, Nat.reduceLeDiff, Nat.reduceMul, Int.reduceLT, Int.reduceLE, Int.reduceEq, Int.reduceNe, Int.reduceAdd, Int.reduceSub, Int.reduceMul, Int.reduceNeg, Int.reduceToNat,  s.ln]
        (refine cd_dec (fun c3 => ?_) (fun c3 => ?_) <;> simp (maxSteps := 2000000) -implicitDefEqProofs (disch := omega) only [xsW, xsC, if_true, if_false, ite_true, ite_false, forall_const, ne_eq, beq_self_eq_true, bne_self_eq_false, imp_self, true_implies, false_implies, implies_true, evP, evE, ev, setD, Nat.reduceAdd, Nat.reduceSub, reduceCtorEq, fillA, cutA, Nat.reduceLeDiff, Nat.reduceMul, Int.reduceLT, Int.reduceLE, Int.reduceEq, Int.reduceNe, Int.reduceAdd, Int.reduceSub, Int.reduceMul, Int.reduceNeg, Int.reduceToNat,  c3])
        · have hi3 : i < N + 1 := by omega
          have hri := s.row i (by omega)
          have li := hs.2 i hi3
          have hne := slen_ne hri (by omega)
          have hsl := hri.slen
          simp (maxSteps := 2000000) -implicitDefEqProofs (disch := omega) only [xsW, xsC, if_true, if_false, ite_true, ite_false, forall_const, ne_eq, beq_self_eq_true, bne_self_eq_false, imp_self, true_implies, false_implies, implies_true, evP, evE, ev, setD, Nat.reduceAdd, Nat.reduceSub, reduceCtorEq, fillA, cutA, Nat.reduceLeDiff, Nat.reduceMul, Int.reduceLT, Int.reduceLE, Int.reduceEq, Int.reduceNe, Int.reduceAdd, Int.reduceSub, Int.reduceMul, Int.reduceNeg, Int.reduceToNat,  hold2, hold, s.ia, s.ld]
          have hri2 := hri.keep (h' := hr) (fun i _ hi9 => by simp (disch := omega) only [upd_other, hold2, hold])
          refine Sl.shi hri2 hne.1 (by omega) (by omega) fun v1 hv1 _ _ => ?_
          rw [Nat.mul_one, ints_take] at hv1
          simp (maxSteps := 2000000) -implicitDefEqProofs (disch := omega) only [xsW, xsC, if_true, if_false, ite_true, ite_false, forall_const, ne_eq, beq_self_eq_true, bne_self_eq_false, imp_self, true_implies, false_implies, implies_true, evP, evE, ev, setD, Nat.reduceAdd, Nat.reduceSub, reduceCtorEq, fillA, cutA, Nat.reduceLeDiff, Nat.reduceMul, Int.reduceLT, Int.reduceLE, Int.reduceEq, Int.reduceNe, Int.reduceAdd, Int.reduceSub, Int.reduceMul, Int.reduceNeg, Int.reduceToNat,  hold2, hold, s.ia, s.ld]
          refine Sl.slo hri2 hne.1 (by omega) (by omega) fun v2 hv2 _ _ => ?_
          rw [Nat.mul_one, ints_drop] at hv2
          simp (maxSteps := 2000000) -implicitDefEqProofs (disch := omega) only [xsW, xsC, if_true, if_false, ite_true, ite_false, forall_const, ne_eq, beq_self_eq_true, bne_self_eq_false, imp_self, true_implies, false_implies, implies_true, evP, evE, ev, setD, Nat.reduceAdd, Nat.reduceSub, reduceCtorEq, fillA, cutA, Nat.reduceLeDiff, Nat.reduceMul, Int.reduceLT, Int.reduceLE, Int.reduceEq, Int.reduceNe, Int.reduceAdd, Int.reduceSub, Int.reduceMul, Int.reduceNeg, Int.reduceToNat]
          refine fq_use (spec_l01OwnA hv1 (by simp; omega) mB (by omega)) fun v3 h3 n3 hn3 hs3 a3 => ?_
          simp (maxSteps := 2000000) -implicitDefEqProofs (disch := omega) only [xsW, xsC, if_true, if_false, ite_true, ite_false, forall_const, ne_eq, beq_self_eq_true, bne_self_eq_false, imp_self, true_implies, false_implies, implies_true, evP, evE, ev, setD, Nat.reduceAdd, Nat.reduceSub, reduceCtorEq, fillA, cutA, Nat.reduceLeDiff, Nat.reduceMul, Int.reduceLT, Int.reduceLE, Int.reduceEq, Int.reduceNe, Int.reduceAdd, Int.reduceSub, Int.reduceMul, Int.reduceNeg, Int.reduceToNat]
          refine app_acc a3 (by omega) hn3 (Sl.src (Sl.keep hv2 (fun i _ hi9 => by simp (disch := omega) only [upd_other, hs3]))) (Sl.len hv2) (ints_one _) (by have h1 := a3.len; have h2 := Sl.len hv2; simp [ints] at h1 h2; omega) fun v4 h4 n4 q1 q2 q3 q4 q5 q6 => ?_
          rw [ints_append] at q3
          have o1 := one_any q3.any
          have o2 := sto_any q3.any
          have o3 := cel_any q3.any
          simp (maxSteps := 2000000) -implicitDefEqProofs (disch := omega) only [xsW, xsC, if_true, if_false, ite_true, ite_false, forall_const, ne_eq, beq_self_eq_true, bne_self_eq_false, imp_self, true_implies, false_implies, implies_true, evP, evE, ev, setD, Nat.reduceAdd, Nat.reduceSub, reduceCtorEq, fillA, cutA, Nat.reduceLeDiff, Nat.reduceMul, Int.reduceLT, Int.reduceLE, Int.reduceEq, Int.reduceNe, Int.reduceAdd, Int.reduceSub, Int.reduceMul, Int.reduceNeg, Int.reduceToNat,  o1, o2, o3]
          refine g.app (hB := upd h4 n4 _) (v1 := v4) (l := cutRow (ll.getD i []) k) (m1 := n4) ?_ (fun i hi9 => by simp (disch := omega) only [upd_other, q5, hs3]) (by omega) (by omega) (by omega) ⟨rfl, _, upd_same _ _ _, by simp, by simp [cutA]⟩ (by rw [restL, rowsOf_len]; omega) fun out' h' n' p1 p2 => ?_
          · have := (q3.sl.keep (h' := upd h4 n4 (some ⟨29, [v4], true, 0⟩)) (fun i _ hi9 => by simp (disch := omega) only [upd_other])).wide (lo' := mB) (hi' := n4) (by omega) (by omega)
            simpa [Ints, cutRow] using this
          · simp (maxSteps := 2000000) -implicitDefEqProofs (disch := omega) only [xsW, xsC, if_true, if_false, ite_true, ite_false, forall_const, ne_eq, beq_self_eq_true, bne_self_eq_false, imp_self, true_implies, false_implies, implies_true, evP, evE, ev, setD, Nat.reduceAdd, Nat.reduceSub, reduceCtorEq, fillA, cutA, Nat.reduceLeDiff, Nat.reduceMul, Int.reduceLT, Int.reduceLE, Int.reduceEq, Int.reduceNe, Int.reduceAdd, Int.reduceSub, Int.reduceMul, Int.reduceNeg, Int.reduceToNat]
            refine ⟨(out', ws ++ [v4], h'), ?_, by omega, by omega, (by simp [LeL, Le1]), fun _ _ h => h⟩
            have e : restL ll k (i + 1 - 1) = restL ll k (i - 1) ++ [cutRow (ll.getD i []) k] := by
              rw [show i + 1 - 1 = (i - 1) + 1 by omega, restL, rowsOf_succ, show i - 1 + 1 = i by omega]; rfl
            rw [e]; exact p2
        · have e : i - 1 = N := by omega
          rw [e] at g
          have hR := g.rowsOf (h2 := hr) fun _ _ _ => rfl
          simp (maxSteps := 2000000) -implicitDefEqProofs (disch := omega) only [xsW, xsC, if_true, if_false, ite_true, ite_false, forall_const, ne_eq, beq_self_eq_true, bne_self_eq_false, imp_self, true_implies, false_implies, implies_true, evP, evE, ev, setD, Nat.reduceAdd, Nat.reduceSub, reduceCtorEq, fillA, cutA, Nat.reduceLeDiff, Nat.reduceMul, Int.reduceLT, Int.reduceLE, Int.reduceEq, Int.reduceNe, Int.reduceAdd, Int.reduceSub, Int.reduceMul, Int.reduceNeg, Int.reduceToNat,  hold2, hold, s.ia, s.ld0, hr0.ia, hr0.ld]
          refine q_use (ih hR (by omega) (restL_sq hs hk2) (restL_lim hs hk2 ⟨q, hq⟩) mB (Nat.le_refl _)) fun n5 hn5 => ?_
          have eD : det N (mx (restL ll k N)) = det N (mi (mx ll) 0 k) := det_congr fun r c hr hc => restL_at hs hk2 hr hc
          rw [eD]
          have e1 : mx ll 0 k = (ll.getD 0 []).getD k 0 := rfl
          rw [e1, sg_even] at b1 b3
          by_cases e2 : k % 2 = 1
          · rw [if_pos e2] at b1 b3
            simp only [Int.neg_mul, Int.one_mul, Int.natAbs_neg] at b1 b3
            simp (maxSteps := 2000000) -implicitDefEqProofs (disch := omega) only [xsW, xsC, if_true, if_false, ite_true, ite_false, forall_const, ne_eq, beq_self_eq_true, bne_self_eq_false, imp_self, true_implies, false_implies, implies_true, evP, evE, ev, setD, Nat.reduceAdd, Nat.reduceSub, reduceCtorEq, fillA, cutA, Nat.reduceLeDiff, Nat.reduceMul, Int.reduceLT, Int.reduceLE, Int.reduceEq, Int.reduceNe, Int.reduceAdd, Int.reduceSub, Int.reduceMul, Int.reduceNeg, Int.reduceToNat,  tm2]
            refine ⟨hr, fun i hi => by rw [hold2 i (by omega), hold i hi], by omega, by omega, ?_, fun _ _ h => h⟩
            simp [LeL, Le1, sumTo, sg_even, e2, e1, Int.neg_mul]
          · rw [if_neg e2] at b1 b3
            simp only [Int.one_mul] at b1 b3
            simp (maxSteps := 2000000) -implicitDefEqProofs (disch := omega) only [xsW, xsC, if_true, if_false, ite_true, ite_false, forall_const, ne_eq, beq_self_eq_true, bne_self_eq_false, imp_self, true_implies, false_implies, implies_true, evP, evE, ev, setD, Nat.reduceAdd, Nat.reduceSub, reduceCtorEq, fillA, cutA, Nat.reduceLeDiff, Nat.reduceMul, Int.reduceLT, Int.reduceLE, Int.reduceEq, Int.reduceNe, Int.reduceAdd, Int.reduceSub, Int.reduceMul, Int.reduceNeg, Int.reduceToNat,  tm2]
            refine ⟨hr, fun i hi => by rw [hold2 i (by omega), hold i hi], by omega, by omega, ?_, fun _ _ h => h⟩
            simp [LeL, Le1, sumTo, sg_even, e2, e1, Int.neg_mul]
    · have e : k = N + 1 := by omega
      subst e
      rfl
end Go.Proofs.Ytkpibnhddhdooaa.L
