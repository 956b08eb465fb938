/- Contracts: marking and looking at marks. -/
import Derived.Test.YtkpibnhddhdooaaA3
import Derived.Test.YtkpibnhddhdooaaL19
namespace Go.Proofs.Ytkpibnhddhdooaa.L
open Go
set_option linter.unusedSimpArgs false
set_option linter.unusedVariables false
def c_laws_markInt64S : F := ⟨(.seq (.reg false [⟨(some 4), (.mv (.c (.int .i64 0))), none⟩]) (.seq (.seq (.reg false [⟨(some 5), (.mv (.c (.int .i64 0))), none⟩]) (.block 0 (.loop (.seq (.seq (.reg false [⟨(some 6), (.mv (.t 5)), none⟩, ⟨(some 7), (.mv (.t 0)), none⟩, ⟨(some 8), (.len (.t 7)), none⟩, ⟨(some 9), (.bin .lss (.t 6) (.t 8)), none⟩]) (.cond (.t 9) .skip (.exit 0))) (.seq (.block 1 (.seq (.reg false [⟨(some 12), (.mv (.t 0)), none⟩, ⟨(some 13), (.mv (.t 5)), none⟩, ⟨(some 14), (.mv (.t 1)), none⟩, ⟨(some 15), (.ia 1 (.t 12) (.t 13)), none⟩, ⟨none, (.st 1 (.t 15) (.t 14)), none⟩]) (.reg false [⟨(some 16), (.mv (.t 1)), none⟩, ⟨(some 17), (.bin .add (.t 16) (.c (.int .i64 1))), none⟩, ⟨(some 1), (.mv (.t 17)), none⟩]))) (.reg false [⟨(some 10), (.mv (.t 5)), none⟩, ⟨(some 11), (.bin .add (.t 10) (.c (.int .i64 1))), none⟩, ⟨(some 5), (.mv (.t 11)), none⟩])))))) (.seq (.reg false [⟨(some 18), (.mv (.t 1)), none⟩, ⟨(some 4), (.mv (.t 18)), none⟩]) .ret))), 19, [(.t 4)]⟩
theorem k_laws_markInt64S : compF Try.prog Try.f16 = some c_laws_markInt64S := by kernel_rfl
def c_laws_heldInt64S : F := ⟨(.seq (.reg false [⟨(some 4), (.mv (.c (.int .i64 0))), none⟩]) (.seq (.seq (.reg false [⟨(some 5), (.mv (.c (.int .i64 0))), none⟩]) (.block 0 (.loop (.seq (.seq (.reg false [⟨(some 6), (.mv (.t 5)), none⟩, ⟨(some 7), (.mv (.t 0)), none⟩, ⟨(some 8), (.len (.t 7)), none⟩, ⟨(some 9), (.bin .lss (.t 6) (.t 8)), none⟩]) (.cond (.t 9) .skip (.exit 0))) (.seq (.block 1 (.seq (.seq (.reg false [⟨(some 12), (.mv (.t 0)), none⟩, ⟨(some 13), (.mv (.t 5)), none⟩, ⟨(some 14), (.ia 1 (.t 12) (.t 13)), none⟩, ⟨(some 15), (.ld1 (.t 14)), none⟩, ⟨(some 16), (.mv (.t 1)), none⟩, ⟨(some 17), (.bin .neq (.t 15) (.t 16)), none⟩]) (.cond (.t 17) (.seq (.reg false [⟨(some 4), (.mv (.c (.int .i64 (-1)))), none⟩]) .ret) .skip)) (.reg false [⟨(some 18), (.mv (.t 1)), none⟩, ⟨(some 19), (.bin .add (.t 18) (.c (.int .i64 1))), none⟩, ⟨(some 1), (.mv (.t 19)), none⟩]))) (.reg false [⟨(some 10), (.mv (.t 5)), none⟩, ⟨(some 11), (.bin .add (.t 10) (.c (.int .i64 1))), none⟩, ⟨(some 5), (.mv (.t 11)), none⟩])))))) (.seq (.reg false [⟨(some 20), (.mv (.t 1)), none⟩, ⟨(some 4), (.mv (.t 20)), none⟩]) .ret))), 21, [(.t 4)]⟩
theorem k_laws_heldInt64S : compF Try.prog Try.f17 = some c_laws_heldInt64S := by kernel_rfl
def c_laws_markInt64SS : F := ⟨(.seq (.reg false [⟨(some 4), (.mv (.c (.int .i64 0))), none⟩]) (.seq (.seq (.reg false [⟨(some 5), (.mv (.c (.int .i64 0))), none⟩]) (.block 0 (.loop (.seq (.seq (.reg false [⟨(some 6), (.mv (.t 5)), none⟩, ⟨(some 7), (.mv (.t 0)), none⟩, ⟨(some 8), (.len (.t 7)), none⟩, ⟨(some 9), (.bin .lss (.t 6) (.t 8)), none⟩]) (.cond (.t 9) .skip (.exit 0))) (.seq (.block 1 (.reg false [⟨(some 12), (.mv (.t 0)), none⟩, ⟨(some 13), (.mv (.t 5)), none⟩, ⟨(some 14), (.ia 1 (.t 12) (.t 13)), none⟩, ⟨(some 15), (.ld1 (.t 14)), none⟩, ⟨(some 16), (.mv (.t 1)), none⟩, ⟨(some 17), (.call (.f 16) [(.t 15), (.t 16)]), none⟩, ⟨(some 1), (.mv (.t 17)), none⟩])) (.reg false [⟨(some 10), (.mv (.t 5)), none⟩, ⟨(some 11), (.bin .add (.t 10) (.c (.int .i64 1))), none⟩, ⟨(some 5), (.mv (.t 11)), none⟩])))))) (.seq (.reg false [⟨(some 18), (.mv (.t 1)), none⟩, ⟨(some 4), (.mv (.t 18)), none⟩]) .ret))), 19, [(.t 4)]⟩
theorem k_laws_markInt64SS : compF Try.prog Try.f15 = some c_laws_markInt64SS := by kernel_rfl

theorem laws_markInt64S {lo hi : Nat} {h : AH} {v : AV} {l : List Int} (s : Ints true lo hi h v l) (k : Int) (h0 : 0 ≤ k) (hb : k + l.length ≤ 4611686018427387904) (n : Nat) (hn : hi ≤ n) :
    MQ Try.prog 16 [v, .int .i64 k] h n lo hi fun x h' n' => x = .int .i64 (k + l.length) ∧ Ints true lo hi h' v (markL k l.length) ∧ (∀ i, i ≠ bid v → h' i = h i) ∧ (l = [] → h' = h) := by
  refine mq_intro Try.func16 k_laws_markInt64S ?_
  simp (maxSteps := 2000000) -implicitDefEqProofs (disch := omega) only [c_laws_markInt64S, xsW, xsC, if_true, if_false, ite_true, ite_false, forall_const, ne_eq, beq_self_eq_true, bne_self_eq_false, imp_self, true_implies, false_implies, implies_true, evP, evE, ev, setD, Nat.reduceAdd, Nat.reduceSub, reduceCtorEq, fillA, cutA, Nat.reduceLeDiff, Nat.reduceMul, Int.reduceLT, Int.reduceLE, Int.reduceEq, Int.reduceNe, Int.reduceAdd, Int.reduceSub, Int.reduceMul, Int.reduceNeg, Int.reduceToNat]
  refine loop_for l.length 0 (fun j _ => [v, .int .i64 (k + j), .any, .any, .int .i64 0, .int .i64 j, .any, .any, .any, .any, .any, .any, .any, .any, .any, .any, .any, .any, .any]) (fun _ hp => hp)
    (fun j hp m => Ints true lo hi hp v (markL k j ++ l.drop j) ∧ (∀ i, i ≠ bid v → hp i = h i) ∧ (l = [] → hp = h)) h (Nat.zero_le _) ⟨by simpa [markL] using s, fun _ _ => rfl, fun _ => rfl⟩ (by simp [LeL, Le1]) (fun _ _ h => h) ?_
  rintro j hp m - hj hm ⟨g1, g2, g3⟩
  have hlen : (markL k j ++ l.drop j).length = l.length := by simp [markL_len]; omega
  simp (maxSteps := 2000000) -implicitDefEqProofs (disch := omega) only [xsW, xsC, if_true, if_false, ite_true, ite_false, forall_const, ne_eq, beq_self_eq_true, bne_self_eq_false, imp_self, true_implies, false_implies, implies_true, evP, evE, ev, setD, Nat.reduceAdd, Nat.reduceSub, reduceCtorEq, fillA, cutA, Nat.reduceLeDiff, Nat.reduceMul, Int.reduceLT, Int.reduceLE, Int.reduceEq, Int.reduceNe, Int.reduceAdd, Int.reduceSub, Int.reduceMul, Int.reduceNeg, Int.reduceToNat,  s.ln]
  (refine cd_dec (fun c1 => ?_) (fun c1 => ?_) <;> simp (maxSteps := 2000000) -implicitDefEqProofs (disch := omega) only [xsW, xsC, if_true, if_false, ite_true, ite_false, forall_const, ne_eq, beq_self_eq_true, bne_self_eq_false, imp_self, true_implies, false_implies, implies_true, evP, evE, ev, setD, Nat.reduceAdd, Nat.reduceSub, reduceCtorEq, fillA, cutA, Nat.reduceLeDiff, Nat.reduceMul, Int.reduceLT, Int.reduceLE, Int.reduceEq, Int.reduceNe, Int.reduceAdd, Int.reduceSub, Int.reduceMul, Int.reduceNeg, Int.reduceToNat,  c1])
  · have hj' : j < l.length := by omega
    have e1 := fun K => Ints.st g1 (k := j) (x := k + j) (n0 := n) (n := m) (W := fun i => lo ≤ i ∧ i < hi) (by omega) (fun i a b => .inr ⟨a, b⟩) (by omega) K
    simp (maxSteps := 2000000) -implicitDefEqProofs (disch := omega) only [xsW, xsC, if_true, if_false, ite_true, ite_false, forall_const, ne_eq, beq_self_eq_true, bne_self_eq_false, imp_self, true_implies, false_implies, implies_true, evP, evE, ev, setD, Nat.reduceAdd, Nat.reduceSub, reduceCtorEq, fillA, cutA, Nat.reduceLeDiff, Nat.reduceMul, Int.reduceLT, Int.reduceLE, Int.reduceEq, Int.reduceNe, Int.reduceAdd, Int.reduceSub, Int.reduceMul, Int.reduceNeg, Int.reduceToNat,  s.ia, e1]
    refine ⟨_, ⟨?_, ?_, ?_⟩, by omega, by omega, by simp [LeL, Le1]; omega, fun _ _ h => h⟩
    · have := g1.wr (k := j) (by omega) (k + j)
      rw [markL_step k l j hj'] at this
      exact this
    · intro i hi'
      rw [wr_other hi', g2 i hi']
    · intro e; subst e; simp at hj'
  · have e : j = l.length := by omega
    subst e
    exact ⟨rfl, by simpa using g1, g2, g3⟩
theorem laws_heldInt64S {w : Bool} {lo hi : Nat} {h : AH} {v : AV} {k : Int} {m : Nat} (s : Ints w lo hi h v (markL k m)) (h0 : 0 ≤ k) (hb : k + m ≤ 4611686018427387904) (n : Nat) :
    Q Try.prog 17 [v, .int .i64 k] h n (.int .i64 (k + m)) := by
  refine q_intro Try.func17 k_laws_heldInt64S ?_
  have hlen := markL_len k m
  simp (maxSteps := 2000000) -implicitDefEqProofs (disch := omega) only [c_laws_heldInt64S, xsW, xsC, if_true, if_false, ite_true, ite_false, forall_const, ne_eq, beq_self_eq_true, bne_self_eq_false, imp_self, true_implies, false_implies, implies_true, evP, evE, ev, setD, Nat.reduceAdd, Nat.reduceSub, reduceCtorEq, fillA, cutA, Nat.reduceLeDiff, Nat.reduceMul, Int.reduceLT, Int.reduceLE, Int.reduceEq, Int.reduceNe, Int.reduceAdd, Int.reduceSub, Int.reduceMul, Int.reduceNeg, Int.reduceToNat]
  refine loop_for m 0 (fun j (_ : Unit) => [v, .int .i64 (k + j), .any, .any, .int .i64 0, .int .i64 j, .any, .any, .any, .any, .any, .any, .any, .any, .any, .any, .any, .any, .any, .any, .any]) (fun _ _ => h)
    (fun j _ m => True) () (Nat.zero_le _) trivial (by simp [LeL, Le1]) (fun _ _ h => h) ?_
  rintro j - n1 - hj hm -
  simp (maxSteps := 2000000) -implicitDefEqProofs (disch := omega) only [xsW, xsC, if_true, if_false, ite_true, ite_false, forall_const, ne_eq, beq_self_eq_true, bne_self_eq_false, imp_self, true_implies, false_implies, implies_true, evP, evE, ev, setD, Nat.reduceAdd, Nat.reduceSub, reduceCtorEq, fillA, cutA, Nat.reduceLeDiff, Nat.reduceMul, Int.reduceLT, Int.reduceLE, Int.reduceEq, Int.reduceNe, Int.reduceAdd, Int.reduceSub, Int.reduceMul, Int.reduceNeg, Int.reduceToNat,  s.ln, hlen]
  (refine cd_dec (fun c1 => ?_) (fun c1 => ?_) <;> simp (maxSteps := 2000000) -implicitDefEqProofs (disch := omega) only [xsW, xsC, if_true, if_false, ite_true, ite_false, forall_const, ne_eq, beq_self_eq_true, bne_self_eq_false, imp_self, true_implies, false_implies, implies_true, evP, evE, ev, setD, Nat.reduceAdd, Nat.reduceSub, reduceCtorEq, fillA, cutA, Nat.reduceLeDiff, Nat.reduceMul, Int.reduceLT, Int.reduceLE, Int.reduceEq, Int.reduceNe, Int.reduceAdd, Int.reduceSub, Int.reduceMul, Int.reduceNeg, Int.reduceToNat,  c1])
  · have hj' : j < m := by omega
    have e := markL_get k m j hj'
    simp (maxSteps := 2000000) -implicitDefEqProofs (disch := omega) only [xsW, xsC, if_true, if_false, ite_true, ite_false, forall_const, ne_eq, beq_self_eq_true, bne_self_eq_false, imp_self, true_implies, false_implies, implies_true, evP, evE, ev, setD, Nat.reduceAdd, Nat.reduceSub, reduceCtorEq, fillA, cutA, Nat.reduceLeDiff, Nat.reduceMul, Int.reduceLT, Int.reduceLE, Int.reduceEq, Int.reduceNe, Int.reduceAdd, Int.reduceSub, Int.reduceMul, Int.reduceNeg, Int.reduceToNat,  s.ia, s.ld, e, hlen]
    exact ⟨(), by omega, by omega, by simp [LeL, Le1]; omega⟩
  · rw [show j = m by omega]
theorem laws_markInt64SS {lo hi : Nat} {h : AH} {v : AV} {vs : List AV} {ll : List (List Int)} (s : Rows true lo hi h v vs ll) (k : Int) (h0 : 0 ≤ k) (hb : k + tot ll ≤ 4611686018427387904) (hl : ll.length ≤ 1048576) (n : Nat) (hn : hi ≤ n) :
    MQ Try.prog 15 [v, .int .i64 k] h n lo hi fun x h' n' => x = .int .i64 (k + tot ll) ∧ Rows true lo hi h' v vs (markLL k ll) ∧ (∀ i, i < n → (i < lo ∨ hi ≤ i) → h' i = h i) := by
  refine mq_intro Try.func15 k_laws_markInt64SS ?_
  simp (maxSteps := 2000000) -implicitDefEqProofs (disch := omega) only [c_laws_markInt64SS, xsW, xsC, if_true, if_false, ite_true, ite_false, forall_const, ne_eq, beq_self_eq_true, bne_self_eq_false, imp_self, true_implies, false_implies, implies_true, evP, evE, ev, setD, Nat.reduceAdd, Nat.reduceSub, reduceCtorEq, fillA, cutA, Nat.reduceLeDiff, Nat.reduceMul, Int.reduceLT, Int.reduceLE, Int.reduceEq, Int.reduceNe, Int.reduceAdd, Int.reduceSub, Int.reduceMul, Int.reduceNeg, Int.reduceToNat]
  refine loop_for ll.length 0 (fun j _ => [v, .int .i64 (k + tot (ll.take j)), .any, .any, .int .i64 0, .int .i64 j, .any, .any, .any, .any, .any, .any, .any, .any, .any, .any, .any, .any, .any]) (fun _ hp => hp)
    (fun j hp m => Rows true lo hi hp v vs (markLL k (ll.take j) ++ ll.drop j) ∧ (∀ i, i < n → (i < lo ∨ hi ≤ i) → hp i = h i)) h (Nat.zero_le _) ⟨by simpa [markLL] using s, fun _ _ _ => rfl⟩ (by simp [LeL, Le1, tot]) (fun _ _ h => h) ?_
  rintro j hp m - hj hm ⟨g1, g2⟩
  have hlen : (markLL k (ll.take j) ++ ll.drop j).length = ll.length := by simp [markLL_len]; omega
  simp (maxSteps := 2000000) -implicitDefEqProofs (disch := omega) only [xsW, xsC, if_true, if_false, ite_true, ite_false, forall_const, ne_eq, beq_self_eq_true, bne_self_eq_false, imp_self, true_implies, false_implies, implies_true, evP, evE, ev, setD, Nat.reduceAdd, Nat.reduceSub, reduceCtorEq, fillA, cutA, Nat.reduceLeDiff, Nat.reduceMul, Int.reduceLT, Int.reduceLE, Int.reduceEq, Int.reduceNe, Int.reduceAdd, Int.reduceSub, Int.reduceMul, Int.reduceNeg, Int.reduceToNat,  g1.ln, hlen]
  (refine cd_dec (fun c1 => ?_) (fun c1 => ?_) <;> simp (maxSteps := 2000000) -implicitDefEqProofs (disch := omega) only [xsW, xsC, if_true, if_false, ite_true, ite_false, forall_const, ne_eq, beq_self_eq_true, bne_self_eq_false, imp_self, true_implies, false_implies, implies_true, evP, evE, ev, setD, Nat.reduceAdd, Nat.reduceSub, reduceCtorEq, fillA, cutA, Nat.reduceLeDiff, Nat.reduceMul, Int.reduceLT, Int.reduceLE, Int.reduceEq, Int.reduceNe, Int.reduceAdd, Int.reduceSub, Int.reduceMul, Int.reduceNeg, Int.reduceToNat,  c1])
  · have hj' : j < ll.length := by omega
    have hr := g1.row j (by omega)
    have e : (markLL k (ll.take j) ++ ll.drop j).getD j [] = ll.getD j [] := by
      have h1 : (markLL k (ll.take j)).length = j := by rw [markLL_len]; simp; omega
      simp [List.getD, List.getElem?_append_right, h1]
    rw [e] at hr
    have t1 := tot_take ll (j + 1)
    rw [take_succ_getD (d := []) hj', tot_snoc] at t1
    simp (maxSteps := 2000000) -implicitDefEqProofs (disch := omega) only [xsW, xsC, if_true, if_false, ite_true, ite_false, forall_const, ne_eq, beq_self_eq_true, bne_self_eq_false, imp_self, true_implies, false_implies, implies_true, evP, evE, ev, setD, Nat.reduceAdd, Nat.reduceSub, reduceCtorEq, fillA, cutA, Nat.reduceLeDiff, Nat.reduceMul, Int.reduceLT, Int.reduceLE, Int.reduceEq, Int.reduceNe, Int.reduceAdd, Int.reduceSub, Int.reduceMul, Int.reduceNeg, Int.reduceToNat,  g1.ia, hlen, g1.ld]
    refine mq_use (laws_markInt64S hr (k + tot (ll.take j)) (by omega) (by omega) m (by omega)) (fun i a b => .inr ⟨a, b⟩) fun x h' n' q0 ⟨q1, q2, q3, q4⟩ => ?_
    subst q1
    simp (maxSteps := 2000000) -implicitDefEqProofs (disch := omega) only [xsW, xsC, if_true, if_false, ite_true, ite_false, forall_const, ne_eq, beq_self_eq_true, bne_self_eq_false, imp_self, true_implies, false_implies, implies_true, evP, evE, ev, setD, Nat.reduceAdd, Nat.reduceSub, reduceCtorEq, fillA, cutA, Nat.reduceLeDiff, Nat.reduceMul, Int.reduceLT, Int.reduceLE, Int.reduceEq, Int.reduceNe, Int.reduceAdd, Int.reduceSub, Int.reduceMul, Int.reduceNeg, Int.reduceToNat]
    have hne : isSl (vs.getD j .any) = true ∨ h' = hp := by
      by_cases e0 : vs.getD j .any = .nilsl
      · right
        apply q4
        have := hr.slen
        rw [e0] at this
        exact List.eq_nil_of_length_eq_zero this.symm
      · exact .inl (Sl.isReal hr e0)
    have g3 := g1.row1 (by omega) q2 hne q3
    rw [markLL_step k ll j hj'] at g3
    refine ⟨h', ⟨g3, fun i h1 h2 => ?_⟩, by omega, by omega, ?_, fun _ _ h => h⟩
    · rcases hne with hne | rfl
      · have := Sl.own hr hne
        rw [q3 i (by omega), g2 i h1 h2]
      · exact g2 i h1 h2
    · rw [take_succ_getD (d := []) hj', tot_snoc]
      simp [LeL, Le1]
      omega
  · rw [List.take_of_length_le (by omega), List.drop_of_length_le (by omega), List.append_nil] at g1
    rw [List.take_of_length_le (by omega)]
    exact ⟨rfl, g1, g2⟩
end Go.Proofs.Ytkpibnhddhdooaa.L
