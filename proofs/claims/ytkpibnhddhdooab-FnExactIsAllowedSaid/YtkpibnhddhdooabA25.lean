/- Contracts: marking a problem; columns, determinants, pivots: functions and statements. -/
import Derived.Test.YtkpibnhddhdooabA21
import Derived.Test.YtkpibnhddhdooabA24
namespace Go.Proofs.Ytkpibnhddhdooab.L
open Go
set_option linter.unusedSimpArgs false
set_option linter.unusedVariables false
def c_laws_markProblem : F := ⟨(.seq (.reg false [⟨(some 2), (.box 31 (.t 0)), none⟩, ⟨(some 4), (.mv (.c (.int .i64 0))), none⟩]) (.seq (.reg false [⟨(some 5), (.fa 0 (.t 2)), none⟩, ⟨(some 6), (.ld1 (.t 5)), none⟩, ⟨(some 7), (.mv (.t 1)), none⟩, ⟨(some 8), (.call (.f 60) [(.t 6), (.t 7)]), none⟩, ⟨(some 1), (.mv (.t 8)), none⟩]) (.seq (.reg false [⟨(some 9), (.fa 1 (.t 2)), none⟩, ⟨(some 10), (.ld1 (.t 9)), none⟩, ⟨(some 11), (.mv (.t 1)), none⟩, ⟨(some 12), (.call (.f 61) [(.t 10), (.t 11)]), none⟩, ⟨(some 1), (.mv (.t 12)), none⟩]) (.seq (.reg false [⟨(some 13), (.mv (.t 1)), none⟩, ⟨(some 4), (.mv (.t 13)), none⟩]) .ret)))), 14, [(.t 4)]⟩
theorem k_laws_markProblem : compF Try.prog Try.f18 = some c_laws_markProblem := by kernel_rfl

theorem laws_markInt64SS2 {lo hi : Nat} {h : AH} {v : AV} {vs : List AV} {ll : List (List Int)} (s : Rows true lo hi h v vs ll) (k : Int) (h0 : 0 ≤ k) (hb : k + tot ll ≤ 4611686018427387904) (hl : ll.length ≤ 1048576) (n : Nat) (hn : hi ≤ n) :
    MQ Try.prog 60 [v, .int .i64 k] h n lo hi fun x h' n' => x = .int .i64 (k + tot ll) ∧ (∀ i, (∀ j, j < ll.length → isSl (vs.getD j .any) = true → i ≠ bid (vs.getD j .any)) → h' i = h i) := by
  refine mq_intro Try.func60 k_laws_markInt64SS ?_
  simp (maxSteps := 2000000) -implicitDefEqProofs (disch := omega) only [c_laws_markInt64SS, xsW, xsC, if_true, if_false, ite_true, ite_false, forall_const, ne_eq, beq_self_eq_true, bne_self_eq_false, imp_self, true_implies, false_implies, implies_true, evP, evE, ev, setD, Nat.reduceAdd, Nat.reduceSub, reduceCtorEq, fillA, cutA, Nat.reduceLeDiff, Nat.reduceMul, Int.reduceLT, Int.reduceLE, Int.reduceEq, Int.reduceNe, Int.reduceAdd, Int.reduceSub, Int.reduceMul, Int.reduceNeg, Int.reduceToNat]
  refine loop_for ll.length 0 (fun j _ => [v, .int .i64 (k + tot (ll.take j)), .any, .any, .int .i64 0, .int .i64 j, .any, .any, .any, .any, .any, .any, .any, .any, .any, .any, .any, .any, .any]) (fun _ hp => hp)
    (fun j hp m => Rows true lo hi hp v vs (markLL k (ll.take j) ++ ll.drop j) ∧ (∀ i, (∀ j, j < ll.length → isSl (vs.getD j .any) = true → i ≠ bid (vs.getD j .any)) → hp i = h i)) h (Nat.zero_le _) ⟨by simpa [markLL] using s, fun _ _ => rfl⟩ (by simp [LeL, Le1, tot]) (fun _ _ h => h) ?_
  rintro j hp m - hj hm ⟨g1, g2⟩
  have hlen : (markLL k (ll.take j) ++ ll.drop j).length = ll.length := by simp [markLL_len]; omega
  simp (maxSteps := 2000000) -implicitDefEqProofs (disch := omega) only [xsW, xsC, if_true, if_false, ite_true, ite_false, forall_const, ne_eq, beq_self_eq_true, bne_self_eq_false, imp_self, true_implies, false_implies, implies_true, evP, evE, ev, setD, Nat.reduceAdd, Nat.reduceSub, reduceCtorEq, fillA, cutA, Nat.reduceLeDiff, Nat.reduceMul, Int.reduceLT, Int.reduceLE, Int.reduceEq, Int.reduceNe, Int.reduceAdd, Int.reduceSub, Int.reduceMul, Int.reduceNeg, Int.reduceToNat,  g1.ln, hlen]
  (refine cd_dec (fun c1 => ?_) (fun c1 => ?_) <;> simp (maxSteps := 2000000) -implicitDefEqProofs (disch := omega) only [xsW, xsC, if_true, if_false, ite_true, ite_false, forall_const, ne_eq, beq_self_eq_true, bne_self_eq_false, imp_self, true_implies, false_implies, implies_true, evP, evE, ev, setD, Nat.reduceAdd, Nat.reduceSub, reduceCtorEq, fillA, cutA, Nat.reduceLeDiff, Nat.reduceMul, Int.reduceLT, Int.reduceLE, Int.reduceEq, Int.reduceNe, Int.reduceAdd, Int.reduceSub, Int.reduceMul, Int.reduceNeg, Int.reduceToNat,  c1])
  · have hj' : j < ll.length := by omega
    have hr := g1.row j (by omega)
    have e : (markLL k (ll.take j) ++ ll.drop j).getD j [] = ll.getD j [] := by
      have h1 : (markLL k (ll.take j)).length = j := by rw [markLL_len]; simp; omega
      simp [List.getD, List.getElem?_append_right, h1]
    rw [e] at hr
    have t1 := tot_take ll (j + 1)
    rw [take_succ_getD (d := []) hj', tot_snoc] at t1
    simp (maxSteps := 2000000) -implicitDefEqProofs (disch := omega) only [xsW, xsC, if_true, if_false, ite_true, ite_false, forall_const, ne_eq, beq_self_eq_true, bne_self_eq_false, imp_self, true_implies, false_implies, implies_true, evP, evE, ev, setD, Nat.reduceAdd, Nat.reduceSub, reduceCtorEq, fillA, cutA, Nat.reduceLeDiff, Nat.reduceMul, Int.reduceLT, Int.reduceLE, Int.reduceEq, Int.reduceNe, Int.reduceAdd, Int.reduceSub, Int.reduceMul, Int.reduceNeg, Int.reduceToNat,  g1.ia, hlen, g1.ld]
    refine mq_use (laws_markInt64S hr (k + tot (ll.take j)) (by omega) (by omega) m (by omega)) (fun i a b => .inr ⟨a, b⟩) fun x h' n' q0 ⟨q1, q2, q3, q4⟩ => ?_
    subst q1
    simp (maxSteps := 2000000) -implicitDefEqProofs (disch := omega) only [xsW, xsC, if_true, if_false, ite_true, ite_false, forall_const, ne_eq, beq_self_eq_true, bne_self_eq_false, imp_self, true_implies, false_implies, implies_true, evP, evE, ev, setD, Nat.reduceAdd, Nat.reduceSub, reduceCtorEq, fillA, cutA, Nat.reduceLeDiff, Nat.reduceMul, Int.reduceLT, Int.reduceLE, Int.reduceEq, Int.reduceNe, Int.reduceAdd, Int.reduceSub, Int.reduceMul, Int.reduceNeg, Int.reduceToNat]
    have hne : isSl (vs.getD j .any) = true ∨ h' = hp := by
      by_cases e0 : vs.getD j .any = .nilsl
      · right
        apply q4
        have := hr.slen
        rw [e0] at this
        exact List.eq_nil_of_length_eq_zero this.symm
      · exact .inl (Sl.isReal hr e0)
    have g3 := g1.row1 (by omega) q2 hne q3
    rw [markLL_step k ll j hj'] at g3
    refine ⟨h', ⟨g3, fun i h1 => ?_⟩, by omega, by omega, ?_, fun _ _ h => h⟩
    · rcases hne with hne | rfl
      · rw [q3 i (h1 j hj' hne), g2 i h1]
      · exact g2 i h1
    · rw [take_succ_getD (d := []) hj', tot_snoc]
      simp [LeL, Le1]
      omega
  · rw [List.take_of_length_le (by omega)]
    exact ⟨rfl, g2⟩
theorem laws_markProblem {lo hi : Nat} {h : AH} {v u : AV} {vs : List AV} {ll : List (List Int)} {q : List Int} (s : Prob true lo hi h v u vs ll q) (k : Int) (h0 : 0 ≤ k) (hb : k + tot ll + q.length ≤ 4611686018427387904) (hl : ll.length ≤ 1048576) (n : Nat) (hn : hi ≤ n) :
    MQ Try.prog 18 [.agg [v, u], .int .i64 k] h n lo hi fun x h' n' => x = .int .i64 (k + tot ll + q.length) ∧ (∀ i, i < n → (i < lo ∨ hi ≤ i) → h' i = h i) := by
  refine mq_intro Try.func18 k_laws_markProblem ?_
  have o1 := one_any (Sl.any s.M.out)
  have o2 := one_any (Sl.any s.Q)
  simp (maxSteps := 2000000) -implicitDefEqProofs (disch := omega) only [c_laws_markProblem, o1, o2, xsW, xsC, if_true, if_false, ite_true, ite_false, forall_const, ne_eq, beq_self_eq_true, bne_self_eq_false, imp_self, true_implies, false_implies, implies_true, evP, evE, ev, setD, Nat.reduceAdd, Nat.reduceSub, reduceCtorEq, fillA, cutA, Nat.reduceLeDiff, Nat.reduceMul, Int.reduceLT, Int.reduceLE, Int.reduceEq, Int.reduceNe, Int.reduceAdd, Int.reduceSub, Int.reduceMul, Int.reduceNeg, Int.reduceToNat]
  have sM := s.M.keep (h' := upd h n (some ⟨31, [v, u], true, 0⟩)) (fun i _ hi9 => by simp (disch := omega) only [upd_other])
  have sQ := s.Q.keep (h' := upd h n (some ⟨31, [v, u], true, 0⟩)) (fun i _ hi9 => by simp (disch := omega) only [upd_other])
  refine mq_use (laws_markInt64SS2 sM k h0 (by omega) hl _ (by omega)) (fun i a b => .inr ⟨a, b⟩) fun x1 h1 n1 hn1 ⟨he1, hs1⟩ => ?_
  subst he1
  have far : ∀ i, (i < lo ∨ hi ≤ i) → h1 i = upd h n (some ⟨31, [v, u], true, 0⟩) i := fun i hi' => hs1 i fun j hj hsl e => by
    have := Sl.own (sM.row j hj) hsl
    omega
  have hbox : h1 n = some ⟨31, [v, u], true, 0⟩ := by rw [far n (by omega), upd_same]
  simp (maxSteps := 2000000) -implicitDefEqProofs (disch := omega) only [xsW, xsC, if_true, if_false, ite_true, ite_false, forall_const, ne_eq, beq_self_eq_true, bne_self_eq_false, imp_self, true_implies, false_implies, implies_true, evP, evE, ev, setD, Nat.reduceAdd, Nat.reduceSub, reduceCtorEq, fillA, cutA, Nat.reduceLeDiff, Nat.reduceMul, Int.reduceLT, Int.reduceLE, Int.reduceEq, Int.reduceNe, Int.reduceAdd, Int.reduceSub, Int.reduceMul, Int.reduceNeg, Int.reduceToNat,  hbox]
  have sQ1 : Ints true lo hi h1 u q := Sl.keep1 sQ fun hsl => hs1 _ fun j hj h2 => fun e => (s.apart rfl hsl).2 j hj h2 e.symm
  refine mq_use (laws_markInt64S2 sQ1 _ (by omega) (by omega) n1 (by omega)) (fun i a b => .inr ⟨a, b⟩) fun x2 h2 n2 hn2 ⟨he2, _, hs2⟩ => ?_
  subst he2
  simp (maxSteps := 2000000) -implicitDefEqProofs (disch := omega) only [xsW, xsC, if_true, if_false, ite_true, ite_false, forall_const, ne_eq, beq_self_eq_true, bne_self_eq_false, imp_self, true_implies, false_implies, implies_true, evP, evE, ev, setD, Nat.reduceAdd, Nat.reduceSub, reduceCtorEq, fillA, cutA, Nat.reduceLeDiff, Nat.reduceMul, Int.reduceLT, Int.reduceLE, Int.reduceEq, Int.reduceNe, Int.reduceAdd, Int.reduceSub, Int.reduceMul, Int.reduceNeg, Int.reduceToNat]
  intro i h3 h4
  rw [hs2 i (by omega) h4, far i h4, upd_other (by omega)]
def colsV (ll : List (List Int)) (q : List Int) (a : Int) : List (List Int) × Int := if codeP ll q a = 0 then (colsL ll a, 0) else ([], codeP ll q a)
def detV (ll : List (List Int)) (q : List Int) (a : Int) : Int × Int := if codeP ll q a = 0 then (det ll.length (mx (colsL ll a)), 0) else (0, codeP ll q a)
section
variable {w : Bool} {lo hi : Nat} {h : AH} {v u : AV} {vs : List AV} {ll : List (List Int)} {q : List Int}
end
theorem colsV_small (ll : List (List Int)) (q : List Int) (a : Int) : (colsV ll q a).1.length ≤ 1048576 ∧ ∀ l ∈ (colsV ll q a).1, l.length ≤ 1048576 := by
  unfold colsV
  split
  · rename_i c
    have hN := ((isMat_iff ll).1 (isProb_facts (codeP_zero.1 c).1).1).2.1
    refine ⟨by simp only [colsL, rowsOf_len]; omega, fun l hl => ?_⟩
    simp only [colsL, rowsOf, List.mem_map] at hl
    obtain ⟨i, _, rfl⟩ := hl
    rw [rowOf_len]; omega
  · exact ⟨by simp, fun l hl => by simp at hl⟩
end Go.Proofs.Ytkpibnhddhdooab.L
