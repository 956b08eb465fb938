/- Contracts on problems. -/
import Derived.Test.YtkpibnhddhdooabA7
namespace Go.Proofs.Ytkpibnhddhdooab.L
open Go
set_option linter.unusedSimpArgs false
set_option linter.unusedVariables false
def c_laws_szProblem : F := ⟨(.seq (.reg false [⟨(some 2), (.box 25 (.t 0)), none⟩, ⟨(some 4), (.mv (.c (.int .i64 0))), none⟩]) (.seq (.reg false [⟨(some 5), (.fa 0 (.t 2)), none⟩, ⟨(some 6), (.ld1 (.t 5)), none⟩, ⟨(some 7), (.mv (.t 1)), none⟩, ⟨(some 8), (.call (.f 40) [(.t 6), (.t 7)]), none⟩, ⟨(some 1), (.mv (.t 8)), none⟩]) (.seq (.seq (.reg false [⟨(some 9), (.mv (.t 1)), none⟩, ⟨(some 10), (.bin .lss (.t 9) (.c (.int .i64 0))), none⟩]) (.cond (.t 10) (.seq (.reg false [⟨(some 4), (.mv (.c (.int .i64 (-1)))), none⟩]) .ret) .skip)) (.seq (.reg false [⟨(some 11), (.fa 1 (.t 2)), none⟩, ⟨(some 12), (.ld1 (.t 11)), none⟩, ⟨(some 13), (.mv (.t 1)), none⟩, ⟨(some 14), (.call (.f 41) [(.t 12), (.t 13)]), none⟩, ⟨(some 1), (.mv (.t 14)), none⟩]) (.seq (.seq (.reg false [⟨(some 15), (.mv (.t 1)), none⟩, ⟨(some 16), (.bin .lss (.t 15) (.c (.int .i64 0))), none⟩]) (.cond (.t 16) (.seq (.reg false [⟨(some 4), (.mv (.c (.int .i64 (-1)))), none⟩]) .ret) .skip)) (.seq (.reg false [⟨(some 17), (.mv (.t 1)), none⟩, ⟨(some 4), (.mv (.t 17)), none⟩]) .ret)))))), 18, [(.t 4)]⟩
theorem k_laws_szProblem : compF Try.prog Try.f7 = some c_laws_szProblem := by kernel_rfl
def c_laws_toProblem : F := ⟨(.seq (.reg false [⟨(some 1), (.box 25 (.t 0)), none⟩, ⟨(some 2), (.alloc 31 [.nilsl, .nilsl]), none⟩]) (.seq (.reg false [⟨(some 3), (.alloc 31 [.nilsl, .nilsl]), none⟩]) (.seq (.reg false [⟨(some 4), (.fa 0 (.t 1)), none⟩, ⟨(some 5), (.ld1 (.t 4)), none⟩, ⟨(some 6), (.call (.f 43) [(.t 5)]), none⟩, ⟨(some 7), (.fa 0 (.t 3)), none⟩, ⟨none, (.st 1 (.t 7) (.t 6)), none⟩]) (.seq (.reg false [⟨(some 8), (.fa 1 (.t 1)), none⟩, ⟨(some 9), (.ld1 (.t 8)), none⟩, ⟨(some 10), (.call (.f 44) [(.t 9)]), none⟩, ⟨(some 11), (.fa 1 (.t 3)), none⟩, ⟨none, (.st 1 (.t 11) (.t 10)), none⟩]) (.seq (.reg false [⟨(some 12), (.ld 2 (.t 3)), none⟩, ⟨none, (.st 2 (.t 2) (.t 12)), none⟩]) .ret))))), 13, [(.ca 2 2)]⟩
theorem k_laws_toProblem : compF Try.prog Try.f10 = some c_laws_toProblem := by kernel_rfl
def c_laws_eqProblem : F := ⟨(.seq (.reg false [⟨(some 2), (.box 31 (.t 0)), none⟩, ⟨(some 3), (.box 31 (.t 1)), none⟩, ⟨(some 4), (.mv (.c (.bool false))), none⟩]) (.seq (.seq (.reg false [⟨(some 5), (.fa 0 (.t 2)), none⟩, ⟨(some 6), (.ld1 (.t 5)), none⟩, ⟨(some 7), (.fa 0 (.t 3)), none⟩, ⟨(some 8), (.ld1 (.t 7)), none⟩, ⟨(some 9), (.call (.f 50) [(.t 6), (.t 8)]), none⟩, ⟨(some 10), (.un .not (.t 9)), none⟩]) (.cond (.t 10) (.seq (.reg false [⟨(some 4), (.mv (.c (.bool false))), none⟩]) .ret) .skip)) (.seq (.seq (.reg false [⟨(some 11), (.fa 1 (.t 2)), none⟩, ⟨(some 12), (.ld1 (.t 11)), none⟩, ⟨(some 13), (.fa 1 (.t 3)), none⟩, ⟨(some 14), (.ld1 (.t 13)), none⟩, ⟨(some 15), (.call (.f 51) [(.t 12), (.t 14)]), none⟩, ⟨(some 16), (.un .not (.t 15)), none⟩]) (.cond (.t 16) (.seq (.reg false [⟨(some 4), (.mv (.c (.bool false))), none⟩]) .ret) .skip)) (.seq (.reg false [⟨(some 4), (.mv (.c (.bool true))), none⟩]) .ret)))), 17, [(.t 4)]⟩
theorem k_laws_eqProblem : compF Try.prog Try.f13 = some c_laws_eqProblem := by kernel_rfl
def c_spec_l01Is : F := ⟨(.seq (.reg false [⟨(some 1), (.box 31 (.t 0)), none⟩, ⟨(some 2), (.mv (.c (.bool false))), none⟩]) (.seq (.seq (.reg false [⟨(some 4), (.fa 0 (.t 1)), none⟩, ⟨(some 5), (.ld1 (.t 4)), none⟩, ⟨(some 6), (.call (.f 91) [(.t 5)]), none⟩, ⟨(some 7), (.un .not (.t 6)), none⟩, ⟨(some 8), (.mv (.t 7)), none⟩, ⟨(some 9), (.fa 1 (.t 1)), (some (8, false))⟩, ⟨(some 10), (.ld1 (.t 9)), (some (8, false))⟩, ⟨(some 11), (.len (.t 10)), (some (8, false))⟩, ⟨(some 12), (.fa 0 (.t 1)), (some (8, false))⟩, ⟨(some 13), (.ld1 (.t 12)), (some (8, false))⟩, ⟨(some 14), (.len (.t 13)), (some (8, false))⟩, ⟨(some 15), (.bin .neq (.t 11) (.t 14)), (some (8, false))⟩, ⟨(some 16), (.pick (.t 8) (.c (.bool true)) (.t 15)), none⟩]) (.cond (.t 16) (.seq (.reg false [⟨(some 2), (.mv (.c (.bool false))), none⟩]) .ret) .skip)) (.seq (.seq (.reg false [⟨(some 3), (.mv (.c (.int .i64 0))), none⟩]) (.block 0 (.loop (.seq (.seq (.reg false [⟨(some 17), (.mv (.t 3)), none⟩, ⟨(some 18), (.fa 1 (.t 1)), none⟩, ⟨(some 19), (.ld1 (.t 18)), none⟩, ⟨(some 20), (.len (.t 19)), none⟩, ⟨(some 21), (.bin .lss (.t 17) (.t 20)), none⟩]) (.cond (.t 21) .skip (.exit 0))) (.seq (.block 1 (.seq (.reg false [⟨(some 24), (.fa 1 (.t 1)), none⟩, ⟨(some 25), (.ld1 (.t 24)), none⟩, ⟨(some 26), (.mv (.t 3)), none⟩, ⟨(some 27), (.ia 1 (.t 25) (.t 26)), none⟩, ⟨(some 28), (.ld1 (.t 27)), none⟩, ⟨(some 29), (.call (.f 92) [(.t 28), (.c (.int .i64 (-100))), (.c (.int .i64 100))]), none⟩, ⟨(some 30), (.un .not (.t 29)), none⟩]) (.cond (.t 30) (.seq (.reg false [⟨(some 2), (.mv (.c (.bool false))), none⟩]) .ret) .skip))) (.reg false [⟨(some 22), (.mv (.t 3)), none⟩, ⟨(some 23), (.bin .add (.t 22) (.c (.int .i64 1))), none⟩, ⟨(some 3), (.mv (.t 23)), none⟩])))))) (.seq (.reg false [⟨(some 2), (.mv (.c (.bool true))), none⟩]) .ret)))), 31, [(.t 2)]⟩
theorem k_spec_l01Is : compF Try.prog Try.f53 = some c_spec_l01Is := by kernel_rfl
def c_impl_IsProblem : F := ⟨(.seq (.reg false [⟨(some 1), (.box 31 (.t 0)), none⟩, ⟨(some 2), (.mv (.c (.bool false))), none⟩]) (.seq (.reg false [⟨(some 3), (.fa 0 (.t 1)), none⟩, ⟨(some 4), (.ld1 (.t 3)), none⟩, ⟨(some 5), (.call (.f 139) [(.t 4)]), none⟩, ⟨(some 6), (.mv (.t 5)), none⟩, ⟨(some 7), (.fa 1 (.t 1)), (some (6, true))⟩, ⟨(some 8), (.ld1 (.t 7)), (some (6, true))⟩, ⟨(some 9), (.len (.t 8)), (some (6, true))⟩, ⟨(some 10), (.fa 0 (.t 1)), (some (6, true))⟩, ⟨(some 11), (.ld1 (.t 10)), (some (6, true))⟩, ⟨(some 12), (.len (.t 11)), (some (6, true))⟩, ⟨(some 13), (.bin .eql (.t 9) (.t 12)), (some (6, true))⟩, ⟨(some 14), (.pick (.t 6) (.t 13) (.c (.bool false))), none⟩, ⟨(some 15), (.mv (.t 14)), none⟩, ⟨(some 16), (.fa 1 (.t 1)), (some (15, true))⟩, ⟨(some 17), (.ld1 (.t 16)), (some (15, true))⟩, ⟨(some 18), (.call (.f 140) [(.t 17), (.c (.int .i64 100))]), (some (15, true))⟩, ⟨(some 19), (.pick (.t 15) (.t 18) (.c (.bool false))), none⟩, ⟨(some 2), (.mv (.t 19)), none⟩]) .ret)), 20, [(.t 2)]⟩
theorem k_impl_IsProblem : compF Try.prog Try.f101 = some c_impl_IsProblem := by kernel_rfl

/-- A problem told: rows and a list. -/
structure Prob (w : Bool) (lo hi : Nat) (h : AH) (v u : AV) (vs : List AV) (ll : List (List Int)) (l : List Int) : Prop where
  M : Rows w lo hi h v vs ll
  Q : Ints w lo hi h u l
  apart : w = true → isSl u = true → (isSl v = true → bid u ≠ bid v) ∧ ∀ k, k < ll.length → isSl (vs.getD k .any) = true → bid (vs.getD k .any) ≠ bid u
theorem Prob.keep {w : Bool} {lo hi : Nat} {h h' : AH} {v u : AV} {vs : List AV} {ll : List (List Int)} {l : List Int} (s : Prob w lo hi h v u vs ll l) (k : ∀ i, lo ≤ i → i < hi → h' i = h i) : Prob w lo hi h' v u vs ll l := ⟨s.M.keep k, s.Q.keep k, s.apart⟩
theorem Prob.wide {w : Bool} {lo hi lo' hi' : Nat} {h : AH} {v u : AV} {vs : List AV} {ll : List (List Int)} {l : List Int} (s : Prob w lo hi h v u vs ll l) (h1 : lo' ≤ lo) (h2 : hi ≤ hi') : Prob w lo' hi' h v u vs ll l := ⟨s.M.wide h1 h2, s.Q.wide h1 h2, s.apart⟩
theorem Prob.of_args {lo hi : Nat} {h : AH} {v u : AV} {vs : List AV} {ll : List (List Int)} {l : List Int} (s : Rows false lo hi h v vs ll) (q : Ints false lo hi h u l) : Prob false lo hi h v u vs ll l := ⟨s, q, fun h => (by cases h)⟩
def isProb (ll : List (List Int)) (l : List Int) : Bool := isMat ll && decide (l.length = ll.length) && within 100 l

section
variable {w : Bool} {lo hi : Nat} {h : AH} {v u : AV} {vs : List AV} {ll : List (List Int)} {l : List Int}
theorem laws_szProblem (s : Prob w lo hi h v u vs ll l) (hl : ll.length ≤ 9223372036854775807) (hll : ∀ l ∈ ll, l.length ≤ 9223372036854775807) (hq : l.length ≤ 9223372036854775807) (left : Int) (h0 : 0 ≤ left) (h1 : left ≤ 1048576) (n : Nat) (hn : hi ≤ n) :
    ∃ r : Int, (-1 ≤ r ∧ r ≤ left ∧ (0 ≤ r → ((ll.length : Int) ≤ left ∧ ∀ k, k < ll.length → ((ll.getD k []).length : Int) ≤ left) ∧ (l.length : Int) ≤ left)) ∧ Q Try.prog 7 [.agg [v, u], .int .i64 left] h n (.int .i64 r) := by
  suffices hx : ∃ x, (∃ r : Int, x = .int .i64 r ∧ (-1 ≤ r ∧ r ≤ left ∧ (0 ≤ r → ((ll.length : Int) ≤ left ∧ ∀ k, k < ll.length → ((ll.getD k []).length : Int) ≤ left) ∧ (l.length : Int) ≤ left))) ∧ Q Try.prog 7 [.agg [v, u], .int .i64 left] h n x by
    obtain ⟨_, ⟨r, rfl, hr⟩, hq⟩ := hx
    exact ⟨r, hr, hq⟩
  refine eq_intro Try.func7 k_laws_szProblem ?_
  have o1 := one_any (Sl.any s.M.out)
  have o2 := one_any (Sl.any s.Q)
  have s' := s.keep (h' := upd h n (some ⟨25, [v, u], true, 0⟩)) fun i _ hi' => upd_other (by omega)
  obtain ⟨r, ⟨hr0, hr1, hr2⟩, hqr⟩ := laws_szInt64SS s'.M hl hll left h0 h1 (n + 1)
  simp (maxSteps := 2000000) -implicitDefEqProofs (disch := omega) only [c_laws_szProblem, o1, o2, xsW, xsC, if_true, if_false, ite_true, ite_false, forall_const, ne_eq, beq_self_eq_true, bne_self_eq_false, imp_self, true_implies, false_implies, implies_true, evP, evE, ev, setD, Nat.reduceAdd, Nat.reduceSub, reduceCtorEq, fillA, cutA, Nat.reduceLeDiff, Nat.reduceMul, Int.reduceLT, Int.reduceLE, Int.reduceEq, Int.reduceNe, Int.reduceAdd, Int.reduceSub, Int.reduceMul, Int.reduceNeg, Int.reduceToNat]
  refine q_use hqr fun n1 hn1 => ?_
  simp (maxSteps := 2000000) -implicitDefEqProofs (disch := omega) only [xsW, xsC, if_true, if_false, ite_true, ite_false, forall_const, ne_eq, beq_self_eq_true, bne_self_eq_false, imp_self, true_implies, false_implies, implies_true, evP, evE, ev, setD, Nat.reduceAdd, Nat.reduceSub, reduceCtorEq, fillA, cutA, Nat.reduceLeDiff, Nat.reduceMul, Int.reduceLT, Int.reduceLE, Int.reduceEq, Int.reduceNe, Int.reduceAdd, Int.reduceSub, Int.reduceMul, Int.reduceNeg, Int.reduceToNat]
  (refine cd_dec (fun h2 => ?_) (fun h2 => ?_) <;> simp (maxSteps := 2000000) -implicitDefEqProofs (disch := omega) only [xsW, xsC, if_true, if_false, ite_true, ite_false, forall_const, ne_eq, beq_self_eq_true, bne_self_eq_false, imp_self, true_implies, false_implies, implies_true, evP, evE, ev, setD, Nat.reduceAdd, Nat.reduceSub, reduceCtorEq, fillA, cutA, Nat.reduceLeDiff, Nat.reduceMul, Int.reduceLT, Int.reduceLE, Int.reduceEq, Int.reduceNe, Int.reduceAdd, Int.reduceSub, Int.reduceMul, Int.reduceNeg, Int.reduceToNat,  h2])
  · exact ⟨-1, rfl, by omega⟩
  · by_cases hc : (l.length : Int) ≤ r
    all_goals refine q_use (laws_szInt64S s'.Q hq r (by omega) (by omega) _) fun n2 hn2 => ?_
    · rw [if_pos hc]
      simp (maxSteps := 2000000) -implicitDefEqProofs (disch := omega) only [xsW, xsC, if_true, if_false, ite_true, ite_false, forall_const, ne_eq, beq_self_eq_true, bne_self_eq_false, imp_self, true_implies, false_implies, implies_true, evP, evE, ev, setD, Nat.reduceAdd, Nat.reduceSub, reduceCtorEq, fillA, cutA, Nat.reduceLeDiff, Nat.reduceMul, Int.reduceLT, Int.reduceLE, Int.reduceEq, Int.reduceNe, Int.reduceAdd, Int.reduceSub, Int.reduceMul, Int.reduceNeg, Int.reduceToNat]
      exact ⟨_, rfl, by omega, by omega, fun _ => ⟨hr2 (by omega), by omega⟩⟩
    · rw [if_neg hc]
      simp (maxSteps := 2000000) -implicitDefEqProofs (disch := omega) only [xsW, xsC, if_true, if_false, ite_true, ite_false, forall_const, ne_eq, beq_self_eq_true, bne_self_eq_false, imp_self, true_implies, false_implies, implies_true, evP, evE, ev, setD, Nat.reduceAdd, Nat.reduceSub, reduceCtorEq, fillA, cutA, Nat.reduceLeDiff, Nat.reduceMul, Int.reduceLT, Int.reduceLE, Int.reduceEq, Int.reduceNe, Int.reduceAdd, Int.reduceSub, Int.reduceMul, Int.reduceNeg, Int.reduceToNat]
      exact ⟨-1, rfl, by omega⟩
theorem laws_toProblem (s : Prob w lo hi h v u vs ll l) (hl : ll.length ≤ 1048576) (hll : ∀ l ∈ ll, l.length ≤ 1048576) (hq : l.length ≤ 1048576) (n : Nat) (hn : hi ≤ n) :
    FQ Try.prog 10 [.agg [v, u]] h n fun x h' n' => ∃ v' u' vs', x = .agg [v', u'] ∧ Prob true n n' h' v' u' vs' ll l := by
  refine fq_intro Try.func10 k_laws_toProblem ?_
  have o1 := one_any (Sl.any s.M.out)
  have o2 := one_any (Sl.any s.Q)
  simp (maxSteps := 2000000) -implicitDefEqProofs (disch := omega) only [c_laws_toProblem, o1, o2, xsW, xsC, if_true, if_false, ite_true, ite_false, forall_const, ne_eq, beq_self_eq_true, bne_self_eq_false, imp_self, true_implies, false_implies, implies_true, evP, evE, ev, setD, Nat.reduceAdd, Nat.reduceSub, reduceCtorEq, fillA, cutA, Nat.reduceLeDiff, Nat.reduceMul, Int.reduceLT, Int.reduceLE, Int.reduceEq, Int.reduceNe, Int.reduceAdd, Int.reduceSub, Int.reduceMul, Int.reduceNeg, Int.reduceToNat]
  refine fq_use (laws_toInt64SS (s.M.keep (fun i _ hi9 => by simp (disch := omega) only [upd_other])) hl hll _ (by omega)) fun v1 g1 n1 hn1 hs1 ⟨vs1, hv1⟩ => ?_
  have o3 := sto_any (Sl.any hv1.out)
  have o4 := cel_any (Sl.any hv1.out)
  have o5 := one_any (Sl.any hv1.out)
  simp (maxSteps := 2000000) -implicitDefEqProofs (disch := omega) only [xsW, xsC, if_true, if_false, ite_true, ite_false, forall_const, ne_eq, beq_self_eq_true, bne_self_eq_false, imp_self, true_implies, false_implies, implies_true, evP, evE, ev, setD, Nat.reduceAdd, Nat.reduceSub, reduceCtorEq, fillA, cutA, Nat.reduceLeDiff, Nat.reduceMul, Int.reduceLT, Int.reduceLE, Int.reduceEq, Int.reduceNe, Int.reduceAdd, Int.reduceSub, Int.reduceMul, Int.reduceNeg, Int.reduceToNat,  hs1, o3, o4]
  refine fq_use (laws_toInt64S (s.Q.keep (fun i _ hi9 => by simp (disch := omega) only [upd_other, hs1])) hq _ (by omega)) fun v2 g2 n2 hn2 hs2 hv2 => ?_
  have o6 := sto_any (Sl.any hv2)
  have o7 := cel_any (Sl.any hv2)
  have o8 := one_any (Sl.any hv2)
  simp (maxSteps := 2000000) -implicitDefEqProofs (disch := omega) only [xsW, xsC, if_true, if_false, ite_true, ite_false, forall_const, ne_eq, beq_self_eq_true, bne_self_eq_false, imp_self, true_implies, false_implies, implies_true, evP, evE, ev, setD, Nat.reduceAdd, Nat.reduceSub, reduceCtorEq, fillA, cutA, Nat.reduceLeDiff, Nat.reduceMul, Int.reduceLT, Int.reduceLE, Int.reduceEq, Int.reduceNe, Int.reduceAdd, Int.reduceSub, Int.reduceMul, Int.reduceNeg, Int.reduceToNat,  hs2, hs1, o3, o4, o5, o6, o7, o8]
  intro _ g3 hg3
  have k1 := (hv1.keep (h' := g3) (fun i _ hi9 => by simp (disch := omega) only [upd_other, hg3, hs2]))
  have k2 := (hv2.keep (h' := g3) (fun i _ hi9 => by simp (disch := omega) only [upd_other, hg3]))
  refine ⟨v1, v2, vs1, ⟨rfl, rfl⟩, k1.wide (by omega) hn2, k2.wide (by omega) (Nat.le_refl _), fun _ h0 => ?_⟩
  have b2 := Sl.own k2 h0
  refine ⟨fun h1 => ?_, fun k hk h1 => ?_⟩
  · have b1 := k1.out.own h1
    omega
  · have b1 := Sl.own (k1.row k hk) h1
    omega
theorem laws_eqProblem {w' : Bool} {lo' hi' : Nat} {v' u' : AV} {vs' : List AV} {ll' : List (List Int)} {l' : List Int} (s : Prob w lo hi h v u vs ll l) (s' : Prob w' lo' hi' h v' u' vs' ll' l') (hl : ll.length ≤ 1048576) (hll : ∀ l ∈ ll, l.length ≤ 1048576) (hq : l.length ≤ 1048576) (n : Nat) (hn : hi ≤ n) (hn' : hi' ≤ n) :
    Q Try.prog 13 [.agg [v, u], .agg [v', u']] h n (.bool (decide (ll = ll' ∧ l = l'))) := by
  refine q_intro Try.func13 k_laws_eqProblem ?_
  have o1 := one_any (Sl.any s.M.out)
  have o2 := one_any (Sl.any s.Q)
  have o3 := one_any (Sl.any s'.M.out)
  have o4 := one_any (Sl.any s'.Q)
  simp (maxSteps := 2000000) -implicitDefEqProofs (disch := omega) only [c_laws_eqProblem, o1, o2, o3, o4, xsW, xsC, if_true, if_false, ite_true, ite_false, forall_const, ne_eq, beq_self_eq_true, bne_self_eq_false, imp_self, true_implies, false_implies, implies_true, evP, evE, ev, setD, Nat.reduceAdd, Nat.reduceSub, reduceCtorEq, fillA, cutA, Nat.reduceLeDiff, Nat.reduceMul, Int.reduceLT, Int.reduceLE, Int.reduceEq, Int.reduceNe, Int.reduceAdd, Int.reduceSub, Int.reduceMul, Int.reduceNeg, Int.reduceToNat]
  refine q_use (laws_eqInt64SS (s.M.keep (fun i _ hi9 => by simp (disch := omega) only [upd_other])) (s'.M.keep (fun i _ hi9 => by simp (disch := omega) only [upd_other])) hl hll _) fun n1 hn1 => ?_
  simp (maxSteps := 2000000) -implicitDefEqProofs (disch := omega) only [xsW, xsC, if_true, if_false, ite_true, ite_false, forall_const, ne_eq, beq_self_eq_true, bne_self_eq_false, imp_self, true_implies, false_implies, implies_true, evP, evE, ev, setD, Nat.reduceAdd, Nat.reduceSub, reduceCtorEq, fillA, cutA, Nat.reduceLeDiff, Nat.reduceMul, Int.reduceLT, Int.reduceLE, Int.reduceEq, Int.reduceNe, Int.reduceAdd, Int.reduceSub, Int.reduceMul, Int.reduceNeg, Int.reduceToNat]
  (refine cd_dec (fun h1 => ?_) (fun h1 => ?_) <;> simp (maxSteps := 2000000) -implicitDefEqProofs (disch := omega) only [xsW, xsC, if_true, if_false, ite_true, ite_false, forall_const, ne_eq, beq_self_eq_true, bne_self_eq_false, imp_self, true_implies, false_implies, implies_true, evP, evE, ev, setD, Nat.reduceAdd, Nat.reduceSub, reduceCtorEq, fillA, cutA, Nat.reduceLeDiff, Nat.reduceMul, Int.reduceLT, Int.reduceLE, Int.reduceEq, Int.reduceNe, Int.reduceAdd, Int.reduceSub, Int.reduceMul, Int.reduceNeg, Int.reduceToNat,  h1])
  refine q_use (laws_eqInt64S (s.Q.keep (fun i _ hi9 => by simp (disch := omega) only [upd_other])) (s'.Q.keep (fun i _ hi9 => by simp (disch := omega) only [upd_other])) hq _) fun n2 hn2 => ?_
  simp (maxSteps := 2000000) -implicitDefEqProofs (disch := omega) only [xsW, xsC, if_true, if_false, ite_true, ite_false, forall_const, ne_eq, beq_self_eq_true, bne_self_eq_false, imp_self, true_implies, false_implies, implies_true, evP, evE, ev, setD, Nat.reduceAdd, Nat.reduceSub, reduceCtorEq, fillA, cutA, Nat.reduceLeDiff, Nat.reduceMul, Int.reduceLT, Int.reduceLE, Int.reduceEq, Int.reduceNe, Int.reduceAdd, Int.reduceSub, Int.reduceMul, Int.reduceNeg, Int.reduceToNat]
  (refine cd_dec (fun h2 => ?_) (fun h2 => ?_) <;> simp (maxSteps := 2000000) -implicitDefEqProofs (disch := omega) only [xsW, xsC, if_true, if_false, ite_true, ite_false, forall_const, ne_eq, beq_self_eq_true, bne_self_eq_false, imp_self, true_implies, false_implies, implies_true, evP, evE, ev, setD, Nat.reduceAdd, Nat.reduceSub, reduceCtorEq, fillA, cutA, Nat.reduceLeDiff, Nat.reduceMul, Int.reduceLT, Int.reduceLE, Int.reduceEq, Int.reduceNe, Int.reduceAdd, Int.reduceSub, Int.reduceMul, Int.reduceNeg, Int.reduceToNat,  h2])
  rw [decide_eq_true ⟨Decidable.not_not.1 h1, Decidable.not_not.1 h2⟩]
theorem impl_IsProblem (s : Prob w lo hi h v u vs ll l) (hl : ll.length ≤ 1048576) (hll : ∀ l ∈ ll, l.length ≤ 1048576) (hq : l.length ≤ 1048576) (n : Nat) (hn : hi ≤ n) :
    Q Try.prog 101 [.agg [v, u]] h n (.bool (isProb ll l)) := by
  refine q_intro Try.func101 k_impl_IsProblem ?_
  have o1 := one_any (Sl.any s.M.out)
  have o2 := one_any (Sl.any s.Q)
  simp (maxSteps := 2000000) -implicitDefEqProofs (disch := omega) only [c_impl_IsProblem, o1, o2, xsW, xsC, if_true, if_false, ite_true, ite_false, forall_const, ne_eq, beq_self_eq_true, bne_self_eq_false, imp_self, true_implies, false_implies, implies_true, evP, evE, ev, setD, Nat.reduceAdd, Nat.reduceSub, reduceCtorEq, fillA, cutA, Nat.reduceLeDiff, Nat.reduceMul, Int.reduceLT, Int.reduceLE, Int.reduceEq, Int.reduceNe, Int.reduceAdd, Int.reduceSub, Int.reduceMul, Int.reduceNeg, Int.reduceToNat]
  refine q_use (impl_IsMatrix (s.M.keep (fun i _ hi9 => by simp (disch := omega) only [upd_other])) hl hll _ (by omega)) fun n1 hn1 => ?_
  simp only [isProb]
  cases hm : isMat ll
  · simp (maxSteps := 2000000) -implicitDefEqProofs (disch := omega) only [xsW, xsC, if_true, if_false, ite_true, ite_false, forall_const, ne_eq, beq_self_eq_true, bne_self_eq_false, imp_self, true_implies, false_implies, implies_true, evP, evE, ev, setD, Nat.reduceAdd, Nat.reduceSub, reduceCtorEq, fillA, cutA, Nat.reduceLeDiff, Nat.reduceMul, Int.reduceLT, Int.reduceLE, Int.reduceEq, Int.reduceNe, Int.reduceAdd, Int.reduceSub, Int.reduceMul, Int.reduceNeg, Int.reduceToNat]
  simp (maxSteps := 2000000) -implicitDefEqProofs (disch := omega) only [xsW, xsC, if_true, if_false, ite_true, ite_false, forall_const, ne_eq, beq_self_eq_true, bne_self_eq_false, imp_self, true_implies, false_implies, implies_true, evP, evE, ev, setD, Nat.reduceAdd, Nat.reduceSub, reduceCtorEq, fillA, cutA, Nat.reduceLeDiff, Nat.reduceMul, Int.reduceLT, Int.reduceLE, Int.reduceEq, Int.reduceNe, Int.reduceAdd, Int.reduceSub, Int.reduceMul, Int.reduceNeg, Int.reduceToNat,  s.M.ln, s.Q.ln]
  (refine gd_dec (fun h1 => ?_) (fun h1 => ?_) <;> simp (maxSteps := 2000000) -implicitDefEqProofs (disch := omega) only [xsW, xsC, if_true, if_false, ite_true, ite_false, forall_const, ne_eq, beq_self_eq_true, bne_self_eq_false, imp_self, true_implies, false_implies, implies_true, evP, evE, ev, setD, Nat.reduceAdd, Nat.reduceSub, reduceCtorEq, fillA, cutA, Nat.reduceLeDiff, Nat.reduceMul, Int.reduceLT, Int.reduceLE, Int.reduceEq, Int.reduceNe, Int.reduceAdd, Int.reduceSub, Int.reduceMul, Int.reduceNeg, Int.reduceToNat,  h1])
  · refine q_use (impl_allUpTo (s.Q.keep (fun i _ hi9 => by simp (disch := omega) only [upd_other])) (by omega) _ (by unfold in64; omega) _ (by omega)) fun n2 hn2 => ?_
    simp (maxSteps := 2000000) -implicitDefEqProofs (disch := omega) only [xsW, xsC, if_true, if_false, ite_true, ite_false, forall_const, ne_eq, beq_self_eq_true, bne_self_eq_false, imp_self, true_implies, false_implies, implies_true, evP, evE, ev, setD, Nat.reduceAdd, Nat.reduceSub, reduceCtorEq, fillA, cutA, Nat.reduceLeDiff, Nat.reduceMul, Int.reduceLT, Int.reduceLE, Int.reduceEq, Int.reduceNe, Int.reduceAdd, Int.reduceSub, Int.reduceMul, Int.reduceNeg, Int.reduceToNat]
    rw [decide_eq_true (show l.length = ll.length by omega)]
    rfl
  · rw [decide_eq_false (show ¬ l.length = ll.length by omega)]
    rfl
theorem spec_l01Is (s : Prob w lo hi h v u vs ll l) (hl : ll.length ≤ 1048576) (hll : ∀ l ∈ ll, l.length ≤ 1048576) (hq : l.length ≤ 1048576) (n : Nat) (hn : hi ≤ n) :
    Q Try.prog 53 [.agg [v, u]] h n (.bool (isProb ll l)) := by
  refine q_intro Try.func53 k_spec_l01Is ?_
  have o1 := one_any (Sl.any s.M.out)
  have o2 := one_any (Sl.any s.Q)
  simp (maxSteps := 2000000) -implicitDefEqProofs (disch := omega) only [c_spec_l01Is, o1, o2, xsW, xsC, if_true, if_false, ite_true, ite_false, forall_const, ne_eq, beq_self_eq_true, bne_self_eq_false, imp_self, true_implies, false_implies, implies_true, evP, evE, ev, setD, Nat.reduceAdd, Nat.reduceSub, reduceCtorEq, fillA, cutA, Nat.reduceLeDiff, Nat.reduceMul, Int.reduceLT, Int.reduceLE, Int.reduceEq, Int.reduceNe, Int.reduceAdd, Int.reduceSub, Int.reduceMul, Int.reduceNeg, Int.reduceToNat]
  refine q_use (spec_l01Matrix (s.M.keep (fun i _ hi9 => by simp (disch := omega) only [upd_other])) hl _) fun n1 hn1 => ?_
  simp only [isProb]
  cases hm : isMat ll
  · simp (maxSteps := 2000000) -implicitDefEqProofs (disch := omega) only [xsW, xsC, if_true, if_false, ite_true, ite_false, forall_const, ne_eq, beq_self_eq_true, bne_self_eq_false, imp_self, true_implies, false_implies, implies_true, evP, evE, ev, setD, Nat.reduceAdd, Nat.reduceSub, reduceCtorEq, fillA, cutA, Nat.reduceLeDiff, Nat.reduceMul, Int.reduceLT, Int.reduceLE, Int.reduceEq, Int.reduceNe, Int.reduceAdd, Int.reduceSub, Int.reduceMul, Int.reduceNeg, Int.reduceToNat]
  simp (maxSteps := 2000000) -implicitDefEqProofs (disch := omega) only [xsW, xsC, if_true, if_false, ite_true, ite_false, forall_const, ne_eq, beq_self_eq_true, bne_self_eq_false, imp_self, true_implies, false_implies, implies_true, evP, evE, ev, setD, Nat.reduceAdd, Nat.reduceSub, reduceCtorEq, fillA, cutA, Nat.reduceLeDiff, Nat.reduceMul, Int.reduceLT, Int.reduceLE, Int.reduceEq, Int.reduceNe, Int.reduceAdd, Int.reduceSub, Int.reduceMul, Int.reduceNeg, Int.reduceToNat,  s.M.ln, s.Q.ln]
  (refine cd_dec (fun h1 => ?_) (fun h1 => ?_) <;> simp (maxSteps := 2000000) -implicitDefEqProofs (disch := omega) only [xsW, xsC, if_true, if_false, ite_true, ite_false, forall_const, ne_eq, beq_self_eq_true, bne_self_eq_false, imp_self, true_implies, false_implies, implies_true, evP, evE, ev, setD, Nat.reduceAdd, Nat.reduceSub, reduceCtorEq, fillA, cutA, Nat.reduceLeDiff, Nat.reduceMul, Int.reduceLT, Int.reduceLE, Int.reduceEq, Int.reduceNe, Int.reduceAdd, Int.reduceSub, Int.reduceMul, Int.reduceNeg, Int.reduceToNat,  h1])
  · rw [decide_eq_false (show ¬ l.length = ll.length by omega)]; rfl
  rw [decide_eq_true (show l.length = ll.length by omega)]
  refine loop_for l.length 0 (fun k (_ : Unit) => [.any, .ptr n 0, .bool false, .int .i64 k, .any, .any, .any, .any, .any, .any, .any, .any, .any, .any, .any, .any, .any, .any, .any, .any, .any, .any, .any, .any, .any, .any, .any, .any, .any, .any, .any]) (fun k _ => upd h n (some ⟨31, [v, u], true, 0⟩))
    (fun j _ _ => ∀ i, i < j → -100 ≤ l.getD i 0 ∧ l.getD i 0 ≤ 100) () (Nat.zero_le _) (fun j hj => absurd hj (Nat.not_lt_zero _)) (by simp [LeL, Le1]) (fun _ _ h => h) ?_
  rintro k - n2 - hk hn2 he
  simp (maxSteps := 2000000) -implicitDefEqProofs (disch := omega) only [xsW, xsC, if_true, if_false, ite_true, ite_false, forall_const, ne_eq, beq_self_eq_true, bne_self_eq_false, imp_self, true_implies, false_implies, implies_true, evP, evE, ev, setD, Nat.reduceAdd, Nat.reduceSub, reduceCtorEq, fillA, cutA, Nat.reduceLeDiff, Nat.reduceMul, Int.reduceLT, Int.reduceLE, Int.reduceEq, Int.reduceNe, Int.reduceAdd, Int.reduceSub, Int.reduceMul, Int.reduceNeg, Int.reduceToNat,  s.Q.ln]
  (refine cd_dec (fun h2 => ?_) (fun h2 => ?_) <;> simp (maxSteps := 2000000) -implicitDefEqProofs (disch := omega) only [xsW, xsC, if_true, if_false, ite_true, ite_false, forall_const, ne_eq, beq_self_eq_true, bne_self_eq_false, imp_self, true_implies, false_implies, implies_true, evP, evE, ev, setD, Nat.reduceAdd, Nat.reduceSub, reduceCtorEq, fillA, cutA, Nat.reduceLeDiff, Nat.reduceMul, Int.reduceLT, Int.reduceLE, Int.reduceEq, Int.reduceNe, Int.reduceAdd, Int.reduceSub, Int.reduceMul, Int.reduceNeg, Int.reduceToNat,  h2])
  · have hk' : k < l.length := by omega
    have hb := Sl.below s.Q (by rw [s.Q.slen]; omega)
    simp (maxSteps := 2000000) -implicitDefEqProofs (disch := omega) only [xsW, xsC, if_true, if_false, ite_true, ite_false, forall_const, ne_eq, beq_self_eq_true, bne_self_eq_false, imp_self, true_implies, false_implies, implies_true, evP, evE, ev, setD, Nat.reduceAdd, Nat.reduceSub, reduceCtorEq, fillA, cutA, Nat.reduceLeDiff, Nat.reduceMul, Int.reduceLT, Int.reduceLE, Int.reduceEq, Int.reduceNe, Int.reduceAdd, Int.reduceSub, Int.reduceMul, Int.reduceNeg, Int.reduceToNat,  s.Q.ia, s.Q.ld]
    refine q_use (spec_l01In _ _ _ _ _) fun n3 hn3 => ?_
    simp (maxSteps := 2000000) -implicitDefEqProofs (disch := omega) only [xsW, xsC, if_true, if_false, ite_true, ite_false, forall_const, ne_eq, beq_self_eq_true, bne_self_eq_false, imp_self, true_implies, false_implies, implies_true, evP, evE, ev, setD, Nat.reduceAdd, Nat.reduceSub, reduceCtorEq, fillA, cutA, Nat.reduceLeDiff, Nat.reduceMul, Int.reduceLT, Int.reduceLE, Int.reduceEq, Int.reduceNe, Int.reduceAdd, Int.reduceSub, Int.reduceMul, Int.reduceNeg, Int.reduceToNat]
    (refine cd_dec (fun h3 => ?_) (fun h3 => ?_) <;> simp (maxSteps := 2000000) -implicitDefEqProofs (disch := omega) only [xsW, xsC, if_true, if_false, ite_true, ite_false, forall_const, ne_eq, beq_self_eq_true, bne_self_eq_false, imp_self, true_implies, false_implies, implies_true, evP, evE, ev, setD, Nat.reduceAdd, Nat.reduceSub, reduceCtorEq, fillA, cutA, Nat.reduceLeDiff, Nat.reduceMul, Int.reduceLT, Int.reduceLE, Int.reduceEq, Int.reduceNe, Int.reduceAdd, Int.reduceSub, Int.reduceMul, Int.reduceNeg, Int.reduceToNat,  h3])
    · symm
      rw [Bool.eq_false_iff]
      intro hx
      rw [within_iff] at hx
      have := hx k hk'
      omega
    · exact ⟨(), fun i hi' => (Nat.lt_succ_iff_lt_or_eq.1 hi').elim (he i) (fun e => by rw [e]; omega), by omega, by omega, (by simp [LeL, Le1])⟩
  · symm
    rw [within_iff]
    exact fun i hi' => he i (by omega)
end
end Go.Proofs.Ytkpibnhddhdooab.L
