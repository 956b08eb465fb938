/- Contracts: the sets whose points satisfy a test; BasicSets. -/
import Derived.Test.YtmjfekgbbjojdadA25
import Derived.Test.YtmjfekgbbjojdadA27
namespace Go.Proofs.Ytmjfekgbbjojdad.L
open Go
set_option linter.unusedSimpArgs false
set_option linter.unusedVariables false
def c_impl_Problem_all : F := ⟨(.seq (.reg false [⟨(some 1), (.box 30 (.t 0)), none⟩, ⟨(some 2), (.mv (.c (.int .i64 0))), none⟩]) (.seq (.reg false [⟨(some 3), (.fa 1 (.t 1)), none⟩, ⟨(some 4), (.ld1 (.t 3)), none⟩, ⟨(some 5), (.len (.t 4)), none⟩, ⟨(some 6), (.bin .shl (.c (.int .i64 1)) (.t 5)), none⟩, ⟨(some 2), (.mv (.t 6)), none⟩]) .ret)), 7, [(.t 2)]⟩
theorem k_impl_Problem_all : compF Try.prog Try.f85 = some c_impl_Problem_all := by kernel_rfl
def c_impl_sets : F := ⟨(.seq (.reg false [⟨(some 2), (.box 30 (.t 0)), none⟩, ⟨(some 4), (.mv (.c .nilsl)), none⟩, ⟨(some 5), (.mv (.c (.int .i64 0))), none⟩]) (.seq (.seq (.reg false [⟨(some 11), (.ld 2 (.t 2)), none⟩, ⟨(some 12), (.call (.f 75) [(.t 11)]), none⟩, ⟨(some 13), (.un .not (.t 12)), none⟩]) (.cond (.t 13) (.seq (.reg false [⟨(some 4), (.mv (.c .nilsl)), none⟩, ⟨(some 5), (.mv (.c (.int .i64 1))), none⟩]) .ret) .skip)) (.seq (.reg false [⟨(some 6), (.mv (.c .nilsl)), none⟩]) (.seq (.seq (.reg false [⟨(some 14), (.ld 2 (.t 2)), none⟩, ⟨(some 15), (.call (.f 85) [(.t 14)]), none⟩, ⟨(some 16), (.mv (.c (.int .i64 0))), none⟩]) (.block 0 (.loop (.seq (.reg false [⟨(some 17), (.bin .lss (.t 16) (.t 15)), none⟩]) (.seq (.cond (.t 17) .skip (.exit 0)) (.seq (.block 1 (.seq (.reg false [⟨(some 18), (.mv (.t 16)), none⟩, ⟨(some 7), (.mv (.t 18)), none⟩]) (.seq (.reg false [⟨(some 20), (.ld 2 (.t 2)), none⟩, ⟨(some 21), (.mv (.t 7)), none⟩, ⟨(some 22), (.call (.f 47) [(.t 20), (.t 21)]), none⟩, ⟨(some 19), (.mv (.t 22)), none⟩, ⟨(some 23), (.ext (.t 19) 0), none⟩, ⟨(some 24), (.ext (.t 19) 1), none⟩, ⟨(some 25), (.ext (.t 19) 2), none⟩, ⟨(some 8), (.mv (.t 23)), none⟩, ⟨(some 9), (.mv (.t 24)), none⟩, ⟨(some 10), (.mv (.t 25)), none⟩]) (.seq (.reg false [⟨(some 26), (.mv (.t 10)), none⟩, ⟨(some 27), (.mv (.t 26)), none⟩, ⟨(some 28), (.mv (.t 1)), (some (27, true))⟩, ⟨(some 29), (.mv (.t 8)), (some (27, true))⟩, ⟨(some 30), (.call (.t 28) [(.t 29)]), (some (27, true))⟩, ⟨(some 31), (.pick (.t 27) (.t 30) (.c (.bool false))), none⟩]) (.cond (.t 31) (.reg false [⟨(some 32), (.mv (.t 6)), none⟩, ⟨(some 33), (.mv (.t 7)), none⟩, ⟨(some 34), (.lit 2 1 1 [(.int .i64 0)] [(0, (.t 33))]), none⟩, ⟨(some 35), (.app 2 1 8 [(.int .i64 0)] (.t 32) (.t 34)), none⟩, ⟨(some 6), (.mv (.t 35)), none⟩]) .skip))))) (.reg false [⟨(some 36), (.bin .add (.t 16) (.c (.int .i64 1))), none⟩, ⟨(some 16), (.mv (.t 36)), none⟩]))))))) (.seq (.reg false [⟨(some 37), (.mv (.t 6)), none⟩, ⟨(some 4), (.mv (.t 37)), none⟩, ⟨(some 5), (.mv (.c (.int .i64 0))), none⟩]) .ret))))), 38, [(.t 4), (.t 5)]⟩
theorem k_impl_sets : compF Try.prog Try.f57 = some c_impl_sets := by kernel_rfl
def c_impl_BasicSets_1 : F := ⟨(.seq (.reg false [⟨(some 2), (.mv (.c (.bool false))), none⟩]) (.seq (.reg false [⟨(some 2), (.mv (.c (.bool true))), none⟩]) .ret)), 3, [(.t 2)]⟩
theorem k_impl_BasicSets_1 : compF Try.prog Try.f58 = some c_impl_BasicSets_1 := by kernel_rfl
def c_impl_BasicSets : F := ⟨(.seq (.reg false [⟨(some 1), (.box 30 (.t 0)), none⟩, ⟨(some 2), (.mv (.c .nilsl)), none⟩, ⟨(some 3), (.mv (.c (.int .i64 0))), none⟩]) (.seq (.reg false [⟨(some 4), (.ld 2 (.t 1)), none⟩, ⟨(some 5), (.call (.f 57) [(.t 4), (.f 58)]), none⟩, ⟨(some 6), (.ext (.t 5) 0), none⟩, ⟨(some 7), (.ext (.t 5) 1), none⟩, ⟨(some 2), (.mv (.t 6)), none⟩, ⟨(some 3), (.mv (.t 7)), none⟩]) .ret)), 8, [(.t 2), (.t 3)]⟩
theorem k_impl_BasicSets : compF Try.prog Try.f19 = some c_impl_BasicSets := by kernel_rfl
def c_spec_l02Basic : F := ⟨(.seq (.reg false [⟨(some 1), (.box 30 (.t 0)), none⟩, ⟨(some 2), (.mv (.c .nilsl)), none⟩]) (.seq (.reg false [⟨(some 5), (.lit 2 1 0 [(.int .i64 0)] []), none⟩, ⟨(some 3), (.mv (.t 5)), none⟩]) (.seq (.seq (.reg false [⟨(some 4), (.mv (.c (.int .i64 0))), none⟩]) (.block 0 (.loop (.seq (.seq (.reg false [⟨(some 6), (.mv (.t 4)), none⟩, ⟨(some 7), (.fa 1 (.t 1)), none⟩, ⟨(some 8), (.ld1 (.t 7)), none⟩, ⟨(some 9), (.len (.t 8)), none⟩, ⟨(some 10), (.cvi .u64 (.t 9)), none⟩, ⟨(some 11), (.bin .shl (.c (.int .i64 1)) (.t 10)), none⟩, ⟨(some 12), (.bin .lss (.t 6) (.t 11)), none⟩]) (.cond (.t 12) .skip (.exit 0))) (.seq (.block 1 (.seq (.reg false [⟨(some 15), (.fa 0 (.t 1)), none⟩, ⟨(some 16), (.ld1 (.t 15)), none⟩, ⟨(some 17), (.mv (.t 4)), none⟩, ⟨(some 18), (.call (.f 88) [(.t 16), (.t 17)]), none⟩, ⟨(some 19), (.call (.f 87) [(.t 18)]), none⟩, ⟨(some 20), (.bin .neq (.t 19) (.c (.int .i64 0))), none⟩]) (.cond (.t 20) (.reg false [⟨(some 21), (.mv (.t 3)), none⟩, ⟨(some 22), (.mv (.t 4)), none⟩, ⟨(some 23), (.lit 2 1 1 [(.int .i64 0)] [(0, (.t 22))]), none⟩, ⟨(some 24), (.app 2 1 8 [(.int .i64 0)] (.t 21) (.t 23)), none⟩, ⟨(some 3), (.mv (.t 24)), none⟩]) .skip))) (.reg false [⟨(some 13), (.mv (.t 4)), none⟩, ⟨(some 14), (.bin .add (.t 13) (.c (.int .i64 1))), none⟩, ⟨(some 4), (.mv (.t 14)), none⟩])))))) (.seq (.reg false [⟨(some 25), (.mv (.t 3)), none⟩, ⟨(some 2), (.mv (.t 25)), none⟩]) .ret)))), 26, [(.t 2)]⟩
theorem k_spec_l02Basic : compF Try.prog Try.f60 = some c_spec_l02Basic := by kernel_rfl
def c_spec_BasicSets : F := ⟨(.seq (.reg false [⟨(some 1), (.box 30 (.t 0)), none⟩, ⟨(some 2), (.mv (.c .nilsl)), none⟩, ⟨(some 3), (.mv (.c (.int .i64 0))), none⟩]) (.seq (.seq (.reg false [⟨(some 4), (.ld 2 (.t 1)), none⟩, ⟨(some 5), (.call (.f 59) [(.t 4)]), none⟩, ⟨(some 6), (.un .not (.t 5)), none⟩]) (.cond (.t 6) (.seq (.reg false [⟨(some 2), (.mv (.c .nilsl)), none⟩, ⟨(some 3), (.mv (.c (.int .i64 1))), none⟩]) .ret) .skip)) (.seq (.reg false [⟨(some 7), (.ld 2 (.t 1)), none⟩, ⟨(some 8), (.call (.f 60) [(.t 7)]), none⟩, ⟨(some 2), (.mv (.t 8)), none⟩, ⟨(some 3), (.mv (.c (.int .i64 0))), none⟩]) .ret))), 9, [(.t 2), (.t 3)]⟩
theorem k_spec_BasicSets : compF Try.prog Try.f20 = some c_spec_BasicSets := by kernel_rfl

/-- The numbers below a bound that satisfy a test. -/
def selL (p : Nat → Bool) (k : Nat) : List Int := ((List.range k).filter p).map fun i : Nat => (i : Int)
theorem selL_t {p : Nat → Bool} {k : Nat} (h : p k = true) : selL p (k + 1) = selL p k ++ [(k : Int)] := by
  unfold selL; rw [List.range_succ, List.filter_append, List.filter_cons_of_pos (by simpa using h)]; simp
theorem selL_f {p : Nat → Bool} {k : Nat} (h : p k = false) : selL p (k + 1) = selL p k := by
  unfold selL; rw [List.range_succ, List.filter_append, List.filter_cons_of_neg (by simp [h])]; simp
theorem selL_len (p : Nat → Bool) (k : Nat) : (selL p k).length ≤ k := by
  have := List.length_filter_le p (List.range k)
  simpa [selL] using this
/-- The sets with an invertible matrix of columns whose point satisfies a test. -/
def setP (ll : List (List Int)) (q : List Int) (T : List Int → Bool) (s : Nat) : Bool := decide (dtS ll s ≠ 0) && T (solL ll q s)
def setsV (ll : List (List Int)) (q : List Int) (T : List Int → Bool) : List Int × Int := if isProb ll q = true then (selL (setP ll q T) (pw ll.length), 0) else ([], 1)
theorem setsV_small (ll : List (List Int)) (q : List Int) (T : List Int → Bool) : (setsV ll q T).1.length ≤ 1048576 := by
  unfold setsV
  split
  · rename_i hp
    have h1 := selL_len (setP ll q T) (pw ll.length)
    have h2 := pw_le ((isMat_iff ll).1 (isProb_facts hp).1).2.1
    simp only; omega
  · simp
section
variable {w : Bool} {lo hi : Nat} {h : AH} {v u : AV} {vs : List AV} {ll : List (List Int)} {q : List Int}
theorem impl_all (s : Prob w lo hi h v u vs ll q) (hp : isProb ll q = true) (n : Nat) (hn : hi ≤ n) : Q Try.prog 85 [.agg [v, u]] h n (.int .i64 (pw ll.length)) := by
  refine q_intro Try.func85 k_impl_Problem_all ?_
  have o1 := one_any (Sl.any s.M.out)
  have o2 := one_any (Sl.any s.Q)
  have hN := ((isMat_iff ll).1 (isProb_facts hp).1).2.1
  have hq := (isProb_facts hp).2.1
  have h2 := pw_le hN
  simp (maxSteps := 2000000) -implicitDefEqProofs (disch := omega) only [c_impl_Problem_all, o1, o2, s.Q.ln, hq, shl1, xsW, xsC, if_true, if_false, ite_true, ite_false, forall_const, ne_eq, beq_self_eq_true, bne_self_eq_false, imp_self, true_implies, false_implies, implies_true, evP, evE, ev, setD, Nat.reduceAdd, Nat.reduceSub, reduceCtorEq, fillA, cutA, Nat.reduceLeDiff, Nat.reduceMul, Int.reduceLT, Int.reduceLE, Int.reduceEq, Int.reduceNe, Int.reduceAdd, Int.reduceSub, Int.reduceMul, Int.reduceNeg, Int.reduceToNat]
theorem impl_sets (s : Prob w lo hi h v u vs ll q) (hl : ll.length ≤ 1048576) (hll : ∀ l ∈ ll, l.length ≤ 1048576) (hq : q.length ≤ 1048576) (g : Nat) (T : List Int → Bool)
    (hT : ∀ (l : List Int) (v' : AV) (lo' hi' : Nat) (h' : AH) (n' : Nat), Ints true lo' hi' h' v' l → l.length ≤ 5 → hi' ≤ n' → Q Try.prog g [v'] h' n' (.bool (T l))) (n : Nat) (hn : hi ≤ n) :
    FQ Try.prog 57 [.agg [v, u], .fn g []] h n fun x h' n' => ∃ v', x = .tup [v', .int .i64 (setsV ll q T).2] ∧ Ints true n n' h' v' (setsV ll q T).1 := by
  refine fq_intro Try.func57 k_impl_sets ?_
  have o1 := one_any (Sl.any s.M.out)
  have o2 := one_any (Sl.any s.Q)
  simp (maxSteps := 2000000) -implicitDefEqProofs (disch := omega) only [c_impl_sets, o1, o2, xsW, xsC, if_true, if_false, ite_true, ite_false, forall_const, ne_eq, beq_self_eq_true, bne_self_eq_false, imp_self, true_implies, false_implies, implies_true, evP, evE, ev, setD, Nat.reduceAdd, Nat.reduceSub, reduceCtorEq, fillA, cutA, Nat.reduceLeDiff, Nat.reduceMul, Int.reduceLT, Int.reduceLE, Int.reduceEq, Int.reduceNe, Int.reduceAdd, Int.reduceSub, Int.reduceMul, Int.reduceNeg, Int.reduceToNat]
  refine q_use (impl_IsProblem (s.keep (fun i _ hi9 => by simp (disch := omega) only [upd_other])) hl hll hq _ (by omega)) fun n1 hn1 => ?_
  cases hp : isProb ll q
  · simp (maxSteps := 2000000) -implicitDefEqProofs (disch := omega) only [xsW, xsC, if_true, if_false, ite_true, ite_false, forall_const, ne_eq, beq_self_eq_true, bne_self_eq_false, imp_self, true_implies, false_implies, implies_true, evP, evE, ev, setD, Nat.reduceAdd, Nat.reduceSub, reduceCtorEq, fillA, cutA, Nat.reduceLeDiff, Nat.reduceMul, Int.reduceLT, Int.reduceLE, Int.reduceEq, Int.reduceNe, Int.reduceAdd, Int.reduceSub, Int.reduceMul, Int.reduceNeg, Int.reduceToNat]
    intro _ h2 _
    exact ⟨.nilsl, by simp [setsV, hp], by simp [setsV, hp]; exact Sl.nil⟩
  · have hN := ((isMat_iff ll).1 (isProb_facts hp).1).2.1
    have hpw := pw_le hN
    simp (maxSteps := 2000000) -implicitDefEqProofs (disch := omega) only [xsW, xsC, if_true, if_false, ite_true, ite_false, forall_const, ne_eq, beq_self_eq_true, bne_self_eq_false, imp_self, true_implies, false_implies, implies_true, evP, evE, ev, setD, Nat.reduceAdd, Nat.reduceSub, reduceCtorEq, fillA, cutA, Nat.reduceLeDiff, Nat.reduceMul, Int.reduceLT, Int.reduceLE, Int.reduceEq, Int.reduceNe, Int.reduceAdd, Int.reduceSub, Int.reduceMul, Int.reduceNeg, Int.reduceToNat]
    refine q_use (impl_all (s.keep (fun i _ hi9 => by simp (disch := omega) only [upd_other])) hp _ (by omega)) fun n2 hn2 => ?_
    simp (maxSteps := 2000000) -implicitDefEqProofs (disch := omega) only [xsW, xsC, if_true, if_false, ite_true, ite_false, forall_const, ne_eq, beq_self_eq_true, bne_self_eq_false, imp_self, true_implies, false_implies, implies_true, evP, evE, ev, setD, Nat.reduceAdd, Nat.reduceSub, reduceCtorEq, fillA, cutA, Nat.reduceLeDiff, Nat.reduceMul, Int.reduceLT, Int.reduceLE, Int.reduceEq, Int.reduceNe, Int.reduceAdd, Int.reduceSub, Int.reduceMul, Int.reduceNeg, Int.reduceToNat]
    refine loop_for (pw ll.length) 0 (fun k p => [.agg [v, u], .fn g [], .ptr n 0, .any, .nilsl, .int .i64 0, p.1, .any, .any, .any, .any, .any, .any, .any, .any, .int .i64 (pw ll.length), .int .i64 k, .any, .any, .any, .any, .any, .any, .any, .any, .any, .any, .any, .any, .any, .any, .any, .any, .any, .any, .any, .any, .any]) (fun _ (p : AV × AH) => p.2)
      (fun k p m => Acc n2 m p.2 2 1 p.1 (ints (selL (setP ll q T) k)) ∧ n2 ≤ m ∧ ∀ j, j < n2 → p.2 j = upd h n (some ⟨30, [v, u], true, 0⟩) j) (.nilsl, _) (Nat.zero_le _) ⟨Acc.nil, by omega, fun _ _ => rfl⟩ (by simp [LeL, Le1]) (fun _ _ h => h) ?_
    rintro k ⟨out, hp'⟩ m - hk hm ⟨acc, hle, hold⟩
    simp only at acc hold
    have hbox : hp' n = some ⟨30, [v, u], true, 0⟩ := by rw [hold n (by omega), upd_same]
    simp (maxSteps := 2000000) -implicitDefEqProofs (disch := omega) only [xsW, xsC, if_true, if_false, ite_true, ite_false, forall_const, ne_eq, beq_self_eq_true, bne_self_eq_false, imp_self, true_implies, false_implies, implies_true, evP, evE, ev, setD, Nat.reduceAdd, Nat.reduceSub, reduceCtorEq, fillA, cutA, Nat.reduceLeDiff, Nat.reduceMul, Int.reduceLT, Int.reduceLE, Int.reduceEq, Int.reduceNe, Int.reduceAdd, Int.reduceSub, Int.reduceMul, Int.reduceNeg, Int.reduceToNat]
    (refine cd_dec (fun c1 => ?_) (fun c1 => ?_) <;> simp (maxSteps := 2000000) -implicitDefEqProofs (disch := omega) only [xsW, xsC, if_true, if_false, ite_true, ite_false, forall_const, ne_eq, beq_self_eq_true, bne_self_eq_false, imp_self, true_implies, false_implies, implies_true, evP, evE, ev, setD, Nat.reduceAdd, Nat.reduceSub, reduceCtorEq, fillA, cutA, Nat.reduceLeDiff, Nat.reduceMul, Int.reduceLT, Int.reduceLE, Int.reduceEq, Int.reduceNe, Int.reduceAdd, Int.reduceSub, Int.reduceMul, Int.reduceNeg, Int.reduceToNat,  c1])
    · have hsl := selL_len (setP ll q T) k
      simp (maxSteps := 2000000) -implicitDefEqProofs (disch := omega) only [xsW, xsC, if_true, if_false, ite_true, ite_false, forall_const, ne_eq, beq_self_eq_true, bne_self_eq_false, imp_self, true_implies, false_implies, implies_true, evP, evE, ev, setD, Nat.reduceAdd, Nat.reduceSub, reduceCtorEq, fillA, cutA, Nat.reduceLeDiff, Nat.reduceMul, Int.reduceLT, Int.reduceLE, Int.reduceEq, Int.reduceNe, Int.reduceAdd, Int.reduceSub, Int.reduceMul, Int.reduceNeg, Int.reduceToNat,  hbox]
      refine fq_use (impl_point (s.keep (h' := hp') (fun i _ hi9 => by simp (disch := omega) only [upd_other, hold])) hp (k : Int) m (by omega)) fun x1 h1 n3 hn3 hs1 hx1 => ?_
      have acc1 := (acc.keep (h' := h1) (fun i _ hi9 => by simp (disch := omega) only [upd_other, hs1])).wide (Nat.le_refl _) hn3
      rcases hx1 with ⟨d1, rfl⟩ | ⟨d1, v1, rfl, hv1⟩
      · simp (maxSteps := 2000000) -implicitDefEqProofs (disch := omega) only [xsW, xsC, if_true, if_false, ite_true, ite_false, forall_const, ne_eq, beq_self_eq_true, bne_self_eq_false, imp_self, true_implies, false_implies, implies_true, evP, evE, ev, setD, Nat.reduceAdd, Nat.reduceSub, reduceCtorEq, fillA, cutA, Nat.reduceLeDiff, Nat.reduceMul, Int.reduceLT, Int.reduceLE, Int.reduceEq, Int.reduceNe, Int.reduceAdd, Int.reduceSub, Int.reduceMul, Int.reduceNeg, Int.reduceToNat]
        exact ⟨(out, h1), ⟨by rw [selL_f (by simp [setP, d1])]; exact acc1, by omega, fun j hj => (hs1 j (by omega)).trans (hold j hj)⟩, by omega, by omega, (by simp [LeL, Le1]), fun _ _ h => h⟩
      · simp (maxSteps := 2000000) -implicitDefEqProofs (disch := omega) only [xsW, xsC, if_true, if_false, ite_true, ite_false, forall_const, ne_eq, beq_self_eq_true, bne_self_eq_false, imp_self, true_implies, false_implies, implies_true, evP, evE, ev, setD, Nat.reduceAdd, Nat.reduceSub, reduceCtorEq, fillA, cutA, Nat.reduceLeDiff, Nat.reduceMul, Int.reduceLT, Int.reduceLE, Int.reduceEq, Int.reduceNe, Int.reduceAdd, Int.reduceSub, Int.reduceMul, Int.reduceNeg, Int.reduceToNat]
        refine q_use (hT _ v1 _ _ h1 n3 hv1 (by rw [solL_len]; exact hN) (Nat.le_refl _)) fun n4 hn4 => ?_
        cases ht : T (solL ll q k)
        · simp (maxSteps := 2000000) -implicitDefEqProofs (disch := omega) only [xsW, xsC, if_true, if_false, ite_true, ite_false, forall_const, ne_eq, beq_self_eq_true, bne_self_eq_false, imp_self, true_implies, false_implies, implies_true, evP, evE, ev, setD, Nat.reduceAdd, Nat.reduceSub, reduceCtorEq, fillA, cutA, Nat.reduceLeDiff, Nat.reduceMul, Int.reduceLT, Int.reduceLE, Int.reduceEq, Int.reduceNe, Int.reduceAdd, Int.reduceSub, Int.reduceMul, Int.reduceNeg, Int.reduceToNat]
          exact ⟨(out, h1), ⟨by rw [selL_f (by simp [setP, ht])]; exact acc1.wide (Nat.le_refl _) hn4, by omega, fun j hj => (hs1 j (by omega)).trans (hold j hj)⟩, by omega, by omega, (by simp [LeL, Le1]), fun _ _ h => h⟩
        · simp (maxSteps := 2000000) -implicitDefEqProofs (disch := omega) only [xsW, xsC, if_true, if_false, ite_true, ite_false, forall_const, ne_eq, beq_self_eq_true, bne_self_eq_false, imp_self, true_implies, false_implies, implies_true, evP, evE, ev, setD, Nat.reduceAdd, Nat.reduceSub, reduceCtorEq, fillA, cutA, Nat.reduceLeDiff, Nat.reduceMul, Int.reduceLT, Int.reduceLE, Int.reduceEq, Int.reduceNe, Int.reduceAdd, Int.reduceSub, Int.reduceMul, Int.reduceNeg, Int.reduceToNat]
          refine app_int (y := (k : Int)) ((acc1.wide (Nat.le_refl _) hn4).keep (fun i _ hi9 => by simp (disch := omega) only [upd_other]) |>.wide (Nat.le_refl _) (by omega)) (by omega) (by omega) ⟨rfl, _, upd_same _ _ _, by simp, by simp [cutA]⟩ (by omega) fun v' h' n' q1 q2 q3 => ?_
          simp (maxSteps := 2000000) -implicitDefEqProofs (disch := omega) only [xsW, xsC, if_true, if_false, ite_true, ite_false, forall_const, ne_eq, beq_self_eq_true, bne_self_eq_false, imp_self, true_implies, false_implies, implies_true, evP, evE, ev, setD, Nat.reduceAdd, Nat.reduceSub, reduceCtorEq, fillA, cutA, Nat.reduceLeDiff, Nat.reduceMul, Int.reduceLT, Int.reduceLE, Int.reduceEq, Int.reduceNe, Int.reduceAdd, Int.reduceSub, Int.reduceMul, Int.reduceNeg, Int.reduceToNat]
          exact ⟨(v', h'), ⟨by rw [selL_t (by simp [setP, ht, d1])]; exact q2, by omega, fun j hj => (q3 j hj).trans (by rw [upd_other (by omega), hs1 j (by omega), hold j hj])⟩, by omega, by omega, (by simp [LeL, Le1]), fun _ _ h => h⟩
    · have e : k = pw ll.length := by omega
      subst e
      intro _ h2 hh
      exact ⟨out, by simp [setsV, hp], by simp only [setsV, hp, if_true]; exact (Acc.sl (acc.keep fun i a b => hh i (by omega) b)).wide (by omega) (Nat.le_refl _)⟩
theorem impl_BasicSets_1 {v' : AV} {h' : AH} {n' : Nat} : Q Try.prog 58 [v'] h' n' (.bool true) := by
  refine q_intro Try.func58 k_impl_BasicSets_1 ?_
  simp (maxSteps := 2000000) -implicitDefEqProofs (disch := omega) only [c_impl_BasicSets_1, xsW, xsC, if_true, if_false, ite_true, ite_false, forall_const, ne_eq, beq_self_eq_true, bne_self_eq_false, imp_self, true_implies, false_implies, implies_true, evP, evE, ev, setD, Nat.reduceAdd, Nat.reduceSub, reduceCtorEq, fillA, cutA, Nat.reduceLeDiff, Nat.reduceMul, Int.reduceLT, Int.reduceLE, Int.reduceEq, Int.reduceNe, Int.reduceAdd, Int.reduceSub, Int.reduceMul, Int.reduceNeg, Int.reduceToNat]
theorem impl_BasicSets (s : Prob w lo hi h v u vs ll q) (hl : ll.length ≤ 1048576) (hll : ∀ l ∈ ll, l.length ≤ 1048576) (hq : q.length ≤ 1048576) (n : Nat) (hn : hi ≤ n) :
    FQ Try.prog 19 [.agg [v, u]] h n fun x h' n' => ∃ v', x = .tup [v', .int .i64 (setsV ll q fun _ => true).2] ∧ Ints true n n' h' v' (setsV ll q fun _ => true).1 := by
  refine fq_intro Try.func19 k_impl_BasicSets ?_
  have o1 := one_any (Sl.any s.M.out)
  have o2 := one_any (Sl.any s.Q)
  simp (maxSteps := 2000000) -implicitDefEqProofs (disch := omega) only [c_impl_BasicSets, o1, o2, xsW, xsC, if_true, if_false, ite_true, ite_false, forall_const, ne_eq, beq_self_eq_true, bne_self_eq_false, imp_self, true_implies, false_implies, implies_true, evP, evE, ev, setD, Nat.reduceAdd, Nat.reduceSub, reduceCtorEq, fillA, cutA, Nat.reduceLeDiff, Nat.reduceMul, Int.reduceLT, Int.reduceLE, Int.reduceEq, Int.reduceNe, Int.reduceAdd, Int.reduceSub, Int.reduceMul, Int.reduceNeg, Int.reduceToNat]
  refine fq_use (impl_sets (s.keep (fun i _ hi9 => by simp (disch := omega) only [upd_other])) hl hll hq _ (fun _ => true) (fun l v' _ _ h' n' _ _ _ => impl_BasicSets_1) _ (by omega)) fun x1 h1 n1 hn1 hs1 ⟨v1, hx1, hv1⟩ => ?_
  subst hx1
  simp (maxSteps := 2000000) -implicitDefEqProofs (disch := omega) only [xsW, xsC, if_true, if_false, ite_true, ite_false, forall_const, ne_eq, beq_self_eq_true, bne_self_eq_false, imp_self, true_implies, false_implies, implies_true, evP, evE, ev, setD, Nat.reduceAdd, Nat.reduceSub, reduceCtorEq, fillA, cutA, Nat.reduceLeDiff, Nat.reduceMul, Int.reduceLT, Int.reduceLE, Int.reduceEq, Int.reduceNe, Int.reduceAdd, Int.reduceSub, Int.reduceMul, Int.reduceNeg, Int.reduceToNat]
  intro _ h2 hh
  exact ⟨v1, rfl, (hv1.keep fun i a b => hh i (by omega) b).wide (by omega) (Nat.le_refl _)⟩
theorem spec_l02Basic (s : Prob w lo hi h v u vs ll q) (hp : isProb ll q = true) (n : Nat) (hn : hi ≤ n) :
    FQ Try.prog 60 [.agg [v, u]] h n fun v' h' n' => Ints true n n' h' v' (selL (setP ll q fun _ => true) (pw ll.length)) := by
  refine fq_intro Try.func60 k_spec_l02Basic ?_
  have o1 := one_any (Sl.any s.M.out)
  have o2 := one_any (Sl.any s.Q)
  obtain ⟨hm, hql, _⟩ := isProb_facts hp
  have hN := ((isMat_iff ll).1 hm).2.1
  have hpw := pw_le hN
  simp (maxSteps := 2000000) -implicitDefEqProofs (disch := omega) only [c_spec_l02Basic, o1, o2, xsW, xsC, if_true, if_false, ite_true, ite_false, forall_const, ne_eq, beq_self_eq_true, bne_self_eq_false, imp_self, true_implies, false_implies, implies_true, evP, evE, ev, setD, Nat.reduceAdd, Nat.reduceSub, reduceCtorEq, fillA, cutA, Nat.reduceLeDiff, Nat.reduceMul, Int.reduceLT, Int.reduceLE, Int.reduceEq, Int.reduceNe, Int.reduceAdd, Int.reduceSub, Int.reduceMul, Int.reduceNeg, Int.reduceToNat]
  refine loop_for (pw ll.length) 0 (fun k p => [.agg [v, u], .ptr n 0, .nilsl, p.1, .int .i64 k, .any, .any, .any, .any, .any, .any, .any, .any, .any, .any, .any, .any, .any, .any, .any, .any, .any, .any, .any, .any, .any]) (fun _ (p : AV × AH) => p.2)
    (fun k p m => Acc (n + 1) m p.2 2 1 p.1 (ints (selL (setP ll q fun _ => true) k)) ∧ n + 1 ≤ m ∧ ∀ j, j < n + 1 → p.2 j = upd h n (some ⟨30, [v, u], true, 0⟩) j) (.sl (n + 1) 0 0 0, _) (Nat.zero_le _) ⟨Acc.empty (upd_same _ _ _) rfl (Nat.le_refl _) (by omega), by omega, fun j hj => upd_other (by omega)⟩ (by simp [LeL, Le1]) (fun _ _ h => h) ?_
  rintro k ⟨out, hp'⟩ m - hk hm1 ⟨acc, hle, hold⟩
  simp only at acc hold
  have hbox : hp' n = some ⟨30, [v, u], true, 0⟩ := by rw [hold n (by omega), upd_same]
  simp (maxSteps := 2000000) -implicitDefEqProofs (disch := omega) only [xsW, xsC, if_true, if_false, ite_true, ite_false, forall_const, ne_eq, beq_self_eq_true, bne_self_eq_false, imp_self, true_implies, false_implies, implies_true, evP, evE, ev, setD, Nat.reduceAdd, Nat.reduceSub, reduceCtorEq, fillA, cutA, Nat.reduceLeDiff, Nat.reduceMul, Int.reduceLT, Int.reduceLE, Int.reduceEq, Int.reduceNe, Int.reduceAdd, Int.reduceSub, Int.reduceMul, Int.reduceNeg, Int.reduceToNat,  hbox, s.Q.ln, hql, shl1]
  (refine cd_dec (fun c1 => ?_) (fun c1 => ?_) <;> simp (maxSteps := 2000000) -implicitDefEqProofs (disch := omega) only [xsW, xsC, if_true, if_false, ite_true, ite_false, forall_const, ne_eq, beq_self_eq_true, bne_self_eq_false, imp_self, true_implies, false_implies, implies_true, evP, evE, ev, setD, Nat.reduceAdd, Nat.reduceSub, reduceCtorEq, fillA, cutA, Nat.reduceLeDiff, Nat.reduceMul, Int.reduceLT, Int.reduceLE, Int.reduceEq, Int.reduceNe, Int.reduceAdd, Int.reduceSub, Int.reduceMul, Int.reduceNeg, Int.reduceToNat,  c1])
  · have hsl := selL_len (setP ll q fun _ => true) k
    simp (maxSteps := 2000000) -implicitDefEqProofs (disch := omega) only [xsW, xsC, if_true, if_false, ite_true, ite_false, forall_const, ne_eq, beq_self_eq_true, bne_self_eq_false, imp_self, true_implies, false_implies, implies_true, evP, evE, ev, setD, Nat.reduceAdd, Nat.reduceSub, reduceCtorEq, fillA, cutA, Nat.reduceLeDiff, Nat.reduceMul, Int.reduceLT, Int.reduceLE, Int.reduceEq, Int.reduceNe, Int.reduceAdd, Int.reduceSub, Int.reduceMul, Int.reduceNeg, Int.reduceToNat,  hbox]
    refine fq_use (spec_l01Columns (s.M.keep (h' := hp') (fun i _ hi9 => by simp (disch := omega) only [upd_other, hold])) hm (k : Int) m (by omega)) fun v1 h1 n2 hn2 hs1 ⟨vs1, hv1⟩ => ?_
    simp (maxSteps := 2000000) -implicitDefEqProofs (disch := omega) only [xsW, xsC, if_true, if_false, ite_true, ite_false, forall_const, ne_eq, beq_self_eq_true, bne_self_eq_false, imp_self, true_implies, false_implies, implies_true, evP, evE, ev, setD, Nat.reduceAdd, Nat.reduceSub, reduceCtorEq, fillA, cutA, Nat.reduceLeDiff, Nat.reduceMul, Int.reduceLT, Int.reduceLE, Int.reduceEq, Int.reduceNe, Int.reduceAdd, Int.reduceSub, Int.reduceMul, Int.reduceNeg, Int.reduceToNat]
    refine q_use (spec_l01Det _ hv1 hN (colsL_sq ll _) ⟨_, colsL_lim hm _⟩ n2 (Nat.le_refl _)) fun n3 hn3 => ?_
    rw [show det ll.length (mx (colsL ll (k : Int))) = dtS ll k from rfl]
    have acc1 := (acc.keep (h' := h1) (fun i _ hi9 => by simp (disch := omega) only [upd_other, hs1])).wide (Nat.le_refl _) (show m ≤ n3 by omega)
    simp (maxSteps := 2000000) -implicitDefEqProofs (disch := omega) only [xsW, xsC, if_true, if_false, ite_true, ite_false, forall_const, ne_eq, beq_self_eq_true, bne_self_eq_false, imp_self, true_implies, false_implies, implies_true, evP, evE, ev, setD, Nat.reduceAdd, Nat.reduceSub, reduceCtorEq, fillA, cutA, Nat.reduceLeDiff, Nat.reduceMul, Int.reduceLT, Int.reduceLE, Int.reduceEq, Int.reduceNe, Int.reduceAdd, Int.reduceSub, Int.reduceMul, Int.reduceNeg, Int.reduceToNat]
    (refine cd_dec (fun c2 => ?_) (fun c2 => ?_) <;> simp (maxSteps := 2000000) -implicitDefEqProofs (disch := omega) only [xsW, xsC, if_true, if_false, ite_true, ite_false, forall_const, ne_eq, beq_self_eq_true, bne_self_eq_false, imp_self, true_implies, false_implies, implies_true, evP, evE, ev, setD, Nat.reduceAdd, Nat.reduceSub, reduceCtorEq, fillA, cutA, Nat.reduceLeDiff, Nat.reduceMul, Int.reduceLT, Int.reduceLE, Int.reduceEq, Int.reduceNe, Int.reduceAdd, Int.reduceSub, Int.reduceMul, Int.reduceNeg, Int.reduceToNat,  c2])
    · refine app_int (y := (k : Int)) (acc1.keep (fun i _ hi9 => by simp (disch := omega) only [upd_other]) |>.wide (Nat.le_refl _) (by omega)) (by omega) (by omega) ⟨rfl, _, upd_same _ _ _, by simp, by simp [cutA]⟩ (by omega) fun v' h' n' q1 q2 q3 => ?_
      simp (maxSteps := 2000000) -implicitDefEqProofs (disch := omega) only [xsW, xsC, if_true, if_false, ite_true, ite_false, forall_const, ne_eq, beq_self_eq_true, bne_self_eq_false, imp_self, true_implies, false_implies, implies_true, evP, evE, ev, setD, Nat.reduceAdd, Nat.reduceSub, reduceCtorEq, fillA, cutA, Nat.reduceLeDiff, Nat.reduceMul, Int.reduceLT, Int.reduceLE, Int.reduceEq, Int.reduceNe, Int.reduceAdd, Int.reduceSub, Int.reduceMul, Int.reduceNeg, Int.reduceToNat]
      exact ⟨(v', h'), ⟨by rw [selL_t (by simp [setP]; exact c2)]; exact q2, by omega, fun j hj => (q3 j hj).trans (by rw [upd_other (by omega), hs1 j (by omega), hold j hj])⟩, by omega, by omega, (by simp [LeL, Le1]), fun _ _ h => h⟩
    · exact ⟨(out, h1), ⟨by rw [selL_f (by simp [setP]; omega)]; exact acc1, by omega, fun j hj => (hs1 j (by omega)).trans (hold j hj)⟩, by omega, by omega, (by simp [LeL, Le1]), fun _ _ h => h⟩
  · have e : k = pw ll.length := by omega
    subst e
    intro _ h2 hh
    exact (Acc.sl (acc.keep fun i a b => hh i (by omega) b)).wide (by omega) (Nat.le_refl _)
theorem spec_BasicSets (s : Prob w lo hi h v u vs ll q) (hl : ll.length ≤ 1048576) (hll : ∀ l ∈ ll, l.length ≤ 1048576) (hq : q.length ≤ 1048576) (n : Nat) (hn : hi ≤ n) :
    FQ Try.prog 20 [.agg [v, u]] h n fun x h' n' => ∃ v', x = .tup [v', .int .i64 (setsV ll q fun _ => true).2] ∧ Ints true n n' h' v' (setsV ll q fun _ => true).1 := by
  refine fq_intro Try.func20 k_spec_BasicSets ?_
  have o1 := one_any (Sl.any s.M.out)
  have o2 := one_any (Sl.any s.Q)
  simp (maxSteps := 2000000) -implicitDefEqProofs (disch := omega) only [c_spec_BasicSets, o1, o2, xsW, xsC, if_true, if_false, ite_true, ite_false, forall_const, ne_eq, beq_self_eq_true, bne_self_eq_false, imp_self, true_implies, false_implies, implies_true, evP, evE, ev, setD, Nat.reduceAdd, Nat.reduceSub, reduceCtorEq, fillA, cutA, Nat.reduceLeDiff, Nat.reduceMul, Int.reduceLT, Int.reduceLE, Int.reduceEq, Int.reduceNe, Int.reduceAdd, Int.reduceSub, Int.reduceMul, Int.reduceNeg, Int.reduceToNat]
  refine q_use (spec_l01Is (s.keep (fun i _ hi9 => by simp (disch := omega) only [upd_other])) hl hll hq _ (by omega)) fun n1 hn1 => ?_
  cases hp : isProb ll q
  · simp (maxSteps := 2000000) -implicitDefEqProofs (disch := omega) only [xsW, xsC, if_true, if_false, ite_true, ite_false, forall_const, ne_eq, beq_self_eq_true, bne_self_eq_false, imp_self, true_implies, false_implies, implies_true, evP, evE, ev, setD, Nat.reduceAdd, Nat.reduceSub, reduceCtorEq, fillA, cutA, Nat.reduceLeDiff, Nat.reduceMul, Int.reduceLT, Int.reduceLE, Int.reduceEq, Int.reduceNe, Int.reduceAdd, Int.reduceSub, Int.reduceMul, Int.reduceNeg, Int.reduceToNat]
    intro _ h2 _
    exact ⟨.nilsl, by simp [setsV, hp], by simp [setsV, hp]; exact Sl.nil⟩
  · simp (maxSteps := 2000000) -implicitDefEqProofs (disch := omega) only [xsW, xsC, if_true, if_false, ite_true, ite_false, forall_const, ne_eq, beq_self_eq_true, bne_self_eq_false, imp_self, true_implies, false_implies, implies_true, evP, evE, ev, setD, Nat.reduceAdd, Nat.reduceSub, reduceCtorEq, fillA, cutA, Nat.reduceLeDiff, Nat.reduceMul, Int.reduceLT, Int.reduceLE, Int.reduceEq, Int.reduceNe, Int.reduceAdd, Int.reduceSub, Int.reduceMul, Int.reduceNeg, Int.reduceToNat]
    refine fq_use (spec_l02Basic (s.keep (fun i _ hi9 => by simp (disch := omega) only [upd_other])) hp n1 (by omega)) fun v1 h1 n2 hn2 hs1 hv1 => ?_
    simp (maxSteps := 2000000) -implicitDefEqProofs (disch := omega) only [xsW, xsC, if_true, if_false, ite_true, ite_false, forall_const, ne_eq, beq_self_eq_true, bne_self_eq_false, imp_self, true_implies, false_implies, implies_true, evP, evE, ev, setD, Nat.reduceAdd, Nat.reduceSub, reduceCtorEq, fillA, cutA, Nat.reduceLeDiff, Nat.reduceMul, Int.reduceLT, Int.reduceLE, Int.reduceEq, Int.reduceNe, Int.reduceAdd, Int.reduceSub, Int.reduceMul, Int.reduceNeg, Int.reduceToNat]
    intro _ h2 hh
    exact ⟨v1, by simp [setsV, hp], by simp only [setsV, hp, if_true]; exact (hv1.keep fun i a b => hh i (by omega) b).wide (by omega) (Nat.le_refl _)⟩
theorem basic_small {ll : List (List Int)} {q : List Int} : (setsV ll q fun _ => true).1.length ≤ 1048576 := setsV_small _ _ _
end
end Go.Proofs.Ytmjfekgbbjojdad.L
