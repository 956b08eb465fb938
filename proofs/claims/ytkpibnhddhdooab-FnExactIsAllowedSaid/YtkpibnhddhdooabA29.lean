/- Contracts: PointOf. -/
import Derived.Test.YtkpibnhddhdooabA25
import Derived.Test.YtkpibnhddhdooabA27
import Derived.Test.YtkpibnhddhdooabA28
namespace Go.Proofs.Ytkpibnhddhdooab.L
open Go
set_option linter.unusedSimpArgs false
set_option linter.unusedVariables false
def c_impl_PointOf : F := ⟨(.seq (.reg false [⟨(some 2), (.box 31 (.t 0)), none⟩, ⟨(some 4), (.mv (.c .nilsl)), none⟩, ⟨(some 5), (.mv (.c (.int .i64 0))), none⟩]) (.seq (.seq (.reg false [⟨(some 10), (.ld 2 (.t 2)), none⟩, ⟨(some 11), (.mv (.t 1)), none⟩, ⟨(some 12), (.call (.f 65) [(.t 10), (.t 11)]), none⟩, ⟨(some 6), (.mv (.t 12)), none⟩]) (.seq (.reg false [⟨(some 13), (.mv (.t 6)), none⟩, ⟨(some 14), (.bin .neq (.t 13) (.c (.int .i64 0))), none⟩]) (.cond (.t 14) (.seq (.reg false [⟨(some 15), (.mv (.t 6)), none⟩, ⟨(some 4), (.mv (.c .nilsl)), none⟩, ⟨(some 5), (.mv (.t 15)), none⟩]) .ret) .skip))) (.seq (.reg false [⟨(some 17), (.ld 2 (.t 2)), none⟩, ⟨(some 18), (.mv (.t 1)), none⟩, ⟨(some 19), (.fa 1 (.t 2)), none⟩, ⟨(some 20), (.ld1 (.t 19)), none⟩, ⟨(some 21), (.call (.f 80) [(.t 17), (.t 18), (.t 20)]), none⟩, ⟨(some 16), (.mv (.t 21)), none⟩, ⟨(some 22), (.ext (.t 16) 0), none⟩, ⟨(some 23), (.ext (.t 16) 1), none⟩, ⟨(some 24), (.ext (.t 16) 2), none⟩, ⟨(some 7), (.mv (.t 22)), none⟩, ⟨(some 8), (.mv (.t 23)), none⟩, ⟨(some 9), (.mv (.t 24)), none⟩]) (.seq (.seq (.reg false [⟨(some 25), (.mv (.t 9)), none⟩, ⟨(some 26), (.un .not (.t 25)), none⟩]) (.cond (.t 26) (.seq (.reg false [⟨(some 4), (.mv (.c .nilsl)), none⟩, ⟨(some 5), (.mv (.c (.int .i64 5))), none⟩]) .ret) .skip)) (.seq (.reg false [⟨(some 27), (.mv (.t 7)), none⟩, ⟨(some 28), (.mv (.t 8)), none⟩, ⟨(some 29), (.call (.f 68) [(.t 27), (.t 28)]), none⟩, ⟨(some 30), (.ext (.t 29) 0), none⟩, ⟨(some 31), (.ext (.t 29) 1), none⟩, ⟨(some 4), (.mv (.t 30)), none⟩, ⟨(some 5), (.mv (.t 31)), none⟩]) .ret))))), 32, [(.t 4), (.t 5)]⟩
theorem k_impl_PointOf : compF Try.prog Try.f38 = some c_impl_PointOf := by kernel_rfl

def allFr (l : List (Int × Int)) : Bool := l.all fun p => isFr 1000000000 p.1 p.2
theorem allFr_iff (l : List (Int × Int)) : allFr l = true ↔ ∀ j, j < l.length → isFr 1000000000 (l.getD j (0, 0)).1 (l.getD j (0, 0)).2 = true := by
  rw [allFr, List.all_eq_true]
  constructor
  · exact fun h j hj => h _ (getD_mem hj)
  · intro h p hp
    obtain ⟨j, hj, rfl⟩ := List.mem_iff_getElem.1 hp
    have := h j hj
    simpa [List.getD, hj] using this
def pointV (ll : List (List Int)) (q : List Int) (a : Int) : List (Int × Int) × Int :=
  if codeP ll q a = 0 then (if dtS ll a = 0 then ([], 5) else if allFr (ptF ll q a) = true then (ptF ll q a, 0) else ([], 3)) else ([], codeP ll q a)
theorem pointV_small (ll : List (List Int)) (q : List Int) (a : Int) : (pointV ll q a).1.length ≤ 1048576 := by
  unfold pointV
  split
  · rename_i hc
    have := ((isMat_iff ll).1 (isProb_facts (codeP_zero.1 hc).1).1).2.1
    split
    · simp
    · split
      · rw [ptF_len]; omega
      · simp
  · simp
theorem ptF_sol (ll : List (List Int)) (q : List Int) (s : Int) (hd : dtS ll s ≠ 0) : ((solL ll q s).map fun y => red y (dtS ll s).natAbs) = ptF ll q s := by
  refine getD_ext (d := (0, 0)) (by simp [solL_len, ptF_len]) fun k hk => ?_
  simp only [List.length_map, solL_len] at hk
  rw [getD_map _ _ _ 0 _ (by rw [solL_len]; exact hk), ptF, getD_map _ _ _ 0 _ (by rw [ptL_len]; exact hk), solL, ptL, rowOf_get hk, rowOf_get hk, red_sgn hd]
section
variable {w : Bool} {lo hi : Nat} {h : AH} {v u : AV} {vs : List AV} {ll : List (List Int)} {q : List Int}
theorem impl_PointOf (s : Prob w lo hi h v u vs ll q) (hl : ll.length ≤ 1048576) (hll : ∀ l ∈ ll, l.length ≤ 1048576) (hq : q.length ≤ 1048576) (a : Int) (n : Nat) (hn : hi ≤ n) :
    FQ Try.prog 38 [.agg [v, u], .int .i64 a] h n fun x h' n' => ∃ v', x = .tup [v', .int .i64 (pointV ll q a).2] ∧ Fracs true n n' h' v' (pointV ll q a).1 := by
  refine fq_intro Try.func38 k_impl_PointOf ?_
  have o1 := one_any (Sl.any s.M.out)
  have o2 := one_any (Sl.any s.Q)
  simp (maxSteps := 2000000) -implicitDefEqProofs (disch := omega) only [c_impl_PointOf, o1, o2, xsW, xsC, if_true, if_false, ite_true, ite_false, forall_const, ne_eq, beq_self_eq_true, bne_self_eq_false, imp_self, true_implies, false_implies, implies_true, evP, evE, ev, setD, Nat.reduceAdd, Nat.reduceSub, reduceCtorEq, fillA, cutA, Nat.reduceLeDiff, Nat.reduceMul, Int.reduceLT, Int.reduceLE, Int.reduceEq, Int.reduceNe, Int.reduceAdd, Int.reduceSub, Int.reduceMul, Int.reduceNeg, Int.reduceToNat]
  refine q_use (impl_setCode (s.keep (fun i _ hi9 => by simp (disch := omega) only [upd_other])) hl hll hq a _ (by omega)) fun n1 hn1 => ?_
  simp (maxSteps := 2000000) -implicitDefEqProofs (disch := omega) only [xsW, xsC, if_true, if_false, ite_true, ite_false, forall_const, ne_eq, beq_self_eq_true, bne_self_eq_false, imp_self, true_implies, false_implies, implies_true, evP, evE, ev, setD, Nat.reduceAdd, Nat.reduceSub, reduceCtorEq, fillA, cutA, Nat.reduceLeDiff, Nat.reduceMul, Int.reduceLT, Int.reduceLE, Int.reduceEq, Int.reduceNe, Int.reduceAdd, Int.reduceSub, Int.reduceMul, Int.reduceNeg, Int.reduceToNat]
  (refine cd_dec (fun c1 => ?_) (fun c1 => ?_) <;> simp (maxSteps := 2000000) -implicitDefEqProofs (disch := omega) only [xsW, xsC, if_true, if_false, ite_true, ite_false, forall_const, ne_eq, beq_self_eq_true, bne_self_eq_false, imp_self, true_implies, false_implies, implies_true, evP, evE, ev, setD, Nat.reduceAdd, Nat.reduceSub, reduceCtorEq, fillA, cutA, Nat.reduceLeDiff, Nat.reduceMul, Int.reduceLT, Int.reduceLE, Int.reduceEq, Int.reduceNe, Int.reduceAdd, Int.reduceSub, Int.reduceMul, Int.reduceNeg, Int.reduceToNat,  c1])
  · intro _ h2 _
    exact ⟨.nilsl, by simp [pointV, c1], by simp only [pointV, if_neg c1]; exact Sl.nil⟩
  · have c2 : codeP ll q a = 0 := Decidable.not_not.1 c1
    have hp := (codeP_zero.1 c2).1
    have hN := ((isMat_iff ll).1 (isProb_facts hp).1).2.1
    refine fq_use (impl_solve (s.keep (fun i _ hi9 => by simp (disch := omega) only [upd_other])) hp a n1 (by omega)) fun x1 h1 n2 hn2 hs1 hx1 => ?_
    rcases hx1 with ⟨d1, rfl⟩ | ⟨d1, v1, rfl, hv1⟩
    · simp (maxSteps := 2000000) -implicitDefEqProofs (disch := omega) only [xsW, xsC, if_true, if_false, ite_true, ite_false, forall_const, ne_eq, beq_self_eq_true, bne_self_eq_false, imp_self, true_implies, false_implies, implies_true, evP, evE, ev, setD, Nat.reduceAdd, Nat.reduceSub, reduceCtorEq, fillA, cutA, Nat.reduceLeDiff, Nat.reduceMul, Int.reduceLT, Int.reduceLE, Int.reduceEq, Int.reduceNe, Int.reduceAdd, Int.reduceSub, Int.reduceMul, Int.reduceNeg, Int.reduceToNat]
      intro _ h2 _
      exact ⟨.nilsl, by simp [pointV, c2, d1], by simp only [pointV, if_pos c2, if_pos d1]; exact Sl.nil⟩
    · simp (maxSteps := 2000000) -implicitDefEqProofs (disch := omega) only [xsW, xsC, if_true, if_false, ite_true, ite_false, forall_const, ne_eq, beq_self_eq_true, bne_self_eq_false, imp_self, true_implies, false_implies, implies_true, evP, evE, ev, setD, Nat.reduceAdd, Nat.reduceSub, reduceCtorEq, fillA, cutA, Nat.reduceLeDiff, Nat.reduceMul, Int.reduceLT, Int.reduceLE, Int.reduceEq, Int.reduceNe, Int.reduceAdd, Int.reduceSub, Int.reduceMul, Int.reduceNeg, Int.reduceToNat]
      have hb := fun k (hk : k < (solL ll q a).length) => solL_b hp a (show k < ll.length by rw [solL_len] at hk; exact hk)
      have hdb := dtS_b hp a
      refine fq_use (impl_allReduced hv1 (by rw [solL_len]; omega) (fun k hk => by have := hb k hk; omega) ((dtS ll a).natAbs : Int) (by unfold in64; omega) (by omega) n2 (Nat.le_refl _)) fun x2 h2 n3 hn3 hs2 ⟨v2, hx2, hv2⟩ => ?_
      subst hx2
      simp (maxSteps := 2000000) -implicitDefEqProofs (disch := omega) only [xsW, xsC, if_true, if_false, ite_true, ite_false, forall_const, ne_eq, beq_self_eq_true, bne_self_eq_false, imp_self, true_implies, false_implies, implies_true, evP, evE, ev, setD, Nat.reduceAdd, Nat.reduceSub, reduceCtorEq, fillA, cutA, Nat.reduceLeDiff, Nat.reduceMul, Int.reduceLT, Int.reduceLE, Int.reduceEq, Int.reduceNe, Int.reduceAdd, Int.reduceSub, Int.reduceMul, Int.reduceNeg, Int.reduceToNat]
      intro _ h3 hh
      rw [ptF_sol _ _ _ d1] at hv2 ⊢
      rw [← allFr] at hv2 ⊢
      refine ⟨v2, ?_, ?_⟩
      · cases hf : allFr (ptF ll q a) <;> simp [pointV, c2, d1, hf]
      · have e : (pointV ll q a).1 = if allFr (ptF ll q a) = true then ptF ll q a else [] := by cases hf : allFr (ptF ll q a) <;> simp [pointV, c2, d1, hf]
        rw [e]
        exact (hv2.keep fun i a b => hh i (by omega) b).wide (by omega) (Nat.le_refl _)
end
end Go.Proofs.Ytkpibnhddhdooab.L
