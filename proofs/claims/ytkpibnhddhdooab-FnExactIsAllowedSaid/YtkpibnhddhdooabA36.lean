/- Contracts: RemainderOf. -/
import Derived.Test.YtkpibnhddhdooabA35
namespace Go.Proofs.Ytkpibnhddhdooab.L
open Go
set_option linter.unusedSimpArgs false
set_option linter.unusedVariables false
def c_impl_RemainderOf : F := ⟨(.seq (.reg false [⟨(some 2), (.box 31 (.t 0)), none⟩, ⟨(some 4), (.mv (.c .nilsl)), none⟩, ⟨(some 5), (.mv (.c (.int .i64 0))), none⟩]) (.seq (.seq (.reg false [⟨(some 10), (.ld 2 (.t 2)), none⟩, ⟨(some 11), (.mv (.t 1)), none⟩, ⟨(some 12), (.call (.f 81) [(.t 10), (.t 11)]), none⟩, ⟨(some 6), (.mv (.t 12)), none⟩]) (.seq (.reg false [⟨(some 13), (.mv (.t 6)), none⟩, ⟨(some 14), (.bin .neq (.t 13) (.c (.int .i64 0))), none⟩]) (.cond (.t 14) (.seq (.reg false [⟨(some 15), (.mv (.t 6)), none⟩, ⟨(some 4), (.mv (.c .nilsl)), none⟩, ⟨(some 5), (.mv (.t 15)), none⟩]) .ret) .skip))) (.seq (.reg false [⟨(some 17), (.mv (.t 1)), none⟩, ⟨(some 18), (.call (.f 82) [(.t 17), (.c (.int .i64 1000000000)), (.c (.int .i64 1000000000000))]), none⟩, ⟨(some 16), (.mv (.t 18)), none⟩, ⟨(some 19), (.ext (.t 16) 0), none⟩, ⟨(some 20), (.ext (.t 16) 1), none⟩, ⟨(some 21), (.ext (.t 16) 2), none⟩, ⟨(some 7), (.mv (.t 19)), none⟩, ⟨(some 8), (.mv (.t 20)), none⟩, ⟨(some 9), (.mv (.t 21)), none⟩]) (.seq (.seq (.reg false [⟨(some 22), (.mv (.t 9)), none⟩, ⟨(some 23), (.un .not (.t 22)), none⟩]) (.cond (.t 23) (.seq (.reg false [⟨(some 4), (.mv (.c .nilsl)), none⟩, ⟨(some 5), (.mv (.c (.int .i64 3))), none⟩]) .ret) .skip)) (.seq (.reg false [⟨(some 24), (.ld 2 (.t 2)), none⟩, ⟨(some 25), (.mv (.t 7)), none⟩, ⟨(some 26), (.mv (.t 8)), none⟩, ⟨(some 27), (.call (.f 83) [(.t 24), (.t 25), (.t 26)]), none⟩, ⟨(some 28), (.mv (.t 8)), none⟩, ⟨(some 29), (.call (.f 68) [(.t 27), (.t 28)]), none⟩, ⟨(some 30), (.ext (.t 29) 0), none⟩, ⟨(some 31), (.ext (.t 29) 1), none⟩, ⟨(some 4), (.mv (.t 30)), none⟩, ⟨(some 5), (.mv (.t 31)), none⟩]) .ret))))), 32, [(.t 4), (.t 5)]⟩
theorem k_impl_RemainderOf : compF Try.prog Try.f46 = some c_impl_RemainderOf := by kernel_rfl
def c_spec_RemainderOf : F := ⟨(.seq (.reg false [⟨(some 2), (.box 31 (.t 0)), none⟩, ⟨(some 4), (.mv (.c .nilsl)), none⟩, ⟨(some 5), (.mv (.c (.int .i64 0))), none⟩]) (.seq (.seq (.reg false [⟨(some 15), (.ld 2 (.t 2)), none⟩, ⟨(some 16), (.mv (.t 1)), none⟩, ⟨(some 17), (.call (.f 84) [(.t 15), (.t 16)]), none⟩, ⟨(some 6), (.mv (.t 17)), none⟩]) (.seq (.reg false [⟨(some 18), (.mv (.t 6)), none⟩, ⟨(some 19), (.bin .neq (.t 18) (.c (.int .i64 0))), none⟩]) (.cond (.t 19) (.seq (.reg false [⟨(some 20), (.mv (.t 6)), none⟩, ⟨(some 4), (.mv (.c .nilsl)), none⟩, ⟨(some 5), (.mv (.t 20)), none⟩]) .ret) .skip))) (.seq (.reg false [⟨(some 22), (.mv (.t 1)), none⟩, ⟨(some 23), (.call (.f 85) [(.t 22)]), none⟩, ⟨(some 21), (.mv (.t 23)), none⟩, ⟨(some 24), (.ext (.t 21) 0), none⟩, ⟨(some 25), (.ext (.t 21) 1), none⟩, ⟨(some 26), (.ext (.t 21) 2), none⟩, ⟨(some 7), (.mv (.t 24)), none⟩, ⟨(some 8), (.mv (.t 25)), none⟩, ⟨(some 9), (.mv (.t 26)), none⟩]) (.seq (.seq (.reg false [⟨(some 27), (.mv (.t 9)), none⟩, ⟨(some 28), (.un .not (.t 27)), none⟩]) (.cond (.t 28) (.seq (.reg false [⟨(some 4), (.mv (.c .nilsl)), none⟩, ⟨(some 5), (.mv (.c (.int .i64 3))), none⟩]) .ret) .skip)) (.seq (.reg false [⟨(some 29), (.ld 2 (.t 2)), none⟩, ⟨(some 30), (.mv (.t 7)), none⟩, ⟨(some 31), (.mv (.t 8)), none⟩, ⟨(some 32), (.call (.f 86) [(.t 29), (.t 30), (.t 31)]), none⟩, ⟨(some 33), (.lit 60 2 0 [(.int .i64 0), (.int .i64 0)] []), none⟩, ⟨(some 10), (.mv (.t 32)), none⟩, ⟨(some 11), (.mv (.t 33)), none⟩]) (.seq (.seq (.reg false [⟨(some 12), (.mv (.c (.int .i64 0))), none⟩]) (.block 0 (.loop (.seq (.seq (.reg false [⟨(some 34), (.mv (.t 12)), none⟩, ⟨(some 35), (.mv (.t 10)), none⟩, ⟨(some 36), (.len (.t 35)), none⟩, ⟨(some 37), (.bin .lss (.t 34) (.t 36)), none⟩]) (.cond (.t 37) .skip (.exit 0))) (.seq (.block 1 (.seq (.reg false [⟨(some 41), (.mv (.t 10)), none⟩, ⟨(some 42), (.mv (.t 12)), none⟩, ⟨(some 43), (.ia 1 (.t 41) (.t 42)), none⟩, ⟨(some 44), (.ld1 (.t 43)), none⟩, ⟨(some 45), (.mv (.t 8)), none⟩, ⟨(some 46), (.call (.f 88) [(.t 44), (.t 45)]), none⟩, ⟨(some 47), (.call (.f 87) [(.t 46)]), none⟩, ⟨(some 40), (.mv (.t 47)), none⟩, ⟨(some 48), (.ext (.t 40) 0), none⟩, ⟨(some 49), (.ext (.t 40) 1), none⟩, ⟨(some 13), (.alloc 60 [(.int .i64 0), (.int .i64 0)]), none⟩, ⟨none, (.st 2 (.t 13) (.t 48)), none⟩, ⟨(some 14), (.mv (.t 49)), none⟩]) (.seq (.seq (.reg false [⟨(some 50), (.mv (.t 14)), none⟩, ⟨(some 51), (.bin .neq (.t 50) (.c (.int .i64 0))), none⟩]) (.cond (.t 51) (.seq (.reg false [⟨(some 52), (.mv (.t 14)), none⟩, ⟨(some 4), (.mv (.c .nilsl)), none⟩, ⟨(some 5), (.mv (.t 52)), none⟩]) .ret) .skip)) (.reg false [⟨(some 53), (.mv (.t 11)), none⟩, ⟨(some 54), (.ld 2 (.t 13)), none⟩, ⟨(some 55), (.lit 60 2 1 [(.int .i64 0), (.int .i64 0)] [(0, (.t 54))]), none⟩, ⟨(some 56), (.app 60 2 16 [(.int .i64 0), (.int .i64 0)] (.t 53) (.t 55)), none⟩, ⟨(some 11), (.mv (.t 56)), none⟩])))) (.reg false [⟨(some 38), (.mv (.t 12)), none⟩, ⟨(some 39), (.bin .add (.t 38) (.c (.int .i64 1))), none⟩, ⟨(some 12), (.mv (.t 39)), none⟩])))))) (.seq (.reg false [⟨(some 57), (.mv (.t 11)), none⟩, ⟨(some 4), (.mv (.t 57)), none⟩, ⟨(some 5), (.mv (.c (.int .i64 0))), none⟩]) .ret))))))), 58, [(.t 4), (.t 5)]⟩
theorem k_spec_RemainderOf : compF Try.prog Try.f42 = some c_spec_RemainderOf := by kernel_rfl

def remF (ll : List (List Int)) (q : List Int) (f : List (Int × Int)) : List (Int × Int) := (remL ll q (cmnN f) (cmnD f)).map fun y => red y (cmnD f)
def remV (ll : List (List Int)) (q : List Int) (f : List (Int × Int)) : List (Int × Int) × Int :=
  if frcV ll q f = 0 then (if cmnB f = true then (if allFr (remF ll q f) = true then (remF ll q f, 0) else ([], 3)) else ([], 3)) else ([], frcV ll q f)
theorem remF_len (ll : List (List Int)) (q : List Int) (f : List (Int × Int)) : (remF ll q f).length = ll.length := by simp [remF, remL_len]
theorem remV_small (ll : List (List Int)) (q : List Int) (f : List (Int × Int)) : (remV ll q f).1.length ≤ 1048576 := by
  unfold remV
  split
  · rename_i hc
    have := ((isMat_iff ll).1 (isProb_facts (frcV_zero hc).1).1).2.1
    split
    · split
      · simp only [remF_len]; omega
      · simp
    · simp
  · simp
section
variable {w w' : Bool} {lo hi lo' hi' : Nat} {h : AH} {v u v' : AV} {vs : List AV} {ll : List (List Int)} {q xs : List Int} {f : List (Int × Int)}
theorem impl_RemainderOf (s : Prob w lo hi h v u vs ll q) (hl : ll.length ≤ 1048576) (hll : ∀ l ∈ ll, l.length ≤ 1048576) (hq : q.length ≤ 1048576) (sf : Fracs w' lo' hi' h v' f) (hf : f.length ≤ 1048576) (n : Nat) (hn : hi ≤ n) (hn' : hi' ≤ n) :
    FQ Try.prog 46 [.agg [v, u], v'] h n fun x h' n' => ∃ y, x = .tup [y, .int .i64 (remV ll q f).2] ∧ Fracs true n n' h' y (remV ll q f).1 := by
  refine fq_intro Try.func46 k_impl_RemainderOf ?_
  have o1 := one_any (Sl.any s.M.out)
  have o2 := one_any (Sl.any s.Q)
  simp (maxSteps := 2000000) -implicitDefEqProofs (disch := omega) only [c_impl_RemainderOf, o1, o2, xsW, xsC, if_true, if_false, ite_true, ite_false, forall_const, ne_eq, beq_self_eq_true, bne_self_eq_false, imp_self, true_implies, false_implies, implies_true, evP, evE, ev, setD, Nat.reduceAdd, Nat.reduceSub, reduceCtorEq, fillA, cutA, Nat.reduceLeDiff, Nat.reduceMul, Int.reduceLT, Int.reduceLE, Int.reduceEq, Int.reduceNe, Int.reduceAdd, Int.reduceSub, Int.reduceMul, Int.reduceNeg, Int.reduceToNat]
  refine q_use (impl_fracsCode (s.keep (fun i _ hi9 => by simp (disch := omega) only [upd_other])) hl hll hq (Fracs.keep sf (fun i _ hi9 => by simp (disch := omega) only [upd_other])) hf _ (by omega) (by omega)) fun n1 hn1 => ?_
  simp (maxSteps := 2000000) -implicitDefEqProofs (disch := omega) only [xsW, xsC, if_true, if_false, ite_true, ite_false, forall_const, ne_eq, beq_self_eq_true, bne_self_eq_false, imp_self, true_implies, false_implies, implies_true, evP, evE, ev, setD, Nat.reduceAdd, Nat.reduceSub, reduceCtorEq, fillA, cutA, Nat.reduceLeDiff, Nat.reduceMul, Int.reduceLT, Int.reduceLE, Int.reduceEq, Int.reduceNe, Int.reduceAdd, Int.reduceSub, Int.reduceMul, Int.reduceNeg, Int.reduceToNat]
  (refine cd_dec (fun c1 => ?_) (fun c1 => ?_) <;> simp (maxSteps := 2000000) -implicitDefEqProofs (disch := omega) only [xsW, xsC, if_true, if_false, ite_true, ite_false, forall_const, ne_eq, beq_self_eq_true, bne_self_eq_false, imp_self, true_implies, false_implies, implies_true, evP, evE, ev, setD, Nat.reduceAdd, Nat.reduceSub, reduceCtorEq, fillA, cutA, Nat.reduceLeDiff, Nat.reduceMul, Int.reduceLT, Int.reduceLE, Int.reduceEq, Int.reduceNe, Int.reduceAdd, Int.reduceSub, Int.reduceMul, Int.reduceNeg, Int.reduceToNat,  c1])
  · intro _ h2 _
    exact ⟨.nilsl, by simp [remV, c1], by simp only [remV, if_neg c1]; exact Sl.nil⟩
  · have c2 : frcV ll q f = 0 := Decidable.not_not.1 c1
    obtain ⟨hp, ha, hfl⟩ := frcV_zero c2
    have hN := ((isMat_iff ll).1 (isProb_facts hp).1).2.1
    refine fq_use (impl_together (Fracs.keep (h' := upd h n (some ⟨31, [v, u], true, 0⟩)) sf (fun i _ hi9 => by simp (disch := omega) only [upd_other])) hf ha n1 (by omega)) fun x1 h1 n2 hn2 hs1 hx1 => ?_
    rcases hx1 with ⟨d1, rfl⟩ | ⟨d1, v1, rfl, hv1⟩
    · simp (maxSteps := 2000000) -implicitDefEqProofs (disch := omega) only [xsW, xsC, if_true, if_false, ite_true, ite_false, forall_const, ne_eq, beq_self_eq_true, bne_self_eq_false, imp_self, true_implies, false_implies, implies_true, evP, evE, ev, setD, Nat.reduceAdd, Nat.reduceSub, reduceCtorEq, fillA, cutA, Nat.reduceLeDiff, Nat.reduceMul, Int.reduceLT, Int.reduceLE, Int.reduceEq, Int.reduceNe, Int.reduceAdd, Int.reduceSub, Int.reduceMul, Int.reduceNeg, Int.reduceToNat]
      intro _ h2 _
      exact ⟨.nilsl, by simp [remV, c2, d1], by simp [remV, c2, d1]; exact Sl.nil⟩
    · obtain ⟨e1, e2, e3, e4⟩ := cmn_facts c2 d1
      have hrl := remL_len ll q (cmnN f) (cmnD f)
      have hbox : h1 n = some ⟨31, [v, u], true, 0⟩ := by rw [hs1 n (by omega), upd_same]
      simp (maxSteps := 2000000) -implicitDefEqProofs (disch := omega) only [xsW, xsC, if_true, if_false, ite_true, ite_false, forall_const, ne_eq, beq_self_eq_true, bne_self_eq_false, imp_self, true_implies, false_implies, implies_true, evP, evE, ev, setD, Nat.reduceAdd, Nat.reduceSub, reduceCtorEq, fillA, cutA, Nat.reduceLeDiff, Nat.reduceMul, Int.reduceLT, Int.reduceLE, Int.reduceEq, Int.reduceNe, Int.reduceAdd, Int.reduceSub, Int.reduceMul, Int.reduceNeg, Int.reduceToNat,  hbox]
      refine fq_use (impl_rest (s.keep (h' := h1) (fun i _ hi9 => by simp (disch := omega) only [upd_other, hs1])) hp hv1 e1 e2 (cmnD f) (by omega) n2 (by omega) (by omega)) fun v2 h2 n3 hn3 hs2 hv2 => ?_
      simp (maxSteps := 2000000) -implicitDefEqProofs (disch := omega) only [xsW, xsC, if_true, if_false, ite_true, ite_false, forall_const, ne_eq, beq_self_eq_true, bne_self_eq_false, imp_self, true_implies, false_implies, implies_true, evP, evE, ev, setD, Nat.reduceAdd, Nat.reduceSub, reduceCtorEq, fillA, cutA, Nat.reduceLeDiff, Nat.reduceMul, Int.reduceLT, Int.reduceLE, Int.reduceEq, Int.reduceNe, Int.reduceAdd, Int.reduceSub, Int.reduceMul, Int.reduceNeg, Int.reduceToNat]
      refine fq_use (impl_allReduced hv2 (by omega) (fun k hk => by
        rw [remL, rowOf_get (by omega)]
        have := remX_b hp e1 e2 (d := cmnD f) (by omega) (i := k) (by omega)
        omega) (cmnD f) (by unfold in64; omega) (by omega) n3 (Nat.le_refl _)) fun x3 h3 n4 hn4 hs3 ⟨v3, hx3, hv3⟩ => ?_
      subst hx3
      simp (maxSteps := 2000000) -implicitDefEqProofs (disch := omega) only [xsW, xsC, if_true, if_false, ite_true, ite_false, forall_const, ne_eq, beq_self_eq_true, bne_self_eq_false, imp_self, true_implies, false_implies, implies_true, evP, evE, ev, setD, Nat.reduceAdd, Nat.reduceSub, reduceCtorEq, fillA, cutA, Nat.reduceLeDiff, Nat.reduceMul, Int.reduceLT, Int.reduceLE, Int.reduceEq, Int.reduceNe, Int.reduceAdd, Int.reduceSub, Int.reduceMul, Int.reduceNeg, Int.reduceToNat]
      intro _ h4 hh
      rw [← allFr, ← remF] at hv3 ⊢
      refine ⟨v3, ?_, ?_⟩
      · cases hff : allFr (remF ll q f) <;> simp [remV, c2, d1, hff]
      · have e : (remV ll q f).1 = if allFr (remF ll q f) = true then remF ll q f else [] := by cases hff : allFr (remF ll q f) <;> simp [remV, c2, d1, hff]
        rw [e]
        exact (hv3.keep fun i a b => hh i (by omega) b).wide (by omega) (Nat.le_refl _)
theorem spec_RemainderOf (s : Prob w lo hi h v u vs ll q) (hl : ll.length ≤ 1048576) (hll : ∀ l ∈ ll, l.length ≤ 1048576) (hq : q.length ≤ 1048576) (sf : Fracs w' lo' hi' h v' f) (hf : f.length ≤ 1048576) (n : Nat) (hn : hi ≤ n) (hn' : hi' ≤ n) :
    FQ Try.prog 42 [.agg [v, u], v'] h n fun x h' n' => ∃ y, x = .tup [y, .int .i64 (remV ll q f).2] ∧ Fracs true n n' h' y (remV ll q f).1 := by
  refine fq_intro Try.func42 k_spec_RemainderOf ?_
  have o1 := one_any (Sl.any s.M.out)
  have o2 := one_any (Sl.any s.Q)
  simp (maxSteps := 2000000) -implicitDefEqProofs (disch := omega) only [c_spec_RemainderOf, o1, o2, xsW, xsC, if_true, if_false, ite_true, ite_false, forall_const, ne_eq, beq_self_eq_true, bne_self_eq_false, imp_self, true_implies, false_implies, implies_true, evP, evE, ev, setD, Nat.reduceAdd, Nat.reduceSub, reduceCtorEq, fillA, cutA, Nat.reduceLeDiff, Nat.reduceMul, Int.reduceLT, Int.reduceLE, Int.reduceEq, Int.reduceNe, Int.reduceAdd, Int.reduceSub, Int.reduceMul, Int.reduceNeg, Int.reduceToNat]
  refine q_use (spec_l01Fracs (s.keep (fun i _ hi9 => by simp (disch := omega) only [upd_other])) hl hll hq (Fracs.keep sf (fun i _ hi9 => by simp (disch := omega) only [upd_other])) hf _ (by omega) (by omega)) fun n1 hn1 => ?_
  simp (maxSteps := 2000000) -implicitDefEqProofs (disch := omega) only [xsW, xsC, if_true, if_false, ite_true, ite_false, forall_const, ne_eq, beq_self_eq_true, bne_self_eq_false, imp_self, true_implies, false_implies, implies_true, evP, evE, ev, setD, Nat.reduceAdd, Nat.reduceSub, reduceCtorEq, fillA, cutA, Nat.reduceLeDiff, Nat.reduceMul, Int.reduceLT, Int.reduceLE, Int.reduceEq, Int.reduceNe, Int.reduceAdd, Int.reduceSub, Int.reduceMul, Int.reduceNeg, Int.reduceToNat]
  (refine cd_dec (fun c1 => ?_) (fun c1 => ?_) <;> simp (maxSteps := 2000000) -implicitDefEqProofs (disch := omega) only [xsW, xsC, if_true, if_false, ite_true, ite_false, forall_const, ne_eq, beq_self_eq_true, bne_self_eq_false, imp_self, true_implies, false_implies, implies_true, evP, evE, ev, setD, Nat.reduceAdd, Nat.reduceSub, reduceCtorEq, fillA, cutA, Nat.reduceLeDiff, Nat.reduceMul, Int.reduceLT, Int.reduceLE, Int.reduceEq, Int.reduceNe, Int.reduceAdd, Int.reduceSub, Int.reduceMul, Int.reduceNeg, Int.reduceToNat,  c1])
  · intro _ h2 _
    exact ⟨.nilsl, by simp [remV, c1], by simp only [remV, if_neg c1]; exact Sl.nil⟩
  · have c2 : frcV ll q f = 0 := Decidable.not_not.1 c1
    obtain ⟨hp, ha, hfl⟩ := frcV_zero c2
    have hN := ((isMat_iff ll).1 (isProb_facts hp).1).2.1
    refine fq_use (spec_l01Common (Fracs.keep (h' := upd h n (some ⟨31, [v, u], true, 0⟩)) sf (fun i _ hi9 => by simp (disch := omega) only [upd_other])) hf ha n1 (by omega)) fun x1 h1 n2 hn2 hs1 hx1 => ?_
    rcases hx1 with ⟨d1, rfl⟩ | ⟨d1, v1, rfl, hv1⟩
    · simp (maxSteps := 2000000) -implicitDefEqProofs (disch := omega) only [xsW, xsC, if_true, if_false, ite_true, ite_false, forall_const, ne_eq, beq_self_eq_true, bne_self_eq_false, imp_self, true_implies, false_implies, implies_true, evP, evE, ev, setD, Nat.reduceAdd, Nat.reduceSub, reduceCtorEq, fillA, cutA, Nat.reduceLeDiff, Nat.reduceMul, Int.reduceLT, Int.reduceLE, Int.reduceEq, Int.reduceNe, Int.reduceAdd, Int.reduceSub, Int.reduceMul, Int.reduceNeg, Int.reduceToNat]
      intro _ h2 _
      exact ⟨.nilsl, by simp [remV, c2, d1], by simp [remV, c2, d1]; exact Sl.nil⟩
    · obtain ⟨e1, e2, e3, e4⟩ := cmn_facts c2 d1
      have hrl := remL_len ll q (cmnN f) (cmnD f)
      have hbox : h1 n = some ⟨31, [v, u], true, 0⟩ := by rw [hs1 n (by omega), upd_same]
      simp (maxSteps := 2000000) -implicitDefEqProofs (disch := omega) only [xsW, xsC, if_true, if_false, ite_true, ite_false, forall_const, ne_eq, beq_self_eq_true, bne_self_eq_false, imp_self, true_implies, false_implies, implies_true, evP, evE, ev, setD, Nat.reduceAdd, Nat.reduceSub, reduceCtorEq, fillA, cutA, Nat.reduceLeDiff, Nat.reduceMul, Int.reduceLT, Int.reduceLE, Int.reduceEq, Int.reduceNe, Int.reduceAdd, Int.reduceSub, Int.reduceMul, Int.reduceNeg, Int.reduceToNat,  hbox]
      refine fq_use (spec_l01Remainder (s.keep (h' := h1) (fun i _ hi9 => by simp (disch := omega) only [upd_other, hs1])) hp hv1 e1 e2 (cmnD f) (by omega) n2 (by omega) (by omega)) fun v2 h2 n3 hn3 hs2 hv2 => ?_
      simp (maxSteps := 2000000) -implicitDefEqProofs (disch := omega) only [xsW, xsC, if_true, if_false, ite_true, ite_false, forall_const, ne_eq, beq_self_eq_true, bne_self_eq_false, imp_self, true_implies, false_implies, implies_true, evP, evE, ev, setD, Nat.reduceAdd, Nat.reduceSub, reduceCtorEq, fillA, cutA, Nat.reduceLeDiff, Nat.reduceMul, Int.reduceLT, Int.reduceLE, Int.reduceEq, Int.reduceNe, Int.reduceAdd, Int.reduceSub, Int.reduceMul, Int.reduceNeg, Int.reduceToNat]
      have hfl2 := remF_len ll q f
      refine loop_for ll.length 0 (fun k p => [.agg [v, u], v', .ptr n 0, .any, .nilsl, .int .i64 0, .int .i64 (frcV ll q f), v1, .int .i64 (cmnD f), .bool true, v2, p.1, .int .i64 k, .any, .any, .any, .any, .any, .any, .any, .any, .any, .any, .any, .any, .any, .any, .any, .any, .any, .any, .any, .any, .any, .any, .any, .any, .any, .any, .any, .any, .any, .any, .any, .any, .any, .any, .any, .any, .any, .any, .any, .any, .any, .any, .any, .any, .any]) (fun _ (p : AV × AH) => p.2)
        (fun k p m => Acc n3 m p.2 60 2 p.1 (fracs ((remF ll q f).take k)) ∧ n3 ≤ m ∧ (∀ j, j < n3 → p.2 j = h2 j) ∧ ∀ j, j < k → isFr 1000000000 ((remF ll q f).getD j (0, 0)).1 ((remF ll q f).getD j (0, 0)).2 = true) (.sl n3 0 0 0, _) (Nat.zero_le _) ⟨Acc.empty (upd_same _ _ _) rfl (Nat.le_refl _) (by omega), by omega, fun j hj => upd_other (by omega), fun j hj => absurd hj (Nat.not_lt_zero _)⟩ (by simp [LeL, Le1]) (fun _ _ h => h) ?_
      rintro k ⟨out, hp'⟩ m - hk hm1 ⟨acc, hle, hold, hall⟩
      simp only at acc hold
      simp (maxSteps := 2000000) -implicitDefEqProofs (disch := omega) only [xsW, xsC, if_true, if_false, ite_true, ite_false, forall_const, ne_eq, beq_self_eq_true, bne_self_eq_false, imp_self, true_implies, false_implies, implies_true, evP, evE, ev, setD, Nat.reduceAdd, Nat.reduceSub, reduceCtorEq, fillA, cutA, Nat.reduceLeDiff, Nat.reduceMul, Int.reduceLT, Int.reduceLE, Int.reduceEq, Int.reduceNe, Int.reduceAdd, Int.reduceSub, Int.reduceMul, Int.reduceNeg, Int.reduceToNat,  hv2.ln, hrl]
      (refine cd_dec (fun c3 => ?_) (fun c3 => ?_) <;> simp (maxSteps := 2000000) -implicitDefEqProofs (disch := omega) only [xsW, xsC, if_true, if_false, ite_true, ite_false, forall_const, ne_eq, beq_self_eq_true, bne_self_eq_false, imp_self, true_implies, false_implies, implies_true, evP, evE, ev, setD, Nat.reduceAdd, Nat.reduceSub, reduceCtorEq, fillA, cutA, Nat.reduceLeDiff, Nat.reduceMul, Int.reduceLT, Int.reduceLE, Int.reduceEq, Int.reduceNe, Int.reduceAdd, Int.reduceSub, Int.reduceMul, Int.reduceNeg, Int.reduceToNat,  c3])
      · have hk2 : k < ll.length := by omega
        have hb2 := Sl.below hv2 (by rw [hv2.slen]; omega)
        have eb : (remL ll q (cmnN f) (cmnD f)).getD k 0 = remX ll q (cmnN f) (cmnD f) k := by rw [remL, rowOf_get hk2]
        have ebb := remX_b hp e1 e2 (d := cmnD f) (by omega) hk2
        have ef : (remF ll q f).getD k (0, 0) = red (remX ll q (cmnN f) (cmnD f) k) (cmnD f) := by
          rw [remF, getD_map _ _ _ 0 _ (by omega), eb]
        simp (maxSteps := 2000000) -implicitDefEqProofs (disch := omega) only [xsW, xsC, if_true, if_false, ite_true, ite_false, forall_const, ne_eq, beq_self_eq_true, bne_self_eq_false, imp_self, true_implies, false_implies, implies_true, evP, evE, ev, setD, Nat.reduceAdd, Nat.reduceSub, reduceCtorEq, fillA, cutA, Nat.reduceLeDiff, Nat.reduceMul, Int.reduceLT, Int.reduceLE, Int.reduceEq, Int.reduceNe, Int.reduceAdd, Int.reduceSub, Int.reduceMul, Int.reduceNeg, Int.reduceToNat,  hold, hv2.ia, hv2.ld, hrl, eb]
        refine q_use (spec_l01Frac _ _ (by unfold in64; omega) (by unfold in64; omega) (by omega) _ _) fun n5 hn5 => ?_
        simp (maxSteps := 2000000) -implicitDefEqProofs (disch := omega) only [xsW, xsC, if_true, if_false, ite_true, ite_false, forall_const, ne_eq, beq_self_eq_true, bne_self_eq_false, imp_self, true_implies, false_implies, implies_true, evP, evE, ev, setD, Nat.reduceAdd, Nat.reduceSub, reduceCtorEq, fillA, cutA, Nat.reduceLeDiff, Nat.reduceMul, Int.reduceLT, Int.reduceLE, Int.reduceEq, Int.reduceNe, Int.reduceAdd, Int.reduceSub, Int.reduceMul, Int.reduceNeg, Int.reduceToNat]
        refine q_use (spec_l01Told _ _ _ _) fun n6 hn6 => ?_
        cases hff : isFr 1000000000 (red (remX ll q (cmnN f) (cmnD f) k) (cmnD f)).1 (red (remX ll q (cmnN f) (cmnD f) k) (cmnD f)).2
        · rw [if_neg (show ¬ (false = true) by simp)]
          simp (maxSteps := 2000000) -implicitDefEqProofs (disch := omega) only [xsW, xsC, if_true, if_false, ite_true, ite_false, forall_const, ne_eq, beq_self_eq_true, bne_self_eq_false, imp_self, true_implies, false_implies, implies_true, evP, evE, ev, setD, Nat.reduceAdd, Nat.reduceSub, reduceCtorEq, fillA, cutA, Nat.reduceLeDiff, Nat.reduceMul, Int.reduceLT, Int.reduceLE, Int.reduceEq, Int.reduceNe, Int.reduceAdd, Int.reduceSub, Int.reduceMul, Int.reduceNeg, Int.reduceToNat,  fr]
          have hno : allFr (remF ll q f) = false := by
            cases hx : allFr (remF ll q f)
            · rfl
            · have := (allFr_iff _).1 hx k (by omega)
              rw [ef, hff] at this; cases this
          intro _ h4 _
          exact ⟨.nilsl, by simp [remV, c2, d1, hno], by simp [remV, c2, d1, hno]; exact Sl.nil⟩
        · rw [if_pos (show true = true from rfl)]
          simp (maxSteps := 2000000) -implicitDefEqProofs (disch := omega) only [xsW, xsC, if_true, if_false, ite_true, ite_false, forall_const, ne_eq, beq_self_eq_true, bne_self_eq_false, imp_self, true_implies, false_implies, implies_true, evP, evE, ev, setD, Nat.reduceAdd, Nat.reduceSub, reduceCtorEq, fillA, cutA, Nat.reduceLeDiff, Nat.reduceMul, Int.reduceLT, Int.reduceLE, Int.reduceEq, Int.reduceNe, Int.reduceAdd, Int.reduceSub, Int.reduceMul, Int.reduceNeg, Int.reduceToNat,  fr]
          refine app_frac (p := (remF ll q f).getD k (0, 0)) (acc.keep (fun i _ hi9 => by simp (disch := omega) only [upd_other]) |>.wide (Nat.le_refl _) (by omega)) (by omega) (by omega) ⟨rfl, _, upd_same _ _ _, by simp, by rw [ef]; simp [cutA]⟩ (by simp; omega) fun v' h' n' q1 q2 q3 => ?_
          simp (maxSteps := 2000000) -implicitDefEqProofs (disch := omega) only [xsW, xsC, if_true, if_false, ite_true, ite_false, forall_const, ne_eq, beq_self_eq_true, bne_self_eq_false, imp_self, true_implies, false_implies, implies_true, evP, evE, ev, setD, Nat.reduceAdd, Nat.reduceSub, reduceCtorEq, fillA, cutA, Nat.reduceLeDiff, Nat.reduceMul, Int.reduceLT, Int.reduceLE, Int.reduceEq, Int.reduceNe, Int.reduceAdd, Int.reduceSub, Int.reduceMul, Int.reduceNeg, Int.reduceToNat]
          exact ⟨(v', h'), ⟨by rw [take_succ_getD (d := (0, 0)) (by omega)]; exact q2, by omega, fun j hj => (q3 j hj).trans (by rw [upd_other (by omega), upd_other (by omega), hold j hj]), fun j hj => (Nat.lt_succ_iff_lt_or_eq.1 hj).elim (hall j) (fun e => by rw [e, ef]; exact hff)⟩, by omega, by omega, (by simp [LeL, Le1]), fun _ _ h => h⟩
      · have e : k = ll.length := by omega
        rw [List.take_of_length_le (by omega)] at acc
        have hyes : allFr (remF ll q f) = true := (allFr_iff _).2 fun j hj => hall j (by omega)
        have e : remV ll q f = (remF ll q f, 0) := by simp [remV, c2, d1, hyes]
        intro _ h4 hh
        rw [e]
        exact ⟨out, by first | rfl | exact ⟨rfl, rfl⟩, (Acc.sl (acc.keep fun i a b => hh i (by omega) b)).wide (by omega) (Nat.le_refl _)⟩
end
end Go.Proofs.Ytkpibnhddhdooab.L
