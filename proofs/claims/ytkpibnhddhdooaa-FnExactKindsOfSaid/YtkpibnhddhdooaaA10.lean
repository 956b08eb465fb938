/- Contracts: copies of lists and of rows. -/
import Derived.Test.YtkpibnhddhdooaaA3
import Derived.Test.YtkpibnhddhdooaaL18
namespace Go.Proofs.Ytkpibnhddhdooaa.L
open Go
set_option linter.unusedSimpArgs false
set_option linter.unusedVariables false
def c_slices_Clone_Sint64_int64 : F := ⟨(.seq (.reg false [⟨(some 2), (.mv (.c .nilsl)), none⟩]) (.seq (.seq (.reg false [⟨(some 3), (.mv (.t 0)), none⟩, ⟨(some 4), (.nilseq false (.t 3)), none⟩]) (.cond (.t 4) (.seq (.reg false [⟨(some 2), (.mv (.c .nilsl)), none⟩]) .ret) .skip)) (.seq (.reg false [⟨(some 5), (.lit 2 1 0 [(.int .i64 0)] []), none⟩, ⟨(some 6), (.mv (.t 0)), none⟩, ⟨(some 7), (.app 2 1 8 [(.int .i64 0)] (.t 5) (.t 6)), none⟩, ⟨(some 2), (.mv (.t 7)), none⟩]) .ret))), 8, [(.t 2)]⟩
theorem k_slices_Clone_Sint64_int64 : compF Try.prog Try.f122 = some c_slices_Clone_Sint64_int64 := by kernel_rfl
def c_spec_l01Own : F := ⟨(.seq (.reg false [⟨(some 2), (.mv (.c .nilsl)), none⟩]) (.seq (.reg false [⟨(some 3), (.lit 2 1 0 [(.int .i64 0)] []), none⟩, ⟨(some 4), (.mv (.t 0)), none⟩, ⟨(some 5), (.app 2 1 8 [(.int .i64 0)] (.t 3) (.t 4)), none⟩, ⟨(some 2), (.mv (.t 5)), none⟩]) .ret)), 6, [(.t 2)]⟩
theorem k_spec_l01Own : compF Try.prog Try.f88 = some c_spec_l01Own := by kernel_rfl
def c_impl_copyRows : F := ⟨(.seq (.reg false [⟨(some 2), (.mv (.c .nilsl)), none⟩]) (.seq (.reg false [⟨(some 3), (.mv (.c .nilsl)), none⟩]) (.seq (.seq (.reg false [⟨(some 6), (.mv (.t 0)), none⟩, ⟨(some 7), (.len (.t 6)), none⟩, ⟨(some 8), (.mv (.c (.int .i64 0))), none⟩]) (.block 0 (.loop (.seq (.reg false [⟨(some 9), (.bin .lss (.t 8) (.t 7)), none⟩]) (.seq (.cond (.t 9) .skip (.exit 0)) (.seq (.block 1 (.seq (.reg false [⟨(some 10), (.ia 1 (.t 6) (.t 8)), none⟩, ⟨(some 11), (.ld1 (.t 10)), none⟩, ⟨(some 5), (.mv (.t 11)), none⟩]) (.reg false [⟨(some 12), (.mv (.t 3)), none⟩, ⟨(some 13), (.mv (.t 5)), none⟩, ⟨(some 14), (.call (.f 122) [(.t 13)]), none⟩, ⟨(some 15), (.lit 29 1 1 [.nilsl] [(0, (.t 14))]), none⟩, ⟨(some 16), (.app 29 1 24 [.nilsl] (.t 12) (.t 15)), none⟩, ⟨(some 3), (.mv (.t 16)), none⟩]))) (.reg false [⟨(some 17), (.bin .add (.t 8) (.c (.int .i64 1))), none⟩, ⟨(some 8), (.mv (.t 17)), none⟩]))))))) (.seq (.reg false [⟨(some 18), (.mv (.t 3)), none⟩, ⟨(some 2), (.mv (.t 18)), none⟩]) .ret)))), 19, [(.t 2)]⟩
theorem k_impl_copyRows : compF Try.prog Try.f87 = some c_impl_copyRows := by kernel_rfl

theorem ints_one (l : List Int) : (ints l).all AV.one = true := by
  simp only [List.all_eq_true, ints, List.mem_map]
  rintro _ ⟨a, _, rfl⟩
  rfl
theorem sq_any {neg : Bool} {v : AV} (hs : isSl v = true) (K : AV → AH → Nat → Prop) (h : AH) (n : Nat) : SQ neg v K h n = K (.bool neg) h n := by
  cases v <;> first | rfl | simp [isSl] at hs
theorem slices_Clone {lo hi : Nat} {h : AH} {v : AV} {l : List Int} (s : Ints true lo hi h v l) (hl : l.length ≤ 1048576) (n : Nat) (hn : hi ≤ n) :
    FQ Try.prog 122 [v] h n fun v' h' n' => Ints true n n' h' v' l := by
  refine fq_intro Try.func122 k_slices_Clone_Sint64_int64 ?_
  by_cases h0 : v = .nilsl
  · subst h0
    have hl0 : l = [] := by have := s.slen; simpa [slen] using this.symm
    subst hl0
    simp (maxSteps := 2000000) -implicitDefEqProofs (disch := omega) only [c_slices_Clone_Sint64_int64, xsW, xsC, if_true, if_false, ite_true, ite_false, forall_const, ne_eq, beq_self_eq_true, bne_self_eq_false, imp_self, true_implies, false_implies, implies_true, evP, evE, ev, setD, Nat.reduceAdd, Nat.reduceSub, reduceCtorEq, fillA, cutA, Nat.reduceLeDiff, Nat.reduceMul, Int.reduceLT, Int.reduceLE, Int.reduceEq, Int.reduceNe, Int.reduceAdd, Int.reduceSub, Int.reduceMul, Int.reduceNeg, Int.reduceToNat]
    intro h2 _
    exact Sl.nil
  · have hs := Sl.isReal s h0
    simp (maxSteps := 2000000) -implicitDefEqProofs (disch := omega) only [c_slices_Clone_Sint64_int64, sq_any hs, xsW, xsC, if_true, if_false, ite_true, ite_false, forall_const, ne_eq, beq_self_eq_true, bne_self_eq_false, imp_self, true_implies, false_implies, implies_true, evP, evE, ev, setD, Nat.reduceAdd, Nat.reduceSub, reduceCtorEq, fillA, cutA, Nat.reduceLeDiff, Nat.reduceMul, Int.reduceLT, Int.reduceLE, Int.reduceEq, Int.reduceNe, Int.reduceAdd, Int.reduceSub, Int.reduceMul, Int.reduceNeg, Int.reduceToNat]
    refine app_acc (lo := n) (Acc.empty (upd_same _ _ _) rfl (Nat.le_refl _) (by omega)) (Nat.le_refl _) (by omega) (Sl.src (s.keep (fun i _ hi9 => by simp (disch := omega) only [upd_other]))) (by rw [Sl.len s]) (ints_one l) (by rw [s.slen]; simp [slen]; omega) fun v' h' n' g1 g2 g3 g4 g5 g6 => ?_
    simp (maxSteps := 2000000) -implicitDefEqProofs (disch := omega) only [xsW, xsC, if_true, if_false, ite_true, ite_false, forall_const, ne_eq, beq_self_eq_true, bne_self_eq_false, imp_self, true_implies, false_implies, implies_true, evP, evE, ev, setD, Nat.reduceAdd, Nat.reduceSub, reduceCtorEq, fillA, cutA, Nat.reduceLeDiff, Nat.reduceMul, Int.reduceLT, Int.reduceLE, Int.reduceEq, Int.reduceNe, Int.reduceAdd, Int.reduceSub, Int.reduceMul, Int.reduceNeg, Int.reduceToNat]
    intro _ h2 hh
    exact (g3.keep fun i a b => hh i a b).sl
theorem spec_l01Own {w : Bool} {lo hi : Nat} {h : AH} {v : AV} {l : List Int} (s : Ints w lo hi h v l) (hl : l.length ≤ 1048576) (n : Nat) (hn : hi ≤ n) :
    FQ Try.prog 88 [v] h n fun v' h' n' => Ints true n n' h' v' l := by
  refine fq_intro Try.func88 k_spec_l01Own ?_
  simp (maxSteps := 2000000) -implicitDefEqProofs (disch := omega) only [c_spec_l01Own, xsW, xsC, if_true, if_false, ite_true, ite_false, forall_const, ne_eq, beq_self_eq_true, bne_self_eq_false, imp_self, true_implies, false_implies, implies_true, evP, evE, ev, setD, Nat.reduceAdd, Nat.reduceSub, reduceCtorEq, fillA, cutA, Nat.reduceLeDiff, Nat.reduceMul, Int.reduceLT, Int.reduceLE, Int.reduceEq, Int.reduceNe, Int.reduceAdd, Int.reduceSub, Int.reduceMul, Int.reduceNeg, Int.reduceToNat]
  refine app_acc (lo := n) (Acc.empty (upd_same _ _ _) rfl (Nat.le_refl _) (by omega)) (Nat.le_refl _) (by omega) (Sl.src (s.keep (fun i _ hi9 => by simp (disch := omega) only [upd_other]))) (by rw [Sl.len s]) (ints_one l) (by rw [s.slen]; simp [slen]; omega) fun v' h' n' g1 g2 g3 g4 g5 g6 => ?_
  simp (maxSteps := 2000000) -implicitDefEqProofs (disch := omega) only [xsW, xsC, if_true, if_false, ite_true, ite_false, forall_const, ne_eq, beq_self_eq_true, bne_self_eq_false, imp_self, true_implies, false_implies, implies_true, evP, evE, ev, setD, Nat.reduceAdd, Nat.reduceSub, reduceCtorEq, fillA, cutA, Nat.reduceLeDiff, Nat.reduceMul, Int.reduceLT, Int.reduceLE, Int.reduceEq, Int.reduceNe, Int.reduceAdd, Int.reduceSub, Int.reduceMul, Int.reduceNeg, Int.reduceToNat]
  intro _ h2 hh
  exact (g3.keep fun i a b => hh i a b).sl
theorem impl_copyRows {lo hi : Nat} {h : AH} {v : AV} {vs : List AV} {ll : List (List Int)} (s : Rows true lo hi h v vs ll) (hl : ll.length ≤ 1048576) (hll : ∀ l ∈ ll, l.length ≤ 1048576) (n : Nat) (hn : hi ≤ n) :
    FQ Try.prog 87 [v] h n fun v' h' n' => ∃ vs', Rows true n n' h' v' vs' ll := by
  refine fq_intro Try.func87 k_impl_copyRows ?_
  simp (maxSteps := 2000000) -implicitDefEqProofs (disch := omega) only [c_impl_copyRows, s.ln, xsW, xsC, if_true, if_false, ite_true, ite_false, forall_const, ne_eq, beq_self_eq_true, bne_self_eq_false, imp_self, true_implies, false_implies, implies_true, evP, evE, ev, setD, Nat.reduceAdd, Nat.reduceSub, reduceCtorEq, fillA, cutA, Nat.reduceLeDiff, Nat.reduceMul, Int.reduceLT, Int.reduceLE, Int.reduceEq, Int.reduceNe, Int.reduceAdd, Int.reduceSub, Int.reduceMul, Int.reduceNeg, Int.reduceToNat]
  refine loop_for ll.length 0 (fun k p => [v, .any, .nilsl, p.1, .any, .any, v, .int .i64 ll.length, .int .i64 k, .any, .any, .any, .any, .any, .any, .any, .any, .any, .any]) (fun k (p : AV × List AV × AH) => p.2.2)
    (fun k p m => Grow n m h p.2.2 29 p.1 p.2.1 (ll.take k)) (.nilsl, [], h) (Nat.zero_le _) Grow.start (by simp [LeL, Le1]) (fun _ _ h => h) ?_
  rintro k ⟨out, ws, hp⟩ m - hk hm g
  simp only at g
  simp (maxSteps := 2000000) -implicitDefEqProofs (disch := omega) only [xsW, xsC, if_true, if_false, ite_true, ite_false, forall_const, ne_eq, beq_self_eq_true, bne_self_eq_false, imp_self, true_implies, false_implies, implies_true, evP, evE, ev, setD, Nat.reduceAdd, Nat.reduceSub, reduceCtorEq, fillA, cutA, Nat.reduceLeDiff, Nat.reduceMul, Int.reduceLT, Int.reduceLE, Int.reduceEq, Int.reduceNe, Int.reduceAdd, Int.reduceSub, Int.reduceMul, Int.reduceNeg, Int.reduceToNat]
  (refine cd_dec (fun h1 => ?_) (fun h1 => ?_) <;> simp (maxSteps := 2000000) -implicitDefEqProofs (disch := omega) only [xsW, xsC, if_true, if_false, ite_true, ite_false, forall_const, ne_eq, beq_self_eq_true, bne_self_eq_false, imp_self, true_implies, false_implies, implies_true, evP, evE, ev, setD, Nat.reduceAdd, Nat.reduceSub, reduceCtorEq, fillA, cutA, Nat.reduceLeDiff, Nat.reduceMul, Int.reduceLT, Int.reduceLE, Int.reduceEq, Int.reduceNe, Int.reduceAdd, Int.reduceSub, Int.reduceMul, Int.reduceNeg, Int.reduceToNat,  h1])
  · have hk' : k < ll.length := by omega
    have hb := s.out.below (by rw [s.slen]; omega)
    have hold := g.old
    simp (maxSteps := 2000000) -implicitDefEqProofs (disch := omega) only [xsW, xsC, if_true, if_false, ite_true, ite_false, forall_const, ne_eq, beq_self_eq_true, bne_self_eq_false, imp_self, true_implies, false_implies, implies_true, evP, evE, ev, setD, Nat.reduceAdd, Nat.reduceSub, reduceCtorEq, fillA, cutA, Nat.reduceLeDiff, Nat.reduceMul, Int.reduceLT, Int.reduceLE, Int.reduceEq, Int.reduceNe, Int.reduceAdd, Int.reduceSub, Int.reduceMul, Int.reduceNeg, Int.reduceToNat,  s.ia, hold, s.ld]
    refine fq_use (slices_Clone ((s.row k hk').keep (fun i _ hi9 => by simp (disch := omega) only [upd_other, hold])) (hll _ (getD_mem hk')) m (by omega)) fun v1 h1' n2 hn2 hs1 hv1 => ?_
    have o1 := one_any (Sl.any hv1)
    have o2 := sto_any (Sl.any hv1)
    have o3 := cel_any (Sl.any hv1)
    simp (maxSteps := 2000000) -implicitDefEqProofs (disch := omega) only [xsW, xsC, if_true, if_false, ite_true, ite_false, forall_const, ne_eq, beq_self_eq_true, bne_self_eq_false, imp_self, true_implies, false_implies, implies_true, evP, evE, ev, setD, Nat.reduceAdd, Nat.reduceSub, reduceCtorEq, fillA, cutA, Nat.reduceLeDiff, Nat.reduceMul, Int.reduceLT, Int.reduceLE, Int.reduceEq, Int.reduceNe, Int.reduceAdd, Int.reduceSub, Int.reduceMul, Int.reduceNeg, Int.reduceToNat,  o1, o2, o3]
    refine g.app (hv1.keep (fun i _ hi9 => by simp (disch := omega) only [upd_other])) (fun i hi9 => by simp (disch := omega) only [upd_other, hs1]) hn2 (by omega) (Nat.le_refl _) ⟨rfl, _, upd_same _ _ _, by simp, by simp [cutA]⟩ (by simp; omega) fun out' h' n' q1 q2 => ?_
    simp (maxSteps := 2000000) -implicitDefEqProofs (disch := omega) only [xsW, xsC, if_true, if_false, ite_true, ite_false, forall_const, ne_eq, beq_self_eq_true, bne_self_eq_false, imp_self, true_implies, false_implies, implies_true, evP, evE, ev, setD, Nat.reduceAdd, Nat.reduceSub, reduceCtorEq, fillA, cutA, Nat.reduceLeDiff, Nat.reduceMul, Int.reduceLT, Int.reduceLE, Int.reduceEq, Int.reduceNe, Int.reduceAdd, Int.reduceSub, Int.reduceMul, Int.reduceNeg, Int.reduceToNat]
    exact ⟨(out', ws ++ [v1], h'), by rw [take_succ_getD hk']; exact q2, by omega, by omega, (by simp [LeL, Le1]), fun _ _ h => h⟩
  · intro _ h2 hh
    rw [List.take_of_length_le (by omega)] at g
    exact ⟨ws, g.rowsOf hh⟩
end Go.Proofs.Ytkpibnhddhdooaa.L
