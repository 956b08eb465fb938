/- Contracts on matrices. -/
import Derived.Test.YtkpibnhddhdooaaA1
import Derived.Test.YtkpibnhddhdooaaA3
import Derived.Test.YtkpibnhddhdooaaA4
namespace Go.Proofs.Ytkpibnhddhdooaa.L
open Go
set_option linter.unusedSimpArgs false
set_option linter.unusedVariables false
def c_laws_eqInt64SS : F := ⟨(.seq (.reg false [⟨(some 4), (.mv (.c (.bool false))), none⟩]) (.seq (.seq (.reg false [⟨(some 6), (.mv (.t 0)), none⟩, ⟨(some 7), (.len (.t 6)), none⟩, ⟨(some 8), (.mv (.t 1)), none⟩, ⟨(some 9), (.len (.t 8)), none⟩, ⟨(some 10), (.bin .neq (.t 7) (.t 9)), none⟩]) (.cond (.t 10) (.seq (.reg false [⟨(some 4), (.mv (.c (.bool false))), none⟩]) .ret) .skip)) (.seq (.seq (.reg false [⟨(some 5), (.mv (.c (.int .i64 0))), none⟩]) (.block 0 (.loop (.seq (.seq (.reg false [⟨(some 11), (.mv (.t 5)), none⟩, ⟨(some 12), (.mv (.t 0)), none⟩, ⟨(some 13), (.len (.t 12)), none⟩, ⟨(some 14), (.bin .lss (.t 11) (.t 13)), none⟩]) (.cond (.t 14) .skip (.exit 0))) (.seq (.block 1 (.seq (.reg true [⟨(some 17), (.mv (.t 0)), none⟩, ⟨(some 18), (.mv (.t 5)), none⟩, ⟨(some 19), (.ia 1 (.t 17) (.t 18)), none⟩, ⟨(some 20), (.ld1 (.t 19)), none⟩, ⟨(some 21), (.mv (.t 1)), none⟩, ⟨(some 22), (.mv (.t 5)), none⟩, ⟨(some 23), (.ia 1 (.t 21) (.t 22)), none⟩, ⟨(some 24), (.ld1 (.t 23)), none⟩, ⟨(some 25), (.call (.f 14) [(.t 20), (.t 24)]), none⟩, ⟨(some 26), (.un .not (.t 25)), none⟩]) (.cond (.t 26) (.seq (.reg false [⟨(some 4), (.mv (.c (.bool false))), none⟩]) .ret) .skip))) (.reg false [⟨(some 15), (.mv (.t 5)), none⟩, ⟨(some 16), (.bin .add (.t 15) (.c (.int .i64 1))), none⟩, ⟨(some 5), (.mv (.t 16)), none⟩])))))) (.seq (.reg false [⟨(some 4), (.mv (.c (.bool true))), none⟩]) .ret)))), 27, [(.t 4)]⟩
theorem k_laws_eqInt64SS : compF Try.prog Try.f11 = some c_laws_eqInt64SS := by kernel_rfl
def c_spec_IsMatrix : F := ⟨(.seq (.reg false [⟨(some 2), (.mv (.c (.bool false))), none⟩]) (.seq (.reg false [⟨(some 3), (.mv (.t 0)), none⟩, ⟨(some 4), (.call (.f 56) [(.t 3)]), none⟩, ⟨(some 2), (.mv (.t 4)), none⟩]) .ret)), 5, [(.t 2)]⟩
theorem k_spec_IsMatrix : compF Try.prog Try.f48 = some c_spec_IsMatrix := by kernel_rfl
def c_spec_l01Matrix : F := ⟨(.seq (.reg false [⟨(some 2), (.mv (.c (.bool false))), none⟩]) (.seq (.reg false [⟨(some 6), (.mv (.t 0)), none⟩, ⟨(some 7), (.len (.t 6)), none⟩, ⟨(some 3), (.mv (.t 7)), none⟩]) (.seq (.seq (.reg false [⟨(some 8), (.mv (.t 3)), none⟩, ⟨(some 9), (.bin .lss (.t 8) (.c (.int .i64 1))), none⟩, ⟨(some 10), (.mv (.t 9)), none⟩, ⟨(some 11), (.mv (.t 3)), (some (10, false))⟩, ⟨(some 12), (.bin .gtr (.t 11) (.c (.int .i64 5))), (some (10, false))⟩, ⟨(some 13), (.pick (.t 10) (.c (.bool true)) (.t 12)), none⟩]) (.cond (.t 13) (.seq (.reg false [⟨(some 2), (.mv (.c (.bool false))), none⟩]) .ret) .skip)) (.seq (.seq (.reg false [⟨(some 4), (.mv (.c (.int .i64 0))), none⟩]) (.block 0 (.loop (.seq (.seq (.reg false [⟨(some 14), (.mv (.t 4)), none⟩, ⟨(some 15), (.mv (.t 3)), none⟩, ⟨(some 16), (.bin .lss (.t 14) (.t 15)), none⟩]) (.cond (.t 16) .skip (.exit 0))) (.seq (.block 1 (.seq (.seq (.reg false [⟨(some 19), (.mv (.t 0)), none⟩, ⟨(some 20), (.mv (.t 4)), none⟩, ⟨(some 21), (.ia 1 (.t 19) (.t 20)), none⟩, ⟨(some 22), (.ld1 (.t 21)), none⟩, ⟨(some 23), (.len (.t 22)), none⟩, ⟨(some 24), (.mv (.t 3)), none⟩, ⟨(some 25), (.bin .neq (.t 23) (.t 24)), none⟩]) (.cond (.t 25) (.seq (.reg false [⟨(some 2), (.mv (.c (.bool false))), none⟩]) .ret) .skip)) (.seq (.reg false [⟨(some 5), (.mv (.c (.int .i64 0))), none⟩]) (.block 2 (.loop (.seq (.seq (.reg false [⟨(some 26), (.mv (.t 5)), none⟩, ⟨(some 27), (.mv (.t 3)), none⟩, ⟨(some 28), (.bin .lss (.t 26) (.t 27)), none⟩]) (.cond (.t 28) .skip (.exit 2))) (.seq (.block 3 (.seq (.reg false [⟨(some 31), (.mv (.t 0)), none⟩, ⟨(some 32), (.mv (.t 4)), none⟩, ⟨(some 33), (.ia 1 (.t 31) (.t 32)), none⟩, ⟨(some 34), (.ld1 (.t 33)), none⟩, ⟨(some 35), (.mv (.t 5)), none⟩, ⟨(some 36), (.ia 1 (.t 34) (.t 35)), none⟩, ⟨(some 37), (.ld1 (.t 36)), none⟩, ⟨(some 38), (.call (.f 57) [(.t 37), (.c (.int .i64 (-20))), (.c (.int .i64 20))]), none⟩, ⟨(some 39), (.un .not (.t 38)), none⟩]) (.cond (.t 39) (.seq (.reg false [⟨(some 2), (.mv (.c (.bool false))), none⟩]) .ret) .skip))) (.reg false [⟨(some 29), (.mv (.t 5)), none⟩, ⟨(some 30), (.bin .add (.t 29) (.c (.int .i64 1))), none⟩, ⟨(some 5), (.mv (.t 30)), none⟩])))))))) (.reg false [⟨(some 17), (.mv (.t 4)), none⟩, ⟨(some 18), (.bin .add (.t 17) (.c (.int .i64 1))), none⟩, ⟨(some 4), (.mv (.t 18)), none⟩])))))) (.seq (.reg false [⟨(some 2), (.mv (.c (.bool true))), none⟩]) .ret))))), 40, [(.t 2)]⟩
theorem k_spec_l01Matrix : compF Try.prog Try.f56 = some c_spec_l01Matrix := by kernel_rfl
def c_impl_IsMatrix : F := ⟨(.seq (.reg false [⟨(some 2), (.mv (.c (.bool false))), none⟩]) (.seq (.reg false [⟨(some 3), (.mv (.t 0)), none⟩, ⟨(some 4), (.len (.t 3)), none⟩, ⟨(some 5), (.call (.f 60) [(.t 4), (.c (.int .i64 1)), (.c (.int .i64 5))]), none⟩, ⟨(some 6), (.mv (.t 5)), none⟩, ⟨(some 7), (.mv (.t 0)), (some (6, true))⟩, ⟨(some 8), (.mv (.t 0)), (some (6, true))⟩, ⟨(some 9), (.len (.t 8)), (some (6, true))⟩, ⟨(some 10), (.call (.f 90) [(.t 7), (.t 9)]), (some (6, true))⟩, ⟨(some 11), (.pick (.t 6) (.t 10) (.c (.bool false))), none⟩, ⟨(some 12), (.mv (.t 11)), none⟩, ⟨(some 13), (.mv (.t 0)), (some (12, true))⟩, ⟨(some 14), (.call (.f 91) [(.t 13), (.f 92)]), (some (12, true))⟩, ⟨(some 15), (.un .not (.t 14)), (some (12, true))⟩, ⟨(some 16), (.pick (.t 12) (.t 15) (.c (.bool false))), none⟩, ⟨(some 2), (.mv (.t 16)), none⟩]) .ret)), 17, [(.t 2)]⟩
theorem k_impl_IsMatrix : compF Try.prog Try.f47 = some c_impl_IsMatrix := by kernel_rfl
def c_impl_isSquare : F := ⟨(.seq (.reg false [⟨(some 3), (.box 3 (.t 1)), none⟩, ⟨(some 4), (.mv (.c (.bool false))), none⟩]) (.seq (.reg false [⟨(some 5), (.mv (.t 0)), none⟩, ⟨(some 6), (.len (.t 5)), none⟩, ⟨(some 7), (.ld1 (.t 3)), none⟩, ⟨(some 8), (.bin .eql (.t 6) (.t 7)), none⟩, ⟨(some 9), (.mv (.t 8)), none⟩, ⟨(some 10), (.mv (.t 0)), (some (9, true))⟩, ⟨(some 11), (.mkf 123 [(.t 3)]), (some (9, true))⟩, ⟨(some 12), (.call (.f 91) [(.t 10), (.t 11)]), (some (9, true))⟩, ⟨(some 13), (.un .not (.t 12)), (some (9, true))⟩, ⟨(some 14), (.pick (.t 9) (.t 13) (.c (.bool false))), none⟩, ⟨(some 4), (.mv (.t 14)), none⟩]) .ret)), 15, [(.t 4)]⟩
theorem k_impl_isSquare : compF Try.prog Try.f90 = some c_impl_isSquare := by kernel_rfl
def c_impl_isSquare_1 : F := ⟨(.seq (.reg false [⟨(some 3), (.mv (.c (.bool false))), none⟩]) (.seq (.reg false [⟨(some 4), (.mv (.t 0)), none⟩, ⟨(some 5), (.len (.t 4)), none⟩, ⟨(some 6), (.ld1 (.t 1)), none⟩, ⟨(some 7), (.bin .neq (.t 5) (.t 6)), none⟩, ⟨(some 3), (.mv (.t 7)), none⟩]) .ret)), 8, [(.t 3)]⟩
theorem k_impl_isSquare_1 : compF Try.prog Try.f123 = some c_impl_isSquare_1 := by kernel_rfl
def c_impl_IsMatrix_1 : F := ⟨(.seq (.reg false [⟨(some 2), (.mv (.c (.bool false))), none⟩]) (.seq (.reg false [⟨(some 3), (.mv (.t 0)), none⟩, ⟨(some 4), (.call (.f 93) [(.t 3), (.c (.int .i64 20))]), none⟩, ⟨(some 5), (.un .not (.t 4)), none⟩, ⟨(some 2), (.mv (.t 5)), none⟩]) .ret)), 6, [(.t 2)]⟩
theorem k_impl_IsMatrix_1 : compF Try.prog Try.f92 = some c_impl_IsMatrix_1 := by kernel_rfl
def c_impl_allUpTo : F := ⟨(.seq (.reg false [⟨(some 3), (.box 2 (.t 1)), none⟩, ⟨(some 4), (.mv (.c (.bool false))), none⟩]) (.seq (.reg false [⟨(some 5), (.mv (.t 0)), none⟩, ⟨(some 6), (.mkf 124 [(.t 3)]), none⟩, ⟨(some 7), (.call (.f 111) [(.t 5), (.t 6)]), none⟩, ⟨(some 8), (.un .not (.t 7)), none⟩, ⟨(some 4), (.mv (.t 8)), none⟩]) .ret)), 9, [(.t 4)]⟩
theorem k_impl_allUpTo : compF Try.prog Try.f93 = some c_impl_allUpTo := by kernel_rfl
def c_impl_allUpTo_1 : F := ⟨(.seq (.reg false [⟨(some 3), (.mv (.c (.bool false))), none⟩]) (.seq (.reg false [⟨(some 4), (.mv (.t 0)), none⟩, ⟨(some 5), (.ld1 (.t 1)), none⟩, ⟨(some 6), (.call (.f 125) [(.t 4), (.t 5)]), none⟩, ⟨(some 7), (.un .not (.t 6)), none⟩, ⟨(some 3), (.mv (.t 7)), none⟩]) .ret)), 8, [(.t 3)]⟩
theorem k_impl_allUpTo_1 : compF Try.prog Try.f124 = some c_impl_allUpTo_1 := by kernel_rfl

def within (m : Int) (l : List Int) : Bool := l.all fun x => decide (-m ≤ x ∧ x ≤ m)
def isMat (ll : List (List Int)) : Bool := decide (1 ≤ ll.length ∧ ll.length ≤ 5) && ll.all fun l => decide (l.length = ll.length) && within 20 l
theorem any_range {α : Type} (l : List α) (d : α) (p : α → Bool) : ((List.range l.length).any fun k => p (l.getD k d)) = l.any p := by
  rw [Bool.eq_iff_iff]
  simp only [List.any_eq_true, List.mem_range]
  constructor
  · rintro ⟨k, hk, h⟩
    exact ⟨_, getD_mem hk, h⟩
  · rintro ⟨x, hx, h⟩
    obtain ⟨k, hk, rfl⟩ := List.mem_iff_getElem.1 hx
    exact ⟨k, hk, by simpa [List.getD, hk] using h⟩
theorem not_any {α : Type} (l : List α) (p : α → Bool) : (!(l.any fun x => !p x)) = l.all p := by
  rw [Bool.eq_iff_iff]; simp
theorem impl_allUpTo1 (a c : Int) (hc : in64 (-c)) {h : AH} {i n : Nat} {op : Nat} {wr : Bool} {ty : Nat} (hb : h i = some ⟨ty, [.int .i64 c], wr, op⟩) :
    Q Try.prog 124 [.int .i64 a, .ptr i 0] h n (.bool (!decide (-c ≤ a ∧ a ≤ c))) := by
  refine q_intro Try.func124 k_impl_allUpTo_1 ?_
  simp (maxSteps := 2000000) -implicitDefEqProofs (disch := omega) only [c_impl_allUpTo_1, hb, xsW, xsC, if_true, if_false, ite_true, ite_false, forall_const, ne_eq, beq_self_eq_true, bne_self_eq_false, imp_self, true_implies, false_implies, implies_true, evP, evE, ev, setD, Nat.reduceAdd, Nat.reduceSub, reduceCtorEq, fillA, cutA, Nat.reduceLeDiff, Nat.reduceMul, Int.reduceLT, Int.reduceLE, Int.reduceEq, Int.reduceNe, Int.reduceAdd, Int.reduceSub, Int.reduceMul, Int.reduceNeg, Int.reduceToNat]
  refine q_use (impl_upTo _ _ hc _ _) fun n1 hn1 => ?_
  simp (maxSteps := 2000000) -implicitDefEqProofs (disch := omega) only [xsW, xsC, if_true, if_false, ite_true, ite_false, forall_const, ne_eq, beq_self_eq_true, bne_self_eq_false, imp_self, true_implies, false_implies, implies_true, evP, evE, ev, setD, Nat.reduceAdd, Nat.reduceSub, reduceCtorEq, fillA, cutA, Nat.reduceLeDiff, Nat.reduceMul, Int.reduceLT, Int.reduceLE, Int.reduceEq, Int.reduceNe, Int.reduceAdd, Int.reduceSub, Int.reduceMul, Int.reduceNeg, Int.reduceToNat]
theorem impl_allUpTo {w : Bool} {lo hi : Nat} {h : AH} {v : AV} {l : List Int} (s : Ints w lo hi h v l) (hl : l.length ≤ 4611686018427387904) (c : Int) (hc : in64 (-c)) (n : Nat) (hn : hi ≤ n) :
    Q Try.prog 93 [v, .int .i64 c] h n (.bool (within c l)) := by
  refine q_intro Try.func93 k_impl_allUpTo ?_
  have hs := s.slen
  simp (maxSteps := 2000000) -implicitDefEqProofs (disch := omega) only [c_impl_allUpTo, xsW, xsC, if_true, if_false, ite_true, ite_false, forall_const, ne_eq, beq_self_eq_true, bne_self_eq_false, imp_self, true_implies, false_implies, implies_true, evP, evE, ev, setD, Nat.reduceAdd, Nat.reduceSub, reduceCtorEq, fillA, cutA, Nat.reduceLeDiff, Nat.reduceMul, Int.reduceLT, Int.reduceLE, Int.reduceEq, Int.reduceNe, Int.reduceAdd, Int.reduceSub, Int.reduceMul, Int.reduceNeg, Int.reduceToNat]
  refine q_use (has_ints (Ints.keep s fun i _ hi' => by rw [upd_other (by omega)]) (by omega) _ _ (fun k => !decide (-c ≤ l.getD k 0 ∧ l.getD k 0 ≤ c)) _ fun k n' hk _ => ?_) fun n1 hn1 => ?_
  · rw [ints_getD l k (by omega)]
    exact impl_allUpTo1 _ _ hc (upd_same _ _ _)
  · rw [hs, any_range l 0 (fun x => !decide (-c ≤ x ∧ x ≤ c))]
    simp (maxSteps := 2000000) -implicitDefEqProofs (disch := omega) only [xsW, xsC, if_true, if_false, ite_true, ite_false, forall_const, ne_eq, beq_self_eq_true, bne_self_eq_false, imp_self, true_implies, false_implies, implies_true, evP, evE, ev, setD, Nat.reduceAdd, Nat.reduceSub, reduceCtorEq, fillA, cutA, Nat.reduceLeDiff, Nat.reduceMul, Int.reduceLT, Int.reduceLE, Int.reduceEq, Int.reduceNe, Int.reduceAdd, Int.reduceSub, Int.reduceMul, Int.reduceNeg, Int.reduceToNat]
    rw [within, Bool.eq_iff_iff]; simp
theorem impl_isSquare1 {w : Bool} {lo hi : Nat} {h : AH} {v : AV} {l : List Int} (s : Ints w lo hi h v l) (c : Int) {i n : Nat} {op : Nat} {wr : Bool} {ty : Nat} (hb : h i = some ⟨ty, [.int .i64 c], wr, op⟩) :
    Q Try.prog 123 [v, .ptr i 0] h n (.bool (decide (¬ (l.length : Int) = c))) := by
  refine q_intro Try.func123 k_impl_isSquare_1 ?_
  simp (maxSteps := 2000000) -implicitDefEqProofs (disch := omega) only [c_impl_isSquare_1, hb, s.ln, xsW, xsC, if_true, if_false, ite_true, ite_false, forall_const, ne_eq, beq_self_eq_true, bne_self_eq_false, imp_self, true_implies, false_implies, implies_true, evP, evE, ev, setD, Nat.reduceAdd, Nat.reduceSub, reduceCtorEq, fillA, cutA, Nat.reduceLeDiff, Nat.reduceMul, Int.reduceLT, Int.reduceLE, Int.reduceEq, Int.reduceNe, Int.reduceAdd, Int.reduceSub, Int.reduceMul, Int.reduceNeg, Int.reduceToNat]
theorem impl_isSquare {w : Bool} {lo hi : Nat} {h : AH} {v : AV} {vs : List AV} {ll : List (List Int)} (s : Rows w lo hi h v vs ll) (hl : ll.length ≤ 4611686018427387904) (c : Int) (n : Nat) (hn : hi ≤ n) :
    Q Try.prog 90 [v, .int .i64 c] h n (.bool (decide ((ll.length : Int) = c) && ll.all fun l => decide ((l.length : Int) = c))) := by
  refine q_intro Try.func90 k_impl_isSquare ?_
  have hs := s.slen
  simp (maxSteps := 2000000) -implicitDefEqProofs (disch := omega) only [c_impl_isSquare, s.ln, xsW, xsC, if_true, if_false, ite_true, ite_false, forall_const, ne_eq, beq_self_eq_true, bne_self_eq_false, imp_self, true_implies, false_implies, implies_true, evP, evE, ev, setD, Nat.reduceAdd, Nat.reduceSub, reduceCtorEq, fillA, cutA, Nat.reduceLeDiff, Nat.reduceMul, Int.reduceLT, Int.reduceLE, Int.reduceEq, Int.reduceNe, Int.reduceAdd, Int.reduceSub, Int.reduceMul, Int.reduceNeg, Int.reduceToNat]
  (refine gd_dec (fun hc => ?_) (fun hc => ?_) <;> simp (maxSteps := 2000000) -implicitDefEqProofs (disch := omega) only [xsW, xsC, if_true, if_false, ite_true, ite_false, forall_const, ne_eq, beq_self_eq_true, bne_self_eq_false, imp_self, true_implies, false_implies, implies_true, evP, evE, ev, setD, Nat.reduceAdd, Nat.reduceSub, reduceCtorEq, fillA, cutA, Nat.reduceLeDiff, Nat.reduceMul, Int.reduceLT, Int.reduceLE, Int.reduceEq, Int.reduceNe, Int.reduceAdd, Int.reduceSub, Int.reduceMul, Int.reduceNeg, Int.reduceToNat,  hc])
  have s' := s.keep (h' := upd h n (some ⟨3, [.int .i64 c], true, 0⟩)) fun i _ hi' => by rw [upd_other (by omega)]
  refine q_use (has_rows s'.out (by omega) _ _ (fun k => decide (¬ ((ll.getD k []).length : Int) = c)) _ fun k n' hk _ => impl_isSquare1 (s'.row k (by omega)) c (upd_same _ _ _)) fun n1 hn1 => ?_
  rw [hs, any_range ll [] (fun x => decide (¬ (x.length : Int) = c))]
  simp (maxSteps := 2000000) -implicitDefEqProofs (disch := omega) only [xsW, xsC, if_true, if_false, ite_true, ite_false, forall_const, ne_eq, beq_self_eq_true, bne_self_eq_false, imp_self, true_implies, false_implies, implies_true, evP, evE, ev, setD, Nat.reduceAdd, Nat.reduceSub, reduceCtorEq, fillA, cutA, Nat.reduceLeDiff, Nat.reduceMul, Int.reduceLT, Int.reduceLE, Int.reduceEq, Int.reduceNe, Int.reduceAdd, Int.reduceSub, Int.reduceMul, Int.reduceNeg, Int.reduceToNat]
  rw [Bool.eq_iff_iff]; simp
theorem impl_IsMatrix1 {w : Bool} {lo hi : Nat} {h : AH} {v : AV} {l : List Int} (s : Ints w lo hi h v l) (hl : l.length ≤ 4611686018427387904) (n : Nat) (hn : hi ≤ n) :
    Q Try.prog 92 [v] h n (.bool (!within 20 l)) := by
  refine q_intro Try.func92 k_impl_IsMatrix_1 ?_
  simp (maxSteps := 2000000) -implicitDefEqProofs (disch := omega) only [c_impl_IsMatrix_1, xsW, xsC, if_true, if_false, ite_true, ite_false, forall_const, ne_eq, beq_self_eq_true, bne_self_eq_false, imp_self, true_implies, false_implies, implies_true, evP, evE, ev, setD, Nat.reduceAdd, Nat.reduceSub, reduceCtorEq, fillA, cutA, Nat.reduceLeDiff, Nat.reduceMul, Int.reduceLT, Int.reduceLE, Int.reduceEq, Int.reduceNe, Int.reduceAdd, Int.reduceSub, Int.reduceMul, Int.reduceNeg, Int.reduceToNat]
  refine q_use (impl_allUpTo s hl _ (by unfold in64; omega) _ hn) fun n1 hn1 => ?_
  simp (maxSteps := 2000000) -implicitDefEqProofs (disch := omega) only [xsW, xsC, if_true, if_false, ite_true, ite_false, forall_const, ne_eq, beq_self_eq_true, bne_self_eq_false, imp_self, true_implies, false_implies, implies_true, evP, evE, ev, setD, Nat.reduceAdd, Nat.reduceSub, reduceCtorEq, fillA, cutA, Nat.reduceLeDiff, Nat.reduceMul, Int.reduceLT, Int.reduceLE, Int.reduceEq, Int.reduceNe, Int.reduceAdd, Int.reduceSub, Int.reduceMul, Int.reduceNeg, Int.reduceToNat]
theorem impl_IsMatrix {w : Bool} {lo hi : Nat} {h : AH} {v : AV} {vs : List AV} {ll : List (List Int)} (s : Rows w lo hi h v vs ll) (hl : ll.length ≤ 1048576) (hll : ∀ l ∈ ll, l.length ≤ 1048576) (n : Nat) (hn : hi ≤ n) :
    Q Try.prog 47 [v] h n (.bool (isMat ll)) := by
  refine q_intro Try.func47 k_impl_IsMatrix ?_
  have hs := s.slen
  simp (maxSteps := 2000000) -implicitDefEqProofs (disch := omega) only [c_impl_IsMatrix, s.ln, xsW, xsC, if_true, if_false, ite_true, ite_false, forall_const, ne_eq, beq_self_eq_true, bne_self_eq_false, imp_self, true_implies, false_implies, implies_true, evP, evE, ev, setD, Nat.reduceAdd, Nat.reduceSub, reduceCtorEq, fillA, cutA, Nat.reduceLeDiff, Nat.reduceMul, Int.reduceLT, Int.reduceLE, Int.reduceEq, Int.reduceNe, Int.reduceAdd, Int.reduceSub, Int.reduceMul, Int.reduceNeg, Int.reduceToNat]
  refine q_use (impl_within _ _ _ _ _) fun n1 hn1 => ?_
  simp (maxSteps := 2000000) -implicitDefEqProofs (disch := omega) only [xsW, xsC, if_true, if_false, ite_true, ite_false, forall_const, ne_eq, beq_self_eq_true, bne_self_eq_false, imp_self, true_implies, false_implies, implies_true, evP, evE, ev, setD, Nat.reduceAdd, Nat.reduceSub, reduceCtorEq, fillA, cutA, Nat.reduceLeDiff, Nat.reduceMul, Int.reduceLT, Int.reduceLE, Int.reduceEq, Int.reduceNe, Int.reduceAdd, Int.reduceSub, Int.reduceMul, Int.reduceNeg, Int.reduceToNat]
  (refine gd_dec (fun h1 => ?_) (fun h1 => ?_) <;> simp (maxSteps := 2000000) -implicitDefEqProofs (disch := omega) only [xsW, xsC, if_true, if_false, ite_true, ite_false, forall_const, ne_eq, beq_self_eq_true, bne_self_eq_false, imp_self, true_implies, false_implies, implies_true, evP, evE, ev, setD, Nat.reduceAdd, Nat.reduceSub, reduceCtorEq, fillA, cutA, Nat.reduceLeDiff, Nat.reduceMul, Int.reduceLT, Int.reduceLE, Int.reduceEq, Int.reduceNe, Int.reduceAdd, Int.reduceSub, Int.reduceMul, Int.reduceNeg, Int.reduceToNat,  h1])
  · simp (maxSteps := 2000000) -implicitDefEqProofs (disch := omega) only [xsW, xsC, if_true, if_false, ite_true, ite_false, forall_const, ne_eq, beq_self_eq_true, bne_self_eq_false, imp_self, true_implies, false_implies, implies_true, evP, evE, ev, setD, Nat.reduceAdd, Nat.reduceSub, reduceCtorEq, fillA, cutA, Nat.reduceLeDiff, Nat.reduceMul, Int.reduceLT, Int.reduceLE, Int.reduceEq, Int.reduceNe, Int.reduceAdd, Int.reduceSub, Int.reduceMul, Int.reduceNeg, Int.reduceToNat,  s.ln]
    refine q_use (impl_isSquare s (by omega) _ _ (by omega)) fun n2 hn2 => ?_
    cases hq : (ll.all fun l => decide ((l.length : Int) = ll.length))
    · simp (maxSteps := 2000000) -implicitDefEqProofs (disch := omega) only [xsW, xsC, if_true, if_false, ite_true, ite_false, forall_const, ne_eq, beq_self_eq_true, bne_self_eq_false, imp_self, true_implies, false_implies, implies_true, evP, evE, ev, setD, Nat.reduceAdd, Nat.reduceSub, reduceCtorEq, fillA, cutA, Nat.reduceLeDiff, Nat.reduceMul, Int.reduceLT, Int.reduceLE, Int.reduceEq, Int.reduceNe, Int.reduceAdd, Int.reduceSub, Int.reduceMul, Int.reduceNeg, Int.reduceToNat]
      rw [Bool.eq_iff_iff]
      simp only [Bool.false_eq_true, false_iff, isMat, Bool.and_eq_true, not_and, List.all_eq_true]
      intro _ hx
      rw [List.all_eq_false] at hq
      obtain ⟨l, hm, hh⟩ := hq
      have := (hx l hm).1
      simp at this hh
      omega
    · simp (maxSteps := 2000000) -implicitDefEqProofs (disch := omega) only [xsW, xsC, if_true, if_false, ite_true, ite_false, forall_const, ne_eq, beq_self_eq_true, bne_self_eq_false, imp_self, true_implies, false_implies, implies_true, evP, evE, ev, setD, Nat.reduceAdd, Nat.reduceSub, reduceCtorEq, fillA, cutA, Nat.reduceLeDiff, Nat.reduceMul, Int.reduceLT, Int.reduceLE, Int.reduceEq, Int.reduceNe, Int.reduceAdd, Int.reduceSub, Int.reduceMul, Int.reduceNeg, Int.reduceToNat]
      refine q_use (has_rows s.out (by omega) _ _ (fun k => !within 20 (ll.getD k [])) _ fun k n' hk _ => impl_IsMatrix1 (s.row k (by omega)) (by have := hll _ (getD_mem (d := []) (show k < ll.length by omega)); omega) _ (by omega)) fun n3 hn3 => ?_
      rw [hs, any_range ll [] (fun x => !within 20 x)]
      simp (maxSteps := 2000000) -implicitDefEqProofs (disch := omega) only [xsW, xsC, if_true, if_false, ite_true, ite_false, forall_const, ne_eq, beq_self_eq_true, bne_self_eq_false, imp_self, true_implies, false_implies, implies_true, evP, evE, ev, setD, Nat.reduceAdd, Nat.reduceSub, reduceCtorEq, fillA, cutA, Nat.reduceLeDiff, Nat.reduceMul, Int.reduceLT, Int.reduceLE, Int.reduceEq, Int.reduceNe, Int.reduceAdd, Int.reduceSub, Int.reduceMul, Int.reduceNeg, Int.reduceToNat]
      rw [Bool.eq_iff_iff]
      rw [List.all_eq_true] at hq
      simp only [isMat, Bool.and_eq_true, List.all_eq_true, Bool.not_eq_true', List.any_eq_false, decide_eq_true_eq]
      constructor
      · intro hx
        exact ⟨by omega, fun l hm => ⟨by have := hq l hm; simp at this; omega, by simpa using hx l hm⟩⟩
      · intro hx l hm
        simpa using (hx.2 l hm).2
  · rw [Bool.eq_iff_iff]; simp only [isMat, Bool.false_eq_true, false_iff, Bool.and_eq_true, decide_eq_true_eq, not_and]; intro hx; omega
theorem within_iff (m : Int) (l : List Int) : within m l = true ↔ ∀ j, j < l.length → -m ≤ l.getD j 0 ∧ l.getD j 0 ≤ m := by
  simp only [within, List.all_eq_true, decide_eq_true_eq]
  constructor
  · intro h j hj
    exact h _ (getD_mem hj)
  · intro h x hx
    obtain ⟨k, hk, rfl⟩ := List.mem_iff_getElem.1 hx
    have := h k hk
    simpa [List.getD, hk] using this
theorem isMat_iff (ll : List (List Int)) : isMat ll = true ↔ 1 ≤ ll.length ∧ ll.length ≤ 5 ∧ ∀ k, k < ll.length → (ll.getD k []).length = ll.length ∧ within 20 (ll.getD k []) = true := by
  simp only [isMat, Bool.and_eq_true, decide_eq_true_eq, List.all_eq_true, and_assoc]
  constructor
  · rintro ⟨h1, h2, h⟩
    exact ⟨h1, h2, fun k hk => h _ (getD_mem hk)⟩
  · rintro ⟨h1, h2, h⟩
    refine ⟨h1, h2, fun x hx => ?_⟩
    obtain ⟨k, hk, rfl⟩ := List.mem_iff_getElem.1 hx
    have := h k hk
    simpa [List.getD, hk] using this
theorem isMat_f {ll : List (List Int)} (h : ¬ (1 ≤ ll.length ∧ ll.length ≤ 5 ∧ ∀ k, k < ll.length → (ll.getD k []).length = ll.length ∧ within 20 (ll.getD k []) = true)) : false = isMat ll := by
  cases hm : isMat ll
  · rfl
  · exact absurd ((isMat_iff ll).1 hm) h
theorem spec_l01Matrix {w : Bool} {lo hi : Nat} {h : AH} {v : AV} {vs : List AV} {ll : List (List Int)} (s : Rows w lo hi h v vs ll) (hl : ll.length ≤ 1048576) (n : Nat) :
    Q Try.prog 56 [v] h n (.bool (isMat ll)) := by
  refine q_intro Try.func56 k_spec_l01Matrix ?_
  simp (maxSteps := 2000000) -implicitDefEqProofs (disch := omega) only [c_spec_l01Matrix, s.ln, xsW, xsC, if_true, if_false, ite_true, ite_false, forall_const, ne_eq, beq_self_eq_true, bne_self_eq_false, imp_self, true_implies, false_implies, implies_true, evP, evE, ev, setD, Nat.reduceAdd, Nat.reduceSub, reduceCtorEq, fillA, cutA, Nat.reduceLeDiff, Nat.reduceMul, Int.reduceLT, Int.reduceLE, Int.reduceEq, Int.reduceNe, Int.reduceAdd, Int.reduceSub, Int.reduceMul, Int.reduceNeg, Int.reduceToNat]
  (refine gd_dec (fun h1 => ?_) (fun h1 => ?_) <;> simp (maxSteps := 2000000) -implicitDefEqProofs (disch := omega) only [xsW, xsC, if_true, if_false, ite_true, ite_false, forall_const, ne_eq, beq_self_eq_true, bne_self_eq_false, imp_self, true_implies, false_implies, implies_true, evP, evE, ev, setD, Nat.reduceAdd, Nat.reduceSub, reduceCtorEq, fillA, cutA, Nat.reduceLeDiff, Nat.reduceMul, Int.reduceLT, Int.reduceLE, Int.reduceEq, Int.reduceNe, Int.reduceAdd, Int.reduceSub, Int.reduceMul, Int.reduceNeg, Int.reduceToNat,  h1])
  · exact isMat_f fun hx => by omega
  (refine cd_dec (fun h2 => ?_) (fun h2 => ?_) <;> simp (maxSteps := 2000000) -implicitDefEqProofs (disch := omega) only [xsW, xsC, if_true, if_false, ite_true, ite_false, forall_const, ne_eq, beq_self_eq_true, bne_self_eq_false, imp_self, true_implies, false_implies, implies_true, evP, evE, ev, setD, Nat.reduceAdd, Nat.reduceSub, reduceCtorEq, fillA, cutA, Nat.reduceLeDiff, Nat.reduceMul, Int.reduceLT, Int.reduceLE, Int.reduceEq, Int.reduceNe, Int.reduceAdd, Int.reduceSub, Int.reduceMul, Int.reduceNeg, Int.reduceToNat,  h2])
  · exact isMat_f fun hx => by omega
  refine loop_for ll.length 0 (fun k (_ : Unit) => [v, .any, .bool false, .int .i64 ll.length, .int .i64 k, .any, .any, .any, .any, .any, .any, .any, .any, .any, .any, .any, .any, .any, .any, .any, .any, .any, .any, .any, .any, .any, .any, .any, .any, .any, .any, .any, .any, .any, .any, .any, .any, .any, .any, .any]) (fun k _ => h)
    (fun k _ _ => ∀ j, j < k → (ll.getD j []).length = ll.length ∧ within 20 (ll.getD j []) = true) () (Nat.zero_le _) (fun j hj => absurd hj (Nat.not_lt_zero _)) (by simp [LeL, Le1]) (fun _ _ h => h) ?_
  rintro k - n1 - hk hn1 he
  simp (maxSteps := 2000000) -implicitDefEqProofs (disch := omega) only [xsW, xsC, if_true, if_false, ite_true, ite_false, forall_const, ne_eq, beq_self_eq_true, bne_self_eq_false, imp_self, true_implies, false_implies, implies_true, evP, evE, ev, setD, Nat.reduceAdd, Nat.reduceSub, reduceCtorEq, fillA, cutA, Nat.reduceLeDiff, Nat.reduceMul, Int.reduceLT, Int.reduceLE, Int.reduceEq, Int.reduceNe, Int.reduceAdd, Int.reduceSub, Int.reduceMul, Int.reduceNeg, Int.reduceToNat,  s.ln]
  (refine cd_dec (fun h3 => ?_) (fun h3 => ?_) <;> simp (maxSteps := 2000000) -implicitDefEqProofs (disch := omega) only [xsW, xsC, if_true, if_false, ite_true, ite_false, forall_const, ne_eq, beq_self_eq_true, bne_self_eq_false, imp_self, true_implies, false_implies, implies_true, evP, evE, ev, setD, Nat.reduceAdd, Nat.reduceSub, reduceCtorEq, fillA, cutA, Nat.reduceLeDiff, Nat.reduceMul, Int.reduceLT, Int.reduceLE, Int.reduceEq, Int.reduceNe, Int.reduceAdd, Int.reduceSub, Int.reduceMul, Int.reduceNeg, Int.reduceToNat,  h3])
  · have hk' : k < ll.length := by omega
    have hr := s.row k hk'
    simp (maxSteps := 2000000) -implicitDefEqProofs (disch := omega) only [xsW, xsC, if_true, if_false, ite_true, ite_false, forall_const, ne_eq, beq_self_eq_true, bne_self_eq_false, imp_self, true_implies, false_implies, implies_true, evP, evE, ev, setD, Nat.reduceAdd, Nat.reduceSub, reduceCtorEq, fillA, cutA, Nat.reduceLeDiff, Nat.reduceMul, Int.reduceLT, Int.reduceLE, Int.reduceEq, Int.reduceNe, Int.reduceAdd, Int.reduceSub, Int.reduceMul, Int.reduceNeg, Int.reduceToNat,  s.ia, s.ld, hr.ln]
    (refine cd_dec (fun h4 => ?_) (fun h4 => ?_) <;> simp (maxSteps := 2000000) -implicitDefEqProofs (disch := omega) only [xsW, xsC, if_true, if_false, ite_true, ite_false, forall_const, ne_eq, beq_self_eq_true, bne_self_eq_false, imp_self, true_implies, false_implies, implies_true, evP, evE, ev, setD, Nat.reduceAdd, Nat.reduceSub, reduceCtorEq, fillA, cutA, Nat.reduceLeDiff, Nat.reduceMul, Int.reduceLT, Int.reduceLE, Int.reduceEq, Int.reduceNe, Int.reduceAdd, Int.reduceSub, Int.reduceMul, Int.reduceNeg, Int.reduceToNat,  h4])
    · exact isMat_f fun hx => by have := hx.2.2 k hk'; omega
    · refine loop_for ll.length 0 (fun j (_ : Unit) => [v, .any, .bool false, .int .i64 ll.length, .int .i64 k, .int .i64 j, .any, .any, .any, .any, .any, .any, .any, .any, .any, .any, .any, .any, .any, .any, .any, .any, .any, .any, .any, .any, .any, .any, .any, .any, .any, .any, .any, .any, .any, .any, .any, .any, .any, .any]) (fun k _ => h)
        (fun j _ _ => ∀ i, i < j → -20 ≤ (ll.getD k []).getD i 0 ∧ (ll.getD k []).getD i 0 ≤ 20) () (Nat.zero_le _) (fun j hj => absurd hj (Nat.not_lt_zero _)) (by simp [LeL, Le1]) (fun _ _ h => h) ?_
      rintro j - n2 - hj hn2 hi
      simp (maxSteps := 2000000) -implicitDefEqProofs (disch := omega) only [xsW, xsC, if_true, if_false, ite_true, ite_false, forall_const, ne_eq, beq_self_eq_true, bne_self_eq_false, imp_self, true_implies, false_implies, implies_true, evP, evE, ev, setD, Nat.reduceAdd, Nat.reduceSub, reduceCtorEq, fillA, cutA, Nat.reduceLeDiff, Nat.reduceMul, Int.reduceLT, Int.reduceLE, Int.reduceEq, Int.reduceNe, Int.reduceAdd, Int.reduceSub, Int.reduceMul, Int.reduceNeg, Int.reduceToNat]
      (refine cd_dec (fun h5 => ?_) (fun h5 => ?_) <;> simp (maxSteps := 2000000) -implicitDefEqProofs (disch := omega) only [xsW, xsC, if_true, if_false, ite_true, ite_false, forall_const, ne_eq, beq_self_eq_true, bne_self_eq_false, imp_self, true_implies, false_implies, implies_true, evP, evE, ev, setD, Nat.reduceAdd, Nat.reduceSub, reduceCtorEq, fillA, cutA, Nat.reduceLeDiff, Nat.reduceMul, Int.reduceLT, Int.reduceLE, Int.reduceEq, Int.reduceNe, Int.reduceAdd, Int.reduceSub, Int.reduceMul, Int.reduceNeg, Int.reduceToNat,  h5])
      · simp (maxSteps := 2000000) -implicitDefEqProofs (disch := omega) only [xsW, xsC, if_true, if_false, ite_true, ite_false, forall_const, ne_eq, beq_self_eq_true, bne_self_eq_false, imp_self, true_implies, false_implies, implies_true, evP, evE, ev, setD, Nat.reduceAdd, Nat.reduceSub, reduceCtorEq, fillA, cutA, Nat.reduceLeDiff, Nat.reduceMul, Int.reduceLT, Int.reduceLE, Int.reduceEq, Int.reduceNe, Int.reduceAdd, Int.reduceSub, Int.reduceMul, Int.reduceNeg, Int.reduceToNat,  s.ia, s.ld, hr.ia, hr.ld]
        refine q_use (spec_l01In _ _ _ _ _) fun n3 hn3 => ?_
        simp (maxSteps := 2000000) -implicitDefEqProofs (disch := omega) only [xsW, xsC, if_true, if_false, ite_true, ite_false, forall_const, ne_eq, beq_self_eq_true, bne_self_eq_false, imp_self, true_implies, false_implies, implies_true, evP, evE, ev, setD, Nat.reduceAdd, Nat.reduceSub, reduceCtorEq, fillA, cutA, Nat.reduceLeDiff, Nat.reduceMul, Int.reduceLT, Int.reduceLE, Int.reduceEq, Int.reduceNe, Int.reduceAdd, Int.reduceSub, Int.reduceMul, Int.reduceNeg, Int.reduceToNat]
        (refine cd_dec (fun h6 => ?_) (fun h6 => ?_) <;> simp (maxSteps := 2000000) -implicitDefEqProofs (disch := omega) only [xsW, xsC, if_true, if_false, ite_true, ite_false, forall_const, ne_eq, beq_self_eq_true, bne_self_eq_false, imp_self, true_implies, false_implies, implies_true, evP, evE, ev, setD, Nat.reduceAdd, Nat.reduceSub, reduceCtorEq, fillA, cutA, Nat.reduceLeDiff, Nat.reduceMul, Int.reduceLT, Int.reduceLE, Int.reduceEq, Int.reduceNe, Int.reduceAdd, Int.reduceSub, Int.reduceMul, Int.reduceNeg, Int.reduceToNat,  h6])
        · refine isMat_f fun hx => ?_
          have hw := (hx.2.2 k hk').2
          rw [within_iff] at hw
          have := hw j (by omega)
          omega
        · exact ⟨(), fun i hi' => (Nat.lt_succ_iff_lt_or_eq.1 hi').elim (hi i) (fun e => by rw [e]; omega), by omega, by omega, (by simp [LeL, Le1])⟩
      · refine ⟨(), fun i hi' => (Nat.lt_succ_iff_lt_or_eq.1 hi').elim (he i) (fun e => ?_), by omega, by omega, (by simp [LeL, Le1])⟩
        rw [e, within_iff]
        exact ⟨by omega, fun i hi' => hi i (by omega)⟩
  · symm; rw [isMat_iff]
    exact ⟨by omega, by omega, fun j hj => he j (by omega)⟩
theorem spec_IsMatrix {w : Bool} {lo hi : Nat} {h : AH} {v : AV} {vs : List AV} {ll : List (List Int)} (s : Rows w lo hi h v vs ll) (hl : ll.length ≤ 1048576) (n : Nat) :
    Q Try.prog 48 [v] h n (.bool (isMat ll)) := by
  refine q_intro Try.func48 k_spec_IsMatrix ?_
  simp (maxSteps := 2000000) -implicitDefEqProofs (disch := omega) only [c_spec_IsMatrix, xsW, xsC, if_true, if_false, ite_true, ite_false, forall_const, ne_eq, beq_self_eq_true, bne_self_eq_false, imp_self, true_implies, false_implies, implies_true, evP, evE, ev, setD, Nat.reduceAdd, Nat.reduceSub, reduceCtorEq, fillA, cutA, Nat.reduceLeDiff, Nat.reduceMul, Int.reduceLT, Int.reduceLE, Int.reduceEq, Int.reduceNe, Int.reduceAdd, Int.reduceSub, Int.reduceMul, Int.reduceNeg, Int.reduceToNat]
  refine q_use (spec_l01Matrix s hl _) fun n1 hn1 => ?_
  simp (maxSteps := 2000000) -implicitDefEqProofs (disch := omega) only [xsW, xsC, if_true, if_false, ite_true, ite_false, forall_const, ne_eq, beq_self_eq_true, bne_self_eq_false, imp_self, true_implies, false_implies, implies_true, evP, evE, ev, setD, Nat.reduceAdd, Nat.reduceSub, reduceCtorEq, fillA, cutA, Nat.reduceLeDiff, Nat.reduceMul, Int.reduceLT, Int.reduceLE, Int.reduceEq, Int.reduceNe, Int.reduceAdd, Int.reduceSub, Int.reduceMul, Int.reduceNeg, Int.reduceToNat]
theorem laws_eqInt64SS {w w' : Bool} {lo hi lo' hi' : Nat} {h : AH} {v v' : AV} {vs vs' : List AV} {ll ll' : List (List Int)} (s : Rows w lo hi h v vs ll) (s' : Rows w' lo' hi' h v' vs' ll') (hl : ll.length ≤ 1048576) (hll : ∀ l ∈ ll, l.length ≤ 1048576) (n : Nat) :
    Q Try.prog 11 [v, v'] h n (.bool (decide (ll = ll'))) := by
  refine q_intro Try.func11 k_laws_eqInt64SS ?_
  simp (maxSteps := 2000000) -implicitDefEqProofs (disch := omega) only [c_laws_eqInt64SS, s.ln, s'.ln, xsW, xsC, if_true, if_false, ite_true, ite_false, forall_const, ne_eq, beq_self_eq_true, bne_self_eq_false, imp_self, true_implies, false_implies, implies_true, evP, evE, ev, setD, Nat.reduceAdd, Nat.reduceSub, reduceCtorEq, fillA, cutA, Nat.reduceLeDiff, Nat.reduceMul, Int.reduceLT, Int.reduceLE, Int.reduceEq, Int.reduceNe, Int.reduceAdd, Int.reduceSub, Int.reduceMul, Int.reduceNeg, Int.reduceToNat]
  (refine cd_dec (fun h1 => ?_) (fun h1 => ?_) <;> simp (maxSteps := 2000000) -implicitDefEqProofs (disch := omega) only [xsW, xsC, if_true, if_false, ite_true, ite_false, forall_const, ne_eq, beq_self_eq_true, bne_self_eq_false, imp_self, true_implies, false_implies, implies_true, evP, evE, ev, setD, Nat.reduceAdd, Nat.reduceSub, reduceCtorEq, fillA, cutA, Nat.reduceLeDiff, Nat.reduceMul, Int.reduceLT, Int.reduceLE, Int.reduceEq, Int.reduceNe, Int.reduceAdd, Int.reduceSub, Int.reduceMul, Int.reduceNeg, Int.reduceToNat,  h1])
  · rw [decide_eq_false fun e => h1 (by rw [e])]
  refine loop_for ll.length 0 (fun k (_ : Unit) => [v, v', .any, .any, .bool false, .int .i64 k, .any, .any, .any, .any, .any, .any, .any, .any, .any, .any, .any, .any, .any, .any, .any, .any, .any, .any, .any, .any, .any]) (fun k _ => h)
    (fun k _ _ => ∀ j, j < k → ll.getD j [] = ll'.getD j []) () (Nat.zero_le _) (fun j hj => absurd hj (Nat.not_lt_zero _)) (by simp [LeL, Le1]) (fun _ _ h => h) ?_
  rintro k - n1 - hk hn1 he
  simp (maxSteps := 2000000) -implicitDefEqProofs (disch := omega) only [xsW, xsC, if_true, if_false, ite_true, ite_false, forall_const, ne_eq, beq_self_eq_true, bne_self_eq_false, imp_self, true_implies, false_implies, implies_true, evP, evE, ev, setD, Nat.reduceAdd, Nat.reduceSub, reduceCtorEq, fillA, cutA, Nat.reduceLeDiff, Nat.reduceMul, Int.reduceLT, Int.reduceLE, Int.reduceEq, Int.reduceNe, Int.reduceAdd, Int.reduceSub, Int.reduceMul, Int.reduceNeg, Int.reduceToNat,  s.ln, s'.ln]
  (refine cd_dec (fun h2 => ?_) (fun h2 => ?_) <;> simp (maxSteps := 2000000) -implicitDefEqProofs (disch := omega) only [xsW, xsC, if_true, if_false, ite_true, ite_false, forall_const, ne_eq, beq_self_eq_true, bne_self_eq_false, imp_self, true_implies, false_implies, implies_true, evP, evE, ev, setD, Nat.reduceAdd, Nat.reduceSub, reduceCtorEq, fillA, cutA, Nat.reduceLeDiff, Nat.reduceMul, Int.reduceLT, Int.reduceLE, Int.reduceEq, Int.reduceNe, Int.reduceAdd, Int.reduceSub, Int.reduceMul, Int.reduceNeg, Int.reduceToNat,  h2])
  · have hk' : k < ll.length := by omega
    have hk2 : k < ll'.length := by omega
    simp (maxSteps := 2000000) -implicitDefEqProofs (disch := omega) only [xsW, xsC, if_true, if_false, ite_true, ite_false, forall_const, ne_eq, beq_self_eq_true, bne_self_eq_false, imp_self, true_implies, false_implies, implies_true, evP, evE, ev, setD, Nat.reduceAdd, Nat.reduceSub, reduceCtorEq, fillA, cutA, Nat.reduceLeDiff, Nat.reduceMul, Int.reduceLT, Int.reduceLE, Int.reduceEq, Int.reduceNe, Int.reduceAdd, Int.reduceSub, Int.reduceMul, Int.reduceNeg, Int.reduceToNat,  s.ia, s.ld, s'.ia, s'.ld]
    refine q_use (laws_eqInt64S (s.row k hk') (s'.row k hk2) (hll _ (getD_mem hk')) _) fun n2 hn2 => ?_
    simp (maxSteps := 2000000) -implicitDefEqProofs (disch := omega) only [xsW, xsC, if_true, if_false, ite_true, ite_false, forall_const, ne_eq, beq_self_eq_true, bne_self_eq_false, imp_self, true_implies, false_implies, implies_true, evP, evE, ev, setD, Nat.reduceAdd, Nat.reduceSub, reduceCtorEq, fillA, cutA, Nat.reduceLeDiff, Nat.reduceMul, Int.reduceLT, Int.reduceLE, Int.reduceEq, Int.reduceNe, Int.reduceAdd, Int.reduceSub, Int.reduceMul, Int.reduceNeg, Int.reduceToNat]
    (refine cd_dec (fun h3 => ?_) (fun h3 => ?_) <;> simp (maxSteps := 2000000) -implicitDefEqProofs (disch := omega) only [xsW, xsC, if_true, if_false, ite_true, ite_false, forall_const, ne_eq, beq_self_eq_true, bne_self_eq_false, imp_self, true_implies, false_implies, implies_true, evP, evE, ev, setD, Nat.reduceAdd, Nat.reduceSub, reduceCtorEq, fillA, cutA, Nat.reduceLeDiff, Nat.reduceMul, Int.reduceLT, Int.reduceLE, Int.reduceEq, Int.reduceNe, Int.reduceAdd, Int.reduceSub, Int.reduceMul, Int.reduceNeg, Int.reduceToNat,  h3])
    · rw [decide_eq_false fun e => h3 (by rw [e])]
    · exact ⟨(), fun j hj => (Nat.lt_succ_iff_lt_or_eq.1 hj).elim (he j) (fun e => by rw [e]; exact Decidable.not_not.1 h3), by omega, by omega, (by simp [LeL, Le1])⟩
  · rw [decide_eq_true (getD_ext (d := []) (by omega) fun j hj => he j (by omega))]
end Go.Proofs.Ytkpibnhddhdooaa.L
