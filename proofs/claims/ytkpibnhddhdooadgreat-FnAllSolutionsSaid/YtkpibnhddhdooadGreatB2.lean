/- Contracts on matrices. -/
import Derived.Test.YtkpibnhddhdooadGreatB1
set_option linter.unusedSimpArgs false
set_option linter.unusedVariables false
namespace Go.Proofs.YtkpibnhddhdooadGreat.L
open Go
def c_spec_l01Matrix : F := ⟨(.seq (.reg false [⟨some 2, .mv (.c (.bool false)), none⟩]) (.seq (.reg false [⟨some 6, .mv (.t 0), none⟩, ⟨some 7, .len (.t 6), none⟩, ⟨some 3, .mv (.t 7), none⟩]) (.seq (.seq (.reg false [⟨some 8, .mv (.t 3), none⟩, ⟨some 9, .bin .lss (.t 8) (.c (.int .i64 1)), none⟩, ⟨some 10, .mv (.t 9), none⟩, ⟨some 11, .mv (.t 3), some (10, false)⟩, ⟨some 12, .bin .gtr (.t 11) (.c (.int .i64 5)), some (10, false)⟩, ⟨some 13, .pick (.t 10) (.c (.bool true)) (.t 12), none⟩]) (.cond (.t 13) (.seq (.reg false [⟨some 2, .mv (.c (.bool false)), none⟩]) .ret) .skip)) (.seq (.seq (.reg false [⟨some 4, .mv (.c (.int .i64 0)), none⟩]) (.block 0 (.loop (.seq (.seq (.reg false [⟨some 14, .mv (.t 4), none⟩, ⟨some 15, .mv (.t 3), none⟩, ⟨some 16, .bin .lss (.t 14) (.t 15), none⟩]) (.cond (.t 16) .skip (.exit 0))) (.seq (.block 1 (.seq (.seq (.reg false [⟨some 19, .mv (.t 0), none⟩, ⟨some 20, .mv (.t 4), none⟩, ⟨some 21, .ia 1 (.t 19) (.t 20), none⟩, ⟨some 22, .ld1 (.t 21), none⟩, ⟨some 23, .len (.t 22), none⟩, ⟨some 24, .mv (.t 3), none⟩, ⟨some 25, .bin .neq (.t 23) (.t 24), none⟩]) (.cond (.t 25) (.seq (.reg false [⟨some 2, .mv (.c (.bool false)), none⟩]) .ret) .skip)) (.seq (.reg false [⟨some 5, .mv (.c (.int .i64 0)), none⟩]) (.block 2 (.loop (.seq (.seq (.reg false [⟨some 26, .mv (.t 5), none⟩, ⟨some 27, .mv (.t 3), none⟩, ⟨some 28, .bin .lss (.t 26) (.t 27), none⟩]) (.cond (.t 28) .skip (.exit 2))) (.seq (.block 3 (.seq (.reg false [⟨some 31, .mv (.t 0), none⟩, ⟨some 32, .mv (.t 4), none⟩, ⟨some 33, .ia 1 (.t 31) (.t 32), none⟩, ⟨some 34, .ld1 (.t 33), none⟩, ⟨some 35, .mv (.t 5), none⟩, ⟨some 36, .ia 1 (.t 34) (.t 35), none⟩, ⟨some 37, .ld1 (.t 36), none⟩, ⟨some 38, .call (.f 62) [(.t 37), (.c (.int .i64 (-20))), (.c (.int .i64 20))], none⟩, ⟨some 39, .un .not (.t 38), none⟩]) (.cond (.t 39) (.seq (.reg false [⟨some 2, .mv (.c (.bool false)), none⟩]) .ret) .skip))) (.reg false [⟨some 29, .mv (.t 5), none⟩, ⟨some 30, .bin .add (.t 29) (.c (.int .i64 1)), none⟩, ⟨some 5, .mv (.t 30), none⟩])))))))) (.reg false [⟨some 17, .mv (.t 4), none⟩, ⟨some 18, .bin .add (.t 17) (.c (.int .i64 1)), none⟩, ⟨some 4, .mv (.t 18), none⟩])))))) (.seq (.reg false [⟨some 2, .mv (.c (.bool true)), none⟩]) .ret))))), 40, [(.t 2)]⟩
theorem k_spec_l01Matrix : compF Tryz.prog Tryz.f70 = some c_spec_l01Matrix := by kernel_rfl
def c_impl_IsMatrix : F := ⟨(.seq (.reg false [⟨some 2, .mv (.c (.bool false)), none⟩]) (.seq (.reg false [⟨some 3, .mv (.t 0), none⟩, ⟨some 4, .len (.t 3), none⟩, ⟨some 5, .call (.f 94) [(.t 4), (.c (.int .i64 1)), (.c (.int .i64 5))], none⟩, ⟨some 6, .mv (.t 5), none⟩, ⟨some 7, .mv (.t 0), some (6, true)⟩, ⟨some 8, .mv (.t 0), some (6, true)⟩, ⟨some 9, .len (.t 8), some (6, true)⟩, ⟨some 10, .call (.f 145) [(.t 7), (.t 9)], some (6, true)⟩, ⟨some 11, .pick (.t 6) (.t 10) (.c (.bool false)), none⟩, ⟨some 12, .mv (.t 11), none⟩, ⟨some 13, .mv (.t 0), some (12, true)⟩, ⟨some 14, .call (.f 146) [(.t 13), (.f 147)], some (12, true)⟩, ⟨some 15, .un .not (.t 14), some (12, true)⟩, ⟨some 16, .pick (.t 12) (.t 15) (.c (.bool false)), none⟩, ⟨some 2, .mv (.t 16), none⟩]) .ret)), 17, [(.t 2)]⟩
theorem k_impl_IsMatrix : compF Tryz.prog Tryz.f125 = some c_impl_IsMatrix := by kernel_rfl
def c_impl_isSquare : F := ⟨(.seq (.reg false [⟨some 3, .box 3 (.t 1), none⟩, ⟨some 4, .mv (.c (.bool false)), none⟩]) (.seq (.reg false [⟨some 5, .mv (.t 0), none⟩, ⟨some 6, .len (.t 5), none⟩, ⟨some 7, .ld1 (.t 3), none⟩, ⟨some 8, .bin .eql (.t 6) (.t 7), none⟩, ⟨some 9, .mv (.t 8), none⟩, ⟨some 10, .mv (.t 0), some (9, true)⟩, ⟨some 11, .mkf 154 [(.t 3)], some (9, true)⟩, ⟨some 12, .call (.f 146) [(.t 10), (.t 11)], some (9, true)⟩, ⟨some 13, .un .not (.t 12), some (9, true)⟩, ⟨some 14, .pick (.t 9) (.t 13) (.c (.bool false)), none⟩, ⟨some 4, .mv (.t 14), none⟩]) .ret)), 15, [(.t 4)]⟩
theorem k_impl_isSquare : compF Tryz.prog Tryz.f145 = some c_impl_isSquare := by kernel_rfl
def c_impl_isSquare_1 : F := ⟨(.seq (.reg false [⟨some 3, .mv (.c (.bool false)), none⟩]) (.seq (.reg false [⟨some 4, .mv (.t 0), none⟩, ⟨some 5, .len (.t 4), none⟩, ⟨some 6, .ld1 (.t 1), none⟩, ⟨some 7, .bin .neq (.t 5) (.t 6), none⟩, ⟨some 3, .mv (.t 7), none⟩]) .ret)), 8, [(.t 3)]⟩
theorem k_impl_isSquare_1 : compF Tryz.prog Tryz.f154 = some c_impl_isSquare_1 := by kernel_rfl
def c_impl_IsMatrix_1 : F := ⟨(.seq (.reg false [⟨some 2, .mv (.c (.bool false)), none⟩]) (.seq (.reg false [⟨some 3, .mv (.t 0), none⟩, ⟨some 4, .call (.f 126) [(.t 3), (.c (.int .i64 20))], none⟩, ⟨some 5, .un .not (.t 4), none⟩, ⟨some 2, .mv (.t 5), none⟩]) .ret)), 6, [(.t 2)]⟩
theorem k_impl_IsMatrix_1 : compF Tryz.prog Tryz.f147 = some c_impl_IsMatrix_1 := by kernel_rfl
def c_impl_allUpTo : F := ⟨(.seq (.reg false [⟨some 3, .box 2 (.t 1), none⟩, ⟨some 4, .mv (.c (.bool false)), none⟩]) (.seq (.reg false [⟨some 5, .mv (.t 0), none⟩, ⟨some 6, .mkf 148 [(.t 3)], none⟩, ⟨some 7, .call (.f 107) [(.t 5), (.t 6)], none⟩, ⟨some 8, .un .not (.t 7), none⟩, ⟨some 4, .mv (.t 8), none⟩]) .ret)), 9, [(.t 4)]⟩
theorem k_impl_allUpTo : compF Tryz.prog Tryz.f126 = some c_impl_allUpTo := by kernel_rfl
def c_impl_allUpTo_1 : F := ⟨(.seq (.reg false [⟨some 3, .mv (.c (.bool false)), none⟩]) (.seq (.reg false [⟨some 4, .mv (.t 0), none⟩, ⟨some 5, .ld1 (.t 1), none⟩, ⟨some 6, .call (.f 56) [(.t 4), (.t 5)], none⟩, ⟨some 7, .un .not (.t 6), none⟩, ⟨some 3, .mv (.t 7), none⟩]) .ret)), 8, [(.t 3)]⟩
theorem k_impl_allUpTo_1 : compF Tryz.prog Tryz.f148 = some c_impl_allUpTo_1 := by kernel_rfl

def within (m : Int) (l : List Int) : Bool := l.all fun x => decide (-m ≤ x ∧ x ≤ m)
def isMat (ll : List (List Int)) : Bool := decide (1 ≤ ll.length ∧ ll.length ≤ 5) && ll.all fun l => decide (l.length = ll.length) && within 20 l
theorem any_range {α : Type} (l : List α) (d : α) (p : α → Bool) : ((List.range l.length).any fun k => p (l.getD k d)) = l.any p := by
  rw [Bool.eq_iff_iff]
  simp only [List.any_eq_true, List.mem_range]
  constructor
  · rintro ⟨k, hk, h⟩
    exact ⟨_, getD_mem hk, h⟩
  · rintro ⟨x, hx, h⟩
    obtain ⟨k, hk, rfl⟩ := List.mem_iff_getElem.1 hx
    exact ⟨k, hk, by simpa [List.getD, hk] using h⟩
theorem impl_allUpTo1 (a c : Int) (hc : in64 (-c)) {h : AH} {i n : Nat} {op : Nat} {wr : Bool} {ty : Nat} (hb : h i = some ⟨ty, [.int .i64 c], wr, op⟩) :
    Q Tryz.prog 148 [.int .i64 a, .ptr i 0] h n (.bool (!decide (-c ≤ a ∧ a ≤ c))) := by
  refine q_intro Tryz.func148 k_impl_allUpTo_1 ?_
  simp (maxSteps := 2000000) -implicitDefEqProofs (disch := omega) only [c_impl_allUpTo_1, hb, xsW, xsC, xsD, xsE, fillA, reduceCtorEq, Nat.reduceAdd, Nat.reduceSub, Nat.reduceLeDiff, Nat.reduceMul, Int.reduceLT, Int.reduceLE, Int.reduceEq, Int.reduceNe, Int.reduceAdd, Int.reduceSub, Int.reduceMul, Int.reduceNeg, Int.reduceToNat]
  refine q_use (impl_upTo _ _ hc _ _) fun n1 hn1 => ?_
  simp (maxSteps := 2000000) -implicitDefEqProofs (disch := omega) only [xsW, xsC, xsD, xsE, fillA, reduceCtorEq, Nat.reduceAdd, Nat.reduceSub, Nat.reduceLeDiff, Nat.reduceMul, Int.reduceLT, Int.reduceLE, Int.reduceEq, Int.reduceNe, Int.reduceAdd, Int.reduceSub, Int.reduceMul, Int.reduceNeg, Int.reduceToNat]
theorem impl_allUpTo {w : Bool} {lo hi : Nat} {h : AH} {v : AV} {l : List Int} (s : Ints w lo hi h v l) (hl : l.length ≤ 4611686018427387904) (c : Int) (hc : in64 (-c)) (n : Nat) (hn : hi ≤ n) :
    Q Tryz.prog 126 [v, .int .i64 c] h n (.bool (within c l)) := by
  refine q_intro Tryz.func126 k_impl_allUpTo ?_
  have hs := s.slen
  simp (maxSteps := 2000000) -implicitDefEqProofs (disch := omega) only [c_impl_allUpTo, xsW, xsC, xsD, xsE, fillA, reduceCtorEq, Nat.reduceAdd, Nat.reduceSub, Nat.reduceLeDiff, Nat.reduceMul, Int.reduceLT, Int.reduceLE, Int.reduceEq, Int.reduceNe, Int.reduceAdd, Int.reduceSub, Int.reduceMul, Int.reduceNeg, Int.reduceToNat]
  refine q_use (has_ints (Ints.keep s fun i _ hi' => by rw [upd_other (by omega)]) (by omega) _ _ (fun k => !decide (-c ≤ l.getD k 0 ∧ l.getD k 0 ≤ c)) _ fun k n' hk _ => ?_) fun n1 hn1 => ?_
  · rw [ints_getD l k (by omega)]
    exact impl_allUpTo1 _ _ hc (upd_same _ _ _)
  · rw [hs, any_range l 0 (fun x => !decide (-c ≤ x ∧ x ≤ c))]
    simp (maxSteps := 2000000) -implicitDefEqProofs (disch := omega) only [xsW, xsC, xsD, xsE, fillA, reduceCtorEq, Nat.reduceAdd, Nat.reduceSub, Nat.reduceLeDiff, Nat.reduceMul, Int.reduceLT, Int.reduceLE, Int.reduceEq, Int.reduceNe, Int.reduceAdd, Int.reduceSub, Int.reduceMul, Int.reduceNeg, Int.reduceToNat]
    rw [within, Bool.eq_iff_iff]; simp
theorem impl_isSquare1 {w : Bool} {lo hi : Nat} {h : AH} {v : AV} {l : List Int} (s : Ints w lo hi h v l) (c : Int) {i n : Nat} {op : Nat} {wr : Bool} {ty : Nat} (hb : h i = some ⟨ty, [.int .i64 c], wr, op⟩) :
    Q Tryz.prog 154 [v, .ptr i 0] h n (.bool (decide (¬ (l.length : Int) = c))) := by
  refine q_intro Tryz.func154 k_impl_isSquare_1 ?_
  simp (maxSteps := 2000000) -implicitDefEqProofs (disch := omega) only [c_impl_isSquare_1, hb, s.ln, xsW, xsC, xsD, xsE, fillA, reduceCtorEq, Nat.reduceAdd, Nat.reduceSub, Nat.reduceLeDiff, Nat.reduceMul, Int.reduceLT, Int.reduceLE, Int.reduceEq, Int.reduceNe, Int.reduceAdd, Int.reduceSub, Int.reduceMul, Int.reduceNeg, Int.reduceToNat]
theorem impl_isSquare {w : Bool} {lo hi : Nat} {h : AH} {v : AV} {vs : List AV} {ll : List (List Int)} (s : Rows w lo hi h v vs ll) (hl : ll.length ≤ 4611686018427387904) (c : Int) (n : Nat) (hn : hi ≤ n) :
    Q Tryz.prog 145 [v, .int .i64 c] h n (.bool (decide ((ll.length : Int) = c) && ll.all fun l => decide ((l.length : Int) = c))) := by
  refine q_intro Tryz.func145 k_impl_isSquare ?_
  have hs := s.slen
  simp (maxSteps := 2000000) -implicitDefEqProofs (disch := omega) only [c_impl_isSquare, s.ln, xsW, xsC, xsD, xsE, fillA, reduceCtorEq, Nat.reduceAdd, Nat.reduceSub, Nat.reduceLeDiff, Nat.reduceMul, Int.reduceLT, Int.reduceLE, Int.reduceEq, Int.reduceNe, Int.reduceAdd, Int.reduceSub, Int.reduceMul, Int.reduceNeg, Int.reduceToNat]
  (refine gd_dec (fun hc => ?_) (fun hc => ?_) <;> simp (maxSteps := 2000000) -implicitDefEqProofs (disch := omega) only [xsW, xsC, xsD, xsE, fillA, reduceCtorEq, Nat.reduceAdd, Nat.reduceSub, Nat.reduceLeDiff, Nat.reduceMul, Int.reduceLT, Int.reduceLE, Int.reduceEq, Int.reduceNe, Int.reduceAdd, Int.reduceSub, Int.reduceMul, Int.reduceNeg, Int.reduceToNat,  hc])
  have s' := s.keep (h' := upd h n (some ⟨3, [.int .i64 c], true, 0⟩)) fun i _ hi' => by rw [upd_other (by omega)]
  refine q_use (has_rows s'.out (by omega) _ _ (fun k => decide (¬ ((ll.getD k []).length : Int) = c)) _ fun k n' hk _ => impl_isSquare1 (s'.row k (by omega)) c (upd_same _ _ _)) fun n1 hn1 => ?_
  rw [hs, any_range ll [] (fun x => decide (¬ (x.length : Int) = c))]
  simp (maxSteps := 2000000) -implicitDefEqProofs (disch := omega) only [xsW, xsC, xsD, xsE, fillA, reduceCtorEq, Nat.reduceAdd, Nat.reduceSub, Nat.reduceLeDiff, Nat.reduceMul, Int.reduceLT, Int.reduceLE, Int.reduceEq, Int.reduceNe, Int.reduceAdd, Int.reduceSub, Int.reduceMul, Int.reduceNeg, Int.reduceToNat]
  rw [Bool.eq_iff_iff]; simp
theorem impl_IsMatrix1 {w : Bool} {lo hi : Nat} {h : AH} {v : AV} {l : List Int} (s : Ints w lo hi h v l) (hl : l.length ≤ 4611686018427387904) (n : Nat) (hn : hi ≤ n) :
    Q Tryz.prog 147 [v] h n (.bool (!within 20 l)) := by
  refine q_intro Tryz.func147 k_impl_IsMatrix_1 ?_
  simp (maxSteps := 2000000) -implicitDefEqProofs (disch := omega) only [c_impl_IsMatrix_1, xsW, xsC, xsD, xsE, fillA, reduceCtorEq, Nat.reduceAdd, Nat.reduceSub, Nat.reduceLeDiff, Nat.reduceMul, Int.reduceLT, Int.reduceLE, Int.reduceEq, Int.reduceNe, Int.reduceAdd, Int.reduceSub, Int.reduceMul, Int.reduceNeg, Int.reduceToNat]
  refine q_use (impl_allUpTo s hl _ (by unfold in64; omega) _ hn) fun n1 hn1 => ?_
  simp (maxSteps := 2000000) -implicitDefEqProofs (disch := omega) only [xsW, xsC, xsD, xsE, fillA, reduceCtorEq, Nat.reduceAdd, Nat.reduceSub, Nat.reduceLeDiff, Nat.reduceMul, Int.reduceLT, Int.reduceLE, Int.reduceEq, Int.reduceNe, Int.reduceAdd, Int.reduceSub, Int.reduceMul, Int.reduceNeg, Int.reduceToNat]
theorem impl_IsMatrix {w : Bool} {lo hi : Nat} {h : AH} {v : AV} {vs : List AV} {ll : List (List Int)} (s : Rows w lo hi h v vs ll) (hl : ll.length ≤ 1048576) (hll : ∀ l ∈ ll, l.length ≤ 1048576) (n : Nat) (hn : hi ≤ n) :
    Q Tryz.prog 125 [v] h n (.bool (isMat ll)) := by
  refine q_intro Tryz.func125 k_impl_IsMatrix ?_
  have hs := s.slen
  simp (maxSteps := 2000000) -implicitDefEqProofs (disch := omega) only [c_impl_IsMatrix, s.ln, xsW, xsC, xsD, xsE, fillA, reduceCtorEq, Nat.reduceAdd, Nat.reduceSub, Nat.reduceLeDiff, Nat.reduceMul, Int.reduceLT, Int.reduceLE, Int.reduceEq, Int.reduceNe, Int.reduceAdd, Int.reduceSub, Int.reduceMul, Int.reduceNeg, Int.reduceToNat]
  refine q_use (impl_within _ _ _ _ _) fun n1 hn1 => ?_
  simp (maxSteps := 2000000) -implicitDefEqProofs (disch := omega) only [xsW, xsC, xsD, xsE, fillA, reduceCtorEq, Nat.reduceAdd, Nat.reduceSub, Nat.reduceLeDiff, Nat.reduceMul, Int.reduceLT, Int.reduceLE, Int.reduceEq, Int.reduceNe, Int.reduceAdd, Int.reduceSub, Int.reduceMul, Int.reduceNeg, Int.reduceToNat]
  (refine gd_dec (fun h1 => ?_) (fun h1 => ?_) <;> simp (maxSteps := 2000000) -implicitDefEqProofs (disch := omega) only [xsW, xsC, xsD, xsE, fillA, reduceCtorEq, Nat.reduceAdd, Nat.reduceSub, Nat.reduceLeDiff, Nat.reduceMul, Int.reduceLT, Int.reduceLE, Int.reduceEq, Int.reduceNe, Int.reduceAdd, Int.reduceSub, Int.reduceMul, Int.reduceNeg, Int.reduceToNat,  h1])
  · simp (maxSteps := 2000000) -implicitDefEqProofs (disch := omega) only [xsW, xsC, xsD, xsE, fillA, reduceCtorEq, Nat.reduceAdd, Nat.reduceSub, Nat.reduceLeDiff, Nat.reduceMul, Int.reduceLT, Int.reduceLE, Int.reduceEq, Int.reduceNe, Int.reduceAdd, Int.reduceSub, Int.reduceMul, Int.reduceNeg, Int.reduceToNat,  s.ln]
    refine q_use (impl_isSquare s (by omega) _ _ (by omega)) fun n2 hn2 => ?_
    cases hq : (ll.all fun l => decide ((l.length : Int) = ll.length))
    · simp (maxSteps := 2000000) -implicitDefEqProofs (disch := omega) only [xsW, xsC, xsD, xsE, fillA, reduceCtorEq, Nat.reduceAdd, Nat.reduceSub, Nat.reduceLeDiff, Nat.reduceMul, Int.reduceLT, Int.reduceLE, Int.reduceEq, Int.reduceNe, Int.reduceAdd, Int.reduceSub, Int.reduceMul, Int.reduceNeg, Int.reduceToNat]
      rw [Bool.eq_iff_iff]
      simp only [Bool.false_eq_true, false_iff, isMat, Bool.and_eq_true, not_and, List.all_eq_true]
      intro _ hx
      rw [List.all_eq_false] at hq
      obtain ⟨l, hm, hh⟩ := hq
      have := (hx l hm).1
      simp at this hh
      omega
    · simp (maxSteps := 2000000) -implicitDefEqProofs (disch := omega) only [xsW, xsC, xsD, xsE, fillA, reduceCtorEq, Nat.reduceAdd, Nat.reduceSub, Nat.reduceLeDiff, Nat.reduceMul, Int.reduceLT, Int.reduceLE, Int.reduceEq, Int.reduceNe, Int.reduceAdd, Int.reduceSub, Int.reduceMul, Int.reduceNeg, Int.reduceToNat]
      refine q_use (has_rows s.out (by omega) _ _ (fun k => !within 20 (ll.getD k [])) _ fun k n' hk _ => impl_IsMatrix1 (s.row k (by omega)) (by have := hll _ (getD_mem (d := []) (show k < ll.length by omega)); omega) _ (by omega)) fun n3 hn3 => ?_
      rw [hs, any_range ll [] (fun x => !within 20 x)]
      simp (maxSteps := 2000000) -implicitDefEqProofs (disch := omega) only [xsW, xsC, xsD, xsE, fillA, reduceCtorEq, Nat.reduceAdd, Nat.reduceSub, Nat.reduceLeDiff, Nat.reduceMul, Int.reduceLT, Int.reduceLE, Int.reduceEq, Int.reduceNe, Int.reduceAdd, Int.reduceSub, Int.reduceMul, Int.reduceNeg, Int.reduceToNat]
      rw [Bool.eq_iff_iff]
      rw [List.all_eq_true] at hq
      simp only [isMat, Bool.and_eq_true, List.all_eq_true, Bool.not_eq_true', List.any_eq_false, decide_eq_true_eq]
      constructor
      · intro hx
        exact ⟨by omega, fun l hm => ⟨by have := hq l hm; simp at this; omega, by simpa using hx l hm⟩⟩
      · intro hx l hm
        simpa using (hx.2 l hm).2
  · rw [Bool.eq_iff_iff]; simp only [isMat, Bool.false_eq_true, false_iff, Bool.and_eq_true, decide_eq_true_eq, not_and]; intro hx; omega
theorem within_iff (m : Int) (l : List Int) : within m l = true ↔ ∀ j, j < l.length → -m ≤ l.getD j 0 ∧ l.getD j 0 ≤ m := by
  simp only [within, List.all_eq_true, decide_eq_true_eq]
  constructor
  · intro h j hj
    exact h _ (getD_mem hj)
  · intro h x hx
    obtain ⟨k, hk, rfl⟩ := List.mem_iff_getElem.1 hx
    have := h k hk
    simpa [List.getD, hk] using this
theorem isMat_iff (ll : List (List Int)) : isMat ll = true ↔ 1 ≤ ll.length ∧ ll.length ≤ 5 ∧ ∀ k, k < ll.length → (ll.getD k []).length = ll.length ∧ within 20 (ll.getD k []) = true := by
  simp only [isMat, Bool.and_eq_true, decide_eq_true_eq, List.all_eq_true, and_assoc]
  constructor
  · rintro ⟨h1, h2, h⟩
    exact ⟨h1, h2, fun k hk => h _ (getD_mem hk)⟩
  · rintro ⟨h1, h2, h⟩
    refine ⟨h1, h2, fun x hx => ?_⟩
    obtain ⟨k, hk, rfl⟩ := List.mem_iff_getElem.1 hx
    have := h k hk
    simpa [List.getD, hk] using this
theorem isMat_f {ll : List (List Int)} (h : ¬ (1 ≤ ll.length ∧ ll.length ≤ 5 ∧ ∀ k, k < ll.length → (ll.getD k []).length = ll.length ∧ within 20 (ll.getD k []) = true)) : false = isMat ll := by
  cases hm : isMat ll
  · rfl
  · exact absurd ((isMat_iff ll).1 hm) h
theorem spec_l01Matrix {w : Bool} {lo hi : Nat} {h : AH} {v : AV} {vs : List AV} {ll : List (List Int)} (s : Rows w lo hi h v vs ll) (hl : ll.length ≤ 1048576) (n : Nat) :
    Q Tryz.prog 70 [v] h n (.bool (isMat ll)) := by
  refine q_intro Tryz.func70 k_spec_l01Matrix ?_
  simp (maxSteps := 2000000) -implicitDefEqProofs (disch := omega) only [c_spec_l01Matrix, s.ln, xsW, xsC, xsD, xsE, fillA, reduceCtorEq, Nat.reduceAdd, Nat.reduceSub, Nat.reduceLeDiff, Nat.reduceMul, Int.reduceLT, Int.reduceLE, Int.reduceEq, Int.reduceNe, Int.reduceAdd, Int.reduceSub, Int.reduceMul, Int.reduceNeg, Int.reduceToNat]
  (refine gd_dec (fun h1 => ?_) (fun h1 => ?_) <;> simp (maxSteps := 2000000) -implicitDefEqProofs (disch := omega) only [xsW, xsC, xsD, xsE, fillA, reduceCtorEq, Nat.reduceAdd, Nat.reduceSub, Nat.reduceLeDiff, Nat.reduceMul, Int.reduceLT, Int.reduceLE, Int.reduceEq, Int.reduceNe, Int.reduceAdd, Int.reduceSub, Int.reduceMul, Int.reduceNeg, Int.reduceToNat,  h1])
  · exact isMat_f fun hx => by omega
  (refine cd_dec (fun h2 => ?_) (fun h2 => ?_) <;> simp (maxSteps := 2000000) -implicitDefEqProofs (disch := omega) only [xsW, xsC, xsD, xsE, fillA, reduceCtorEq, Nat.reduceAdd, Nat.reduceSub, Nat.reduceLeDiff, Nat.reduceMul, Int.reduceLT, Int.reduceLE, Int.reduceEq, Int.reduceNe, Int.reduceAdd, Int.reduceSub, Int.reduceMul, Int.reduceNeg, Int.reduceToNat,  h2])
  · exact isMat_f fun hx => by omega
  refine loop_for ll.length 0 (fun k (_ : Unit) => [v, .any, .bool false, .int .i64 ll.length, .int .i64 k, .any, .any, .any, .any, .any, .any, .any, .any, .any, .any, .any, .any, .any, .any, .any, .any, .any, .any, .any, .any, .any, .any, .any, .any, .any, .any, .any, .any, .any, .any, .any, .any, .any, .any, .any]) (fun k _ => h)
    (fun k _ _ => ∀ j, j < k → (ll.getD j []).length = ll.length ∧ within 20 (ll.getD j []) = true) () (Nat.zero_le _) (fun j hj => absurd hj (Nat.not_lt_zero _)) (by simp [LeL, Le1]) (fun _ _ h => h) ?_
  rintro k - n1 - hk hn1 he
  simp (maxSteps := 2000000) -implicitDefEqProofs (disch := omega) only [xsW, xsC, xsD, xsE, fillA, reduceCtorEq, Nat.reduceAdd, Nat.reduceSub, Nat.reduceLeDiff, Nat.reduceMul, Int.reduceLT, Int.reduceLE, Int.reduceEq, Int.reduceNe, Int.reduceAdd, Int.reduceSub, Int.reduceMul, Int.reduceNeg, Int.reduceToNat,  s.ln]
  (refine cd_dec (fun h3 => ?_) (fun h3 => ?_) <;> simp (maxSteps := 2000000) -implicitDefEqProofs (disch := omega) only [xsW, xsC, xsD, xsE, fillA, reduceCtorEq, Nat.reduceAdd, Nat.reduceSub, Nat.reduceLeDiff, Nat.reduceMul, Int.reduceLT, Int.reduceLE, Int.reduceEq, Int.reduceNe, Int.reduceAdd, Int.reduceSub, Int.reduceMul, Int.reduceNeg, Int.reduceToNat,  h3])
  · have hk' : k < ll.length := by omega
    have hr := s.row k hk'
    simp (maxSteps := 2000000) -implicitDefEqProofs (disch := omega) only [xsW, xsC, xsD, xsE, fillA, reduceCtorEq, Nat.reduceAdd, Nat.reduceSub, Nat.reduceLeDiff, Nat.reduceMul, Int.reduceLT, Int.reduceLE, Int.reduceEq, Int.reduceNe, Int.reduceAdd, Int.reduceSub, Int.reduceMul, Int.reduceNeg, Int.reduceToNat,  s.ia, s.ld, hr.ln]
    (refine cd_dec (fun h4 => ?_) (fun h4 => ?_) <;> simp (maxSteps := 2000000) -implicitDefEqProofs (disch := omega) only [xsW, xsC, xsD, xsE, fillA, reduceCtorEq, Nat.reduceAdd, Nat.reduceSub, Nat.reduceLeDiff, Nat.reduceMul, Int.reduceLT, Int.reduceLE, Int.reduceEq, Int.reduceNe, Int.reduceAdd, Int.reduceSub, Int.reduceMul, Int.reduceNeg, Int.reduceToNat,  h4])
    · exact isMat_f fun hx => by have := hx.2.2 k hk'; omega
    · refine loop_for ll.length 0 (fun j (_ : Unit) => [v, .any, .bool false, .int .i64 ll.length, .int .i64 k, .int .i64 j, .any, .any, .any, .any, .any, .any, .any, .any, .any, .any, .any, .any, .any, .any, .any, .any, .any, .any, .any, .any, .any, .any, .any, .any, .any, .any, .any, .any, .any, .any, .any, .any, .any, .any]) (fun k _ => h)
        (fun j _ _ => ∀ i, i < j → -20 ≤ (ll.getD k []).getD i 0 ∧ (ll.getD k []).getD i 0 ≤ 20) () (Nat.zero_le _) (fun j hj => absurd hj (Nat.not_lt_zero _)) (by simp [LeL, Le1]) (fun _ _ h => h) ?_
      rintro j - n2 - hj hn2 hi
      simp (maxSteps := 2000000) -implicitDefEqProofs (disch := omega) only [xsW, xsC, xsD, xsE, fillA, reduceCtorEq, Nat.reduceAdd, Nat.reduceSub, Nat.reduceLeDiff, Nat.reduceMul, Int.reduceLT, Int.reduceLE, Int.reduceEq, Int.reduceNe, Int.reduceAdd, Int.reduceSub, Int.reduceMul, Int.reduceNeg, Int.reduceToNat]
      (refine cd_dec (fun h5 => ?_) (fun h5 => ?_) <;> simp (maxSteps := 2000000) -implicitDefEqProofs (disch := omega) only [xsW, xsC, xsD, xsE, fillA, reduceCtorEq, Nat.reduceAdd, Nat.reduceSub, Nat.reduceLeDiff, Nat.reduceMul, Int.reduceLT, Int.reduceLE, Int.reduceEq, Int.reduceNe, Int.reduceAdd, Int.reduceSub, Int.reduceMul, Int.reduceNeg, Int.reduceToNat,  h5])
      · simp (maxSteps := 2000000) -implicitDefEqProofs (disch := omega) only [xsW, xsC, xsD, xsE, fillA, reduceCtorEq, Nat.reduceAdd, Nat.reduceSub, Nat.reduceLeDiff, Nat.reduceMul, Int.reduceLT, Int.reduceLE, Int.reduceEq, Int.reduceNe, Int.reduceAdd, Int.reduceSub, Int.reduceMul, Int.reduceNeg, Int.reduceToNat,  s.ia, s.ld, hr.ia, hr.ld]
        refine q_use (spec_l01In _ _ _ _ _) fun n3 hn3 => ?_
        simp (maxSteps := 2000000) -implicitDefEqProofs (disch := omega) only [xsW, xsC, xsD, xsE, fillA, reduceCtorEq, Nat.reduceAdd, Nat.reduceSub, Nat.reduceLeDiff, Nat.reduceMul, Int.reduceLT, Int.reduceLE, Int.reduceEq, Int.reduceNe, Int.reduceAdd, Int.reduceSub, Int.reduceMul, Int.reduceNeg, Int.reduceToNat]
        (refine cd_dec (fun h6 => ?_) (fun h6 => ?_) <;> simp (maxSteps := 2000000) -implicitDefEqProofs (disch := omega) only [xsW, xsC, xsD, xsE, fillA, reduceCtorEq, Nat.reduceAdd, Nat.reduceSub, Nat.reduceLeDiff, Nat.reduceMul, Int.reduceLT, Int.reduceLE, Int.reduceEq, Int.reduceNe, Int.reduceAdd, Int.reduceSub, Int.reduceMul, Int.reduceNeg, Int.reduceToNat,  h6])
        · refine isMat_f fun hx => ?_
          have hw := (hx.2.2 k hk').2
          rw [within_iff] at hw
          have := hw j (by omega)
          omega
        · exact ⟨(), fun i hi' => (Nat.lt_succ_iff_lt_or_eq.1 hi').elim (hi i) (fun e => by rw [e]; omega), by omega, by omega, (by simp [LeL, Le1])⟩
      · refine ⟨(), fun i hi' => (Nat.lt_succ_iff_lt_or_eq.1 hi').elim (he i) (fun e => ?_), by omega, by omega, (by simp [LeL, Le1])⟩
        rw [e, within_iff]
        exact ⟨by omega, fun i hi' => hi i (by omega)⟩
  · symm; rw [isMat_iff]
    exact ⟨by omega, by omega, fun j hj => he j (by omega)⟩


def c_spec_l01Is : F := ⟨(.seq (.reg false [⟨some 1, .box 30 (.t 0), none⟩, ⟨some 2, .mv (.c (.bool false)), none⟩]) (.seq (.seq (.reg false [⟨some 4, .fa 0 (.t 1), none⟩, ⟨some 5, .ld1 (.t 4), none⟩, ⟨some 6, .call (.f 70) [(.t 5)], none⟩, ⟨some 7, .un .not (.t 6), none⟩, ⟨some 8, .mv (.t 7), none⟩, ⟨some 9, .fa 1 (.t 1), some (8, false)⟩, ⟨some 10, .ld1 (.t 9), some (8, false)⟩, ⟨some 11, .len (.t 10), some (8, false)⟩, ⟨some 12, .fa 0 (.t 1), some (8, false)⟩, ⟨some 13, .ld1 (.t 12), some (8, false)⟩, ⟨some 14, .len (.t 13), some (8, false)⟩, ⟨some 15, .bin .neq (.t 11) (.t 14), some (8, false)⟩, ⟨some 16, .pick (.t 8) (.c (.bool true)) (.t 15), none⟩]) (.cond (.t 16) (.seq (.reg false [⟨some 2, .mv (.c (.bool false)), none⟩]) .ret) .skip)) (.seq (.seq (.reg false [⟨some 3, .mv (.c (.int .i64 0)), none⟩]) (.block 0 (.loop (.seq (.seq (.reg false [⟨some 17, .mv (.t 3), none⟩, ⟨some 18, .fa 1 (.t 1), none⟩, ⟨some 19, .ld1 (.t 18), none⟩, ⟨some 20, .len (.t 19), none⟩, ⟨some 21, .bin .lss (.t 17) (.t 20), none⟩]) (.cond (.t 21) .skip (.exit 0))) (.seq (.block 1 (.seq (.reg false [⟨some 24, .fa 1 (.t 1), none⟩, ⟨some 25, .ld1 (.t 24), none⟩, ⟨some 26, .mv (.t 3), none⟩, ⟨some 27, .ia 1 (.t 25) (.t 26), none⟩, ⟨some 28, .ld1 (.t 27), none⟩, ⟨some 29, .call (.f 62) [(.t 28), (.c (.int .i64 (-100))), (.c (.int .i64 100))], none⟩, ⟨some 30, .un .not (.t 29), none⟩]) (.cond (.t 30) (.seq (.reg false [⟨some 2, .mv (.c (.bool false)), none⟩]) .ret) .skip))) (.reg false [⟨some 22, .mv (.t 3), none⟩, ⟨some 23, .bin .add (.t 22) (.c (.int .i64 1)), none⟩, ⟨some 3, .mv (.t 23), none⟩])))))) (.seq (.reg false [⟨some 2, .mv (.c (.bool true)), none⟩]) .ret)))), 31, [(.t 2)]⟩
theorem k_spec_l01Is : compF Tryz.prog Tryz.f30 = some c_spec_l01Is := by kernel_rfl
def c_impl_IsProblem : F := ⟨(.seq (.reg false [⟨some 1, .box 30 (.t 0), none⟩, ⟨some 2, .mv (.c (.bool false)), none⟩]) (.seq (.reg false [⟨some 3, .fa 0 (.t 1), none⟩, ⟨some 4, .ld1 (.t 3), none⟩, ⟨some 5, .call (.f 125) [(.t 4)], none⟩, ⟨some 6, .mv (.t 5), none⟩, ⟨some 7, .fa 1 (.t 1), some (6, true)⟩, ⟨some 8, .ld1 (.t 7), some (6, true)⟩, ⟨some 9, .len (.t 8), some (6, true)⟩, ⟨some 10, .fa 0 (.t 1), some (6, true)⟩, ⟨some 11, .ld1 (.t 10), some (6, true)⟩, ⟨some 12, .len (.t 11), some (6, true)⟩, ⟨some 13, .bin .eql (.t 9) (.t 12), some (6, true)⟩, ⟨some 14, .pick (.t 6) (.t 13) (.c (.bool false)), none⟩, ⟨some 15, .mv (.t 14), none⟩, ⟨some 16, .fa 1 (.t 1), some (15, true)⟩, ⟨some 17, .ld1 (.t 16), some (15, true)⟩, ⟨some 18, .call (.f 126) [(.t 17), (.c (.int .i64 100))], some (15, true)⟩, ⟨some 19, .pick (.t 15) (.t 18) (.c (.bool false)), none⟩, ⟨some 2, .mv (.t 19), none⟩]) .ret)), 20, [(.t 2)]⟩
theorem k_impl_IsProblem : compF Tryz.prog Tryz.f91 = some c_impl_IsProblem := by kernel_rfl

structure Prob (w : Bool) (lo hi : Nat) (h : AH) (v u : AV) (vs : List AV) (ll : List (List Int)) (l : List Int) : Prop where
  M : Rows w lo hi h v vs ll
  Q : Ints w lo hi h u l
  apart : w = true → isSl u = true → (isSl v = true → bid u ≠ bid v) ∧ ∀ k, k < ll.length → isSl (vs.getD k .any) = true → bid (vs.getD k .any) ≠ bid u
theorem Prob.keep {w : Bool} {lo hi : Nat} {h h' : AH} {v u : AV} {vs : List AV} {ll : List (List Int)} {l : List Int} (s : Prob w lo hi h v u vs ll l) (k : ∀ i, lo ≤ i → i < hi → h' i = h i) : Prob w lo hi h' v u vs ll l := ⟨s.M.keep k, s.Q.keep k, s.apart⟩
theorem Prob.wide {w : Bool} {lo hi lo' hi' : Nat} {h : AH} {v u : AV} {vs : List AV} {ll : List (List Int)} {l : List Int} (s : Prob w lo hi h v u vs ll l) (h1 : lo' ≤ lo) (h2 : hi ≤ hi') : Prob w lo' hi' h v u vs ll l := ⟨s.M.wide h1 h2, s.Q.wide h1 h2, s.apart⟩
theorem Prob.of_args {lo hi : Nat} {h : AH} {v u : AV} {vs : List AV} {ll : List (List Int)} {l : List Int} (s : Rows false lo hi h v vs ll) (q : Ints false lo hi h u l) : Prob false lo hi h v u vs ll l := ⟨s, q, fun h => (by cases h)⟩
def isProb (ll : List (List Int)) (l : List Int) : Bool := isMat ll && decide (l.length = ll.length) && within 100 l

section
variable {w : Bool} {lo hi : Nat} {h : AH} {v u : AV} {vs : List AV} {ll : List (List Int)} {l : List Int}
theorem impl_IsProblem (s : Prob w lo hi h v u vs ll l) (hl : ll.length ≤ 1048576) (hll : ∀ l ∈ ll, l.length ≤ 1048576) (hq : l.length ≤ 1048576) (n : Nat) (hn : hi ≤ n) :
    Q Tryz.prog 91 [.agg [v, u]] h n (.bool (isProb ll l)) := by
  refine q_intro Tryz.func91 k_impl_IsProblem ?_
  have o1 := one_any (Sl.any s.M.out)
  have o2 := one_any (Sl.any s.Q)
  simp (maxSteps := 2000000) -implicitDefEqProofs (disch := omega) only [c_impl_IsProblem, o1, o2, xsW, xsC, xsD, xsE, fillA, reduceCtorEq, Nat.reduceAdd, Nat.reduceSub, Nat.reduceLeDiff, Nat.reduceMul, Int.reduceLT, Int.reduceLE, Int.reduceEq, Int.reduceNe, Int.reduceAdd, Int.reduceSub, Int.reduceMul, Int.reduceNeg, Int.reduceToNat]
  refine q_use (impl_IsMatrix (s.M.keep (fun i _ hi9 => by simp (disch := omega) only [upd_other])) hl hll _ (by omega)) fun n1 hn1 => ?_
  simp only [isProb]
  cases hm : isMat ll
  · simp (maxSteps := 2000000) -implicitDefEqProofs (disch := omega) only [xsW, xsC, xsD, xsE, fillA, reduceCtorEq, Nat.reduceAdd, Nat.reduceSub, Nat.reduceLeDiff, Nat.reduceMul, Int.reduceLT, Int.reduceLE, Int.reduceEq, Int.reduceNe, Int.reduceAdd, Int.reduceSub, Int.reduceMul, Int.reduceNeg, Int.reduceToNat]
  simp (maxSteps := 2000000) -implicitDefEqProofs (disch := omega) only [xsW, xsC, xsD, xsE, fillA, reduceCtorEq, Nat.reduceAdd, Nat.reduceSub, Nat.reduceLeDiff, Nat.reduceMul, Int.reduceLT, Int.reduceLE, Int.reduceEq, Int.reduceNe, Int.reduceAdd, Int.reduceSub, Int.reduceMul, Int.reduceNeg, Int.reduceToNat,  s.M.ln, s.Q.ln]
  (refine gd_dec (fun h1 => ?_) (fun h1 => ?_) <;> simp (maxSteps := 2000000) -implicitDefEqProofs (disch := omega) only [xsW, xsC, xsD, xsE, fillA, reduceCtorEq, Nat.reduceAdd, Nat.reduceSub, Nat.reduceLeDiff, Nat.reduceMul, Int.reduceLT, Int.reduceLE, Int.reduceEq, Int.reduceNe, Int.reduceAdd, Int.reduceSub, Int.reduceMul, Int.reduceNeg, Int.reduceToNat,  h1])
  · refine q_use (impl_allUpTo (s.Q.keep (fun i _ hi9 => by simp (disch := omega) only [upd_other])) (by omega) _ (by unfold in64; omega) _ (by omega)) fun n2 hn2 => ?_
    simp (maxSteps := 2000000) -implicitDefEqProofs (disch := omega) only [xsW, xsC, xsD, xsE, fillA, reduceCtorEq, Nat.reduceAdd, Nat.reduceSub, Nat.reduceLeDiff, Nat.reduceMul, Int.reduceLT, Int.reduceLE, Int.reduceEq, Int.reduceNe, Int.reduceAdd, Int.reduceSub, Int.reduceMul, Int.reduceNeg, Int.reduceToNat]
    rw [decide_eq_true (show l.length = ll.length by omega)]
    rfl
  · rw [decide_eq_false (show ¬ l.length = ll.length by omega)]
    rfl
theorem spec_l01Is (s : Prob w lo hi h v u vs ll l) (hl : ll.length ≤ 1048576) (hll : ∀ l ∈ ll, l.length ≤ 1048576) (hq : l.length ≤ 1048576) (n : Nat) (hn : hi ≤ n) :
    Q Tryz.prog 30 [.agg [v, u]] h n (.bool (isProb ll l)) := by
  refine q_intro Tryz.func30 k_spec_l01Is ?_
  have o1 := one_any (Sl.any s.M.out)
  have o2 := one_any (Sl.any s.Q)
  simp (maxSteps := 2000000) -implicitDefEqProofs (disch := omega) only [c_spec_l01Is, o1, o2, xsW, xsC, xsD, xsE, fillA, reduceCtorEq, Nat.reduceAdd, Nat.reduceSub, Nat.reduceLeDiff, Nat.reduceMul, Int.reduceLT, Int.reduceLE, Int.reduceEq, Int.reduceNe, Int.reduceAdd, Int.reduceSub, Int.reduceMul, Int.reduceNeg, Int.reduceToNat]
  refine q_use (spec_l01Matrix (s.M.keep (fun i _ hi9 => by simp (disch := omega) only [upd_other])) hl _) fun n1 hn1 => ?_
  simp only [isProb]
  cases hm : isMat ll
  · simp (maxSteps := 2000000) -implicitDefEqProofs (disch := omega) only [xsW, xsC, xsD, xsE, fillA, reduceCtorEq, Nat.reduceAdd, Nat.reduceSub, Nat.reduceLeDiff, Nat.reduceMul, Int.reduceLT, Int.reduceLE, Int.reduceEq, Int.reduceNe, Int.reduceAdd, Int.reduceSub, Int.reduceMul, Int.reduceNeg, Int.reduceToNat]
  simp (maxSteps := 2000000) -implicitDefEqProofs (disch := omega) only [xsW, xsC, xsD, xsE, fillA, reduceCtorEq, Nat.reduceAdd, Nat.reduceSub, Nat.reduceLeDiff, Nat.reduceMul, Int.reduceLT, Int.reduceLE, Int.reduceEq, Int.reduceNe, Int.reduceAdd, Int.reduceSub, Int.reduceMul, Int.reduceNeg, Int.reduceToNat,  s.M.ln, s.Q.ln]
  (refine cd_dec (fun h1 => ?_) (fun h1 => ?_) <;> simp (maxSteps := 2000000) -implicitDefEqProofs (disch := omega) only [xsW, xsC, xsD, xsE, fillA, reduceCtorEq, Nat.reduceAdd, Nat.reduceSub, Nat.reduceLeDiff, Nat.reduceMul, Int.reduceLT, Int.reduceLE, Int.reduceEq, Int.reduceNe, Int.reduceAdd, Int.reduceSub, Int.reduceMul, Int.reduceNeg, Int.reduceToNat,  h1])
  · rw [decide_eq_false (show ¬ l.length = ll.length by omega)]; rfl
  rw [decide_eq_true (show l.length = ll.length by omega)]
  refine loop_for l.length 0 (fun k (_ : Unit) => [.any, .ptr n 0, .bool false, .int .i64 k, .any, .any, .any, .any, .any, .any, .any, .any, .any, .any, .any, .any, .any, .any, .any, .any, .any, .any, .any, .any, .any, .any, .any, .any, .any, .any, .any]) (fun k _ => upd h n (some ⟨30, [v, u], true, 0⟩))
    (fun j _ _ => ∀ i, i < j → -100 ≤ l.getD i 0 ∧ l.getD i 0 ≤ 100) () (Nat.zero_le _) (fun j hj => absurd hj (Nat.not_lt_zero _)) (by simp [LeL, Le1]) (fun _ _ h => h) ?_
  rintro k - n2 - hk hn2 he
  simp (maxSteps := 2000000) -implicitDefEqProofs (disch := omega) only [xsW, xsC, xsD, xsE, fillA, reduceCtorEq, Nat.reduceAdd, Nat.reduceSub, Nat.reduceLeDiff, Nat.reduceMul, Int.reduceLT, Int.reduceLE, Int.reduceEq, Int.reduceNe, Int.reduceAdd, Int.reduceSub, Int.reduceMul, Int.reduceNeg, Int.reduceToNat,  s.Q.ln]
  (refine cd_dec (fun h2 => ?_) (fun h2 => ?_) <;> simp (maxSteps := 2000000) -implicitDefEqProofs (disch := omega) only [xsW, xsC, xsD, xsE, fillA, reduceCtorEq, Nat.reduceAdd, Nat.reduceSub, Nat.reduceLeDiff, Nat.reduceMul, Int.reduceLT, Int.reduceLE, Int.reduceEq, Int.reduceNe, Int.reduceAdd, Int.reduceSub, Int.reduceMul, Int.reduceNeg, Int.reduceToNat,  h2])
  · have hk' : k < l.length := by omega
    have hb := Sl.below s.Q (by rw [s.Q.slen]; omega)
    simp (maxSteps := 2000000) -implicitDefEqProofs (disch := omega) only [xsW, xsC, xsD, xsE, fillA, reduceCtorEq, Nat.reduceAdd, Nat.reduceSub, Nat.reduceLeDiff, Nat.reduceMul, Int.reduceLT, Int.reduceLE, Int.reduceEq, Int.reduceNe, Int.reduceAdd, Int.reduceSub, Int.reduceMul, Int.reduceNeg, Int.reduceToNat,  s.Q.ia, s.Q.ld]
    refine q_use (spec_l01In _ _ _ _ _) fun n3 hn3 => ?_
    simp (maxSteps := 2000000) -implicitDefEqProofs (disch := omega) only [xsW, xsC, xsD, xsE, fillA, reduceCtorEq, Nat.reduceAdd, Nat.reduceSub, Nat.reduceLeDiff, Nat.reduceMul, Int.reduceLT, Int.reduceLE, Int.reduceEq, Int.reduceNe, Int.reduceAdd, Int.reduceSub, Int.reduceMul, Int.reduceNeg, Int.reduceToNat]
    (refine cd_dec (fun h3 => ?_) (fun h3 => ?_) <;> simp (maxSteps := 2000000) -implicitDefEqProofs (disch := omega) only [xsW, xsC, xsD, xsE, fillA, reduceCtorEq, Nat.reduceAdd, Nat.reduceSub, Nat.reduceLeDiff, Nat.reduceMul, Int.reduceLT, Int.reduceLE, Int.reduceEq, Int.reduceNe, Int.reduceAdd, Int.reduceSub, Int.reduceMul, Int.reduceNeg, Int.reduceToNat,  h3])
    · symm
      rw [Bool.eq_false_iff]
      intro hx
      rw [within_iff] at hx
      have := hx k hk'
      omega
    · exact ⟨(), fun i hi' => (Nat.lt_succ_iff_lt_or_eq.1 hi').elim (he i) (fun e => by rw [e]; omega), by omega, by omega, (by simp [LeL, Le1])⟩
  · symm
    rw [within_iff]
    exact fun i hi' => he i (by omega)
end
def c_impl_sum : F := ⟨(.seq (.reg false [⟨some 4, .mv (.c (.int .i64 0)), none⟩]) (.seq (.reg false [⟨some 5, .mv (.c (.int .i64 0)), none⟩]) (.seq (.seq (.reg false [⟨some 8, .mv (.t 0), none⟩, ⟨some 9, .len (.t 8), none⟩, ⟨some 10, .mv (.c (.int .i64 0)), none⟩]) (.block 0 (.loop (.seq (.reg false [⟨some 11, .bin .lss (.t 10) (.t 9), none⟩]) (.seq (.cond (.t 11) .skip (.exit 0)) (.seq (.block 1 (.seq (.reg false [⟨some 12, .mv (.t 10), none⟩, ⟨some 13, .ia 1 (.t 8) (.t 10), none⟩, ⟨some 14, .ld1 (.t 13), none⟩, ⟨some 6, .mv (.t 12), none⟩, ⟨some 7, .mv (.t 14), none⟩]) (.reg false [⟨some 15, .mv (.t 5), none⟩, ⟨some 16, .mv (.t 7), none⟩, ⟨some 17, .mv (.t 1), none⟩, ⟨some 18, .mv (.t 6), none⟩, ⟨some 19, .ia 1 (.t 17) (.t 18), none⟩, ⟨some 20, .ld1 (.t 19), none⟩, ⟨some 21, .bin .mul (.t 16) (.t 20), none⟩, ⟨some 22, .bin .add (.t 15) (.t 21), none⟩, ⟨some 5, .mv (.t 22), none⟩]))) (.reg false [⟨some 23, .bin .add (.t 10) (.c (.int .i64 1)), none⟩, ⟨some 10, .mv (.t 23), none⟩]))))))) (.seq (.reg false [⟨some 24, .mv (.t 5), none⟩, ⟨some 4, .mv (.t 24), none⟩]) .ret)))), 25, [(.t 4)]⟩
theorem k_impl_sum : compF Tryz.prog Tryz.f59 = some c_impl_sum := by kernel_rfl

theorem impl_sum {w w' : Bool} {lo hi lo' hi' : Nat} {h : AH} {v v' : AV} {l l' : List Int} (s : Ints w lo hi h v l) (s' : Ints w' lo' hi' h v' l') (hl : l.length ≤ l'.length) (B : Int) (hB : 0 ≤ B) (hn : l.length * B ≤ 4611686018427387904) (hm : l.length ≤ 1048576)
    (hb : ∀ i, i < l.length → -B ≤ l.getD i 0 * l'.getD i 0 ∧ l.getD i 0 * l'.getD i 0 ≤ B) (n : Nat) :
    Q Tryz.prog 59 [v, v'] h n (.int .i64 (sumTo l.length fun i => l.getD i 0 * l'.getD i 0)) := by
  refine q_intro Tryz.func59 k_impl_sum ?_
  have hs := fun k hk => sumTo_small (n := l.length) (k := k) (f := fun i => l.getD i 0 * l'.getD i 0) hb hk hB hn
  simp (maxSteps := 2000000) -implicitDefEqProofs (disch := omega) only [c_impl_sum, s.ln, xsW, xsC, xsD, xsE, fillA, reduceCtorEq, Nat.reduceAdd, Nat.reduceSub, Nat.reduceLeDiff, Nat.reduceMul, Int.reduceLT, Int.reduceLE, Int.reduceEq, Int.reduceNe, Int.reduceAdd, Int.reduceSub, Int.reduceMul, Int.reduceNeg, Int.reduceToNat]
  refine loop_for l.length 0 (fun k (_ : Unit) => [v, v', .any, .any, .int .i64 0, .int .i64 (sumTo k fun i => l.getD i 0 * l'.getD i 0), .any, .any, v, .int .i64 l.length, .int .i64 k, .any, .any, .any, .any, .any, .any, .any, .any, .any, .any, .any, .any, .any, .any]) (fun k _ => h)
    (fun k _ _ => True) () (Nat.zero_le _) trivial (by simp [LeL, Le1, sumTo]) (fun _ _ h => h) ?_
  rintro k - n1 - hk hn1 -
  simp (maxSteps := 2000000) -implicitDefEqProofs (disch := omega) only [xsW, xsC, xsD, xsE, fillA, reduceCtorEq, Nat.reduceAdd, Nat.reduceSub, Nat.reduceLeDiff, Nat.reduceMul, Int.reduceLT, Int.reduceLE, Int.reduceEq, Int.reduceNe, Int.reduceAdd, Int.reduceSub, Int.reduceMul, Int.reduceNeg, Int.reduceToNat]
  (refine cd_dec (fun h1 => ?_) (fun h1 => ?_) <;> simp (maxSteps := 2000000) -implicitDefEqProofs (disch := omega) only [xsW, xsC, xsD, xsE, fillA, reduceCtorEq, Nat.reduceAdd, Nat.reduceSub, Nat.reduceLeDiff, Nat.reduceMul, Int.reduceLT, Int.reduceLE, Int.reduceEq, Int.reduceNe, Int.reduceAdd, Int.reduceSub, Int.reduceMul, Int.reduceNeg, Int.reduceToNat,  h1])
  · have hk' : k < l.length := by omega
    have b1 := hb k hk'
    have b2 := hs k hk
    have b3 := hs (k + 1) hk'
    rw [sumTo_succ] at b3
    have hB2 := Int.mul_le_mul_of_nonneg_right (show (1 : Int) ≤ l.length by omega) hB
    simp (maxSteps := 2000000) -implicitDefEqProofs (disch := omega) only [xsW, xsC, xsD, xsE, fillA, reduceCtorEq, Nat.reduceAdd, Nat.reduceSub, Nat.reduceLeDiff, Nat.reduceMul, Int.reduceLT, Int.reduceLE, Int.reduceEq, Int.reduceNe, Int.reduceAdd, Int.reduceSub, Int.reduceMul, Int.reduceNeg, Int.reduceToNat,  s.ia, s.ld, s'.ia, s'.ld]
    exact ⟨(), by omega, by omega, by simp [LeL, Le1, sumTo]⟩
  · rw [show k = l.length by omega]
section
variable {w w' : Bool} {lo hi lo' hi' : Nat} {h : AH} {v u : AV} {vs : List AV} {ll : List (List Int)} {l : List Int}
end
def c_slices_Clone_Sint64_int64 : F := ⟨(.seq (.reg false [⟨some 2, .mv (.c .nilsl), none⟩]) (.seq (.seq (.reg false [⟨some 3, .mv (.t 0), none⟩, ⟨some 4, .nilseq false (.t 3), none⟩]) (.cond (.t 4) (.seq (.reg false [⟨some 2, .mv (.c .nilsl), none⟩]) .ret) .skip)) (.seq (.reg false [⟨some 5, .lit 2 1 0 [(.int .i64 0)] [], none⟩, ⟨some 6, .mv (.t 0), none⟩, ⟨some 7, .app 2 1 8 [(.int .i64 0)] (.t 5) (.t 6), none⟩, ⟨some 2, .mv (.t 7), none⟩]) .ret))), 8, [(.t 2)]⟩
theorem k_slices_Clone_Sint64_int64 : compF Tryz.prog Tryz.f111 = some c_slices_Clone_Sint64_int64 := by kernel_rfl
def c_spec_l01Own : F := ⟨(.seq (.reg false [⟨some 2, .mv (.c .nilsl), none⟩]) (.seq (.reg false [⟨some 3, .lit 2 1 0 [(.int .i64 0)] [], none⟩, ⟨some 4, .mv (.t 0), none⟩, ⟨some 5, .app 2 1 8 [(.int .i64 0)] (.t 3) (.t 4), none⟩, ⟨some 2, .mv (.t 5), none⟩]) .ret)), 6, [(.t 2)]⟩
theorem k_spec_l01Own : compF Tryz.prog Tryz.f132 = some c_spec_l01Own := by kernel_rfl
def c_impl_copyRows : F := ⟨(.seq (.reg false [⟨some 2, .mv (.c .nilsl), none⟩]) (.seq (.reg false [⟨some 3, .mv (.c .nilsl), none⟩]) (.seq (.seq (.reg false [⟨some 6, .mv (.t 0), none⟩, ⟨some 7, .len (.t 6), none⟩, ⟨some 8, .mv (.c (.int .i64 0)), none⟩]) (.block 0 (.loop (.seq (.reg false [⟨some 9, .bin .lss (.t 8) (.t 7), none⟩]) (.seq (.cond (.t 9) .skip (.exit 0)) (.seq (.block 1 (.seq (.reg false [⟨some 10, .ia 1 (.t 6) (.t 8), none⟩, ⟨some 11, .ld1 (.t 10), none⟩, ⟨some 5, .mv (.t 11), none⟩]) (.reg false [⟨some 12, .mv (.t 3), none⟩, ⟨some 13, .mv (.t 5), none⟩, ⟨some 14, .call (.f 111) [(.t 13)], none⟩, ⟨some 15, .lit 23 1 1 [.nilsl] [(0, (.t 14))], none⟩, ⟨some 16, .app 23 1 24 [.nilsl] (.t 12) (.t 15), none⟩, ⟨some 3, .mv (.t 16), none⟩]))) (.reg false [⟨some 17, .bin .add (.t 8) (.c (.int .i64 1)), none⟩, ⟨some 8, .mv (.t 17), none⟩]))))))) (.seq (.reg false [⟨some 18, .mv (.t 3), none⟩, ⟨some 2, .mv (.t 18), none⟩]) .ret)))), 19, [(.t 2)]⟩
theorem k_impl_copyRows : compF Tryz.prog Tryz.f138 = some c_impl_copyRows := by kernel_rfl

theorem ints_one (l : List Int) : (ints l).all AV.one = true := by
  simp only [List.all_eq_true, ints, List.mem_map]
  rintro _ ⟨a, _, rfl⟩
  rfl
theorem sq_any {neg : Bool} {v : AV} (hs : isSl v = true) (K : AV → AH → Nat → Prop) (h : AH) (n : Nat) : SQ neg v K h n = K (.bool neg) h n := by
  cases v <;> first | rfl | simp [isSl] at hs
theorem slices_Clone {lo hi : Nat} {h : AH} {v : AV} {l : List Int} (s : Ints true lo hi h v l) (hl : l.length ≤ 1048576) (n : Nat) (hn : hi ≤ n) :
    FQ Tryz.prog 111 [v] h n fun v' h' n' => Ints true n n' h' v' l := by
  refine fq_intro Tryz.func111 k_slices_Clone_Sint64_int64 ?_
  by_cases h0 : v = .nilsl
  · subst h0
    have hl0 : l = [] := by have := s.slen; simpa [slen] using this.symm
    subst hl0
    simp (maxSteps := 2000000) -implicitDefEqProofs (disch := omega) only [c_slices_Clone_Sint64_int64, xsW, xsC, xsD, xsE, fillA, reduceCtorEq, Nat.reduceAdd, Nat.reduceSub, Nat.reduceLeDiff, Nat.reduceMul, Int.reduceLT, Int.reduceLE, Int.reduceEq, Int.reduceNe, Int.reduceAdd, Int.reduceSub, Int.reduceMul, Int.reduceNeg, Int.reduceToNat]
    intro h2 _
    exact Sl.nil
  · have hs := Sl.isReal s h0
    simp (maxSteps := 2000000) -implicitDefEqProofs (disch := omega) only [c_slices_Clone_Sint64_int64, sq_any hs, xsW, xsC, xsD, xsE, fillA, reduceCtorEq, Nat.reduceAdd, Nat.reduceSub, Nat.reduceLeDiff, Nat.reduceMul, Int.reduceLT, Int.reduceLE, Int.reduceEq, Int.reduceNe, Int.reduceAdd, Int.reduceSub, Int.reduceMul, Int.reduceNeg, Int.reduceToNat]
    refine app_acc (lo := n) (Acc.empty (upd_same _ _ _) rfl (Nat.le_refl _) (by omega)) (Nat.le_refl _) (by omega) (Sl.src (s.keep (fun i _ hi9 => by simp (disch := omega) only [upd_other]))) (by rw [Sl.len s]) (ints_one l) (by rw [s.slen]; simp [slen]; omega) fun v' h' n' g1 g2 g3 g4 g5 g6 => ?_
    simp (maxSteps := 2000000) -implicitDefEqProofs (disch := omega) only [xsW, xsC, xsD, xsE, fillA, reduceCtorEq, Nat.reduceAdd, Nat.reduceSub, Nat.reduceLeDiff, Nat.reduceMul, Int.reduceLT, Int.reduceLE, Int.reduceEq, Int.reduceNe, Int.reduceAdd, Int.reduceSub, Int.reduceMul, Int.reduceNeg, Int.reduceToNat]
    intro _ h2 hh
    exact (g3.keep fun i a b => hh i a b).sl
theorem spec_l01Own {w : Bool} {lo hi : Nat} {h : AH} {v : AV} {l : List Int} (s : Ints w lo hi h v l) (hl : l.length ≤ 1048576) (n : Nat) (hn : hi ≤ n) :
    FQ Tryz.prog 132 [v] h n fun v' h' n' => Ints true n n' h' v' l := by
  refine fq_intro Tryz.func132 k_spec_l01Own ?_
  simp (maxSteps := 2000000) -implicitDefEqProofs (disch := omega) only [c_spec_l01Own, xsW, xsC, xsD, xsE, fillA, reduceCtorEq, Nat.reduceAdd, Nat.reduceSub, Nat.reduceLeDiff, Nat.reduceMul, Int.reduceLT, Int.reduceLE, Int.reduceEq, Int.reduceNe, Int.reduceAdd, Int.reduceSub, Int.reduceMul, Int.reduceNeg, Int.reduceToNat]
  refine app_acc (lo := n) (Acc.empty (upd_same _ _ _) rfl (Nat.le_refl _) (by omega)) (Nat.le_refl _) (by omega) (Sl.src (s.keep (fun i _ hi9 => by simp (disch := omega) only [upd_other]))) (by rw [Sl.len s]) (ints_one l) (by rw [s.slen]; simp [slen]; omega) fun v' h' n' g1 g2 g3 g4 g5 g6 => ?_
  simp (maxSteps := 2000000) -implicitDefEqProofs (disch := omega) only [xsW, xsC, xsD, xsE, fillA, reduceCtorEq, Nat.reduceAdd, Nat.reduceSub, Nat.reduceLeDiff, Nat.reduceMul, Int.reduceLT, Int.reduceLE, Int.reduceEq, Int.reduceNe, Int.reduceAdd, Int.reduceSub, Int.reduceMul, Int.reduceNeg, Int.reduceToNat]
  intro _ h2 hh
  exact (g3.keep fun i a b => hh i a b).sl
theorem impl_copyRows {lo hi : Nat} {h : AH} {v : AV} {vs : List AV} {ll : List (List Int)} (s : Rows true lo hi h v vs ll) (hl : ll.length ≤ 1048576) (hll : ∀ l ∈ ll, l.length ≤ 1048576) (n : Nat) (hn : hi ≤ n) :
    FQ Tryz.prog 138 [v] h n fun v' h' n' => ∃ vs', Rows true n n' h' v' vs' ll := by
  refine fq_intro Tryz.func138 k_impl_copyRows ?_
  simp (maxSteps := 2000000) -implicitDefEqProofs (disch := omega) only [c_impl_copyRows, s.ln, xsW, xsC, xsD, xsE, fillA, reduceCtorEq, Nat.reduceAdd, Nat.reduceSub, Nat.reduceLeDiff, Nat.reduceMul, Int.reduceLT, Int.reduceLE, Int.reduceEq, Int.reduceNe, Int.reduceAdd, Int.reduceSub, Int.reduceMul, Int.reduceNeg, Int.reduceToNat]
  refine loop_for ll.length 0 (fun k p => [v, .any, .nilsl, p.1, .any, .any, v, .int .i64 ll.length, .int .i64 k, .any, .any, .any, .any, .any, .any, .any, .any, .any, .any]) (fun k (p : AV × List AV × AH) => p.2.2)
    (fun k p m => Grow n m h p.2.2 23 p.1 p.2.1 (ll.take k)) (.nilsl, [], h) (Nat.zero_le _) Grow.start (by simp [LeL, Le1]) (fun _ _ h => h) ?_
  rintro k ⟨out, ws, hp⟩ m - hk hm g
  simp only at g
  simp (maxSteps := 2000000) -implicitDefEqProofs (disch := omega) only [xsW, xsC, xsD, xsE, fillA, reduceCtorEq, Nat.reduceAdd, Nat.reduceSub, Nat.reduceLeDiff, Nat.reduceMul, Int.reduceLT, Int.reduceLE, Int.reduceEq, Int.reduceNe, Int.reduceAdd, Int.reduceSub, Int.reduceMul, Int.reduceNeg, Int.reduceToNat]
  (refine cd_dec (fun h1 => ?_) (fun h1 => ?_) <;> simp (maxSteps := 2000000) -implicitDefEqProofs (disch := omega) only [xsW, xsC, xsD, xsE, fillA, reduceCtorEq, Nat.reduceAdd, Nat.reduceSub, Nat.reduceLeDiff, Nat.reduceMul, Int.reduceLT, Int.reduceLE, Int.reduceEq, Int.reduceNe, Int.reduceAdd, Int.reduceSub, Int.reduceMul, Int.reduceNeg, Int.reduceToNat,  h1])
  · have hk' : k < ll.length := by omega
    have hb := s.out.below (by rw [s.slen]; omega)
    have hold := g.old
    simp (maxSteps := 2000000) -implicitDefEqProofs (disch := omega) only [xsW, xsC, xsD, xsE, fillA, reduceCtorEq, Nat.reduceAdd, Nat.reduceSub, Nat.reduceLeDiff, Nat.reduceMul, Int.reduceLT, Int.reduceLE, Int.reduceEq, Int.reduceNe, Int.reduceAdd, Int.reduceSub, Int.reduceMul, Int.reduceNeg, Int.reduceToNat,  s.ia, hold, s.ld]
    refine fq_use (slices_Clone ((s.row k hk').keep (fun i _ hi9 => by simp (disch := omega) only [upd_other, hold])) (hll _ (getD_mem hk')) m (by omega)) fun v1 h1' n2 hn2 hs1 hv1 => ?_
    have o1 := one_any (Sl.any hv1)
    have o2 := sto_any (Sl.any hv1)
    have o3 := cel_any (Sl.any hv1)
    simp (maxSteps := 2000000) -implicitDefEqProofs (disch := omega) only [xsW, xsC, xsD, xsE, fillA, reduceCtorEq, Nat.reduceAdd, Nat.reduceSub, Nat.reduceLeDiff, Nat.reduceMul, Int.reduceLT, Int.reduceLE, Int.reduceEq, Int.reduceNe, Int.reduceAdd, Int.reduceSub, Int.reduceMul, Int.reduceNeg, Int.reduceToNat,  o1, o2, o3]
    refine g.app (hv1.keep (fun i _ hi9 => by simp (disch := omega) only [upd_other])) (fun i hi9 => by simp (disch := omega) only [upd_other, hs1]) hn2 (by omega) (Nat.le_refl _) ⟨rfl, _, upd_same _ _ _, by simp, by simp [cutA]⟩ (by simp; omega) fun out' h' n' q1 q2 => ?_
    simp (maxSteps := 2000000) -implicitDefEqProofs (disch := omega) only [xsW, xsC, xsD, xsE, fillA, reduceCtorEq, Nat.reduceAdd, Nat.reduceSub, Nat.reduceLeDiff, Nat.reduceMul, Int.reduceLT, Int.reduceLE, Int.reduceEq, Int.reduceNe, Int.reduceAdd, Int.reduceSub, Int.reduceMul, Int.reduceNeg, Int.reduceToNat]
    exact ⟨(out', ws ++ [v1], h'), by rw [take_succ_getD hk']; exact q2, by omega, by omega, (by simp [LeL, Le1]), fun _ _ h => h⟩
  · intro _ h2 hh
    rw [List.take_of_length_le (by omega)] at g
    exact ⟨ws, g.rowsOf hh⟩
end Go.Proofs.YtkpibnhddhdooadGreat.L
