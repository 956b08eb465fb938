/- Contracts on matrices. -/
import Derived.Test.YtkpibnhddhdooacDoorB1
import Derived.Test.YtkpibnhddhdooacDoorProg
import Derived.Shelf.Strconv.Itoa4
import Derived.Lib.ItoaLen
import Derived.Laws.Strings
import Derived.Shelf.Strings.OnBuilder
set_option linter.unusedSimpArgs false
set_option linter.unusedVariables false
namespace Go.Proofs.YtkpibnhddhdooacDoor.L
open Go
def c_laws_eqInt64SS : F := ⟨(.seq (.reg false [⟨some 4, .mv (.c (.bool false)), none⟩]) (.seq (.seq (.reg false [⟨some 6, .mv (.t 0), none⟩, ⟨some 7, .len (.t 6), none⟩, ⟨some 8, .mv (.t 1), none⟩, ⟨some 9, .len (.t 8), none⟩, ⟨some 10, .bin .neq (.t 7) (.t 9), none⟩]) (.cond (.t 10) (.seq (.reg false [⟨some 4, .mv (.c (.bool false)), none⟩]) .ret) .skip)) (.seq (.seq (.reg false [⟨some 5, .mv (.c (.int .i64 0)), none⟩]) (.block 0 (.loop (.seq (.seq (.reg false [⟨some 11, .mv (.t 5), none⟩, ⟨some 12, .mv (.t 0), none⟩, ⟨some 13, .len (.t 12), none⟩, ⟨some 14, .bin .lss (.t 11) (.t 13), none⟩]) (.cond (.t 14) .skip (.exit 0))) (.seq (.block 1 (.seq (.reg true [⟨some 17, .mv (.t 0), none⟩, ⟨some 18, .mv (.t 5), none⟩, ⟨some 19, .ia 1 (.t 17) (.t 18), none⟩, ⟨some 20, .ld1 (.t 19), none⟩, ⟨some 21, .mv (.t 1), none⟩, ⟨some 22, .mv (.t 5), none⟩, ⟨some 23, .ia 1 (.t 21) (.t 22), none⟩, ⟨some 24, .ld1 (.t 23), none⟩, ⟨some 25, .call (.f 65) [(.t 20), (.t 24)], none⟩, ⟨some 26, .un .not (.t 25), none⟩]) (.cond (.t 26) (.seq (.reg false [⟨some 4, .mv (.c (.bool false)), none⟩]) .ret) .skip))) (.reg false [⟨some 15, .mv (.t 5), none⟩, ⟨some 16, .bin .add (.t 15) (.c (.int .i64 1)), none⟩, ⟨some 5, .mv (.t 16), none⟩])))))) (.seq (.reg false [⟨some 4, .mv (.c (.bool true)), none⟩]) .ret)))), 27, [(.t 4)]⟩
theorem k_laws_eqInt64SS : compF Tryd.prog Tryd.f64 = some c_laws_eqInt64SS := by kernel_rfl
def c_spec_l01Matrix : F := ⟨(.seq (.reg false [⟨some 2, .mv (.c (.bool false)), none⟩]) (.seq (.reg false [⟨some 6, .mv (.t 0), none⟩, ⟨some 7, .len (.t 6), none⟩, ⟨some 3, .mv (.t 7), none⟩]) (.seq (.seq (.reg false [⟨some 8, .mv (.t 3), none⟩, ⟨some 9, .bin .lss (.t 8) (.c (.int .i64 1)), none⟩, ⟨some 10, .mv (.t 9), none⟩, ⟨some 11, .mv (.t 3), some (10, false)⟩, ⟨some 12, .bin .gtr (.t 11) (.c (.int .i64 5)), some (10, false)⟩, ⟨some 13, .pick (.t 10) (.c (.bool true)) (.t 12), none⟩]) (.cond (.t 13) (.seq (.reg false [⟨some 2, .mv (.c (.bool false)), none⟩]) .ret) .skip)) (.seq (.seq (.reg false [⟨some 4, .mv (.c (.int .i64 0)), none⟩]) (.block 0 (.loop (.seq (.seq (.reg false [⟨some 14, .mv (.t 4), none⟩, ⟨some 15, .mv (.t 3), none⟩, ⟨some 16, .bin .lss (.t 14) (.t 15), none⟩]) (.cond (.t 16) .skip (.exit 0))) (.seq (.block 1 (.seq (.seq (.reg false [⟨some 19, .mv (.t 0), none⟩, ⟨some 20, .mv (.t 4), none⟩, ⟨some 21, .ia 1 (.t 19) (.t 20), none⟩, ⟨some 22, .ld1 (.t 21), none⟩, ⟨some 23, .len (.t 22), none⟩, ⟨some 24, .mv (.t 3), none⟩, ⟨some 25, .bin .neq (.t 23) (.t 24), none⟩]) (.cond (.t 25) (.seq (.reg false [⟨some 2, .mv (.c (.bool false)), none⟩]) .ret) .skip)) (.seq (.reg false [⟨some 5, .mv (.c (.int .i64 0)), none⟩]) (.block 2 (.loop (.seq (.seq (.reg false [⟨some 26, .mv (.t 5), none⟩, ⟨some 27, .mv (.t 3), none⟩, ⟨some 28, .bin .lss (.t 26) (.t 27), none⟩]) (.cond (.t 28) .skip (.exit 2))) (.seq (.block 3 (.seq (.reg false [⟨some 31, .mv (.t 0), none⟩, ⟨some 32, .mv (.t 4), none⟩, ⟨some 33, .ia 1 (.t 31) (.t 32), none⟩, ⟨some 34, .ld1 (.t 33), none⟩, ⟨some 35, .mv (.t 5), none⟩, ⟨some 36, .ia 1 (.t 34) (.t 35), none⟩, ⟨some 37, .ld1 (.t 36), none⟩, ⟨some 38, .call (.f 54) [(.t 37), (.c (.int .i64 (-20))), (.c (.int .i64 20))], none⟩, ⟨some 39, .un .not (.t 38), none⟩]) (.cond (.t 39) (.seq (.reg false [⟨some 2, .mv (.c (.bool false)), none⟩]) .ret) .skip))) (.reg false [⟨some 29, .mv (.t 5), none⟩, ⟨some 30, .bin .add (.t 29) (.c (.int .i64 1)), none⟩, ⟨some 5, .mv (.t 30), none⟩])))))))) (.reg false [⟨some 17, .mv (.t 4), none⟩, ⟨some 18, .bin .add (.t 17) (.c (.int .i64 1)), none⟩, ⟨some 4, .mv (.t 18), none⟩])))))) (.seq (.reg false [⟨some 2, .mv (.c (.bool true)), none⟩]) .ret))))), 40, [(.t 2)]⟩
theorem k_spec_l01Matrix : compF Tryd.prog Tryd.f81 = some c_spec_l01Matrix := by kernel_rfl
def c_impl_IsMatrix : F := ⟨(.seq (.reg false [⟨some 2, .mv (.c (.bool false)), none⟩]) (.seq (.reg false [⟨some 3, .mv (.t 0), none⟩, ⟨some 4, .len (.t 3), none⟩, ⟨some 5, .call (.f 47) [(.t 4), (.c (.int .i64 1)), (.c (.int .i64 5))], none⟩, ⟨some 6, .mv (.t 5), none⟩, ⟨some 7, .mv (.t 0), some (6, true)⟩, ⟨some 8, .mv (.t 0), some (6, true)⟩, ⟨some 9, .len (.t 8), some (6, true)⟩, ⟨some 10, .call (.f 93) [(.t 7), (.t 9)], some (6, true)⟩, ⟨some 11, .pick (.t 6) (.t 10) (.c (.bool false)), none⟩, ⟨some 12, .mv (.t 11), none⟩, ⟨some 13, .mv (.t 0), some (12, true)⟩, ⟨some 14, .call (.f 94) [(.t 13), (.f 95)], some (12, true)⟩, ⟨some 15, .un .not (.t 14), some (12, true)⟩, ⟨some 16, .pick (.t 12) (.t 15) (.c (.bool false)), none⟩, ⟨some 2, .mv (.t 16), none⟩]) .ret)), 17, [(.t 2)]⟩
theorem k_impl_IsMatrix : compF Tryd.prog Tryd.f83 = some c_impl_IsMatrix := by kernel_rfl
def c_impl_isSquare : F := ⟨(.seq (.reg false [⟨some 3, .box 3 (.t 1), none⟩, ⟨some 4, .mv (.c (.bool false)), none⟩]) (.seq (.reg false [⟨some 5, .mv (.t 0), none⟩, ⟨some 6, .len (.t 5), none⟩, ⟨some 7, .ld1 (.t 3), none⟩, ⟨some 8, .bin .eql (.t 6) (.t 7), none⟩, ⟨some 9, .mv (.t 8), none⟩, ⟨some 10, .mv (.t 0), some (9, true)⟩, ⟨some 11, .mkf 108 [(.t 3)], some (9, true)⟩, ⟨some 12, .call (.f 94) [(.t 10), (.t 11)], some (9, true)⟩, ⟨some 13, .un .not (.t 12), some (9, true)⟩, ⟨some 14, .pick (.t 9) (.t 13) (.c (.bool false)), none⟩, ⟨some 4, .mv (.t 14), none⟩]) .ret)), 15, [(.t 4)]⟩
theorem k_impl_isSquare : compF Tryd.prog Tryd.f93 = some c_impl_isSquare := by kernel_rfl
def c_impl_isSquare_1 : F := ⟨(.seq (.reg false [⟨some 3, .mv (.c (.bool false)), none⟩]) (.seq (.reg false [⟨some 4, .mv (.t 0), none⟩, ⟨some 5, .len (.t 4), none⟩, ⟨some 6, .ld1 (.t 1), none⟩, ⟨some 7, .bin .neq (.t 5) (.t 6), none⟩, ⟨some 3, .mv (.t 7), none⟩]) .ret)), 8, [(.t 3)]⟩
theorem k_impl_isSquare_1 : compF Tryd.prog Tryd.f108 = some c_impl_isSquare_1 := by kernel_rfl
def c_impl_IsMatrix_1 : F := ⟨(.seq (.reg false [⟨some 2, .mv (.c (.bool false)), none⟩]) (.seq (.reg false [⟨some 3, .mv (.t 0), none⟩, ⟨some 4, .call (.f 84) [(.t 3), (.c (.int .i64 20))], none⟩, ⟨some 5, .un .not (.t 4), none⟩, ⟨some 2, .mv (.t 5), none⟩]) .ret)), 6, [(.t 2)]⟩
theorem k_impl_IsMatrix_1 : compF Tryd.prog Tryd.f95 = some c_impl_IsMatrix_1 := by kernel_rfl
def c_impl_allUpTo : F := ⟨(.seq (.reg false [⟨some 3, .box 2 (.t 1), none⟩, ⟨some 4, .mv (.c (.bool false)), none⟩]) (.seq (.reg false [⟨some 5, .mv (.t 0), none⟩, ⟨some 6, .mkf 97 [(.t 3)], none⟩, ⟨some 7, .call (.f 96) [(.t 5), (.t 6)], none⟩, ⟨some 8, .un .not (.t 7), none⟩, ⟨some 4, .mv (.t 8), none⟩]) .ret)), 9, [(.t 4)]⟩
theorem k_impl_allUpTo : compF Tryd.prog Tryd.f84 = some c_impl_allUpTo := by kernel_rfl
def c_impl_allUpTo_1 : F := ⟨(.seq (.reg false [⟨some 3, .mv (.c (.bool false)), none⟩]) (.seq (.reg false [⟨some 4, .mv (.t 0), none⟩, ⟨some 5, .ld1 (.t 1), none⟩, ⟨some 6, .call (.f 48) [(.t 4), (.t 5)], none⟩, ⟨some 7, .un .not (.t 6), none⟩, ⟨some 3, .mv (.t 7), none⟩]) .ret)), 8, [(.t 3)]⟩
theorem k_impl_allUpTo_1 : compF Tryd.prog Tryd.f97 = some c_impl_allUpTo_1 := by kernel_rfl

def within (m : Int) (l : List Int) : Bool := l.all fun x => decide (-m ≤ x ∧ x ≤ m)
def isMat (ll : List (List Int)) : Bool := decide (1 ≤ ll.length ∧ ll.length ≤ 5) && ll.all fun l => decide (l.length = ll.length) && within 20 l
theorem any_range {α : Type} (l : List α) (d : α) (p : α → Bool) : ((List.range l.length).any fun k => p (l.getD k d)) = l.any p := by
  rw [Bool.eq_iff_iff]
  simp only [List.any_eq_true, List.mem_range]
  constructor
  · rintro ⟨k, hk, h⟩
    exact ⟨_, getD_mem hk, h⟩
  · rintro ⟨x, hx, h⟩
    obtain ⟨k, hk, rfl⟩ := List.mem_iff_getElem.1 hx
    exact ⟨k, hk, by simpa [List.getD, hk] using h⟩
theorem impl_allUpTo1 (a c : Int) (hc : in64 (-c)) {h : AH} {i n : Nat} {op : Nat} {wr : Bool} {ty : Nat} (hb : h i = some ⟨ty, [.int .i64 c], wr, op⟩) :
    Q Tryd.prog 97 [.int .i64 a, .ptr i 0] h n (.bool (!decide (-c ≤ a ∧ a ≤ c))) := by
  refine q_intro Tryd.func97 k_impl_allUpTo_1 ?_
  simp (maxSteps := 2000000) -implicitDefEqProofs (disch := omega) only [c_impl_allUpTo_1, hb, xsW, xsC, xsD, xsE, fillA, reduceCtorEq, Nat.reduceAdd, Nat.reduceSub, Nat.reduceLeDiff, Nat.reduceMul, Int.reduceLT, Int.reduceLE, Int.reduceEq, Int.reduceNe, Int.reduceAdd, Int.reduceSub, Int.reduceMul, Int.reduceNeg, Int.reduceToNat]
  refine q_use (impl_upTo _ _ hc _ _) fun n1 hn1 => ?_
  simp (maxSteps := 2000000) -implicitDefEqProofs (disch := omega) only [xsW, xsC, xsD, xsE, fillA, reduceCtorEq, Nat.reduceAdd, Nat.reduceSub, Nat.reduceLeDiff, Nat.reduceMul, Int.reduceLT, Int.reduceLE, Int.reduceEq, Int.reduceNe, Int.reduceAdd, Int.reduceSub, Int.reduceMul, Int.reduceNeg, Int.reduceToNat]
theorem impl_allUpTo {w : Bool} {lo hi : Nat} {h : AH} {v : AV} {l : List Int} (s : Ints w lo hi h v l) (hl : l.length ≤ 4611686018427387904) (c : Int) (hc : in64 (-c)) (n : Nat) (hn : hi ≤ n) :
    Q Tryd.prog 84 [v, .int .i64 c] h n (.bool (within c l)) := by
  refine q_intro Tryd.func84 k_impl_allUpTo ?_
  have hs := s.slen
  simp (maxSteps := 2000000) -implicitDefEqProofs (disch := omega) only [c_impl_allUpTo, xsW, xsC, xsD, xsE, fillA, reduceCtorEq, Nat.reduceAdd, Nat.reduceSub, Nat.reduceLeDiff, Nat.reduceMul, Int.reduceLT, Int.reduceLE, Int.reduceEq, Int.reduceNe, Int.reduceAdd, Int.reduceSub, Int.reduceMul, Int.reduceNeg, Int.reduceToNat]
  refine q_use (has_ints (Ints.keep s fun i _ hi' => by rw [upd_other (by omega)]) (by omega) _ _ (fun k => !decide (-c ≤ l.getD k 0 ∧ l.getD k 0 ≤ c)) _ fun k n' hk _ => ?_) fun n1 hn1 => ?_
  · rw [ints_getD l k (by omega)]
    exact impl_allUpTo1 _ _ hc (upd_same _ _ _)
  · rw [hs, any_range l 0 (fun x => !decide (-c ≤ x ∧ x ≤ c))]
    simp (maxSteps := 2000000) -implicitDefEqProofs (disch := omega) only [xsW, xsC, xsD, xsE, fillA, reduceCtorEq, Nat.reduceAdd, Nat.reduceSub, Nat.reduceLeDiff, Nat.reduceMul, Int.reduceLT, Int.reduceLE, Int.reduceEq, Int.reduceNe, Int.reduceAdd, Int.reduceSub, Int.reduceMul, Int.reduceNeg, Int.reduceToNat]
    rw [within, Bool.eq_iff_iff]; simp
theorem impl_isSquare1 {w : Bool} {lo hi : Nat} {h : AH} {v : AV} {l : List Int} (s : Ints w lo hi h v l) (c : Int) {i n : Nat} {op : Nat} {wr : Bool} {ty : Nat} (hb : h i = some ⟨ty, [.int .i64 c], wr, op⟩) :
    Q Tryd.prog 108 [v, .ptr i 0] h n (.bool (decide (¬ (l.length : Int) = c))) := by
  refine q_intro Tryd.func108 k_impl_isSquare_1 ?_
  simp (maxSteps := 2000000) -implicitDefEqProofs (disch := omega) only [c_impl_isSquare_1, hb, s.ln, xsW, xsC, xsD, xsE, fillA, reduceCtorEq, Nat.reduceAdd, Nat.reduceSub, Nat.reduceLeDiff, Nat.reduceMul, Int.reduceLT, Int.reduceLE, Int.reduceEq, Int.reduceNe, Int.reduceAdd, Int.reduceSub, Int.reduceMul, Int.reduceNeg, Int.reduceToNat]
theorem impl_isSquare {w : Bool} {lo hi : Nat} {h : AH} {v : AV} {vs : List AV} {ll : List (List Int)} (s : Rows w lo hi h v vs ll) (hl : ll.length ≤ 4611686018427387904) (c : Int) (n : Nat) (hn : hi ≤ n) :
    Q Tryd.prog 93 [v, .int .i64 c] h n (.bool (decide ((ll.length : Int) = c) && ll.all fun l => decide ((l.length : Int) = c))) := by
  refine q_intro Tryd.func93 k_impl_isSquare ?_
  have hs := s.slen
  simp (maxSteps := 2000000) -implicitDefEqProofs (disch := omega) only [c_impl_isSquare, s.ln, xsW, xsC, xsD, xsE, fillA, reduceCtorEq, Nat.reduceAdd, Nat.reduceSub, Nat.reduceLeDiff, Nat.reduceMul, Int.reduceLT, Int.reduceLE, Int.reduceEq, Int.reduceNe, Int.reduceAdd, Int.reduceSub, Int.reduceMul, Int.reduceNeg, Int.reduceToNat]
  (refine gd_dec (fun hc => ?_) (fun hc => ?_) <;> simp (maxSteps := 2000000) -implicitDefEqProofs (disch := omega) only [xsW, xsC, xsD, xsE, fillA, reduceCtorEq, Nat.reduceAdd, Nat.reduceSub, Nat.reduceLeDiff, Nat.reduceMul, Int.reduceLT, Int.reduceLE, Int.reduceEq, Int.reduceNe, Int.reduceAdd, Int.reduceSub, Int.reduceMul, Int.reduceNeg, Int.reduceToNat,  hc])
  have s' := s.keep (h' := upd h n (some ⟨3, [.int .i64 c], true, 0⟩)) fun i _ hi' => by rw [upd_other (by omega)]
  refine q_use (has_rows s'.out (by omega) _ _ (fun k => decide (¬ ((ll.getD k []).length : Int) = c)) _ fun k n' hk _ => impl_isSquare1 (s'.row k (by omega)) c (upd_same _ _ _)) fun n1 hn1 => ?_
  rw [hs, any_range ll [] (fun x => decide (¬ (x.length : Int) = c))]
  simp (maxSteps := 2000000) -implicitDefEqProofs (disch := omega) only [xsW, xsC, xsD, xsE, fillA, reduceCtorEq, Nat.reduceAdd, Nat.reduceSub, Nat.reduceLeDiff, Nat.reduceMul, Int.reduceLT, Int.reduceLE, Int.reduceEq, Int.reduceNe, Int.reduceAdd, Int.reduceSub, Int.reduceMul, Int.reduceNeg, Int.reduceToNat]
  rw [Bool.eq_iff_iff]; simp
theorem impl_IsMatrix1 {w : Bool} {lo hi : Nat} {h : AH} {v : AV} {l : List Int} (s : Ints w lo hi h v l) (hl : l.length ≤ 4611686018427387904) (n : Nat) (hn : hi ≤ n) :
    Q Tryd.prog 95 [v] h n (.bool (!within 20 l)) := by
  refine q_intro Tryd.func95 k_impl_IsMatrix_1 ?_
  simp (maxSteps := 2000000) -implicitDefEqProofs (disch := omega) only [c_impl_IsMatrix_1, xsW, xsC, xsD, xsE, fillA, reduceCtorEq, Nat.reduceAdd, Nat.reduceSub, Nat.reduceLeDiff, Nat.reduceMul, Int.reduceLT, Int.reduceLE, Int.reduceEq, Int.reduceNe, Int.reduceAdd, Int.reduceSub, Int.reduceMul, Int.reduceNeg, Int.reduceToNat]
  refine q_use (impl_allUpTo s hl _ (by unfold in64; omega) _ hn) fun n1 hn1 => ?_
  simp (maxSteps := 2000000) -implicitDefEqProofs (disch := omega) only [xsW, xsC, xsD, xsE, fillA, reduceCtorEq, Nat.reduceAdd, Nat.reduceSub, Nat.reduceLeDiff, Nat.reduceMul, Int.reduceLT, Int.reduceLE, Int.reduceEq, Int.reduceNe, Int.reduceAdd, Int.reduceSub, Int.reduceMul, Int.reduceNeg, Int.reduceToNat]
theorem impl_IsMatrix {w : Bool} {lo hi : Nat} {h : AH} {v : AV} {vs : List AV} {ll : List (List Int)} (s : Rows w lo hi h v vs ll) (hl : ll.length ≤ 1048576) (hll : ∀ l ∈ ll, l.length ≤ 1048576) (n : Nat) (hn : hi ≤ n) :
    Q Tryd.prog 83 [v] h n (.bool (isMat ll)) := by
  refine q_intro Tryd.func83 k_impl_IsMatrix ?_
  have hs := s.slen
  simp (maxSteps := 2000000) -implicitDefEqProofs (disch := omega) only [c_impl_IsMatrix, s.ln, xsW, xsC, xsD, xsE, fillA, reduceCtorEq, Nat.reduceAdd, Nat.reduceSub, Nat.reduceLeDiff, Nat.reduceMul, Int.reduceLT, Int.reduceLE, Int.reduceEq, Int.reduceNe, Int.reduceAdd, Int.reduceSub, Int.reduceMul, Int.reduceNeg, Int.reduceToNat]
  refine q_use (impl_within _ _ _ _ _) fun n1 hn1 => ?_
  simp (maxSteps := 2000000) -implicitDefEqProofs (disch := omega) only [xsW, xsC, xsD, xsE, fillA, reduceCtorEq, Nat.reduceAdd, Nat.reduceSub, Nat.reduceLeDiff, Nat.reduceMul, Int.reduceLT, Int.reduceLE, Int.reduceEq, Int.reduceNe, Int.reduceAdd, Int.reduceSub, Int.reduceMul, Int.reduceNeg, Int.reduceToNat]
  (refine gd_dec (fun h1 => ?_) (fun h1 => ?_) <;> simp (maxSteps := 2000000) -implicitDefEqProofs (disch := omega) only [xsW, xsC, xsD, xsE, fillA, reduceCtorEq, Nat.reduceAdd, Nat.reduceSub, Nat.reduceLeDiff, Nat.reduceMul, Int.reduceLT, Int.reduceLE, Int.reduceEq, Int.reduceNe, Int.reduceAdd, Int.reduceSub, Int.reduceMul, Int.reduceNeg, Int.reduceToNat,  h1])
  · simp (maxSteps := 2000000) -implicitDefEqProofs (disch := omega) only [xsW, xsC, xsD, xsE, fillA, reduceCtorEq, Nat.reduceAdd, Nat.reduceSub, Nat.reduceLeDiff, Nat.reduceMul, Int.reduceLT, Int.reduceLE, Int.reduceEq, Int.reduceNe, Int.reduceAdd, Int.reduceSub, Int.reduceMul, Int.reduceNeg, Int.reduceToNat,  s.ln]
    refine q_use (impl_isSquare s (by omega) _ _ (by omega)) fun n2 hn2 => ?_
    cases hq : (ll.all fun l => decide ((l.length : Int) = ll.length))
    · simp (maxSteps := 2000000) -implicitDefEqProofs (disch := omega) only [xsW, xsC, xsD, xsE, fillA, reduceCtorEq, Nat.reduceAdd, Nat.reduceSub, Nat.reduceLeDiff, Nat.reduceMul, Int.reduceLT, Int.reduceLE, Int.reduceEq, Int.reduceNe, Int.reduceAdd, Int.reduceSub, Int.reduceMul, Int.reduceNeg, Int.reduceToNat]
      rw [Bool.eq_iff_iff]
      simp only [Bool.false_eq_true, false_iff, isMat, Bool.and_eq_true, not_and, List.all_eq_true]
      intro _ hx
      rw [List.all_eq_false] at hq
      obtain ⟨l, hm, hh⟩ := hq
      have := (hx l hm).1
      simp at this hh
      omega
    · simp (maxSteps := 2000000) -implicitDefEqProofs (disch := omega) only [xsW, xsC, xsD, xsE, fillA, reduceCtorEq, Nat.reduceAdd, Nat.reduceSub, Nat.reduceLeDiff, Nat.reduceMul, Int.reduceLT, Int.reduceLE, Int.reduceEq, Int.reduceNe, Int.reduceAdd, Int.reduceSub, Int.reduceMul, Int.reduceNeg, Int.reduceToNat]
      refine q_use (has_rows s.out (by omega) _ _ (fun k => !within 20 (ll.getD k [])) _ fun k n' hk _ => impl_IsMatrix1 (s.row k (by omega)) (by have := hll _ (getD_mem (d := []) (show k < ll.length by omega)); omega) _ (by omega)) fun n3 hn3 => ?_
      rw [hs, any_range ll [] (fun x => !within 20 x)]
      simp (maxSteps := 2000000) -implicitDefEqProofs (disch := omega) only [xsW, xsC, xsD, xsE, fillA, reduceCtorEq, Nat.reduceAdd, Nat.reduceSub, Nat.reduceLeDiff, Nat.reduceMul, Int.reduceLT, Int.reduceLE, Int.reduceEq, Int.reduceNe, Int.reduceAdd, Int.reduceSub, Int.reduceMul, Int.reduceNeg, Int.reduceToNat]
      rw [Bool.eq_iff_iff]
      rw [List.all_eq_true] at hq
      simp only [isMat, Bool.and_eq_true, List.all_eq_true, Bool.not_eq_true', List.any_eq_false, decide_eq_true_eq]
      constructor
      · intro hx
        exact ⟨by omega, fun l hm => ⟨by have := hq l hm; simp at this; omega, by simpa using hx l hm⟩⟩
      · intro hx l hm
        simpa using (hx.2 l hm).2
  · rw [Bool.eq_iff_iff]; simp only [isMat, Bool.false_eq_true, false_iff, Bool.and_eq_true, decide_eq_true_eq, not_and]; intro hx; omega
theorem within_iff (m : Int) (l : List Int) : within m l = true ↔ ∀ j, j < l.length → -m ≤ l.getD j 0 ∧ l.getD j 0 ≤ m := by
  simp only [within, List.all_eq_true, decide_eq_true_eq]
  constructor
  · intro h j hj
    exact h _ (getD_mem hj)
  · intro h x hx
    obtain ⟨k, hk, rfl⟩ := List.mem_iff_getElem.1 hx
    have := h k hk
    simpa [List.getD, hk] using this
theorem isMat_iff (ll : List (List Int)) : isMat ll = true ↔ 1 ≤ ll.length ∧ ll.length ≤ 5 ∧ ∀ k, k < ll.length → (ll.getD k []).length = ll.length ∧ within 20 (ll.getD k []) = true := by
  simp only [isMat, Bool.and_eq_true, decide_eq_true_eq, List.all_eq_true, and_assoc]
  constructor
  · rintro ⟨h1, h2, h⟩
    exact ⟨h1, h2, fun k hk => h _ (getD_mem hk)⟩
  · rintro ⟨h1, h2, h⟩
    refine ⟨h1, h2, fun x hx => ?_⟩
    obtain ⟨k, hk, rfl⟩ := List.mem_iff_getElem.1 hx
    have := h k hk
    simpa [List.getD, hk] using this
theorem isMat_f {ll : List (List Int)} (h : ¬ (1 ≤ ll.length ∧ ll.length ≤ 5 ∧ ∀ k, k < ll.length → (ll.getD k []).length = ll.length ∧ within 20 (ll.getD k []) = true)) : false = isMat ll := by
  cases hm : isMat ll
  · rfl
  · exact absurd ((isMat_iff ll).1 hm) h
theorem spec_l01Matrix {w : Bool} {lo hi : Nat} {h : AH} {v : AV} {vs : List AV} {ll : List (List Int)} (s : Rows w lo hi h v vs ll) (hl : ll.length ≤ 1048576) (n : Nat) :
    Q Tryd.prog 81 [v] h n (.bool (isMat ll)) := by
  refine q_intro Tryd.func81 k_spec_l01Matrix ?_
  simp (maxSteps := 2000000) -implicitDefEqProofs (disch := omega) only [c_spec_l01Matrix, s.ln, xsW, xsC, xsD, xsE, fillA, reduceCtorEq, Nat.reduceAdd, Nat.reduceSub, Nat.reduceLeDiff, Nat.reduceMul, Int.reduceLT, Int.reduceLE, Int.reduceEq, Int.reduceNe, Int.reduceAdd, Int.reduceSub, Int.reduceMul, Int.reduceNeg, Int.reduceToNat]
  (refine gd_dec (fun h1 => ?_) (fun h1 => ?_) <;> simp (maxSteps := 2000000) -implicitDefEqProofs (disch := omega) only [xsW, xsC, xsD, xsE, fillA, reduceCtorEq, Nat.reduceAdd, Nat.reduceSub, Nat.reduceLeDiff, Nat.reduceMul, Int.reduceLT, Int.reduceLE, Int.reduceEq, Int.reduceNe, Int.reduceAdd, Int.reduceSub, Int.reduceMul, Int.reduceNeg, Int.reduceToNat,  h1])
  · exact isMat_f fun hx => by omega
  (refine cd_dec (fun h2 => ?_) (fun h2 => ?_) <;> simp (maxSteps := 2000000) -implicitDefEqProofs (disch := omega) only [xsW, xsC, xsD, xsE, fillA, reduceCtorEq, Nat.reduceAdd, Nat.reduceSub, Nat.reduceLeDiff, Nat.reduceMul, Int.reduceLT, Int.reduceLE, Int.reduceEq, Int.reduceNe, Int.reduceAdd, Int.reduceSub, Int.reduceMul, Int.reduceNeg, Int.reduceToNat,  h2])
  · exact isMat_f fun hx => by omega
  refine loop_for ll.length 0 (fun k (_ : Unit) => [v, .any, .bool false, .int .i64 ll.length, .int .i64 k, .any, .any, .any, .any, .any, .any, .any, .any, .any, .any, .any, .any, .any, .any, .any, .any, .any, .any, .any, .any, .any, .any, .any, .any, .any, .any, .any, .any, .any, .any, .any, .any, .any, .any, .any]) (fun k _ => h)
    (fun k _ _ => ∀ j, j < k → (ll.getD j []).length = ll.length ∧ within 20 (ll.getD j []) = true) () (Nat.zero_le _) (fun j hj => absurd hj (Nat.not_lt_zero _)) (by simp [LeL, Le1]) (fun _ _ h => h) ?_
  rintro k - n1 - hk hn1 he
  simp (maxSteps := 2000000) -implicitDefEqProofs (disch := omega) only [xsW, xsC, xsD, xsE, fillA, reduceCtorEq, Nat.reduceAdd, Nat.reduceSub, Nat.reduceLeDiff, Nat.reduceMul, Int.reduceLT, Int.reduceLE, Int.reduceEq, Int.reduceNe, Int.reduceAdd, Int.reduceSub, Int.reduceMul, Int.reduceNeg, Int.reduceToNat,  s.ln]
  (refine cd_dec (fun h3 => ?_) (fun h3 => ?_) <;> simp (maxSteps := 2000000) -implicitDefEqProofs (disch := omega) only [xsW, xsC, xsD, xsE, fillA, reduceCtorEq, Nat.reduceAdd, Nat.reduceSub, Nat.reduceLeDiff, Nat.reduceMul, Int.reduceLT, Int.reduceLE, Int.reduceEq, Int.reduceNe, Int.reduceAdd, Int.reduceSub, Int.reduceMul, Int.reduceNeg, Int.reduceToNat,  h3])
  · have hk' : k < ll.length := by omega
    have hr := s.row k hk'
    simp (maxSteps := 2000000) -implicitDefEqProofs (disch := omega) only [xsW, xsC, xsD, xsE, fillA, reduceCtorEq, Nat.reduceAdd, Nat.reduceSub, Nat.reduceLeDiff, Nat.reduceMul, Int.reduceLT, Int.reduceLE, Int.reduceEq, Int.reduceNe, Int.reduceAdd, Int.reduceSub, Int.reduceMul, Int.reduceNeg, Int.reduceToNat,  s.ia, s.ld, hr.ln]
    (refine cd_dec (fun h4 => ?_) (fun h4 => ?_) <;> simp (maxSteps := 2000000) -implicitDefEqProofs (disch := omega) only [xsW, xsC, xsD, xsE, fillA, reduceCtorEq, Nat.reduceAdd, Nat.reduceSub, Nat.reduceLeDiff, Nat.reduceMul, Int.reduceLT, Int.reduceLE, Int.reduceEq, Int.reduceNe, Int.reduceAdd, Int.reduceSub, Int.reduceMul, Int.reduceNeg, Int.reduceToNat,  h4])
    · exact isMat_f fun hx => by have := hx.2.2 k hk'; omega
    · refine loop_for ll.length 0 (fun j (_ : Unit) => [v, .any, .bool false, .int .i64 ll.length, .int .i64 k, .int .i64 j, .any, .any, .any, .any, .any, .any, .any, .any, .any, .any, .any, .any, .any, .any, .any, .any, .any, .any, .any, .any, .any, .any, .any, .any, .any, .any, .any, .any, .any, .any, .any, .any, .any, .any]) (fun k _ => h)
        (fun j _ _ => ∀ i, i < j → -20 ≤ (ll.getD k []).getD i 0 ∧ (ll.getD k []).getD i 0 ≤ 20) () (Nat.zero_le _) (fun j hj => absurd hj (Nat.not_lt_zero _)) (by simp [LeL, Le1]) (fun _ _ h => h) ?_
      rintro j - n2 - hj hn2 hi
      simp (maxSteps := 2000000) -implicitDefEqProofs (disch := omega) only [xsW, xsC, xsD, xsE, fillA, reduceCtorEq, Nat.reduceAdd, Nat.reduceSub, Nat.reduceLeDiff, Nat.reduceMul, Int.reduceLT, Int.reduceLE, Int.reduceEq, Int.reduceNe, Int.reduceAdd, Int.reduceSub, Int.reduceMul, Int.reduceNeg, Int.reduceToNat]
      (refine cd_dec (fun h5 => ?_) (fun h5 => ?_) <;> simp (maxSteps := 2000000) -implicitDefEqProofs (disch := omega) only [xsW, xsC, xsD, xsE, fillA, reduceCtorEq, Nat.reduceAdd, Nat.reduceSub, Nat.reduceLeDiff, Nat.reduceMul, Int.reduceLT, Int.reduceLE, Int.reduceEq, Int.reduceNe, Int.reduceAdd, Int.reduceSub, Int.reduceMul, Int.reduceNeg, Int.reduceToNat,  h5])
      · simp (maxSteps := 2000000) -implicitDefEqProofs (disch := omega) only [xsW, xsC, xsD, xsE, fillA, reduceCtorEq, Nat.reduceAdd, Nat.reduceSub, Nat.reduceLeDiff, Nat.reduceMul, Int.reduceLT, Int.reduceLE, Int.reduceEq, Int.reduceNe, Int.reduceAdd, Int.reduceSub, Int.reduceMul, Int.reduceNeg, Int.reduceToNat,  s.ia, s.ld, hr.ia, hr.ld]
        refine q_use (spec_l01In _ _ _ _ _) fun n3 hn3 => ?_
        simp (maxSteps := 2000000) -implicitDefEqProofs (disch := omega) only [xsW, xsC, xsD, xsE, fillA, reduceCtorEq, Nat.reduceAdd, Nat.reduceSub, Nat.reduceLeDiff, Nat.reduceMul, Int.reduceLT, Int.reduceLE, Int.reduceEq, Int.reduceNe, Int.reduceAdd, Int.reduceSub, Int.reduceMul, Int.reduceNeg, Int.reduceToNat]
        (refine cd_dec (fun h6 => ?_) (fun h6 => ?_) <;> simp (maxSteps := 2000000) -implicitDefEqProofs (disch := omega) only [xsW, xsC, xsD, xsE, fillA, reduceCtorEq, Nat.reduceAdd, Nat.reduceSub, Nat.reduceLeDiff, Nat.reduceMul, Int.reduceLT, Int.reduceLE, Int.reduceEq, Int.reduceNe, Int.reduceAdd, Int.reduceSub, Int.reduceMul, Int.reduceNeg, Int.reduceToNat,  h6])
        · refine isMat_f fun hx => ?_
          have hw := (hx.2.2 k hk').2
          rw [within_iff] at hw
          have := hw j (by omega)
          omega
        · exact ⟨(), fun i hi' => (Nat.lt_succ_iff_lt_or_eq.1 hi').elim (hi i) (fun e => by rw [e]; omega), by omega, by omega, (by simp [LeL, Le1])⟩
      · refine ⟨(), fun i hi' => (Nat.lt_succ_iff_lt_or_eq.1 hi').elim (he i) (fun e => ?_), by omega, by omega, (by simp [LeL, Le1])⟩
        rw [e, within_iff]
        exact ⟨by omega, fun i hi' => hi i (by omega)⟩
  · symm; rw [isMat_iff]
    exact ⟨by omega, by omega, fun j hj => he j (by omega)⟩
theorem laws_eqInt64SS {w w' : Bool} {lo hi lo' hi' : Nat} {h : AH} {v v' : AV} {vs vs' : List AV} {ll ll' : List (List Int)} (s : Rows w lo hi h v vs ll) (s' : Rows w' lo' hi' h v' vs' ll') (hl : ll.length ≤ 1048576) (hll : ∀ l ∈ ll, l.length ≤ 1048576) (n : Nat) :
    Q Tryd.prog 64 [v, v'] h n (.bool (decide (ll = ll'))) := by
  refine q_intro Tryd.func64 k_laws_eqInt64SS ?_
  simp (maxSteps := 2000000) -implicitDefEqProofs (disch := omega) only [c_laws_eqInt64SS, s.ln, s'.ln, xsW, xsC, xsD, xsE, fillA, reduceCtorEq, Nat.reduceAdd, Nat.reduceSub, Nat.reduceLeDiff, Nat.reduceMul, Int.reduceLT, Int.reduceLE, Int.reduceEq, Int.reduceNe, Int.reduceAdd, Int.reduceSub, Int.reduceMul, Int.reduceNeg, Int.reduceToNat]
  (refine cd_dec (fun h1 => ?_) (fun h1 => ?_) <;> simp (maxSteps := 2000000) -implicitDefEqProofs (disch := omega) only [xsW, xsC, xsD, xsE, fillA, reduceCtorEq, Nat.reduceAdd, Nat.reduceSub, Nat.reduceLeDiff, Nat.reduceMul, Int.reduceLT, Int.reduceLE, Int.reduceEq, Int.reduceNe, Int.reduceAdd, Int.reduceSub, Int.reduceMul, Int.reduceNeg, Int.reduceToNat,  h1])
  · rw [decide_eq_false fun e => h1 (by rw [e])]
  refine loop_for ll.length 0 (fun k (_ : Unit) => [v, v', .any, .any, .bool false, .int .i64 k, .any, .any, .any, .any, .any, .any, .any, .any, .any, .any, .any, .any, .any, .any, .any, .any, .any, .any, .any, .any, .any]) (fun k _ => h)
    (fun k _ _ => ∀ j, j < k → ll.getD j [] = ll'.getD j []) () (Nat.zero_le _) (fun j hj => absurd hj (Nat.not_lt_zero _)) (by simp [LeL, Le1]) (fun _ _ h => h) ?_
  rintro k - n1 - hk hn1 he
  simp (maxSteps := 2000000) -implicitDefEqProofs (disch := omega) only [xsW, xsC, xsD, xsE, fillA, reduceCtorEq, Nat.reduceAdd, Nat.reduceSub, Nat.reduceLeDiff, Nat.reduceMul, Int.reduceLT, Int.reduceLE, Int.reduceEq, Int.reduceNe, Int.reduceAdd, Int.reduceSub, Int.reduceMul, Int.reduceNeg, Int.reduceToNat,  s.ln, s'.ln]
  (refine cd_dec (fun h2 => ?_) (fun h2 => ?_) <;> simp (maxSteps := 2000000) -implicitDefEqProofs (disch := omega) only [xsW, xsC, xsD, xsE, fillA, reduceCtorEq, Nat.reduceAdd, Nat.reduceSub, Nat.reduceLeDiff, Nat.reduceMul, Int.reduceLT, Int.reduceLE, Int.reduceEq, Int.reduceNe, Int.reduceAdd, Int.reduceSub, Int.reduceMul, Int.reduceNeg, Int.reduceToNat,  h2])
  · have hk' : k < ll.length := by omega
    have hk2 : k < ll'.length := by omega
    simp (maxSteps := 2000000) -implicitDefEqProofs (disch := omega) only [xsW, xsC, xsD, xsE, fillA, reduceCtorEq, Nat.reduceAdd, Nat.reduceSub, Nat.reduceLeDiff, Nat.reduceMul, Int.reduceLT, Int.reduceLE, Int.reduceEq, Int.reduceNe, Int.reduceAdd, Int.reduceSub, Int.reduceMul, Int.reduceNeg, Int.reduceToNat,  s.ia, s.ld, s'.ia, s'.ld]
    refine q_use (laws_eqInt64S (s.row k hk') (s'.row k hk2) (hll _ (getD_mem hk')) _) fun n2 hn2 => ?_
    simp (maxSteps := 2000000) -implicitDefEqProofs (disch := omega) only [xsW, xsC, xsD, xsE, fillA, reduceCtorEq, Nat.reduceAdd, Nat.reduceSub, Nat.reduceLeDiff, Nat.reduceMul, Int.reduceLT, Int.reduceLE, Int.reduceEq, Int.reduceNe, Int.reduceAdd, Int.reduceSub, Int.reduceMul, Int.reduceNeg, Int.reduceToNat]
    (refine cd_dec (fun h3 => ?_) (fun h3 => ?_) <;> simp (maxSteps := 2000000) -implicitDefEqProofs (disch := omega) only [xsW, xsC, xsD, xsE, fillA, reduceCtorEq, Nat.reduceAdd, Nat.reduceSub, Nat.reduceLeDiff, Nat.reduceMul, Int.reduceLT, Int.reduceLE, Int.reduceEq, Int.reduceNe, Int.reduceAdd, Int.reduceSub, Int.reduceMul, Int.reduceNeg, Int.reduceToNat,  h3])
    · rw [decide_eq_false fun e => h3 (by rw [e])]
    · exact ⟨(), fun j hj => (Nat.lt_succ_iff_lt_or_eq.1 hj).elim (he j) (fun e => by rw [e]; exact Decidable.not_not.1 h3), by omega, by omega, (by simp [LeL, Le1])⟩
  · rw [decide_eq_true (getD_ext (d := []) (by omega) fun j hj => he j (by omega))]


def c_laws_eqProblem : F := ⟨(.seq (.reg false [⟨some 2, .box 50 (.t 0), none⟩, ⟨some 3, .box 50 (.t 1), none⟩, ⟨some 4, .mv (.c (.bool false)), none⟩]) (.seq (.seq (.reg false [⟨some 5, .fa 0 (.t 2), none⟩, ⟨some 6, .ld1 (.t 5), none⟩, ⟨some 7, .fa 0 (.t 3), none⟩, ⟨some 8, .ld1 (.t 7), none⟩, ⟨some 9, .call (.f 64) [(.t 6), (.t 8)], none⟩, ⟨some 10, .un .not (.t 9), none⟩]) (.cond (.t 10) (.seq (.reg false [⟨some 4, .mv (.c (.bool false)), none⟩]) .ret) .skip)) (.seq (.seq (.reg false [⟨some 11, .fa 1 (.t 2), none⟩, ⟨some 12, .ld1 (.t 11), none⟩, ⟨some 13, .fa 1 (.t 3), none⟩, ⟨some 14, .ld1 (.t 13), none⟩, ⟨some 15, .call (.f 65) [(.t 12), (.t 14)], none⟩, ⟨some 16, .un .not (.t 15), none⟩]) (.cond (.t 16) (.seq (.reg false [⟨some 4, .mv (.c (.bool false)), none⟩]) .ret) .skip)) (.seq (.reg false [⟨some 4, .mv (.c (.bool true)), none⟩]) .ret)))), 17, [(.t 4)]⟩
theorem k_laws_eqProblem : compF Tryd.prog Tryd.f30 = some c_laws_eqProblem := by kernel_rfl
def c_spec_l01Is : F := ⟨(.seq (.reg false [⟨some 1, .box 50 (.t 0), none⟩, ⟨some 2, .mv (.c (.bool false)), none⟩]) (.seq (.seq (.reg false [⟨some 4, .fa 0 (.t 1), none⟩, ⟨some 5, .ld1 (.t 4), none⟩, ⟨some 6, .call (.f 81) [(.t 5)], none⟩, ⟨some 7, .un .not (.t 6), none⟩, ⟨some 8, .mv (.t 7), none⟩, ⟨some 9, .fa 1 (.t 1), some (8, false)⟩, ⟨some 10, .ld1 (.t 9), some (8, false)⟩, ⟨some 11, .len (.t 10), some (8, false)⟩, ⟨some 12, .fa 0 (.t 1), some (8, false)⟩, ⟨some 13, .ld1 (.t 12), some (8, false)⟩, ⟨some 14, .len (.t 13), some (8, false)⟩, ⟨some 15, .bin .neq (.t 11) (.t 14), some (8, false)⟩, ⟨some 16, .pick (.t 8) (.c (.bool true)) (.t 15), none⟩]) (.cond (.t 16) (.seq (.reg false [⟨some 2, .mv (.c (.bool false)), none⟩]) .ret) .skip)) (.seq (.seq (.reg false [⟨some 3, .mv (.c (.int .i64 0)), none⟩]) (.block 0 (.loop (.seq (.seq (.reg false [⟨some 17, .mv (.t 3), none⟩, ⟨some 18, .fa 1 (.t 1), none⟩, ⟨some 19, .ld1 (.t 18), none⟩, ⟨some 20, .len (.t 19), none⟩, ⟨some 21, .bin .lss (.t 17) (.t 20), none⟩]) (.cond (.t 21) .skip (.exit 0))) (.seq (.block 1 (.seq (.reg false [⟨some 24, .fa 1 (.t 1), none⟩, ⟨some 25, .ld1 (.t 24), none⟩, ⟨some 26, .mv (.t 3), none⟩, ⟨some 27, .ia 1 (.t 25) (.t 26), none⟩, ⟨some 28, .ld1 (.t 27), none⟩, ⟨some 29, .call (.f 54) [(.t 28), (.c (.int .i64 (-100))), (.c (.int .i64 100))], none⟩, ⟨some 30, .un .not (.t 29), none⟩]) (.cond (.t 30) (.seq (.reg false [⟨some 2, .mv (.c (.bool false)), none⟩]) .ret) .skip))) (.reg false [⟨some 22, .mv (.t 3), none⟩, ⟨some 23, .bin .add (.t 22) (.c (.int .i64 1)), none⟩, ⟨some 3, .mv (.t 23), none⟩])))))) (.seq (.reg false [⟨some 2, .mv (.c (.bool true)), none⟩]) .ret)))), 31, [(.t 2)]⟩
theorem k_spec_l01Is : compF Tryd.prog Tryd.f57 = some c_spec_l01Is := by kernel_rfl
def c_impl_IsProblem : F := ⟨(.seq (.reg false [⟨some 1, .box 50 (.t 0), none⟩, ⟨some 2, .mv (.c (.bool false)), none⟩]) (.seq (.reg false [⟨some 3, .fa 0 (.t 1), none⟩, ⟨some 4, .ld1 (.t 3), none⟩, ⟨some 5, .call (.f 83) [(.t 4)], none⟩, ⟨some 6, .mv (.t 5), none⟩, ⟨some 7, .fa 1 (.t 1), some (6, true)⟩, ⟨some 8, .ld1 (.t 7), some (6, true)⟩, ⟨some 9, .len (.t 8), some (6, true)⟩, ⟨some 10, .fa 0 (.t 1), some (6, true)⟩, ⟨some 11, .ld1 (.t 10), some (6, true)⟩, ⟨some 12, .len (.t 11), some (6, true)⟩, ⟨some 13, .bin .eql (.t 9) (.t 12), some (6, true)⟩, ⟨some 14, .pick (.t 6) (.t 13) (.c (.bool false)), none⟩, ⟨some 15, .mv (.t 14), none⟩, ⟨some 16, .fa 1 (.t 1), some (15, true)⟩, ⟨some 17, .ld1 (.t 16), some (15, true)⟩, ⟨some 18, .call (.f 84) [(.t 17), (.c (.int .i64 100))], some (15, true)⟩, ⟨some 19, .pick (.t 15) (.t 18) (.c (.bool false)), none⟩, ⟨some 2, .mv (.t 19), none⟩]) .ret)), 20, [(.t 2)]⟩
theorem k_impl_IsProblem : compF Tryd.prog Tryd.f61 = some c_impl_IsProblem := by kernel_rfl

structure Prob (w : Bool) (lo hi : Nat) (h : AH) (v u : AV) (vs : List AV) (ll : List (List Int)) (l : List Int) : Prop where
  M : Rows w lo hi h v vs ll
  Q : Ints w lo hi h u l
  apart : w = true → isSl u = true → (isSl v = true → bid u ≠ bid v) ∧ ∀ k, k < ll.length → isSl (vs.getD k .any) = true → bid (vs.getD k .any) ≠ bid u
theorem Prob.keep {w : Bool} {lo hi : Nat} {h h' : AH} {v u : AV} {vs : List AV} {ll : List (List Int)} {l : List Int} (s : Prob w lo hi h v u vs ll l) (k : ∀ i, lo ≤ i → i < hi → h' i = h i) : Prob w lo hi h' v u vs ll l := ⟨s.M.keep k, s.Q.keep k, s.apart⟩
theorem Prob.wide {w : Bool} {lo hi lo' hi' : Nat} {h : AH} {v u : AV} {vs : List AV} {ll : List (List Int)} {l : List Int} (s : Prob w lo hi h v u vs ll l) (h1 : lo' ≤ lo) (h2 : hi ≤ hi') : Prob w lo' hi' h v u vs ll l := ⟨s.M.wide h1 h2, s.Q.wide h1 h2, s.apart⟩
def isProb (ll : List (List Int)) (l : List Int) : Bool := isMat ll && decide (l.length = ll.length) && within 100 l

section
variable {w : Bool} {lo hi : Nat} {h : AH} {v u : AV} {vs : List AV} {ll : List (List Int)} {l : List Int}
theorem laws_eqProblem {w' : Bool} {lo' hi' : Nat} {v' u' : AV} {vs' : List AV} {ll' : List (List Int)} {l' : List Int} (s : Prob w lo hi h v u vs ll l) (s' : Prob w' lo' hi' h v' u' vs' ll' l') (hl : ll.length ≤ 1048576) (hll : ∀ l ∈ ll, l.length ≤ 1048576) (hq : l.length ≤ 1048576) (n : Nat) (hn : hi ≤ n) (hn' : hi' ≤ n) :
    Q Tryd.prog 30 [.agg [v, u], .agg [v', u']] h n (.bool (decide (ll = ll' ∧ l = l'))) := by
  refine q_intro Tryd.func30 k_laws_eqProblem ?_
  have o1 := one_any (Sl.any s.M.out)
  have o2 := one_any (Sl.any s.Q)
  have o3 := one_any (Sl.any s'.M.out)
  have o4 := one_any (Sl.any s'.Q)
  simp (maxSteps := 2000000) -implicitDefEqProofs (disch := omega) only [c_laws_eqProblem, o1, o2, o3, o4, xsW, xsC, xsD, xsE, fillA, reduceCtorEq, Nat.reduceAdd, Nat.reduceSub, Nat.reduceLeDiff, Nat.reduceMul, Int.reduceLT, Int.reduceLE, Int.reduceEq, Int.reduceNe, Int.reduceAdd, Int.reduceSub, Int.reduceMul, Int.reduceNeg, Int.reduceToNat]
  refine q_use (laws_eqInt64SS (s.M.keep (fun i _ hi9 => by simp (disch := omega) only [upd_other])) (s'.M.keep (fun i _ hi9 => by simp (disch := omega) only [upd_other])) hl hll _) fun n1 hn1 => ?_
  simp (maxSteps := 2000000) -implicitDefEqProofs (disch := omega) only [xsW, xsC, xsD, xsE, fillA, reduceCtorEq, Nat.reduceAdd, Nat.reduceSub, Nat.reduceLeDiff, Nat.reduceMul, Int.reduceLT, Int.reduceLE, Int.reduceEq, Int.reduceNe, Int.reduceAdd, Int.reduceSub, Int.reduceMul, Int.reduceNeg, Int.reduceToNat]
  (refine cd_dec (fun h1 => ?_) (fun h1 => ?_) <;> simp (maxSteps := 2000000) -implicitDefEqProofs (disch := omega) only [xsW, xsC, xsD, xsE, fillA, reduceCtorEq, Nat.reduceAdd, Nat.reduceSub, Nat.reduceLeDiff, Nat.reduceMul, Int.reduceLT, Int.reduceLE, Int.reduceEq, Int.reduceNe, Int.reduceAdd, Int.reduceSub, Int.reduceMul, Int.reduceNeg, Int.reduceToNat,  h1])
  refine q_use (laws_eqInt64S (s.Q.keep (fun i _ hi9 => by simp (disch := omega) only [upd_other])) (s'.Q.keep (fun i _ hi9 => by simp (disch := omega) only [upd_other])) hq _) fun n2 hn2 => ?_
  simp (maxSteps := 2000000) -implicitDefEqProofs (disch := omega) only [xsW, xsC, xsD, xsE, fillA, reduceCtorEq, Nat.reduceAdd, Nat.reduceSub, Nat.reduceLeDiff, Nat.reduceMul, Int.reduceLT, Int.reduceLE, Int.reduceEq, Int.reduceNe, Int.reduceAdd, Int.reduceSub, Int.reduceMul, Int.reduceNeg, Int.reduceToNat]
  (refine cd_dec (fun h2 => ?_) (fun h2 => ?_) <;> simp (maxSteps := 2000000) -implicitDefEqProofs (disch := omega) only [xsW, xsC, xsD, xsE, fillA, reduceCtorEq, Nat.reduceAdd, Nat.reduceSub, Nat.reduceLeDiff, Nat.reduceMul, Int.reduceLT, Int.reduceLE, Int.reduceEq, Int.reduceNe, Int.reduceAdd, Int.reduceSub, Int.reduceMul, Int.reduceNeg, Int.reduceToNat,  h2])
  rw [decide_eq_true ⟨Decidable.not_not.1 h1, Decidable.not_not.1 h2⟩]
theorem impl_IsProblem (s : Prob w lo hi h v u vs ll l) (hl : ll.length ≤ 1048576) (hll : ∀ l ∈ ll, l.length ≤ 1048576) (hq : l.length ≤ 1048576) (n : Nat) (hn : hi ≤ n) :
    Q Tryd.prog 61 [.agg [v, u]] h n (.bool (isProb ll l)) := by
  refine q_intro Tryd.func61 k_impl_IsProblem ?_
  have o1 := one_any (Sl.any s.M.out)
  have o2 := one_any (Sl.any s.Q)
  simp (maxSteps := 2000000) -implicitDefEqProofs (disch := omega) only [c_impl_IsProblem, o1, o2, xsW, xsC, xsD, xsE, fillA, reduceCtorEq, Nat.reduceAdd, Nat.reduceSub, Nat.reduceLeDiff, Nat.reduceMul, Int.reduceLT, Int.reduceLE, Int.reduceEq, Int.reduceNe, Int.reduceAdd, Int.reduceSub, Int.reduceMul, Int.reduceNeg, Int.reduceToNat]
  refine q_use (impl_IsMatrix (s.M.keep (fun i _ hi9 => by simp (disch := omega) only [upd_other])) hl hll _ (by omega)) fun n1 hn1 => ?_
  simp only [isProb]
  cases hm : isMat ll
  · simp (maxSteps := 2000000) -implicitDefEqProofs (disch := omega) only [xsW, xsC, xsD, xsE, fillA, reduceCtorEq, Nat.reduceAdd, Nat.reduceSub, Nat.reduceLeDiff, Nat.reduceMul, Int.reduceLT, Int.reduceLE, Int.reduceEq, Int.reduceNe, Int.reduceAdd, Int.reduceSub, Int.reduceMul, Int.reduceNeg, Int.reduceToNat]
  simp (maxSteps := 2000000) -implicitDefEqProofs (disch := omega) only [xsW, xsC, xsD, xsE, fillA, reduceCtorEq, Nat.reduceAdd, Nat.reduceSub, Nat.reduceLeDiff, Nat.reduceMul, Int.reduceLT, Int.reduceLE, Int.reduceEq, Int.reduceNe, Int.reduceAdd, Int.reduceSub, Int.reduceMul, Int.reduceNeg, Int.reduceToNat,  s.M.ln, s.Q.ln]
  (refine gd_dec (fun h1 => ?_) (fun h1 => ?_) <;> simp (maxSteps := 2000000) -implicitDefEqProofs (disch := omega) only [xsW, xsC, xsD, xsE, fillA, reduceCtorEq, Nat.reduceAdd, Nat.reduceSub, Nat.reduceLeDiff, Nat.reduceMul, Int.reduceLT, Int.reduceLE, Int.reduceEq, Int.reduceNe, Int.reduceAdd, Int.reduceSub, Int.reduceMul, Int.reduceNeg, Int.reduceToNat,  h1])
  · refine q_use (impl_allUpTo (s.Q.keep (fun i _ hi9 => by simp (disch := omega) only [upd_other])) (by omega) _ (by unfold in64; omega) _ (by omega)) fun n2 hn2 => ?_
    simp (maxSteps := 2000000) -implicitDefEqProofs (disch := omega) only [xsW, xsC, xsD, xsE, fillA, reduceCtorEq, Nat.reduceAdd, Nat.reduceSub, Nat.reduceLeDiff, Nat.reduceMul, Int.reduceLT, Int.reduceLE, Int.reduceEq, Int.reduceNe, Int.reduceAdd, Int.reduceSub, Int.reduceMul, Int.reduceNeg, Int.reduceToNat]
    rw [decide_eq_true (show l.length = ll.length by omega)]
    rfl
  · rw [decide_eq_false (show ¬ l.length = ll.length by omega)]
    rfl
theorem spec_l01Is (s : Prob w lo hi h v u vs ll l) (hl : ll.length ≤ 1048576) (hll : ∀ l ∈ ll, l.length ≤ 1048576) (hq : l.length ≤ 1048576) (n : Nat) (hn : hi ≤ n) :
    Q Tryd.prog 57 [.agg [v, u]] h n (.bool (isProb ll l)) := by
  refine q_intro Tryd.func57 k_spec_l01Is ?_
  have o1 := one_any (Sl.any s.M.out)
  have o2 := one_any (Sl.any s.Q)
  simp (maxSteps := 2000000) -implicitDefEqProofs (disch := omega) only [c_spec_l01Is, o1, o2, xsW, xsC, xsD, xsE, fillA, reduceCtorEq, Nat.reduceAdd, Nat.reduceSub, Nat.reduceLeDiff, Nat.reduceMul, Int.reduceLT, Int.reduceLE, Int.reduceEq, Int.reduceNe, Int.reduceAdd, Int.reduceSub, Int.reduceMul, Int.reduceNeg, Int.reduceToNat]
  refine q_use (spec_l01Matrix (s.M.keep (fun i _ hi9 => by simp (disch := omega) only [upd_other])) hl _) fun n1 hn1 => ?_
  simp only [isProb]
  cases hm : isMat ll
  · simp (maxSteps := 2000000) -implicitDefEqProofs (disch := omega) only [xsW, xsC, xsD, xsE, fillA, reduceCtorEq, Nat.reduceAdd, Nat.reduceSub, Nat.reduceLeDiff, Nat.reduceMul, Int.reduceLT, Int.reduceLE, Int.reduceEq, Int.reduceNe, Int.reduceAdd, Int.reduceSub, Int.reduceMul, Int.reduceNeg, Int.reduceToNat]
  simp (maxSteps := 2000000) -implicitDefEqProofs (disch := omega) only [xsW, xsC, xsD, xsE, fillA, reduceCtorEq, Nat.reduceAdd, Nat.reduceSub, Nat.reduceLeDiff, Nat.reduceMul, Int.reduceLT, Int.reduceLE, Int.reduceEq, Int.reduceNe, Int.reduceAdd, Int.reduceSub, Int.reduceMul, Int.reduceNeg, Int.reduceToNat,  s.M.ln, s.Q.ln]
  (refine cd_dec (fun h1 => ?_) (fun h1 => ?_) <;> simp (maxSteps := 2000000) -implicitDefEqProofs (disch := omega) only [xsW, xsC, xsD, xsE, fillA, reduceCtorEq, Nat.reduceAdd, Nat.reduceSub, Nat.reduceLeDiff, Nat.reduceMul, Int.reduceLT, Int.reduceLE, Int.reduceEq, Int.reduceNe, Int.reduceAdd, Int.reduceSub, Int.reduceMul, Int.reduceNeg, Int.reduceToNat,  h1])
  · rw [decide_eq_false (show ¬ l.length = ll.length by omega)]; rfl
  rw [decide_eq_true (show l.length = ll.length by omega)]
  refine loop_for l.length 0 (fun k (_ : Unit) => [.any, .ptr n 0, .bool false, .int .i64 k, .any, .any, .any, .any, .any, .any, .any, .any, .any, .any, .any, .any, .any, .any, .any, .any, .any, .any, .any, .any, .any, .any, .any, .any, .any, .any, .any]) (fun k _ => upd h n (some ⟨50, [v, u], true, 0⟩))
    (fun j _ _ => ∀ i, i < j → -100 ≤ l.getD i 0 ∧ l.getD i 0 ≤ 100) () (Nat.zero_le _) (fun j hj => absurd hj (Nat.not_lt_zero _)) (by simp [LeL, Le1]) (fun _ _ h => h) ?_
  rintro k - n2 - hk hn2 he
  simp (maxSteps := 2000000) -implicitDefEqProofs (disch := omega) only [xsW, xsC, xsD, xsE, fillA, reduceCtorEq, Nat.reduceAdd, Nat.reduceSub, Nat.reduceLeDiff, Nat.reduceMul, Int.reduceLT, Int.reduceLE, Int.reduceEq, Int.reduceNe, Int.reduceAdd, Int.reduceSub, Int.reduceMul, Int.reduceNeg, Int.reduceToNat,  s.Q.ln]
  (refine cd_dec (fun h2 => ?_) (fun h2 => ?_) <;> simp (maxSteps := 2000000) -implicitDefEqProofs (disch := omega) only [xsW, xsC, xsD, xsE, fillA, reduceCtorEq, Nat.reduceAdd, Nat.reduceSub, Nat.reduceLeDiff, Nat.reduceMul, Int.reduceLT, Int.reduceLE, Int.reduceEq, Int.reduceNe, Int.reduceAdd, Int.reduceSub, Int.reduceMul, Int.reduceNeg, Int.reduceToNat,  h2])
  · have hk' : k < l.length := by omega
    have hb := Sl.below s.Q (by rw [s.Q.slen]; omega)
    simp (maxSteps := 2000000) -implicitDefEqProofs (disch := omega) only [xsW, xsC, xsD, xsE, fillA, reduceCtorEq, Nat.reduceAdd, Nat.reduceSub, Nat.reduceLeDiff, Nat.reduceMul, Int.reduceLT, Int.reduceLE, Int.reduceEq, Int.reduceNe, Int.reduceAdd, Int.reduceSub, Int.reduceMul, Int.reduceNeg, Int.reduceToNat,  s.Q.ia, s.Q.ld]
    refine q_use (spec_l01In _ _ _ _ _) fun n3 hn3 => ?_
    simp (maxSteps := 2000000) -implicitDefEqProofs (disch := omega) only [xsW, xsC, xsD, xsE, fillA, reduceCtorEq, Nat.reduceAdd, Nat.reduceSub, Nat.reduceLeDiff, Nat.reduceMul, Int.reduceLT, Int.reduceLE, Int.reduceEq, Int.reduceNe, Int.reduceAdd, Int.reduceSub, Int.reduceMul, Int.reduceNeg, Int.reduceToNat]
    (refine cd_dec (fun h3 => ?_) (fun h3 => ?_) <;> simp (maxSteps := 2000000) -implicitDefEqProofs (disch := omega) only [xsW, xsC, xsD, xsE, fillA, reduceCtorEq, Nat.reduceAdd, Nat.reduceSub, Nat.reduceLeDiff, Nat.reduceMul, Int.reduceLT, Int.reduceLE, Int.reduceEq, Int.reduceNe, Int.reduceAdd, Int.reduceSub, Int.reduceMul, Int.reduceNeg, Int.reduceToNat,  h3])
    · symm
      rw [Bool.eq_false_iff]
      intro hx
      rw [within_iff] at hx
      have := hx k hk'
      omega
    · exact ⟨(), fun i hi' => (Nat.lt_succ_iff_lt_or_eq.1 hi').elim (he i) (fun e => by rw [e]; omega), by omega, by omega, (by simp [LeL, Le1])⟩
  · symm
    rw [within_iff]
    exact fun i hi' => he i (by omega)
end
def c_laws_markInt64S : F := ⟨(.seq (.reg false [⟨some 4, .mv (.c (.int .i64 0)), none⟩]) (.seq (.seq (.reg false [⟨some 5, .mv (.c (.int .i64 0)), none⟩]) (.block 0 (.loop (.seq (.seq (.reg false [⟨some 6, .mv (.t 5), none⟩, ⟨some 7, .mv (.t 0), none⟩, ⟨some 8, .len (.t 7), none⟩, ⟨some 9, .bin .lss (.t 6) (.t 8), none⟩]) (.cond (.t 9) .skip (.exit 0))) (.seq (.block 1 (.seq (.reg false [⟨some 12, .mv (.t 0), none⟩, ⟨some 13, .mv (.t 5), none⟩, ⟨some 14, .mv (.t 1), none⟩, ⟨some 15, .ia 1 (.t 12) (.t 13), none⟩, ⟨none, .st 1 (.t 15) (.t 14), none⟩]) (.reg false [⟨some 16, .mv (.t 1), none⟩, ⟨some 17, .bin .add (.t 16) (.c (.int .i64 1)), none⟩, ⟨some 1, .mv (.t 17), none⟩]))) (.reg false [⟨some 10, .mv (.t 5), none⟩, ⟨some 11, .bin .add (.t 10) (.c (.int .i64 1)), none⟩, ⟨some 5, .mv (.t 11), none⟩])))))) (.seq (.reg false [⟨some 18, .mv (.t 1), none⟩, ⟨some 4, .mv (.t 18), none⟩]) .ret))), 19, [(.t 4)]⟩
theorem k_laws_markInt64S : compF Tryd.prog Tryd.f71 = some c_laws_markInt64S := by kernel_rfl
def c_laws_heldInt64S : F := ⟨(.seq (.reg false [⟨some 4, .mv (.c (.int .i64 0)), none⟩]) (.seq (.seq (.reg false [⟨some 5, .mv (.c (.int .i64 0)), none⟩]) (.block 0 (.loop (.seq (.seq (.reg false [⟨some 6, .mv (.t 5), none⟩, ⟨some 7, .mv (.t 0), none⟩, ⟨some 8, .len (.t 7), none⟩, ⟨some 9, .bin .lss (.t 6) (.t 8), none⟩]) (.cond (.t 9) .skip (.exit 0))) (.seq (.block 1 (.seq (.seq (.reg false [⟨some 12, .mv (.t 0), none⟩, ⟨some 13, .mv (.t 5), none⟩, ⟨some 14, .ia 1 (.t 12) (.t 13), none⟩, ⟨some 15, .ld1 (.t 14), none⟩, ⟨some 16, .mv (.t 1), none⟩, ⟨some 17, .bin .neq (.t 15) (.t 16), none⟩]) (.cond (.t 17) (.seq (.reg false [⟨some 4, .mv (.c (.int .i64 (-1))), none⟩]) .ret) .skip)) (.reg false [⟨some 18, .mv (.t 1), none⟩, ⟨some 19, .bin .add (.t 18) (.c (.int .i64 1)), none⟩, ⟨some 1, .mv (.t 19), none⟩]))) (.reg false [⟨some 10, .mv (.t 5), none⟩, ⟨some 11, .bin .add (.t 10) (.c (.int .i64 1)), none⟩, ⟨some 5, .mv (.t 11), none⟩])))))) (.seq (.reg false [⟨some 20, .mv (.t 1), none⟩, ⟨some 4, .mv (.t 20), none⟩]) .ret))), 21, [(.t 4)]⟩
theorem k_laws_heldInt64S : compF Tryd.prog Tryd.f73 = some c_laws_heldInt64S := by kernel_rfl
def c_laws_markInt64SS : F := ⟨(.seq (.reg false [⟨some 4, .mv (.c (.int .i64 0)), none⟩]) (.seq (.seq (.reg false [⟨some 5, .mv (.c (.int .i64 0)), none⟩]) (.block 0 (.loop (.seq (.seq (.reg false [⟨some 6, .mv (.t 5), none⟩, ⟨some 7, .mv (.t 0), none⟩, ⟨some 8, .len (.t 7), none⟩, ⟨some 9, .bin .lss (.t 6) (.t 8), none⟩]) (.cond (.t 9) .skip (.exit 0))) (.seq (.block 1 (.reg false [⟨some 12, .mv (.t 0), none⟩, ⟨some 13, .mv (.t 5), none⟩, ⟨some 14, .ia 1 (.t 12) (.t 13), none⟩, ⟨some 15, .ld1 (.t 14), none⟩, ⟨some 16, .mv (.t 1), none⟩, ⟨some 17, .call (.f 71) [(.t 15), (.t 16)], none⟩, ⟨some 1, .mv (.t 17), none⟩])) (.reg false [⟨some 10, .mv (.t 5), none⟩, ⟨some 11, .bin .add (.t 10) (.c (.int .i64 1)), none⟩, ⟨some 5, .mv (.t 11), none⟩])))))) (.seq (.reg false [⟨some 18, .mv (.t 1), none⟩, ⟨some 4, .mv (.t 18), none⟩]) .ret))), 19, [(.t 4)]⟩
theorem k_laws_markInt64SS : compF Tryd.prog Tryd.f70 = some c_laws_markInt64SS := by kernel_rfl
def c_laws_heldInt64SS : F := ⟨(.seq (.reg false [⟨some 4, .mv (.c (.int .i64 0)), none⟩]) (.seq (.seq (.reg false [⟨some 5, .mv (.c (.int .i64 0)), none⟩]) (.block 0 (.loop (.seq (.seq (.reg false [⟨some 6, .mv (.t 5), none⟩, ⟨some 7, .mv (.t 0), none⟩, ⟨some 8, .len (.t 7), none⟩, ⟨some 9, .bin .lss (.t 6) (.t 8), none⟩]) (.cond (.t 9) .skip (.exit 0))) (.seq (.block 1 (.seq (.reg false [⟨some 12, .mv (.t 0), none⟩, ⟨some 13, .mv (.t 5), none⟩, ⟨some 14, .ia 1 (.t 12) (.t 13), none⟩, ⟨some 15, .ld1 (.t 14), none⟩, ⟨some 16, .mv (.t 1), none⟩, ⟨some 17, .call (.f 73) [(.t 15), (.t 16)], none⟩, ⟨some 1, .mv (.t 17), none⟩]) (.seq (.reg false [⟨some 18, .mv (.t 1), none⟩, ⟨some 19, .bin .lss (.t 18) (.c (.int .i64 0)), none⟩]) (.cond (.t 19) (.seq (.reg false [⟨some 4, .mv (.c (.int .i64 (-1))), none⟩]) .ret) .skip)))) (.reg false [⟨some 10, .mv (.t 5), none⟩, ⟨some 11, .bin .add (.t 10) (.c (.int .i64 1)), none⟩, ⟨some 5, .mv (.t 11), none⟩])))))) (.seq (.reg false [⟨some 20, .mv (.t 1), none⟩, ⟨some 4, .mv (.t 20), none⟩]) .ret))), 21, [(.t 4)]⟩
theorem k_laws_heldInt64SS : compF Tryd.prog Tryd.f72 = some c_laws_heldInt64SS := by kernel_rfl

theorem laws_markInt64S {lo hi : Nat} {h : AH} {v : AV} {l : List Int} (s : Ints true lo hi h v l) (k : Int) (h0 : 0 ≤ k) (hb : k + l.length ≤ 4611686018427387904) (n : Nat) (hn : hi ≤ n) :
    MQ Tryd.prog 71 [v, .int .i64 k] h n lo hi fun x h' n' => x = .int .i64 (k + l.length) ∧ Ints true lo hi h' v (markL k l.length) ∧ (∀ i, i ≠ bid v → h' i = h i) ∧ (l = [] → h' = h) := by
  refine mq_intro Tryd.func71 k_laws_markInt64S ?_
  simp (maxSteps := 2000000) -implicitDefEqProofs (disch := omega) only [c_laws_markInt64S, xsW, xsC, xsD, xsE, fillA, reduceCtorEq, Nat.reduceAdd, Nat.reduceSub, Nat.reduceLeDiff, Nat.reduceMul, Int.reduceLT, Int.reduceLE, Int.reduceEq, Int.reduceNe, Int.reduceAdd, Int.reduceSub, Int.reduceMul, Int.reduceNeg, Int.reduceToNat]
  refine loop_for l.length 0 (fun j _ => [v, .int .i64 (k + j), .any, .any, .int .i64 0, .int .i64 j, .any, .any, .any, .any, .any, .any, .any, .any, .any, .any, .any, .any, .any]) (fun _ hp => hp)
    (fun j hp m => Ints true lo hi hp v (markL k j ++ l.drop j) ∧ (∀ i, i ≠ bid v → hp i = h i) ∧ (l = [] → hp = h)) h (Nat.zero_le _) ⟨by simpa [markL] using s, fun _ _ => rfl, fun _ => rfl⟩ (by simp [LeL, Le1]) (fun _ _ h => h) ?_
  rintro j hp m - hj hm ⟨g1, g2, g3⟩
  have hlen : (markL k j ++ l.drop j).length = l.length := by simp [markL_len]; omega
  simp (maxSteps := 2000000) -implicitDefEqProofs (disch := omega) only [xsW, xsC, xsD, xsE, fillA, reduceCtorEq, Nat.reduceAdd, Nat.reduceSub, Nat.reduceLeDiff, Nat.reduceMul, Int.reduceLT, Int.reduceLE, Int.reduceEq, Int.reduceNe, Int.reduceAdd, Int.reduceSub, Int.reduceMul, Int.reduceNeg, Int.reduceToNat,  s.ln]
  (refine cd_dec (fun c1 => ?_) (fun c1 => ?_) <;> simp (maxSteps := 2000000) -implicitDefEqProofs (disch := omega) only [xsW, xsC, xsD, xsE, fillA, reduceCtorEq, Nat.reduceAdd, Nat.reduceSub, Nat.reduceLeDiff, Nat.reduceMul, Int.reduceLT, Int.reduceLE, Int.reduceEq, Int.reduceNe, Int.reduceAdd, Int.reduceSub, Int.reduceMul, Int.reduceNeg, Int.reduceToNat,  c1])
  · have hj' : j < l.length := by omega
    have e1 := fun K => Ints.st g1 (k := j) (x := k + j) (n0 := n) (n := m) (W := fun i => lo ≤ i ∧ i < hi) (by omega) (fun i a b => .inr ⟨a, b⟩) (by omega) K
    simp (maxSteps := 2000000) -implicitDefEqProofs (disch := omega) only [xsW, xsC, xsD, xsE, fillA, reduceCtorEq, Nat.reduceAdd, Nat.reduceSub, Nat.reduceLeDiff, Nat.reduceMul, Int.reduceLT, Int.reduceLE, Int.reduceEq, Int.reduceNe, Int.reduceAdd, Int.reduceSub, Int.reduceMul, Int.reduceNeg, Int.reduceToNat,  s.ia, e1]
    refine ⟨_, ⟨?_, ?_, ?_⟩, by omega, by omega, by simp [LeL, Le1]; omega, fun _ _ h => h⟩
    · have := g1.wr (k := j) (by omega) (k + j)
      rw [markL_step k l j hj'] at this
      exact this
    · intro i hi'
      rw [wr_other hi', g2 i hi']
    · intro e; subst e; simp at hj'
  · have e : j = l.length := by omega
    subst e
    exact ⟨rfl, by simpa using g1, g2, g3⟩
theorem laws_heldInt64S {w : Bool} {lo hi : Nat} {h : AH} {v : AV} {k : Int} {m : Nat} (s : Ints w lo hi h v (markL k m)) (h0 : 0 ≤ k) (hb : k + m ≤ 4611686018427387904) (n : Nat) :
    Q Tryd.prog 73 [v, .int .i64 k] h n (.int .i64 (k + m)) := by
  refine q_intro Tryd.func73 k_laws_heldInt64S ?_
  have hlen := markL_len k m
  simp (maxSteps := 2000000) -implicitDefEqProofs (disch := omega) only [c_laws_heldInt64S, xsW, xsC, xsD, xsE, fillA, reduceCtorEq, Nat.reduceAdd, Nat.reduceSub, Nat.reduceLeDiff, Nat.reduceMul, Int.reduceLT, Int.reduceLE, Int.reduceEq, Int.reduceNe, Int.reduceAdd, Int.reduceSub, Int.reduceMul, Int.reduceNeg, Int.reduceToNat]
  refine loop_for m 0 (fun j (_ : Unit) => [v, .int .i64 (k + j), .any, .any, .int .i64 0, .int .i64 j, .any, .any, .any, .any, .any, .any, .any, .any, .any, .any, .any, .any, .any, .any, .any]) (fun _ _ => h)
    (fun j _ m => True) () (Nat.zero_le _) trivial (by simp [LeL, Le1]) (fun _ _ h => h) ?_
  rintro j - n1 - hj hm -
  simp (maxSteps := 2000000) -implicitDefEqProofs (disch := omega) only [xsW, xsC, xsD, xsE, fillA, reduceCtorEq, Nat.reduceAdd, Nat.reduceSub, Nat.reduceLeDiff, Nat.reduceMul, Int.reduceLT, Int.reduceLE, Int.reduceEq, Int.reduceNe, Int.reduceAdd, Int.reduceSub, Int.reduceMul, Int.reduceNeg, Int.reduceToNat,  s.ln, hlen]
  (refine cd_dec (fun c1 => ?_) (fun c1 => ?_) <;> simp (maxSteps := 2000000) -implicitDefEqProofs (disch := omega) only [xsW, xsC, xsD, xsE, fillA, reduceCtorEq, Nat.reduceAdd, Nat.reduceSub, Nat.reduceLeDiff, Nat.reduceMul, Int.reduceLT, Int.reduceLE, Int.reduceEq, Int.reduceNe, Int.reduceAdd, Int.reduceSub, Int.reduceMul, Int.reduceNeg, Int.reduceToNat,  c1])
  · have hj' : j < m := by omega
    have e := markL_get k m j hj'
    simp (maxSteps := 2000000) -implicitDefEqProofs (disch := omega) only [xsW, xsC, xsD, xsE, fillA, reduceCtorEq, Nat.reduceAdd, Nat.reduceSub, Nat.reduceLeDiff, Nat.reduceMul, Int.reduceLT, Int.reduceLE, Int.reduceEq, Int.reduceNe, Int.reduceAdd, Int.reduceSub, Int.reduceMul, Int.reduceNeg, Int.reduceToNat,  s.ia, s.ld, e, hlen]
    exact ⟨(), by omega, by omega, by simp [LeL, Le1]; omega⟩
  · rw [show j = m by omega]
theorem laws_heldInt64SS {w : Bool} {lo hi : Nat} {h : AH} {v : AV} {vs : List AV} {ll : List (List Int)} {k : Int} (s : Rows w lo hi h v vs (markLL k ll)) (h0 : 0 ≤ k) (hb : k + tot ll ≤ 4611686018427387904) (hl : ll.length ≤ 1048576) (n : Nat) :
    Q Tryd.prog 72 [v, .int .i64 k] h n (.int .i64 (k + tot ll)) := by
  refine q_intro Tryd.func72 k_laws_heldInt64SS ?_
  have hlen := markLL_len k ll
  simp (maxSteps := 2000000) -implicitDefEqProofs (disch := omega) only [c_laws_heldInt64SS, xsW, xsC, xsD, xsE, fillA, reduceCtorEq, Nat.reduceAdd, Nat.reduceSub, Nat.reduceLeDiff, Nat.reduceMul, Int.reduceLT, Int.reduceLE, Int.reduceEq, Int.reduceNe, Int.reduceAdd, Int.reduceSub, Int.reduceMul, Int.reduceNeg, Int.reduceToNat]
  refine loop_for ll.length 0 (fun j (_ : Unit) => [v, .int .i64 (k + tot (ll.take j)), .any, .any, .int .i64 0, .int .i64 j, .any, .any, .any, .any, .any, .any, .any, .any, .any, .any, .any, .any, .any, .any, .any]) (fun _ _ => h)
    (fun j _ m => True) () (Nat.zero_le _) trivial (by simp [LeL, Le1, tot]) (fun _ _ h => h) ?_
  rintro j - n1 - hj hm -
  simp (maxSteps := 2000000) -implicitDefEqProofs (disch := omega) only [xsW, xsC, xsD, xsE, fillA, reduceCtorEq, Nat.reduceAdd, Nat.reduceSub, Nat.reduceLeDiff, Nat.reduceMul, Int.reduceLT, Int.reduceLE, Int.reduceEq, Int.reduceNe, Int.reduceAdd, Int.reduceSub, Int.reduceMul, Int.reduceNeg, Int.reduceToNat,  s.ln, hlen]
  (refine cd_dec (fun c1 => ?_) (fun c1 => ?_) <;> simp (maxSteps := 2000000) -implicitDefEqProofs (disch := omega) only [xsW, xsC, xsD, xsE, fillA, reduceCtorEq, Nat.reduceAdd, Nat.reduceSub, Nat.reduceLeDiff, Nat.reduceMul, Int.reduceLT, Int.reduceLE, Int.reduceEq, Int.reduceNe, Int.reduceAdd, Int.reduceSub, Int.reduceMul, Int.reduceNeg, Int.reduceToNat,  c1])
  · have hj' : j < ll.length := by omega
    have hr := s.row j (by omega)
    rw [markLL_get k ll j hj'] at hr
    have t1 := tot_take ll (j + 1)
    rw [take_succ_getD (d := []) hj', tot_snoc] at t1
    simp (maxSteps := 2000000) -implicitDefEqProofs (disch := omega) only [xsW, xsC, xsD, xsE, fillA, reduceCtorEq, Nat.reduceAdd, Nat.reduceSub, Nat.reduceLeDiff, Nat.reduceMul, Int.reduceLT, Int.reduceLE, Int.reduceEq, Int.reduceNe, Int.reduceAdd, Int.reduceSub, Int.reduceMul, Int.reduceNeg, Int.reduceToNat,  s.ia, s.ld, hlen]
    refine q_use (laws_heldInt64S hr (by omega) (by omega) _) fun n2 hn2 => ?_
    simp (maxSteps := 2000000) -implicitDefEqProofs (disch := omega) only [xsW, xsC, xsD, xsE, fillA, reduceCtorEq, Nat.reduceAdd, Nat.reduceSub, Nat.reduceLeDiff, Nat.reduceMul, Int.reduceLT, Int.reduceLE, Int.reduceEq, Int.reduceNe, Int.reduceAdd, Int.reduceSub, Int.reduceMul, Int.reduceNeg, Int.reduceToNat]
    refine ⟨(), by omega, by omega, ?_⟩
    rw [take_succ_getD (d := []) hj', tot_snoc]
    simp [LeL, Le1]
    omega
  · rw [List.take_of_length_le (by omega)]
end Go.Proofs.YtkpibnhddhdooacDoor.L
namespace Go.Proofs
open Go.Shelf
def Tryd.layFmt_ren : Go.Shelf.Ren := ⟨fun | 173 => 91 | 246 => 107 | 283 => 123 | 284 => 124 | 285 => 125 | 286 => 126 | 129 => 138 | 317 => 137 | 318 => 139 | 319 => 140 | 320 => 141 | 337 => 147 | 338 => 148 | n => n, fun | 2 => 2 | 3 => 3 | 9 => 9 | 4 => 4 | 171 => 139 | 0 => 0 | 53 => 93 | 37 => 29 | 5 => 5 | 173 => 142 | 212 => 157 | 51 => 147 | 20 => 20 | 213 => 158 | 46 => 96 | 232 => 174 | 233 => 175 | n => n, fun | 17 => 1 | 18 => 6 | 19 => 7 | n => n⟩
theorem Tryd.layFmt : Go.Proofs.LaysM.n173 Tryd.prog Tryd.layFmt_ren := {
  mixed := by kernel_rfl
  f129 := Tryd.func138.trans (congrArg some (by kernel_rfl))
  f173 := Tryd.func91.trans (congrArg some (by kernel_rfl))
  f246 := Tryd.func107.trans (congrArg some (by kernel_rfl))
  f283 := Tryd.func123.trans (congrArg some (by kernel_rfl))
  f284 := Tryd.func124.trans (congrArg some (by kernel_rfl))
  f285 := Tryd.func125.trans (congrArg some (by kernel_rfl))
  f286 := Tryd.func126.trans (congrArg some (by kernel_rfl))
  f317 := Tryd.func137.trans (congrArg some (by kernel_rfl))
  f318 := Tryd.func139.trans (congrArg some (by kernel_rfl))
  f319 := Tryd.func140.trans (congrArg some (by kernel_rfl))
  f320 := Tryd.func141.trans (congrArg some (by kernel_rfl))
  f337 := Tryd.func147.trans (congrArg some (by kernel_rfl))
  f338 := Tryd.func148.trans (congrArg some (by kernel_rfl))
  t0 := Tryd.underlying0
  a0 := Tryd.isAgg0
  z0 := Tryd.sizeOf0
  v0 := Tryd.zeroValue0
  t2 := Tryd.underlying2
  a2 := Tryd.isAgg2
  z2 := Tryd.sizeOf2
  v2 := Tryd.zeroValue2
  t3 := Tryd.underlying3
  a3 := Tryd.isAgg3
  z3 := Tryd.sizeOf3
  v3 := Tryd.zeroValue3
  t4 := Tryd.underlying4
  a4 := Tryd.isAgg4
  z4 := Tryd.sizeOf4
  v4 := Tryd.zeroValue4
  t5 := Tryd.underlying5
  a5 := Tryd.isAgg5
  z5 := Tryd.sizeOf5
  v5 := Tryd.zeroValue5
  t9 := Tryd.underlying9
  a9 := Tryd.isAgg9
  z9 := Tryd.sizeOf9
  v9 := Tryd.zeroValue9
  t20 := Tryd.underlying20
  a20 := Tryd.isAgg20
  z20 := Tryd.sizeOf20
  v20 := Tryd.zeroValue20
  t37 := Tryd.underlying29
  a37 := Tryd.isAgg29
  z37 := Tryd.sizeOf29
  v37 := Tryd.zeroValue29
  t46 := Tryd.underlying96
  a46 := Tryd.isAgg96
  z46 := Tryd.sizeOf96
  v46 := Tryd.zeroValue96
  t51 := Tryd.underlying147
  a51 := Tryd.isAgg147
  z51 := Tryd.sizeOf147
  v51 := Tryd.zeroValue147
  t53 := Tryd.underlying93
  a53 := Tryd.isAgg93
  z53 := Tryd.sizeOf93
  v53 := Tryd.zeroValue93
  t171 := Tryd.underlying139
  a171 := Tryd.isAgg139
  z171 := Tryd.sizeOf139
  v171 := Tryd.zeroValue139
  t173 := Tryd.underlying142
  a173 := Tryd.isAgg142
  z173 := Tryd.sizeOf142
  v173 := Tryd.zeroValue142
  t212 := Tryd.underlying157
  a212 := Tryd.isAgg157
  z212 := Tryd.sizeOf157
  v212 := Tryd.zeroValue157
  t213 := Tryd.underlying158
  a213 := Tryd.isAgg158
  z213 := Tryd.sizeOf158
  t232 := Tryd.underlying174
  a232 := Tryd.isAgg174
  z232 := Tryd.sizeOf174
  v232 := Tryd.zeroValue174
  t233 := Tryd.underlying175
  a233 := Tryd.isAgg175
  z233 := Tryd.sizeOf175
  v233 := Tryd.zeroValue175
  g17 := by kernel_rfl
  g18 := by kernel_rfl
  g19 := by kernel_rfl
  i0 := by kernel_rfl
  i2 := by kernel_rfl
  i3 := by kernel_rfl
  i4 := by kernel_rfl
  i5 := by kernel_rfl
  i9 := by kernel_rfl
  i20 := by kernel_rfl
  i37 := by kernel_rfl
  i46 := by kernel_rfl
  i51 := by kernel_rfl
  i53 := by kernel_rfl
  i171 := by kernel_rfl
  i173 := by kernel_rfl
  i212 := by kernel_rfl
  i232 := by kernel_rfl
  i233 := by kernel_rfl
  m17 := by kernel_rfl
  m18 := by kernel_rfl
  m19 := by kernel_rfl }
end Go.Proofs
namespace Go.Proofs.YtkpibnhddhdooacDoor.L
open Go Go.Proofs
def c_impl_decimal : F := ⟨(.seq (.reg false [⟨(some 2), (.mv (.c (.str ⟨#[]⟩))), none⟩]) (.seq (.reg false [⟨some 3, .mv (.t 0), none⟩, ⟨some 4, .call (.f 91) [(.t 3), (.c (.int .i64 10))], none⟩, ⟨some 2, .mv (.t 4), none⟩]) .ret)), 5, [(.t 2)]⟩
theorem k_impl_decimal : compF Tryd.prog Tryd.f75 = some c_impl_decimal := by kernel_rfl
def bs (l : List UInt8) : ByteArray := ⟨l.toArray⟩
theorem bs_size (l : List UInt8) : (bs l).size = l.length := by simp [bs, ByteArray.size]
theorem bs_list (l : List UInt8) : (bs l).data.toList = l := by simp [bs]
theorem bs_toList (l : List UInt8) : (bs l).toList = l := by
  rw [ByteArray.toList_eq]; exact bs_list l
theorem fix_row {ρ : Rho} {h : AH} {w : World} {i g ty : Nat} {cells : List AV} (s : Sim ρ h w) (hb : h i = some ⟨ty, cells, false, g + 1⟩) (hne : cells ≠ []) :
    ∃ (cs : Array Value) (t : Nat) (z : Nat × Nat), w.heap[g]? = some (.cells cs t z) ∧ cs.size = cells.length ∧ ∀ (k : Nat) (c : AV), cells[k]? = some c → ∃ v : Value, cs[k]? = some v ∧ Is ρ c v := by
  obtain ⟨r, hr, hat⟩ := s.lies i _ hb
  obtain ⟨h0, h1, cs, t, z, h2, h3⟩ := hat.fix rfl (by simp) hne
  have e : r.b = g := by simp only at h1; omega
  subst e
  refine ⟨cs, t, z, h2, h3, fun k c hk => ?_⟩
  obtain ⟨v, h4, h5⟩ := hat.cells k c hk
  rw [h0, Nat.zero_add, cell_of_row w r.b k cs _ _ h2] at h4
  exact ⟨v, h4, h5⟩
def powA : List AV := Lib.pow10Tab.map fun z => .int .u64 z
def gPow : Nat := 1
def Tab (h : AH) : Prop := h 0 = some ⟨0, powA, false, gPow + 1⟩
theorem Tab.keep {h h' : AH} (t : Tab h) (k : h' 0 = h 0) : Tab h' := by unfold Tab; rw [k]; exact t
theorem gPow_named : Tryd.prog.globalNamed "internal/strconv.uint64pow10" = some gPow := by kernel_rfl
theorem tab_is {ρ : Rho} {h : AH} {w : World} (s : Sim ρ h w) (t : Tab h) : Lib.TabIs Tryd.prog w "internal/strconv.uint64pow10" .u64 Lib.pow10Tab := by
  obtain ⟨cs, ty, z, h1, h2, h3⟩ := fix_row s t (by simp [powA, Lib.pow10Tab])
  unfold Lib.TabIs World.var?
  rw [gPow_named]
  simp only [Option.bind_some, h1, Option.some.injEq]
  apply Array.ext'
  refine List.ext_getElem? fun k => ?_
  simp only [List.getElem?_map]
  cases hk : Lib.pow10Tab[k]? with
  | none =>
    rw [List.getElem?_eq_none_iff] at hk
    simp only [Option.map_none]
    rw [List.getElem?_eq_none_iff, Array.length_toList, h2]
    simpa [powA] using hk
  | some c =>
    obtain ⟨v, h4, h5⟩ := h3 k (.int .u64 c) (by simp [powA, hk])
    simp only [Is] at h5
    subst h5
    simpa using h4
structure Grown (w w' : World) : Prop where
  os : w'.os = w.os
  tape : w'.tape = w.tape
  output : w'.output = w.output
  size : w.heap.size ≤ w'.heap.size
  blk : ∀ b, b < w.heap.size → w'.heap[b]? = w.heap[b]?
theorem Grown.sim {ρ : Rho} {h : AH} {w w' : World} (s : Sim ρ h w) (g : Grown w w') : Sim ρ h w' := by
  refine ⟨fun i b hb => ?_, s.inj⟩
  obtain ⟨r, hr, hat⟩ := s.lies i b hb
  refine ⟨r, hr, ?_⟩
  by_cases hne : b.wr = true ∨ b.cells ≠ []
  · exact hat.keep (Ext.refl ρ) (g.blk _ (hat.lt hne))
  · refine ⟨fun k c hk => ?_, fun hb' => absurd (Or.inl hb') hne, fun _ _ hc => absurd (Or.inr hc) hne⟩
    have : b.cells = [] := by simpa using fun hc => hne (.inr hc)
    simp [this] at hk
theorem Grown.cx {ρ : Rho} {w w' : World} (g : Grown w w') (n : Nat) : Cx ⟨ρ, w, none', n, n⟩ ρ w' :=
  ⟨g.os, g.tape, g.output, g.size, fun b hb _ => g.blk b hb, fun _ _ => rfl, fun _ _ => rfl, fun i r h1 h2 => by simp only at h1 h2; omega, trivial⟩
theorem lib_q {f : Nat} {args : List AV} {h : AH} {n : Nat} {v : AV} (hf : okFn Tryd.prog f = true) (hc : ∀ (ρ : Rho) (w : World) (vs : List Value), Sim ρ h w → IsL ρ args vs → Calls Tryd.prog f vs.toArray w fun e w' => ∃ rv, e = .returned rv ∧ Is ρ v rv ∧ Grown w w') : Q Tryd.prog f args h n v :=
  ⟨n, hf, Nat.le_refl _, fun ρ w vs hs hi _ => (hc ρ w vs hs hi).mono fun e w' ⟨rv, h1, h2, h3⟩ => ⟨rv, ρ, h1, h2, h3.sim hs, h3.cx n⟩⟩
theorem Grown.of_below {w w' : World} (b : RowKit.Below w.heap.size w w') : Grown w w' := ⟨b.os, b.tape, b.output, b.size, b.block⟩
theorem grown_grow (w : World) (k : Nat) (os : Array Obj) : Grown w (Sort.grow (w.drewN k) os) :=
  ⟨rfl, rfl, rfl, by simp [Sort.grow, World.drewN], fun b hb => by
    show ((w.drewN k).heap ++ os)[b]? = w.heap[b]?
    rw [Array.getElem?_append_left (by simpa [World.drewN] using hb)]
    rfl⟩
theorem lib_FormatInt {h : AH} (t : Tab h) {m : Int} (hm : in64 m) (n : Nat) : Q Tryd.prog 91 [.int .i64 m, .int .i64 10] h n (.str (bs (Lib.itoa m))) := by
  refine lib_q (by kernel_rfl) fun ρ w vs hs hi => ?_
  simp only [IsL, Is] at hi
  obtain ⟨_, _, rfl, rfl, _, _, rfl, rfl, rfl⟩ := hi
  have h1 := hm.1
  have h2 := hm.2
  refine (Any.strconv_FormatInt_10 Tryd.layFmt m h1 h2 w (tab_is hs t)).mono ?_
  rintro e w' ⟨rfl, k, os, rfl⟩
  exact ⟨_, rfl, by simp only [Is]; rfl, grown_grow w k os⟩
theorem impl_decimal {h : AH} (t : Tab h) {m : Int} (hm : in64 m) (n : Nat) : Q Tryd.prog 75 [.int .i64 m] h n (.str (bs (Lib.itoa m))) := by
  refine q_intro Tryd.func75 k_impl_decimal ?_
  simp (maxSteps := 2000000) -implicitDefEqProofs (disch := omega) only [c_impl_decimal, xsW, xsC, xsD, xsE, fillA, reduceCtorEq, Nat.reduceAdd, Nat.reduceSub, Nat.reduceLeDiff, Nat.reduceMul, Int.reduceLT, Int.reduceLE, Int.reduceEq, Int.reduceNe, Int.reduceAdd, Int.reduceSub, Int.reduceMul, Int.reduceNeg, Int.reduceToNat]
  refine q_use (lib_FormatInt t hm _) fun n1 hn1 => ?_
  simp (maxSteps := 2000000) -implicitDefEqProofs (disch := omega) only [xsW, xsC, xsD, xsE, fillA, reduceCtorEq, Nat.reduceAdd, Nat.reduceSub, Nat.reduceLeDiff, Nat.reduceMul, Int.reduceLT, Int.reduceLE, Int.reduceEq, Int.reduceNe, Int.reduceAdd, Int.reduceSub, Int.reduceMul, Int.reduceNeg, Int.reduceToNat]
end Go.Proofs.YtkpibnhddhdooacDoor.L
namespace Go.Proofs
open Go.Shelf
end Go.Proofs
namespace Go.Proofs.YtkpibnhddhdooacDoor.L
open Go Go.Proofs

def strs (l : List (List UInt8)) : List AV := l.map fun x => .str (bs x)
theorem strs_len (l : List (List UInt8)) : (strs l).length = l.length := by simp [strs]
end Go.Proofs.YtkpibnhddhdooacDoor.L
