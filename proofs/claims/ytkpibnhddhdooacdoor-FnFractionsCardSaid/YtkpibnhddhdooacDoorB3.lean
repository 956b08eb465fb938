/- Contracts: what is drawn out of a code for the statement on fractions. -/
import Derived.Test.YtkpibnhddhdooacDoorB2
set_option linter.unusedSimpArgs false
set_option linter.unusedVariables false
namespace Go.Proofs.YtkpibnhddhdooacDoor.L
open Go
def c_spec_l01DrawFrac : F := ⟨(.seq (.reg false [⟨some 2, .alloc 26 [(.int .i64 0), (.int .i64 0)], none⟩]) (.seq (.reg false [⟨some 6, .mv (.t 0), none⟩, ⟨some 7, .lit 2 1 4 [(.int .i64 0)] [(0, (.c (.int .i64 3))), (1, (.c (.int .i64 20))), (2, (.c (.int .i64 100000))), (3, (.c (.int .i64 1000000000)))], none⟩, ⟨some 8, .call (.f 42) [(.t 6), (.t 7)], none⟩, ⟨some 9, .mv (.t 0), none⟩, ⟨some 10, .lit 2 1 5 [(.int .i64 0)] [(0, (.c (.int .i64 1))), (1, (.c (.int .i64 4))), (2, (.c (.int .i64 20))), (3, (.c (.int .i64 100000))), (4, (.c (.int .i64 1000000000)))], none⟩, ⟨some 11, .call (.f 42) [(.t 9), (.t 10)], none⟩, ⟨some 3, .mv (.t 8), none⟩, ⟨some 4, .mv (.t 11), none⟩]) (.seq (.reg false [⟨some 12, .mv (.t 0), none⟩, ⟨some 13, .mv (.t 3), none⟩, ⟨some 14, .call (.f 41) [(.t 12), (.t 13)], none⟩, ⟨some 15, .mv (.t 0), none⟩, ⟨some 16, .mv (.t 4), none⟩, ⟨some 17, .call (.f 39) [(.t 15), (.t 16)], none⟩, ⟨some 18, .bin .add (.c (.int .i64 1)) (.t 17), none⟩, ⟨some 19, .call (.f 40) [(.t 14), (.t 18)], none⟩, ⟨some 5, .alloc 26 [(.int .i64 0), (.int .i64 0)], none⟩, ⟨none, .st 2 (.t 5) (.t 19), none⟩]) (.seq (.seq (.reg false [⟨some 20, .mv (.t 0), none⟩, ⟨some 21, .call (.f 39) [(.t 20), (.c (.int .i64 40))], none⟩]) (.block 0 (.seq (.reg false [⟨some 23, .bin .eql (.t 21) (.c (.int .i64 0)), none⟩, ⟨some 22, .mv (.t 23), none⟩]) (.cond (.t 22) (.seq (.reg false [⟨some 24, .fa 0 (.t 5), none⟩, ⟨some 25, .ld1 (.t 24), none⟩, ⟨some 26, .bin .mul (.t 25) (.c (.int .i64 2)), none⟩, ⟨some 27, .fa 1 (.t 5), none⟩, ⟨some 28, .ld1 (.t 27), none⟩, ⟨some 29, .bin .mul (.t 28) (.c (.int .i64 2)), none⟩, ⟨some 30, .build [(.int .i64 0), (.int .i64 0)] [(0, (1, (.t 26))), (1, (1, (.t 29)))], none⟩, ⟨none, .st 2 (.t 2) (.t 30), none⟩]) .ret) (.seq (.reg false [⟨some 32, .bin .eql (.t 21) (.c (.int .i64 1)), none⟩, ⟨some 31, .mv (.t 32), none⟩]) (.cond (.t 31) (.seq (.seq (.reg true [⟨some 33, .fa 0 (.t 5), none⟩, ⟨some 34, .ld1 (.t 33), none⟩, ⟨some 35, .mv (.t 0), none⟩, ⟨some 36, .lit 2 1 3 [(.int .i64 0)] [(0, (.c (.int .i64 0))), (1, (.c (.int .i64 (-1)))), (2, (.c (.int .i64 1000000001)))], none⟩, ⟨some 37, .callp (.f 42) [(.t 35), (.t 36)], none⟩, ⟨some 38, .build [(.int .i64 0), (.int .i64 0)] [(0, (1, (.t 34))), (1, (1, (.t 37)))], none⟩, ⟨none, .st 2 (.t 2) (.t 38), none⟩]) (.chk [((.t 35), (.t 33))])) .ret) .skip)))))) (.seq (.reg false [⟨some 39, .ld 2 (.t 5), none⟩, ⟨none, .st 2 (.t 2) (.t 39), none⟩]) .ret))))), 40, [(.ca 2 2)]⟩
theorem k_spec_l01DrawFrac : compF Tryd.prog Tryd.f38 = some c_spec_l01DrawFrac := by kernel_rfl
def c_spec_DrawAddFracs : F := ⟨(.seq (.reg false [⟨some 2, .alloc 26 [(.int .i64 0), (.int .i64 0)], none⟩, ⟨some 3, .alloc 26 [(.int .i64 0), (.int .i64 0)], none⟩, ⟨some 4, .mv (.c (.int .i64 0)), none⟩]) (.seq (.reg false [⟨some 8, .mv (.t 0), none⟩, ⟨some 9, .call (.f 37) [(.t 8)], none⟩, ⟨some 5, .mv (.t 9), none⟩]) (.seq (.reg false [⟨some 10, .mv (.t 5), none⟩, ⟨some 11, .call (.f 38) [(.t 10)], none⟩, ⟨some 6, .alloc 26 [(.int .i64 0), (.int .i64 0)], none⟩, ⟨none, .st 2 (.t 6) (.t 11), none⟩]) (.seq (.reg false [⟨some 12, .mv (.t 5), none⟩, ⟨some 13, .call (.f 38) [(.t 12)], none⟩, ⟨some 7, .alloc 26 [(.int .i64 0), (.int .i64 0)], none⟩, ⟨none, .st 2 (.t 7) (.t 13), none⟩]) (.seq (.seq (.reg false [⟨some 14, .mv (.t 5), none⟩, ⟨some 15, .call (.f 39) [(.t 14), (.c (.int .i64 4))], none⟩, ⟨some 16, .bin .eql (.t 15) (.c (.int .i64 0)), none⟩, ⟨some 17, .mv (.t 16), none⟩, ⟨some 18, .ld 2 (.t 7), some (17, true)⟩, ⟨some 19, .call (.f 15) [(.t 18)], some (17, true)⟩, ⟨some 20, .pick (.t 17) (.t 19) (.c (.bool false)), none⟩]) (.cond (.t 20) (.seq (.reg true [⟨some 21, .mv (.t 5), none⟩, ⟨some 23, .fa 1 (.t 7), none⟩, ⟨some 24, .ld1 (.t 23), none⟩, ⟨some 22, .callp (.f 41) [(.t 21), (.c (.int .i64 1000))], none⟩, ⟨some 25, .call (.f 40) [(.t 22), (.t 24)], none⟩, ⟨none, .st 2 (.t 6) (.t 25), none⟩]) (.chk [((.t 21), (.t 23))])) .skip)) (.seq (.seq (.reg true [⟨some 26, .ld 2 (.t 6), none⟩, ⟨some 27, .ld 2 (.t 7), none⟩, ⟨some 28, .mv (.t 5), none⟩, ⟨some 29, .lit 2 1 7 [(.int .i64 0)] [(0, (.c (.int .i64 1))), (1, (.c (.int .i64 1))), (2, (.c (.int .i64 (-1)))), (3, (.c (.int .i64 (-1)))), (4, (.c (.int .i64 1))), (5, (.c (.int .i64 0))), (6, (.c (.int .i64 2)))], none⟩, ⟨some 30, .callp (.f 42) [(.t 28), (.t 29)], none⟩, ⟨none, .st 2 (.t 2) (.t 26), none⟩, ⟨none, .st 2 (.t 3) (.t 27), none⟩, ⟨some 4, .mv (.t 30), none⟩]) (.chk [((.t 28), (.t 6)), ((.t 28), (.t 7)), ((.t 2), (.t 7))])) .ret)))))), 31, [(.ca 2 2), (.ca 3 2), (.t 4)]⟩
theorem k_spec_DrawAddFracs : compF Tryd.prog Tryd.f11 = some c_spec_DrawAddFracs := by kernel_rfl
def c_spec_DrawMultiplyFracs : F := ⟨(.seq (.reg false [⟨some 2, .alloc 26 [(.int .i64 0), (.int .i64 0)], none⟩, ⟨some 3, .alloc 26 [(.int .i64 0), (.int .i64 0)], none⟩]) (.seq (.reg false [⟨some 6, .mv (.t 0), none⟩, ⟨some 7, .call (.f 37) [(.t 6)], none⟩, ⟨some 4, .mv (.t 7), none⟩]) (.seq (.reg false [⟨some 8, .mv (.t 4), none⟩, ⟨some 9, .call (.f 38) [(.t 8)], none⟩, ⟨some 5, .alloc 26 [(.int .i64 0), (.int .i64 0)], none⟩, ⟨none, .st 2 (.t 5) (.t 9), none⟩]) (.seq (.seq (.reg true [⟨some 10, .ld 2 (.t 5), none⟩, ⟨some 11, .mv (.t 4), none⟩, ⟨some 12, .callp (.f 38) [(.t 11)], none⟩, ⟨none, .st 2 (.t 2) (.t 10), none⟩, ⟨none, .st 2 (.t 3) (.t 12), none⟩]) (.chk [((.t 11), (.t 5))])) .ret)))), 13, [(.ca 2 2), (.ca 3 2)]⟩
theorem k_spec_DrawMultiplyFracs : compF Tryd.prog Tryd.f17 = some c_spec_DrawMultiplyFracs := by kernel_rfl
def c_spec_DrawCompareFracs : F := ⟨(.seq (.reg false [⟨some 2, .alloc 26 [(.int .i64 0), (.int .i64 0)], none⟩, ⟨some 3, .alloc 26 [(.int .i64 0), (.int .i64 0)], none⟩]) (.seq (.reg false [⟨some 6, .mv (.t 0), none⟩, ⟨some 7, .call (.f 37) [(.t 6)], none⟩, ⟨some 4, .mv (.t 7), none⟩]) (.seq (.reg false [⟨some 8, .mv (.t 4), none⟩, ⟨some 9, .call (.f 38) [(.t 8)], none⟩, ⟨some 5, .alloc 26 [(.int .i64 0), (.int .i64 0)], none⟩, ⟨none, .st 2 (.t 5) (.t 9), none⟩]) (.seq (.seq (.reg false [⟨some 10, .mv (.t 4), none⟩, ⟨some 11, .call (.f 39) [(.t 10), (.c (.int .i64 4))], none⟩, ⟨some 12, .bin .eql (.t 11) (.c (.int .i64 0)), none⟩]) (.cond (.t 12) (.seq (.seq (.reg true [⟨some 13, .ld 2 (.t 5), none⟩, ⟨some 14, .ld 2 (.t 5), none⟩, ⟨none, .st 2 (.t 2) (.t 13), none⟩, ⟨none, .st 2 (.t 3) (.t 14), none⟩]) (.chk [((.t 2), (.t 5))])) .ret) .skip)) (.seq (.seq (.reg true [⟨some 15, .ld 2 (.t 5), none⟩, ⟨some 16, .mv (.t 4), none⟩, ⟨some 17, .callp (.f 38) [(.t 16)], none⟩, ⟨none, .st 2 (.t 2) (.t 15), none⟩, ⟨none, .st 2 (.t 3) (.t 17), none⟩]) (.chk [((.t 16), (.t 5))])) .ret))))), 18, [(.ca 2 2), (.ca 3 2)]⟩
theorem k_spec_DrawCompareFracs : compF Tryd.prog Tryd.f20 = some c_spec_DrawCompareFracs := by kernel_rfl
def c_spec_DrawFracOf : F := ⟨(.seq (.reg false [⟨some 2, .mv (.c (.int .i64 0)), none⟩, ⟨some 3, .mv (.c (.int .i64 0)), none⟩]) (.seq (.reg false [⟨some 8, .mv (.t 0), none⟩, ⟨some 9, .call (.f 37) [(.t 8)], none⟩, ⟨some 4, .mv (.t 9), none⟩]) (.seq (.reg false [⟨some 10, .mv (.t 4), none⟩, ⟨some 11, .lit 2 1 4 [(.int .i64 0)] [(0, (.c (.int .i64 6))), (1, (.c (.int .i64 100))), (2, (.c (.int .i64 1000000000))), (3, (.c (.int .i64 1000000000000)))], none⟩, ⟨some 12, .call (.f 42) [(.t 10), (.t 11)], none⟩, ⟨some 5, .mv (.t 12), none⟩]) (.seq (.reg false [⟨some 13, .mv (.t 4), none⟩, ⟨some 14, .mv (.t 5), none⟩, ⟨some 15, .call (.f 41) [(.t 13), (.t 14)], none⟩, ⟨some 6, .mv (.t 15), none⟩]) (.seq (.reg false [⟨some 16, .mv (.t 4), none⟩, ⟨some 17, .mv (.t 5), none⟩, ⟨some 18, .call (.f 41) [(.t 16), (.t 17)], none⟩, ⟨some 7, .mv (.t 18), none⟩]) (.seq (.seq (.reg false [⟨some 19, .mv (.t 4), none⟩, ⟨some 20, .call (.f 39) [(.t 19), (.c (.int .i64 3))], none⟩, ⟨some 21, .bin .eql (.t 20) (.c (.int .i64 0)), none⟩, ⟨some 22, .mv (.t 21), none⟩, ⟨some 23, .mv (.t 7), some (22, true)⟩, ⟨some 24, .bin .neq (.t 23) (.c (.int .i64 0)), some (22, true)⟩, ⟨some 25, .pick (.t 22) (.t 24) (.c (.bool false)), none⟩]) (.cond (.t 25) (.reg false [⟨some 26, .mv (.t 4), none⟩, ⟨some 27, .call (.f 41) [(.t 26), (.c (.int .i64 9))], none⟩, ⟨some 28, .mv (.t 7), none⟩, ⟨some 29, .bin .quo (.t 28) (.c (.int .i64 7)), none⟩, ⟨some 30, .bin .mul (.t 27) (.t 29), none⟩, ⟨some 6, .mv (.t 30), none⟩]) .skip)) (.seq (.reg false [⟨some 31, .mv (.t 4), none⟩, ⟨some 32, .mv (.t 6), none⟩, ⟨some 33, .mv (.t 6), none⟩, ⟨some 34, .mv (.t 6), none⟩, ⟨some 35, .mv (.t 6), none⟩, ⟨some 36, .mv (.t 6), none⟩, ⟨some 37, .lit 2 1 6 [(.int .i64 0)] [(0, (.t 32)), (1, (.t 33)), (2, (.t 34)), (3, (.t 35)), (4, (.t 36)), (5, (.c (.int .i64 1000000000001)))], none⟩, ⟨some 38, .call (.f 42) [(.t 31), (.t 37)], none⟩, ⟨some 39, .mv (.t 7), none⟩, ⟨some 2, .mv (.t 38), none⟩, ⟨some 3, .mv (.t 39), none⟩]) .ret))))))), 40, [(.t 2), (.t 3)]⟩
theorem k_spec_DrawFracOf : compF Tryd.prog Tryd.f22 = some c_spec_DrawFracOf := by kernel_rfl
def c_spec_DrawFracText : F := ⟨(.seq (.reg false [⟨some 2, .alloc 26 [(.int .i64 0), (.int .i64 0)], none⟩]) (.seq (.reg false [⟨some 3, .mv (.t 0), none⟩, ⟨some 4, .call (.f 37) [(.t 3)], none⟩, ⟨some 5, .call (.f 38) [(.t 4)], none⟩, ⟨none, .st 2 (.t 2) (.t 5), none⟩]) .ret)), 6, [(.ca 2 2)]⟩
theorem k_spec_DrawFracText : compF Tryd.prog Tryd.f25 = some c_spec_DrawFracText := by kernel_rfl

theorem tdiv_le (a k : Int) : -(a.natAbs : Int) ≤ a.tdiv k ∧ a.tdiv k ≤ a.natAbs := by
  have h : (a.tdiv k).natAbs ≤ a.natAbs := by
    rw [Int.natAbs_tdiv]; exact Nat.div_le_self _ _
  omega
theorem red_small {a b m : Int} (ha : -m ≤ a ∧ a ≤ m) (hb : 0 < b ∧ b ≤ m) : (-m ≤ (red a b).1 ∧ (red a b).1 ≤ m) ∧ (-m ≤ (red a b).2 ∧ (red a b).2 ≤ m) := by
  rw [red_pos hb.1]
  have h1 := tdiv_le a (Int.gcd a b)
  have h2 := tdiv_le b (Int.gcd a b)
  exact ⟨by omega, by omega⟩
section
variable {bnd b : Nat} {h : AH}
theorem spec_l01DrawFrac (r : Rnd bnd b h) (hb : bnd ≤ b) (n : Nat) (hn : b < n) :
    MQ Tryd.prog 38 [.ptr b 0] h n b (b + 1) fun v h' n' => (∃ x y : Int, v = fr x y) ∧ Rnd bnd b h' ∧ ∀ j, j < n → j ≠ b → h' j = h j := by
  refine mq_intro Tryd.func38 k_spec_l01DrawFrac ?_
  simp (maxSteps := 2000000) -implicitDefEqProofs (disch := omega) only [c_spec_l01DrawFrac, xsW, xsC, xsD, xsE, fillA, reduceCtorEq, Nat.reduceAdd, Nat.reduceSub, Nat.reduceLeDiff, Nat.reduceMul, Int.reduceLT, Int.reduceLE, Int.reduceEq, Int.reduceNe, Int.reduceAdd, Int.reduceSub, Int.reduceMul, Int.reduceNeg, Int.reduceToNat]
  refine mq_use (spec_l01Pick (b := b) (bnd := bnd) (w := true) (lo := n + 1) (hi := n + 1 + 1) (l := [3, 20, 100000, 1000000000]) (r.keep (by simp (disch := omega) only [upd_other]) (fun i hi9 => by simp (disch := omega) only [upd_other])) hb (Sl.of_sl (upd_same _ _ _) rfl (Nat.le_refl _) (Nat.le_refl _) (by omega)) (by omega) (by simp) (by simp) _ (by omega)) (fun i a c => .inr ⟨by omega, by omega⟩) fun x2 h2 n2 hn2 ⟨en2, ⟨z2, hz2, m2⟩, r2, sm2⟩ => ?_
  subst en2
  subst hz2
  have b2 : 3 ≤ z2 ∧ z2 ≤ 1000000000 := by simp only [List.mem_cons, List.not_mem_nil, or_false] at m2; omega
  have p2 : ∀ j, j < n → j ≠ b → h2 j = h j := fun j hj hne => by rw [sm2 j hne]; simp (disch := omega) only [upd_other]
  have e2 : h2 n = some ⟨26, [.int .i64 0, .int .i64 0], true, 0⟩ := by rw [sm2 n (by omega), upd_other (by omega), upd_same]
  clear sm2
  simp (maxSteps := 2000000) -implicitDefEqProofs (disch := omega) only [xsW, xsC, xsD, xsE, fillA, reduceCtorEq, Nat.reduceAdd, Nat.reduceSub, Nat.reduceLeDiff, Nat.reduceMul, Int.reduceLT, Int.reduceLE, Int.reduceEq, Int.reduceNe, Int.reduceAdd, Int.reduceSub, Int.reduceMul, Int.reduceNeg, Int.reduceToNat]
  refine mq_use (spec_l01Pick (b := b) (bnd := bnd) (w := true) (lo := n + 1 + 1) (hi := n + 1 + 1 + 1) (l := [1, 4, 20, 100000, 1000000000]) (r2.keep (by simp (disch := omega) only [upd_other]) (fun i hi9 => by simp (disch := omega) only [upd_other])) hb (Sl.of_sl (upd_same _ _ _) rfl (Nat.le_refl _) (Nat.le_refl _) (by omega)) (by omega) (by simp) (by simp) _ (by omega)) (fun i a c => .inr ⟨by omega, by omega⟩) fun x3 h3 n3 hn3 ⟨en3, ⟨z3, hz3, m3⟩, r3, sm3⟩ => ?_
  subst en3
  subst hz3
  have b3 : 1 ≤ z3 ∧ z3 ≤ 1000000000 := by simp only [List.mem_cons, List.not_mem_nil, or_false] at m3; omega
  have p3 : ∀ j, j < n → j ≠ b → h3 j = h j := fun j hj hne => by rw [sm3 j hne, upd_other (by omega)]; exact p2 j hj hne
  have e3 : h3 n = some ⟨26, [.int .i64 0, .int .i64 0], true, 0⟩ := by rw [sm3 n (by omega), upd_other (by omega), e2]
  clear sm3
  simp (maxSteps := 2000000) -implicitDefEqProofs (disch := omega) only [xsW, xsC, xsD, xsE, fillA, reduceCtorEq, Nat.reduceAdd, Nat.reduceSub, Nat.reduceLeDiff, Nat.reduceMul, Int.reduceLT, Int.reduceLE, Int.reduceEq, Int.reduceNe, Int.reduceAdd, Int.reduceSub, Int.reduceMul, Int.reduceNeg, Int.reduceToNat]
  refine mq_use (spec_l01DrawPart r3 hb z2 (by omega) (by omega) _ (by omega)) (fun i a c => .inr ⟨by omega, by omega⟩) fun x4 h4 n4 hn4 ⟨en4, ⟨z4, hz4, b4⟩, r4, sm4⟩ => ?_
  subst en4
  subst hz4
  have p4 : ∀ j, j < n → j ≠ b → h4 j = h j := fun j hj hne => by rw [sm4 j hne]; exact p3 j hj hne
  have e4 := (sm4 n (by omega)).trans e3
  clear sm4
  simp (maxSteps := 2000000) -implicitDefEqProofs (disch := omega) only [xsW, xsC, xsD, xsE, fillA, reduceCtorEq, Nat.reduceAdd, Nat.reduceSub, Nat.reduceLeDiff, Nat.reduceMul, Int.reduceLT, Int.reduceLE, Int.reduceEq, Int.reduceNe, Int.reduceAdd, Int.reduceSub, Int.reduceMul, Int.reduceNeg, Int.reduceToNat]
  refine mq_use (spec_l01Next r4 hb z3 _ (by omega)) (fun i a c => .inr ⟨by omega, by omega⟩) fun x5 h5 n5 hn5 ⟨en5, ⟨z5, hz5, b5, b5', _⟩, r5, sm5⟩ => ?_
  subst en5
  subst hz5
  replace b5' := b5' (by omega)
  have p5 : ∀ j, j < n → j ≠ b → h5 j = h j := fun j hj hne => by rw [sm5 j hne]; exact p4 j hj hne
  have e5 := (sm5 n (by omega)).trans e4
  clear sm5
  simp (maxSteps := 2000000) -implicitDefEqProofs (disch := omega) only [xsW, xsC, xsD, xsE, fillA, reduceCtorEq, Nat.reduceAdd, Nat.reduceSub, Nat.reduceLeDiff, Nat.reduceMul, Int.reduceLT, Int.reduceLE, Int.reduceEq, Int.reduceNe, Int.reduceAdd, Int.reduceSub, Int.reduceMul, Int.reduceNeg, Int.reduceToNat]
  refine q_use (spec_l01Frac z4 (1 + z5) (by unfold in64; omega) (by unfold in64; omega) (by omega) _ _) fun n6 hn6 => ?_
  obtain ⟨bx, by_⟩ := red_small (a := z4) (b := 1 + z5) (m := 1000000000) (by omega) (by omega)
  obtain ⟨X, hX⟩ : ∃ X, X = (red z4 (1 + z5)).1 := ⟨_, rfl⟩
  obtain ⟨Y, hY⟩ : ∃ Y, Y = (red z4 (1 + z5)).2 := ⟨_, rfl⟩
  rw [← hX] at bx ⊢
  rw [← hY] at by_ ⊢
  simp (maxSteps := 2000000) -implicitDefEqProofs (disch := omega) only [xsW, xsC, xsD, xsE, fillA, reduceCtorEq, Nat.reduceAdd, Nat.reduceSub, Nat.reduceLeDiff, Nat.reduceMul, Int.reduceLT, Int.reduceLE, Int.reduceEq, Int.reduceNe, Int.reduceAdd, Int.reduceSub, Int.reduceMul, Int.reduceNeg, Int.reduceToNat,  fr]
  have r6 : Rnd bnd b (upd h5 n6 (some ⟨26, [.int .i64 X, .int .i64 Y], true, 0⟩)) := r5.keep (by simp (disch := omega) only [upd_other]) (fun i hi9 => by simp (disch := omega) only [upd_other])
  refine mq_use (spec_l01Next r6 hb 40 _ (by omega)) (fun i a c => .inr ⟨by omega, by omega⟩) fun x7 h7 n7 hn7 ⟨en7, ⟨z7, hz7, b7, b7', _⟩, r7, sm7⟩ => ?_
  subst en7
  subst hz7
  replace b7' := b7' (by omega)
  have p7 : ∀ j, j < n → j ≠ b → h7 j = h j := fun j hj hne => by rw [sm7 j hne, upd_other (by omega)]; exact p5 j hj hne
  have e7 : h7 n = some ⟨26, [.int .i64 0, .int .i64 0], true, 0⟩ := by rw [sm7 n (by omega), upd_other (by omega), e5]
  have f7 : h7 n6 = some ⟨26, [.int .i64 X, .int .i64 Y], true, 0⟩ := by rw [sm7 n6 (by omega), upd_same]
  clear sm7
  simp (maxSteps := 2000000) -implicitDefEqProofs (disch := omega) only [xsW, xsC, xsD, xsE, fillA, reduceCtorEq, Nat.reduceAdd, Nat.reduceSub, Nat.reduceLeDiff, Nat.reduceMul, Int.reduceLT, Int.reduceLE, Int.reduceEq, Int.reduceNe, Int.reduceAdd, Int.reduceSub, Int.reduceMul, Int.reduceNeg, Int.reduceToNat]
  (refine cd_dec (fun c1 => ?_) (fun c1 => ?_) <;> simp (maxSteps := 2000000) -implicitDefEqProofs (disch := omega) only [xsW, xsC, xsD, xsE, fillA, reduceCtorEq, Nat.reduceAdd, Nat.reduceSub, Nat.reduceLeDiff, Nat.reduceMul, Int.reduceLT, Int.reduceLE, Int.reduceEq, Int.reduceNe, Int.reduceAdd, Int.reduceSub, Int.reduceMul, Int.reduceNeg, Int.reduceToNat,  c1])
  · simp (maxSteps := 2000000) -implicitDefEqProofs (disch := omega) only [xsW, xsC, xsD, xsE, fillA, reduceCtorEq, Nat.reduceAdd, Nat.reduceSub, Nat.reduceLeDiff, Nat.reduceMul, Int.reduceLT, Int.reduceLE, Int.reduceEq, Int.reduceNe, Int.reduceAdd, Int.reduceSub, Int.reduceMul, Int.reduceNeg, Int.reduceToNat,  e7, f7]
    exact ⟨⟨_, _, rfl, rfl⟩, r7.keep (by simp (disch := omega) only [upd_other]) (fun i hi9 => by simp (disch := omega) only [upd_other]), fun j hj hne => by rw [upd_other (by omega)]; exact p7 j hj hne⟩
  · (refine cd_dec (fun c2 => ?_) (fun c2 => ?_) <;> simp (maxSteps := 2000000) -implicitDefEqProofs (disch := omega) only [xsW, xsC, xsD, xsE, fillA, reduceCtorEq, Nat.reduceAdd, Nat.reduceSub, Nat.reduceLeDiff, Nat.reduceMul, Int.reduceLT, Int.reduceLE, Int.reduceEq, Int.reduceNe, Int.reduceAdd, Int.reduceSub, Int.reduceMul, Int.reduceNeg, Int.reduceToNat,  c2])
    · simp (maxSteps := 2000000) -implicitDefEqProofs (disch := omega) only [xsW, xsC, xsD, xsE, fillA, reduceCtorEq, Nat.reduceAdd, Nat.reduceSub, Nat.reduceLeDiff, Nat.reduceMul, Int.reduceLT, Int.reduceLE, Int.reduceEq, Int.reduceNe, Int.reduceAdd, Int.reduceSub, Int.reduceMul, Int.reduceNeg, Int.reduceToNat,  e7, f7]
      have r8 : Rnd bnd b (upd h7 (n6 + 1) (some ⟨2, ints [0, -1, 1000000001], true, 0⟩)) := r7.keep (by simp (disch := omega) only [upd_other]) (fun i hi9 => by simp (disch := omega) only [upd_other])
      obtain ⟨bl, hbl, hbw⟩ := r8.blk
      refine mqp_use (spec_l01Pick (w := true) (lo := n6 + 1) (hi := n6 + 1 + 1) (l := [0, -1, 1000000001]) r8 hb (Sl.of_sl (upd_same _ _ _) rfl (Nat.le_refl _) (Nat.le_refl _) (by omega)) (by omega) (by simp) (by simp) _ (by omega)) hbl hbw (by omega) (.inr ⟨by omega, by omega⟩) (fun v' h' n' hR => ⟨hR.1, hR.2.2.2⟩) fun x9 h9 ⟨_, ⟨z9, hz9, m9⟩, r9, sm9⟩ => ?_
      subst hz9
      have e9 : h9 n = some ⟨26, [.int .i64 0, .int .i64 0], true, 0⟩ := by rw [sm9 n (by omega), upd_other (by omega), e7]
      have p9 : ∀ j, j < n → j ≠ b → h9 j = h j := fun j hj hne => by rw [sm9 j hne, upd_other (by omega)]; exact p7 j hj hne
      clear sm9
      simp (maxSteps := 2000000) -implicitDefEqProofs (disch := omega) only [xsW, xsC, xsD, xsE, fillA, reduceCtorEq, Nat.reduceAdd, Nat.reduceSub, Nat.reduceLeDiff, Nat.reduceMul, Int.reduceLT, Int.reduceLE, Int.reduceEq, Int.reduceNe, Int.reduceAdd, Int.reduceSub, Int.reduceMul, Int.reduceNeg, Int.reduceToNat,  e9]
      exact ⟨by omega, ⟨_, _, rfl, rfl⟩, r9.keep (by simp (disch := omega) only [upd_other]) (fun i hi9 => by simp (disch := omega) only [upd_other]), fun j hj hne => by rw [upd_other (by omega)]; exact p9 j hj hne⟩
    · simp (maxSteps := 2000000) -implicitDefEqProofs (disch := omega) only [xsW, xsC, xsD, xsE, fillA, reduceCtorEq, Nat.reduceAdd, Nat.reduceSub, Nat.reduceLeDiff, Nat.reduceMul, Int.reduceLT, Int.reduceLE, Int.reduceEq, Int.reduceNe, Int.reduceAdd, Int.reduceSub, Int.reduceMul, Int.reduceNeg, Int.reduceToNat,  e7, f7]
      exact ⟨⟨_, _, rfl, rfl⟩, r7.keep (by simp (disch := omega) only [upd_other]) (fun i hi9 => by simp (disch := omega) only [upd_other]), fun j hj hne => by rw [upd_other (by omega)]; exact p7 j hj hne⟩
theorem spec_l01DrawFracN (r : Rnd bnd b h) (hb : bnd ≤ b) (n : Nat) (hn : b < n) :
    MQ Tryd.prog 38 [.ptr b 0] h n b (b + 1) fun v h' n' => n' = n ∧ (∃ x y : Int, v = fr x y) ∧ Rnd bnd b h' ∧ Same b h' h :=
  rnd_narrow r hb hn (by
    rintro v ⟨x, y, rfl⟩ ρ ρ' u hu
    simpa [fr, Is, IsL] using hu) fun h1 r1 => spec_l01DrawFrac r1 hb n hn
theorem from_use {n0 n hi : Nat} {v : AV} {code : List Int} {W : Nat → Prop} {d : Bool} {K : AV → AH → Nat → Prop} (s : Sl false 0 hi h 1 v (bytesA code)) (hl : code.length ≤ 4096) (hc : ∀ x ∈ code, 0 ≤ x ∧ x ≤ 255) (hn : hi ≤ n)
    (k : ∀ h' n', n < n' → (∀ i, i < n → h' i = h i) → Rnd hi n h' → K (.ptr n 0) h' n') : CallC Tryd.prog n0 W d 37 [v] h n K :=
  fq_use (spec_l01From s hl hc n hn) fun x h1 n1 hn1 hs ⟨e, hlt, r⟩ => by
    subst e
    exact k h1 n1 hlt hs (r.keep (show h1 n = if n = n then h1 n else h n by rw [if_pos rfl]) fun j hj => (show h1 j = if j = n then h1 j else h j by rw [if_neg (by omega)]; exact hs j (by omega)))
end
section
variable {hi : Nat} {h : AH} {v : AV} {code : List Int}
theorem spec_DrawFracText (s : Sl false 0 hi h 1 v (bytesA code)) (hl : code.length ≤ 4096) (hc : ∀ x ∈ code, 0 ≤ x ∧ x ≤ 255) (n : Nat) (hn : hi ≤ n) :
    FQ Tryd.prog 25 [v] h n fun x h' n' => ∃ a b, x = fr a b := by
  refine fq_intro Tryd.func25 k_spec_DrawFracText ?_
  simp (maxSteps := 2000000) -implicitDefEqProofs (disch := omega) only [c_spec_DrawFracText, xsW, xsC, xsD, xsE, fillA, reduceCtorEq, Nat.reduceAdd, Nat.reduceSub, Nat.reduceLeDiff, Nat.reduceMul, Int.reduceLT, Int.reduceLE, Int.reduceEq, Int.reduceNe, Int.reduceAdd, Int.reduceSub, Int.reduceMul, Int.reduceNeg, Int.reduceToNat]
  refine from_use (s.keep (fun i _ hi9 => by simp (disch := omega) only [upd_other])) hl hc (by omega) fun h1 n1 hn1 hs1 r1 => ?_
  have e1 : h1 n = some ⟨26, [.int .i64 0, .int .i64 0], true, 0⟩ := by rw [hs1 n (by omega), upd_same]
  simp (maxSteps := 2000000) -implicitDefEqProofs (disch := omega) only [xsW, xsC, xsD, xsE, fillA, reduceCtorEq, Nat.reduceAdd, Nat.reduceSub, Nat.reduceLeDiff, Nat.reduceMul, Int.reduceLT, Int.reduceLE, Int.reduceEq, Int.reduceNe, Int.reduceAdd, Int.reduceSub, Int.reduceMul, Int.reduceNeg, Int.reduceToNat]
  refine mq_use (spec_l01DrawFrac r1 (by omega) n1 (by omega)) (fun i a c => .inl (by omega)) fun v2 h2 n2 hn2 ⟨⟨x, y, hv⟩, r2, p2⟩ => ?_
  subst hv
  have e2 := (p2 n (by omega) (by omega)).trans e1
  simp (maxSteps := 2000000) -implicitDefEqProofs (disch := omega) only [xsW, xsC, xsD, xsE, fillA, reduceCtorEq, Nat.reduceAdd, Nat.reduceSub, Nat.reduceLeDiff, Nat.reduceMul, Int.reduceLT, Int.reduceLE, Int.reduceEq, Int.reduceNe, Int.reduceAdd, Int.reduceSub, Int.reduceMul, Int.reduceNeg, Int.reduceToNat,  e2, fr]
  exact fun _ _ _ => ⟨_, _, rfl, rfl⟩
theorem spec_DrawMultiplyFracs (s : Sl false 0 hi h 1 v (bytesA code)) (hl : code.length ≤ 4096) (hc : ∀ x ∈ code, 0 ≤ x ∧ x ≤ 255) (n : Nat) (hn : hi ≤ n) :
    FQ Tryd.prog 17 [v] h n fun x h' n' => ∃ a b c d, x = .tup [fr a b, fr c d] := by
  refine fq_intro Tryd.func17 k_spec_DrawMultiplyFracs ?_
  simp (maxSteps := 2000000) -implicitDefEqProofs (disch := omega) only [c_spec_DrawMultiplyFracs, xsW, xsC, xsD, xsE, fillA, reduceCtorEq, Nat.reduceAdd, Nat.reduceSub, Nat.reduceLeDiff, Nat.reduceMul, Int.reduceLT, Int.reduceLE, Int.reduceEq, Int.reduceNe, Int.reduceAdd, Int.reduceSub, Int.reduceMul, Int.reduceNeg, Int.reduceToNat]
  refine from_use (s.keep (fun i _ hi9 => by simp (disch := omega) only [upd_other])) hl hc (by omega) fun h1 n1 hn1 hs1 r1 => ?_
  have e1 : h1 n = some ⟨26, [.int .i64 0, .int .i64 0], true, 0⟩ := by rw [hs1 n (by omega)]; simp (disch := omega) only [upd_other, upd_same]
  have f1 : h1 (n + 1) = some ⟨26, [.int .i64 0, .int .i64 0], true, 0⟩ := by rw [hs1 (n + 1) (by omega), upd_same]
  simp (maxSteps := 2000000) -implicitDefEqProofs (disch := omega) only [xsW, xsC, xsD, xsE, fillA, reduceCtorEq, Nat.reduceAdd, Nat.reduceSub, Nat.reduceLeDiff, Nat.reduceMul, Int.reduceLT, Int.reduceLE, Int.reduceEq, Int.reduceNe, Int.reduceAdd, Int.reduceSub, Int.reduceMul, Int.reduceNeg, Int.reduceToNat]
  refine mq_use (spec_l01DrawFrac r1 (by omega) n1 (by omega)) (fun i a c => .inl (by omega)) fun v2 h2 n2 hn2 ⟨⟨x, y, hv⟩, r2, p2⟩ => ?_
  subst hv
  have e2 := (p2 n (by omega) (by omega)).trans e1
  have f2 := (p2 (n + 1) (by omega) (by omega)).trans f1
  simp (maxSteps := 2000000) -implicitDefEqProofs (disch := omega) only [xsW, xsC, xsD, xsE, fillA, reduceCtorEq, Nat.reduceAdd, Nat.reduceSub, Nat.reduceLeDiff, Nat.reduceMul, Int.reduceLT, Int.reduceLE, Int.reduceEq, Int.reduceNe, Int.reduceAdd, Int.reduceSub, Int.reduceMul, Int.reduceNeg, Int.reduceToNat,  fr]
  have r3 : Rnd hi (n + 1 + 1) (upd h2 n2 (some ⟨26, [.int .i64 x, .int .i64 y], true, 0⟩)) := r2.keep (by simp (disch := omega) only [upd_other]) (fun i hi9 => by simp (disch := omega) only [upd_other])
  obtain ⟨bl, hbl, hbw⟩ := r3.blk
  refine mqp_use (spec_l01DrawFracN r3 (by omega) _ (by omega)) hbl hbw (by omega) (.inl (by omega)) (fun v' h' n' hR => ⟨hR.1, hR.2.2.2⟩) fun x5 h5 ⟨_, ⟨x', y', hv5⟩, r5, sm5⟩ => ?_
  subst hv5
  have e5 : h5 n = some ⟨26, [.int .i64 0, .int .i64 0], true, 0⟩ := by rw [sm5 n (by omega), upd_other (by omega), e2]
  have f5 : h5 (n + 1) = some ⟨26, [.int .i64 0, .int .i64 0], true, 0⟩ := by rw [sm5 (n + 1) (by omega), upd_other (by omega), f2]
  clear sm5
  simp (maxSteps := 2000000) -implicitDefEqProofs (disch := omega) only [xsW, xsC, xsD, xsE, fillA, reduceCtorEq, Nat.reduceAdd, Nat.reduceSub, Nat.reduceLeDiff, Nat.reduceMul, Int.reduceLT, Int.reduceLE, Int.reduceEq, Int.reduceNe, Int.reduceAdd, Int.reduceSub, Int.reduceMul, Int.reduceNeg, Int.reduceToNat,  e5, f5, fr]
  exact ⟨by omega, fun _ _ _ => ⟨_, _, _, _, ⟨rfl, rfl⟩, rfl, rfl⟩⟩
theorem spec_DrawCompareFracs (s : Sl false 0 hi h 1 v (bytesA code)) (hl : code.length ≤ 4096) (hc : ∀ x ∈ code, 0 ≤ x ∧ x ≤ 255) (n : Nat) (hn : hi ≤ n) :
    FQ Tryd.prog 20 [v] h n fun x h' n' => ∃ a b c d, x = .tup [fr a b, fr c d] := by
  refine fq_intro Tryd.func20 k_spec_DrawCompareFracs ?_
  simp (maxSteps := 2000000) -implicitDefEqProofs (disch := omega) only [c_spec_DrawCompareFracs, xsW, xsC, xsD, xsE, fillA, reduceCtorEq, Nat.reduceAdd, Nat.reduceSub, Nat.reduceLeDiff, Nat.reduceMul, Int.reduceLT, Int.reduceLE, Int.reduceEq, Int.reduceNe, Int.reduceAdd, Int.reduceSub, Int.reduceMul, Int.reduceNeg, Int.reduceToNat]
  refine from_use (s.keep (fun i _ hi9 => by simp (disch := omega) only [upd_other])) hl hc (by omega) fun h1 n1 hn1 hs1 r1 => ?_
  have e1 : h1 n = some ⟨26, [.int .i64 0, .int .i64 0], true, 0⟩ := by rw [hs1 n (by omega)]; simp (disch := omega) only [upd_other, upd_same]
  have f1 : h1 (n + 1) = some ⟨26, [.int .i64 0, .int .i64 0], true, 0⟩ := by rw [hs1 (n + 1) (by omega), upd_same]
  simp (maxSteps := 2000000) -implicitDefEqProofs (disch := omega) only [xsW, xsC, xsD, xsE, fillA, reduceCtorEq, Nat.reduceAdd, Nat.reduceSub, Nat.reduceLeDiff, Nat.reduceMul, Int.reduceLT, Int.reduceLE, Int.reduceEq, Int.reduceNe, Int.reduceAdd, Int.reduceSub, Int.reduceMul, Int.reduceNeg, Int.reduceToNat]
  refine mq_use (spec_l01DrawFrac r1 (by omega) n1 (by omega)) (fun i a c => .inl (by omega)) fun v2 h2 n2 hn2 ⟨⟨x, y, hv⟩, r2, p2⟩ => ?_
  subst hv
  have e2 := (p2 n (by omega) (by omega)).trans e1
  have f2 := (p2 (n + 1) (by omega) (by omega)).trans f1
  simp (maxSteps := 2000000) -implicitDefEqProofs (disch := omega) only [xsW, xsC, xsD, xsE, fillA, reduceCtorEq, Nat.reduceAdd, Nat.reduceSub, Nat.reduceLeDiff, Nat.reduceMul, Int.reduceLT, Int.reduceLE, Int.reduceEq, Int.reduceNe, Int.reduceAdd, Int.reduceSub, Int.reduceMul, Int.reduceNeg, Int.reduceToNat,  fr]
  have r3 : Rnd hi (n + 1 + 1) (upd h2 n2 (some ⟨26, [.int .i64 x, .int .i64 y], true, 0⟩)) := r2.keep (by simp (disch := omega) only [upd_other]) (fun i hi9 => by simp (disch := omega) only [upd_other])
  refine mq_use (spec_l01Next r3 (by omega) 4 _ (by omega)) (fun i a c => .inl (by omega)) fun x4 h4 n4 hn4 ⟨en4, ⟨z4, hz4, b4, b4', _⟩, r4, sm4⟩ => ?_
  subst en4
  subst hz4
  have e4 : h4 n = some ⟨26, [.int .i64 0, .int .i64 0], true, 0⟩ := by rw [sm4 n (by omega), upd_other (by omega), e2]
  have f4 : h4 (n + 1) = some ⟨26, [.int .i64 0, .int .i64 0], true, 0⟩ := by rw [sm4 (n + 1) (by omega), upd_other (by omega), f2]
  have g4 : h4 n2 = some ⟨26, [.int .i64 x, .int .i64 y], true, 0⟩ := by rw [sm4 n2 (by omega), upd_same]
  clear sm4
  simp (maxSteps := 2000000) -implicitDefEqProofs (disch := omega) only [xsW, xsC, xsD, xsE, fillA, reduceCtorEq, Nat.reduceAdd, Nat.reduceSub, Nat.reduceLeDiff, Nat.reduceMul, Int.reduceLT, Int.reduceLE, Int.reduceEq, Int.reduceNe, Int.reduceAdd, Int.reduceSub, Int.reduceMul, Int.reduceNeg, Int.reduceToNat]
  (refine cd_dec (fun c1 => ?_) (fun c1 => ?_) <;> simp (maxSteps := 2000000) -implicitDefEqProofs (disch := omega) only [xsW, xsC, xsD, xsE, fillA, reduceCtorEq, Nat.reduceAdd, Nat.reduceSub, Nat.reduceLeDiff, Nat.reduceMul, Int.reduceLT, Int.reduceLE, Int.reduceEq, Int.reduceNe, Int.reduceAdd, Int.reduceSub, Int.reduceMul, Int.reduceNeg, Int.reduceToNat,  c1])
  · simp (maxSteps := 2000000) -implicitDefEqProofs (disch := omega) only [xsW, xsC, xsD, xsE, fillA, reduceCtorEq, Nat.reduceAdd, Nat.reduceSub, Nat.reduceLeDiff, Nat.reduceMul, Int.reduceLT, Int.reduceLE, Int.reduceEq, Int.reduceNe, Int.reduceAdd, Int.reduceSub, Int.reduceMul, Int.reduceNeg, Int.reduceToNat,  e4, f4, g4]
    exact ⟨by omega, fun _ _ _ => ⟨_, _, _, _, ⟨rfl, rfl⟩, rfl, rfl⟩⟩
  · simp (maxSteps := 2000000) -implicitDefEqProofs (disch := omega) only [xsW, xsC, xsD, xsE, fillA, reduceCtorEq, Nat.reduceAdd, Nat.reduceSub, Nat.reduceLeDiff, Nat.reduceMul, Int.reduceLT, Int.reduceLE, Int.reduceEq, Int.reduceNe, Int.reduceAdd, Int.reduceSub, Int.reduceMul, Int.reduceNeg, Int.reduceToNat,  e4, f4, g4]
    obtain ⟨bl, hbl, hbw⟩ := r4.blk
    refine mqp_use (spec_l01DrawFracN r4 (by omega) _ (by omega)) hbl hbw (by omega) (.inl (by omega)) (fun v' h' n' hR => ⟨hR.1, hR.2.2.2⟩) fun x5 h5 ⟨_, ⟨x', y', hv5⟩, r5, sm5⟩ => ?_
    subst hv5
    have e5 := (sm5 n (by omega)).trans e4
    have f5 := (sm5 (n + 1) (by omega)).trans f4
    clear sm5
    simp (maxSteps := 2000000) -implicitDefEqProofs (disch := omega) only [xsW, xsC, xsD, xsE, fillA, reduceCtorEq, Nat.reduceAdd, Nat.reduceSub, Nat.reduceLeDiff, Nat.reduceMul, Int.reduceLT, Int.reduceLE, Int.reduceEq, Int.reduceNe, Int.reduceAdd, Int.reduceSub, Int.reduceMul, Int.reduceNeg, Int.reduceToNat,  e5, f5, fr]
    exact ⟨by omega, fun _ _ _ => ⟨_, _, _, _, ⟨rfl, rfl⟩, rfl, rfl⟩⟩
theorem spec_DrawFracOf (s : Sl false 0 hi h 1 v (bytesA code)) (hl : code.length ≤ 4096) (hc : ∀ x ∈ code, 0 ≤ x ∧ x ≤ 255) (n : Nat) (hn : hi ≤ n) :
    FQ Tryd.prog 22 [v] h n fun x h' n' => ∃ a b, x = .tup [.int .i64 a, .int .i64 b] := by
  refine fq_intro Tryd.func22 k_spec_DrawFracOf ?_
  simp (maxSteps := 2000000) -implicitDefEqProofs (disch := omega) only [c_spec_DrawFracOf, xsW, xsC, xsD, xsE, fillA, reduceCtorEq, Nat.reduceAdd, Nat.reduceSub, Nat.reduceLeDiff, Nat.reduceMul, Int.reduceLT, Int.reduceLE, Int.reduceEq, Int.reduceNe, Int.reduceAdd, Int.reduceSub, Int.reduceMul, Int.reduceNeg, Int.reduceToNat]
  refine from_use s hl hc hn fun h1 n1 hn1 hs1 r1 => ?_
  simp (maxSteps := 2000000) -implicitDefEqProofs (disch := omega) only [xsW, xsC, xsD, xsE, fillA, reduceCtorEq, Nat.reduceAdd, Nat.reduceSub, Nat.reduceLeDiff, Nat.reduceMul, Int.reduceLT, Int.reduceLE, Int.reduceEq, Int.reduceNe, Int.reduceAdd, Int.reduceSub, Int.reduceMul, Int.reduceNeg, Int.reduceToNat]
  refine mq_use (spec_l01Pick (bnd := hi) (b := n) (w := true) (lo := n1) (hi := n1 + 1) (l := [6, 100, 1000000000, 1000000000000]) (r1.keep (by simp (disch := omega) only [upd_other]) (fun i hi9 => by simp (disch := omega) only [upd_other])) hn (Sl.of_sl (upd_same _ _ _) rfl (Nat.le_refl _) (Nat.le_refl _) (by omega)) (by omega) (by simp) (by simp) _ (by omega)) (fun i a c => .inl (by omega)) fun x2 h2 n2 hn2 ⟨en2, ⟨z2, hz2, m2⟩, r2, _⟩ => ?_
  subst hz2
  have b2 : 6 ≤ z2 ∧ z2 ≤ 1000000000000 := by simp only [List.mem_cons, List.not_mem_nil, or_false] at m2; omega
  simp (maxSteps := 2000000) -implicitDefEqProofs (disch := omega) only [xsW, xsC, xsD, xsE, fillA, reduceCtorEq, Nat.reduceAdd, Nat.reduceSub, Nat.reduceLeDiff, Nat.reduceMul, Int.reduceLT, Int.reduceLE, Int.reduceEq, Int.reduceNe, Int.reduceAdd, Int.reduceSub, Int.reduceMul, Int.reduceNeg, Int.reduceToNat]
  refine mq_use (spec_l01DrawPart r2 hn z2 (by omega) (by omega) _ (by omega)) (fun i a c => .inl (by omega)) fun x3 h3 n3 hn3 ⟨en3, ⟨z3, hz3, b3⟩, r3, _⟩ => ?_
  subst hz3
  simp (maxSteps := 2000000) -implicitDefEqProofs (disch := omega) only [xsW, xsC, xsD, xsE, fillA, reduceCtorEq, Nat.reduceAdd, Nat.reduceSub, Nat.reduceLeDiff, Nat.reduceMul, Int.reduceLT, Int.reduceLE, Int.reduceEq, Int.reduceNe, Int.reduceAdd, Int.reduceSub, Int.reduceMul, Int.reduceNeg, Int.reduceToNat]
  refine mq_use (spec_l01DrawPart r3 hn z2 (by omega) (by omega) _ (by omega)) (fun i a c => .inl (by omega)) fun x4 h4 n4 hn4 ⟨en4, ⟨z4, hz4, b4⟩, r4, _⟩ => ?_
  subst hz4
  simp (maxSteps := 2000000) -implicitDefEqProofs (disch := omega) only [xsW, xsC, xsD, xsE, fillA, reduceCtorEq, Nat.reduceAdd, Nat.reduceSub, Nat.reduceLeDiff, Nat.reduceMul, Int.reduceLT, Int.reduceLE, Int.reduceEq, Int.reduceNe, Int.reduceAdd, Int.reduceSub, Int.reduceMul, Int.reduceNeg, Int.reduceToNat]
  refine mq_use (spec_l01Next r4 hn 3 _ (by omega)) (fun i a c => .inl (by omega)) fun x5 h5 n5 hn5 ⟨en5, ⟨z5, hz5, b5⟩, r5, _⟩ => ?_
  subst hz5
  simp (maxSteps := 2000000) -implicitDefEqProofs (disch := omega) only [xsW, xsC, xsD, xsE, fillA, reduceCtorEq, Nat.reduceAdd, Nat.reduceSub, Nat.reduceLeDiff, Nat.reduceMul, Int.reduceLT, Int.reduceLE, Int.reduceEq, Int.reduceNe, Int.reduceAdd, Int.reduceSub, Int.reduceMul, Int.reduceNeg, Int.reduceToNat]
  (refine gd_dec (fun c1 => ?_) (fun c1 => ?_) <;> simp (maxSteps := 2000000) -implicitDefEqProofs (disch := omega) only [xsW, xsC, xsD, xsE, fillA, reduceCtorEq, Nat.reduceAdd, Nat.reduceSub, Nat.reduceLeDiff, Nat.reduceMul, Int.reduceLT, Int.reduceLE, Int.reduceEq, Int.reduceNe, Int.reduceAdd, Int.reduceSub, Int.reduceMul, Int.reduceNeg, Int.reduceToNat,  c1])
  · (refine cd_dec (fun c2 => ?_) (fun c2 => ?_) <;> simp (maxSteps := 2000000) -implicitDefEqProofs (disch := omega) only [xsW, xsC, xsD, xsE, fillA, reduceCtorEq, Nat.reduceAdd, Nat.reduceSub, Nat.reduceLeDiff, Nat.reduceMul, Int.reduceLT, Int.reduceLE, Int.reduceEq, Int.reduceNe, Int.reduceAdd, Int.reduceSub, Int.reduceMul, Int.reduceNeg, Int.reduceToNat,  c2])
    · refine mq_use (spec_l01DrawPart r5 hn 9 (by omega) (by omega) _ (by omega)) (fun i a c => .inl (by omega)) fun x6 h6 n6 hn6 ⟨en6, ⟨z6, hz6, b6⟩, r6, _⟩ => ?_
      subst hz6
      have t1 := tdiv_le z4 7
      have t2 : (z6 * z4.tdiv 7).natAbs ≤ 9 * 1000000000000 := by rw [Int.natAbs_mul]; exact Nat.mul_le_mul (by omega) (by omega)
      obtain ⟨q, hq⟩ : ∃ q, q = z4.tdiv 7 := ⟨_, rfl⟩
      simp (maxSteps := 2000000) -implicitDefEqProofs (disch := omega) only [xsW, xsC, xsD, xsE, fillA, reduceCtorEq, Nat.reduceAdd, Nat.reduceSub, Nat.reduceLeDiff, Nat.reduceMul, Int.reduceLT, Int.reduceLE, Int.reduceEq, Int.reduceNe, Int.reduceAdd, Int.reduceSub, Int.reduceMul, Int.reduceNeg, Int.reduceToNat]
      rw [← hq] at *
      refine mq_use (spec_l01Pick (bnd := hi) (b := n) (w := true) (lo := n6) (hi := n6 + 1) (l := [(z6 * q), (z6 * q), (z6 * q), (z6 * q), (z6 * q), 1000000000001]) (r6.keep (by simp (disch := omega) only [upd_other]) (fun i hi9 => by simp (disch := omega) only [upd_other])) hn (Sl.of_sl (upd_same _ _ _) rfl (Nat.le_refl _) (Nat.le_refl _) (by omega)) (by omega) (by simp) (by simp) _ (by omega)) (fun i a c => .inl (by omega)) fun x9 h9 n9 hn9 ⟨en9, ⟨z9, hz9, _⟩, _, _⟩ => ?_
      subst hz9
      simp (maxSteps := 2000000) -implicitDefEqProofs (disch := omega) only [xsW, xsC, xsD, xsE, fillA, reduceCtorEq, Nat.reduceAdd, Nat.reduceSub, Nat.reduceLeDiff, Nat.reduceMul, Int.reduceLT, Int.reduceLE, Int.reduceEq, Int.reduceNe, Int.reduceAdd, Int.reduceSub, Int.reduceMul, Int.reduceNeg, Int.reduceToNat]
      exact fun _ _ _ => ⟨_, _, rfl, rfl⟩
    · refine mq_use (spec_l01Pick (bnd := hi) (b := n) (w := true) (lo := n5) (hi := n5 + 1) (l := [z3, z3, z3, z3, z3, 1000000000001]) (r5.keep (by simp (disch := omega) only [upd_other]) (fun i hi9 => by simp (disch := omega) only [upd_other])) hn (Sl.of_sl (upd_same _ _ _) rfl (Nat.le_refl _) (Nat.le_refl _) (by omega)) (by omega) (by simp) (by simp) _ (by omega)) (fun i a c => .inl (by omega)) fun x9 h9 n9 hn9 ⟨en9, ⟨z9, hz9, _⟩, _, _⟩ => ?_
      subst hz9
      simp (maxSteps := 2000000) -implicitDefEqProofs (disch := omega) only [xsW, xsC, xsD, xsE, fillA, reduceCtorEq, Nat.reduceAdd, Nat.reduceSub, Nat.reduceLeDiff, Nat.reduceMul, Int.reduceLT, Int.reduceLE, Int.reduceEq, Int.reduceNe, Int.reduceAdd, Int.reduceSub, Int.reduceMul, Int.reduceNeg, Int.reduceToNat]
      exact fun _ _ _ => ⟨_, _, rfl, rfl⟩
  · refine mq_use (spec_l01Pick (bnd := hi) (b := n) (w := true) (lo := n5) (hi := n5 + 1) (l := [z3, z3, z3, z3, z3, 1000000000001]) (r5.keep (by simp (disch := omega) only [upd_other]) (fun i hi9 => by simp (disch := omega) only [upd_other])) hn (Sl.of_sl (upd_same _ _ _) rfl (Nat.le_refl _) (Nat.le_refl _) (by omega)) (by omega) (by simp) (by simp) _ (by omega)) (fun i a c => .inl (by omega)) fun x9 h9 n9 hn9 ⟨en9, ⟨z9, hz9, _⟩, _, _⟩ => ?_
    subst hz9
    simp (maxSteps := 2000000) -implicitDefEqProofs (disch := omega) only [xsW, xsC, xsD, xsE, fillA, reduceCtorEq, Nat.reduceAdd, Nat.reduceSub, Nat.reduceLeDiff, Nat.reduceMul, Int.reduceLT, Int.reduceLE, Int.reduceEq, Int.reduceNe, Int.reduceAdd, Int.reduceSub, Int.reduceMul, Int.reduceNeg, Int.reduceToNat]
    exact fun _ _ _ => ⟨_, _, rfl, rfl⟩
theorem spec_DrawAddFracs (s : Sl false 0 hi h 1 v (bytesA code)) (hl : code.length ≤ 4096) (hc : ∀ x ∈ code, 0 ≤ x ∧ x ≤ 255) (n : Nat) (hn : hi ≤ n) :
    FQ Tryd.prog 11 [v] h n fun x h' n' => ∃ a b c d k, x = .tup [fr a b, fr c d, .int .i64 k] := by
  refine fq_intro Tryd.func11 k_spec_DrawAddFracs ?_
  simp (maxSteps := 2000000) -implicitDefEqProofs (disch := omega) only [c_spec_DrawAddFracs, xsW, xsC, xsD, xsE, fillA, reduceCtorEq, Nat.reduceAdd, Nat.reduceSub, Nat.reduceLeDiff, Nat.reduceMul, Int.reduceLT, Int.reduceLE, Int.reduceEq, Int.reduceNe, Int.reduceAdd, Int.reduceSub, Int.reduceMul, Int.reduceNeg, Int.reduceToNat]
  refine from_use (s.keep (fun i _ hi9 => by simp (disch := omega) only [upd_other])) hl hc (by omega) fun h1 n1 hn1 hs1 r1 => ?_
  have e1 : h1 n = some ⟨26, [.int .i64 0, .int .i64 0], true, 0⟩ := by rw [hs1 n (by omega)]; simp (disch := omega) only [upd_other, upd_same]
  have f1 : h1 (n + 1) = some ⟨26, [.int .i64 0, .int .i64 0], true, 0⟩ := by rw [hs1 (n + 1) (by omega), upd_same]
  simp (maxSteps := 2000000) -implicitDefEqProofs (disch := omega) only [xsW, xsC, xsD, xsE, fillA, reduceCtorEq, Nat.reduceAdd, Nat.reduceSub, Nat.reduceLeDiff, Nat.reduceMul, Int.reduceLT, Int.reduceLE, Int.reduceEq, Int.reduceNe, Int.reduceAdd, Int.reduceSub, Int.reduceMul, Int.reduceNeg, Int.reduceToNat]
  refine mq_use (spec_l01DrawFracN r1 (by omega) n1 (by omega)) (fun i a c => .inl (by omega)) fun v2 h2 n2 hn2 ⟨en2, ⟨x, y, hv⟩, r2, sm2⟩ => ?_
  subst en2
  subst hv
  have e2 := (sm2 n (by omega)).trans e1
  have f2 := (sm2 (n + 1) (by omega)).trans f1
  clear sm2
  simp (maxSteps := 2000000) -implicitDefEqProofs (disch := omega) only [xsW, xsC, xsD, xsE, fillA, reduceCtorEq, Nat.reduceAdd, Nat.reduceSub, Nat.reduceLeDiff, Nat.reduceMul, Int.reduceLT, Int.reduceLE, Int.reduceEq, Int.reduceNe, Int.reduceAdd, Int.reduceSub, Int.reduceMul, Int.reduceNeg, Int.reduceToNat,  fr]
  have r3 : Rnd hi (n + 1 + 1) (upd h2 n2 (some ⟨26, [.int .i64 x, .int .i64 y], true, 0⟩)) := r2.keep (by simp (disch := omega) only [upd_other]) (fun i hi9 => by simp (disch := omega) only [upd_other])
  refine mq_use (spec_l01DrawFracN r3 (by omega) _ (by omega)) (fun i a c => .inl (by omega)) fun v4 h4 n4 hn4 ⟨en4, ⟨z, u, hv⟩, r4, sm4⟩ => ?_
  subst en4
  subst hv
  have e4 : h4 n = some ⟨26, [.int .i64 0, .int .i64 0], true, 0⟩ := by rw [sm4 n (by omega), upd_other (by omega), e2]
  have f4 : h4 (n + 1) = some ⟨26, [.int .i64 0, .int .i64 0], true, 0⟩ := by rw [sm4 (n + 1) (by omega), upd_other (by omega), f2]
  have g4 : h4 n2 = some ⟨26, [.int .i64 x, .int .i64 y], true, 0⟩ := by rw [sm4 n2 (by omega), upd_same]
  clear sm4
  simp (maxSteps := 2000000) -implicitDefEqProofs (disch := omega) only [xsW, xsC, xsD, xsE, fillA, reduceCtorEq, Nat.reduceAdd, Nat.reduceSub, Nat.reduceLeDiff, Nat.reduceMul, Int.reduceLT, Int.reduceLE, Int.reduceEq, Int.reduceNe, Int.reduceAdd, Int.reduceSub, Int.reduceMul, Int.reduceNeg, Int.reduceToNat,  fr]
  have r5 : Rnd hi (n + 1 + 1) (upd h4 (n2 + 1) (some ⟨26, [.int .i64 z, .int .i64 u], true, 0⟩)) := r4.keep (by simp (disch := omega) only [upd_other]) (fun i hi9 => by simp (disch := omega) only [upd_other])
  refine mq_use (spec_l01Next r5 (by omega) 4 _ (by omega)) (fun i a c => .inl (by omega)) fun x6 h6 n6 hn6 ⟨en6, ⟨z6, hz6, b6, _⟩, r6, sm6⟩ => ?_
  subst en6
  subst hz6
  have e6 : h6 n = some ⟨26, [.int .i64 0, .int .i64 0], true, 0⟩ := by rw [sm6 n (by omega), upd_other (by omega), e4]
  have f6 : h6 (n + 1) = some ⟨26, [.int .i64 0, .int .i64 0], true, 0⟩ := by rw [sm6 (n + 1) (by omega), upd_other (by omega), f4]
  have g6 : h6 n2 = some ⟨26, [.int .i64 x, .int .i64 y], true, 0⟩ := by rw [sm6 n2 (by omega), upd_other (by omega), g4]
  have k6 : h6 (n2 + 1) = some ⟨26, [.int .i64 z, .int .i64 u], true, 0⟩ := by rw [sm6 (n2 + 1) (by omega), upd_same]
  clear sm6
  obtain ⟨bl, hbl, hbw⟩ := r6.blk
  simp (maxSteps := 2000000) -implicitDefEqProofs (disch := omega) only [xsW, xsC, xsD, xsE, fillA, reduceCtorEq, Nat.reduceAdd, Nat.reduceSub, Nat.reduceLeDiff, Nat.reduceMul, Int.reduceLT, Int.reduceLE, Int.reduceEq, Int.reduceNe, Int.reduceAdd, Int.reduceSub, Int.reduceMul, Int.reduceNeg, Int.reduceToNat]
  (refine gd_dec (fun c1 => ?_) (fun c1 => ?_) <;> simp (maxSteps := 2000000) -implicitDefEqProofs (disch := omega) only [xsW, xsC, xsD, xsE, fillA, reduceCtorEq, Nat.reduceAdd, Nat.reduceSub, Nat.reduceLeDiff, Nat.reduceMul, Int.reduceLT, Int.reduceLE, Int.reduceEq, Int.reduceNe, Int.reduceAdd, Int.reduceSub, Int.reduceMul, Int.reduceNeg, Int.reduceToNat,  c1])
  · simp (maxSteps := 2000000) -implicitDefEqProofs (disch := omega) only [xsW, xsC, xsD, xsE, fillA, reduceCtorEq, Nat.reduceAdd, Nat.reduceSub, Nat.reduceLeDiff, Nat.reduceMul, Int.reduceLT, Int.reduceLE, Int.reduceEq, Int.reduceNe, Int.reduceAdd, Int.reduceSub, Int.reduceMul, Int.reduceNeg, Int.reduceToNat,  k6, g6]
    refine q_use (spec_IsFrac z u _ _) fun n7 hn7 => ?_
    cases hf : isFr 1000000000 z u
    · simp (maxSteps := 2000000) -implicitDefEqProofs (disch := omega) only [xsW, xsC, xsD, xsE, fillA, reduceCtorEq, Nat.reduceAdd, Nat.reduceSub, Nat.reduceLeDiff, Nat.reduceMul, Int.reduceLT, Int.reduceLE, Int.reduceEq, Int.reduceNe, Int.reduceAdd, Int.reduceSub, Int.reduceMul, Int.reduceNeg, Int.reduceToNat,  k6, g6]
      refine mqp_use (spec_l01Pick (bnd := hi) (b := n + 1 + 1) (w := true) (lo := n7) (hi := n7 + 1) (l := [1, 1, -1, -1, 1, 0, 2]) (r6.keep (by simp (disch := omega) only [upd_other]) (fun i hi9 => by simp (disch := omega) only [upd_other])) (by omega) (Sl.of_sl (upd_same _ _ _) rfl (Nat.le_refl _) (Nat.le_refl _) (by omega)) (by omega) (by simp) (by simp) _ (by omega)) (by rw [upd_other (by omega)]; exact hbl) hbw (by omega) (.inl (by omega)) (fun v' h' n' hR => ⟨hR.1, hR.2.2.2⟩) fun x9 h9 ⟨_, ⟨z9, hz9, _⟩, _, sm9⟩ => ?_
      subst hz9
      have e9 : h9 n = some ⟨26, [.int .i64 0, .int .i64 0], true, 0⟩ := by rw [sm9 n (by omega), upd_other (by omega), e6]
      have f9 : h9 (n + 1) = some ⟨26, [.int .i64 0, .int .i64 0], true, 0⟩ := by rw [sm9 (n + 1) (by omega), upd_other (by omega), f6]
      clear sm9
      simp (maxSteps := 2000000) -implicitDefEqProofs (disch := omega) only [xsW, xsC, xsD, xsE, fillA, reduceCtorEq, Nat.reduceAdd, Nat.reduceSub, Nat.reduceLeDiff, Nat.reduceMul, Int.reduceLT, Int.reduceLE, Int.reduceEq, Int.reduceNe, Int.reduceAdd, Int.reduceSub, Int.reduceMul, Int.reduceNeg, Int.reduceToNat,  e9, f9, fr]
      exact ⟨by omega, fun _ _ _ => ⟨_, _, _, _, _, ⟨rfl, rfl⟩, ⟨rfl, rfl⟩, rfl⟩⟩
    · simp (maxSteps := 2000000) -implicitDefEqProofs (disch := omega) only [xsW, xsC, xsD, xsE, fillA, reduceCtorEq, Nat.reduceAdd, Nat.reduceSub, Nat.reduceLeDiff, Nat.reduceMul, Int.reduceLT, Int.reduceLE, Int.reduceEq, Int.reduceNe, Int.reduceAdd, Int.reduceSub, Int.reduceMul, Int.reduceNeg, Int.reduceToNat,  k6, g6]
      obtain ⟨_, bu⟩ := isFr_b hf
      refine mqp_use (spec_l01DrawPart r6 (by omega) 1000 (by omega) (by omega) _ (by omega)) hbl hbw (by omega) (.inl (by omega)) (fun v' h' n' hR => ⟨hR.1, hR.2.2.2⟩) fun x8 h8 ⟨_, ⟨z8, hz8, b8⟩, r8, sm8⟩ => ?_
      subst hz8
      have e8 := (sm8 n (by omega)).trans e6
      have f8 := (sm8 (n + 1) (by omega)).trans f6
      have g8 := (sm8 n2 (by omega)).trans g6
      have k8 := (sm8 (n2 + 1) (by omega)).trans k6
      clear sm8
      simp (maxSteps := 2000000) -implicitDefEqProofs (disch := omega) only [xsW, xsC, xsD, xsE, fillA, reduceCtorEq, Nat.reduceAdd, Nat.reduceSub, Nat.reduceLeDiff, Nat.reduceMul, Int.reduceLT, Int.reduceLE, Int.reduceEq, Int.reduceNe, Int.reduceAdd, Int.reduceSub, Int.reduceMul, Int.reduceNeg, Int.reduceToNat]
      refine q_use (spec_l01Frac z8 u (by unfold in64; omega) (by unfold in64; omega) (by omega) _ _) fun n9 hn9 => ?_
      obtain ⟨X, hX⟩ : ∃ X, X = (red z8 u).1 := ⟨_, rfl⟩
      obtain ⟨Y, hY⟩ : ∃ Y, Y = (red z8 u).2 := ⟨_, rfl⟩
      rw [← hX, ← hY]
      simp (maxSteps := 2000000) -implicitDefEqProofs (disch := omega) only [xsW, xsC, xsD, xsE, fillA, reduceCtorEq, Nat.reduceAdd, Nat.reduceSub, Nat.reduceLeDiff, Nat.reduceMul, Int.reduceLT, Int.reduceLE, Int.reduceEq, Int.reduceNe, Int.reduceAdd, Int.reduceSub, Int.reduceMul, Int.reduceNeg, Int.reduceToNat,  g8, k8, fr]
      refine ⟨by omega, ?_⟩
      obtain ⟨h10, hh10⟩ : ∃ h10, h10 = upd h8 n2 (some ⟨26, [.int .i64 X, .int .i64 Y], true, 0⟩) := ⟨_, rfl⟩
      have r10 : Rnd hi (n + 1 + 1) h10 := by rw [hh10]; exact r8.keep (by simp (disch := omega) only [upd_other]) (fun i hi9 => by simp (disch := omega) only [upd_other])
      have e10 : h10 n = some ⟨26, [.int .i64 0, .int .i64 0], true, 0⟩ := by rw [hh10, upd_other (by omega), e8]
      have f10 : h10 (n + 1) = some ⟨26, [.int .i64 0, .int .i64 0], true, 0⟩ := by rw [hh10, upd_other (by omega), f8]
      obtain ⟨bl2, hbl2, hbw2⟩ := r10.blk
      rw [← hh10]
      refine mqp_use (spec_l01Pick (bnd := hi) (b := n + 1 + 1) (w := true) (lo := n9) (hi := n9 + 1) (l := [1, 1, -1, -1, 1, 0, 2]) (r10.keep (by simp (disch := omega) only [upd_other]) (fun i hi9 => by simp (disch := omega) only [upd_other])) (by omega) (Sl.of_sl (upd_same _ _ _) rfl (Nat.le_refl _) (Nat.le_refl _) (by omega)) (by omega) (by simp) (by simp) _ (by omega)) (by rw [upd_other (by omega)]; exact hbl2) hbw2 (by omega) (.inl (by omega)) (fun v' h' n' hR => ⟨hR.1, hR.2.2.2⟩) fun x9 h9 ⟨_, ⟨z9, hz9, _⟩, _, sm9⟩ => ?_
      subst hz9
      have e9 : h9 n = some ⟨26, [.int .i64 0, .int .i64 0], true, 0⟩ := by rw [sm9 n (by omega), upd_other (by omega), e10]
      have f9 : h9 (n + 1) = some ⟨26, [.int .i64 0, .int .i64 0], true, 0⟩ := by rw [sm9 (n + 1) (by omega), upd_other (by omega), f10]
      clear sm9
      simp (maxSteps := 2000000) -implicitDefEqProofs (disch := omega) only [xsW, xsC, xsD, xsE, fillA, reduceCtorEq, Nat.reduceAdd, Nat.reduceSub, Nat.reduceLeDiff, Nat.reduceMul, Int.reduceLT, Int.reduceLE, Int.reduceEq, Int.reduceNe, Int.reduceAdd, Int.reduceSub, Int.reduceMul, Int.reduceNeg, Int.reduceToNat,  e9, f9, fr]
      exact ⟨by omega, fun _ _ _ => ⟨_, _, _, _, _, ⟨rfl, rfl⟩, ⟨rfl, rfl⟩, rfl⟩⟩
  · simp (maxSteps := 2000000) -implicitDefEqProofs (disch := omega) only [xsW, xsC, xsD, xsE, fillA, reduceCtorEq, Nat.reduceAdd, Nat.reduceSub, Nat.reduceLeDiff, Nat.reduceMul, Int.reduceLT, Int.reduceLE, Int.reduceEq, Int.reduceNe, Int.reduceAdd, Int.reduceSub, Int.reduceMul, Int.reduceNeg, Int.reduceToNat,  k6, g6]
    refine mqp_use (spec_l01Pick (bnd := hi) (b := n + 1 + 1) (w := true) (lo := n2 + 1 + 1) (hi := n2 + 1 + 1 + 1) (l := [1, 1, -1, -1, 1, 0, 2]) (r6.keep (by simp (disch := omega) only [upd_other]) (fun i hi9 => by simp (disch := omega) only [upd_other])) (by omega) (Sl.of_sl (upd_same _ _ _) rfl (Nat.le_refl _) (Nat.le_refl _) (by omega)) (by omega) (by simp) (by simp) _ (by omega)) (by rw [upd_other (by omega)]; exact hbl) hbw (by omega) (.inl (by omega)) (fun v' h' n' hR => ⟨hR.1, hR.2.2.2⟩) fun x9 h9 ⟨_, ⟨z9, hz9, _⟩, _, sm9⟩ => ?_
    subst hz9
    have e9 : h9 n = some ⟨26, [.int .i64 0, .int .i64 0], true, 0⟩ := by rw [sm9 n (by omega), upd_other (by omega), e6]
    have f9 : h9 (n + 1) = some ⟨26, [.int .i64 0, .int .i64 0], true, 0⟩ := by rw [sm9 (n + 1) (by omega), upd_other (by omega), f6]
    clear sm9
    simp (maxSteps := 2000000) -implicitDefEqProofs (disch := omega) only [xsW, xsC, xsD, xsE, fillA, reduceCtorEq, Nat.reduceAdd, Nat.reduceSub, Nat.reduceLeDiff, Nat.reduceMul, Int.reduceLT, Int.reduceLE, Int.reduceEq, Int.reduceNe, Int.reduceAdd, Int.reduceSub, Int.reduceMul, Int.reduceNeg, Int.reduceToNat,  e9, f9, fr]
    exact ⟨by omega, fun _ _ _ => ⟨_, _, _, _, _, ⟨rfl, rfl⟩, ⟨rfl, rfl⟩, rfl⟩⟩
end
theorem isFr_g {m a b : Int} (h : isFr m a b = true) : 1 ≤ b ∧ Int.gcd a b = 1 := by
  unfold isFr at h
  rw [decide_eq_true_eq] at h
  exact ⟨h.1, h.2.2.2.2⟩
theorem red_id {m a b : Int} (h : isFr m a b = true) : red a b = (a, b) := by
  obtain ⟨h1, h2⟩ := isFr_g h
  rw [red_pos (by omega), h2]
  simp
theorem red_cross {a b : Int} (hb : 0 < b) : ∃ g : Int, 0 < g ∧ a = g * (red a b).1 ∧ b = g * (red a b).2 := by
  refine ⟨Int.gcd a b, (gcd_bound (by omega)).1, ?_, ?_⟩
  · rw [red_pos hb]; exact (Int.mul_tdiv_cancel' (Int.gcd_dvd_left ..)).symm
  · rw [red_pos hb]; exact (Int.mul_tdiv_cancel' (Int.gcd_dvd_right ..)).symm
theorem tup2 {x y e x' y' e' : Int} (h : AV.tup [fr x y, .int .i64 e] = .tup [fr x' y', .int .i64 e']) : x = x' ∧ y = y' ∧ e = e' := by
  simp only [fr, AV.tup.injEq, AV.agg.injEq, List.cons.injEq, AV.int.injEq, true_and, and_true] at h
  exact ⟨h.1.1, h.1.2, h.2⟩
theorem told_ok {p : Int × Int} {x y : Int} (h : told p = .tup [fr x y, .int .i64 0]) : isFr 1000000000 x y = true ∧ p = (x, y) := by
  unfold told at h
  split at h
  · rename_i hf
    obtain ⟨h1, h2, _⟩ := tup2 h
    subst h1; subst h2
    exact ⟨hf, rfl⟩
  · exact absurd (tup2 h).2.2 (by decide)
theorem addF_ok {a b c d k x y : Int} (h : addF a b c d k = .tup [fr x y, .int .i64 0]) :
    isFr 1000000000 a b = true ∧ isFr 1000000000 c d = true ∧ (k = 1 ∨ k = -1) ∧ isFr 1000000000 x y = true ∧ red (a * d + k * c * b) (b * d) = (x, y) := by
  unfold addF at h
  split at h
  · rename_i h1
    split at h
    · rename_i h2
      obtain ⟨h3, h4⟩ := told_ok h
      exact ⟨h1.1, h1.2, h2, h3, h4⟩
    · exact absurd (tup2 h).2.2 (by decide)
  · exact absurd (tup2 h).2.2 (by decide)
theorem add_scale {a b c d k x y g : Int} (h1 : a * d + k * c * b = g * x) (h2 : b * d = g * y) : g * (x * d + -k * c * y) = d * d * a ∧ g * (y * d) = d * d * b ∧ g * (x * b - a * y) = k * c * (b * b) := by
  have e1 : g * (x * d) = g * x * d := by rw [Int.mul_assoc]
  have e2 : g * (y * d) = g * y * d := by rw [Int.mul_assoc]
  have e3 : g * (x * b) = g * x * b := by rw [Int.mul_assoc]
  refine ⟨?_, ?_, ?_⟩
  · rw [Int.mul_add, e1, ← h1, show g * (-k * c * y) = -k * c * (g * y) by simp only [Int.mul_comm, Int.mul_left_comm, Int.mul_assoc], ← h2]
    simp only [Int.add_mul, Int.neg_mul]
    rw [show k * c * (b * d) = k * c * b * d by simp only [Int.mul_assoc], show a * d * d = d * d * a by simp only [Int.mul_comm, Int.mul_left_comm]]
    omega
  · rw [e2, ← h2]
    simp only [Int.mul_comm, Int.mul_left_comm]
  · rw [Int.mul_sub, e3, ← h1, show g * (a * y) = a * (g * y) by simp only [Int.mul_left_comm], ← h2, Int.add_mul]
    rw [show a * d * b = a * (b * d) by simp only [Int.mul_comm, Int.mul_left_comm], show k * c * b * b = k * c * (b * b) by simp only [Int.mul_assoc]]
    omega
theorem addF_back {a b c d k x y : Int} (h : addF a b c d k = .tup [fr x y, .int .i64 0]) : addF x y c d (-k) = .tup [fr a b, .int .i64 0] := by
  obtain ⟨h1, h2, h3, h4, h5⟩ := addF_ok h
  have b1 := isFr_g h1
  have b2 := isFr_g h2
  have b4 := isFr_g h4
  have hbd : 0 < b * d := Int.mul_pos (by omega) (by omega)
  obtain ⟨g, hg, g1, g2⟩ := red_cross (a := a * d + k * c * b) hbd
  rw [h5] at g1 g2
  obtain ⟨s1, s2, _⟩ := add_scale g1 g2
  have hyd : y * d ≠ 0 := mul_pos_ne b4.1 b2.1
  have e : red (x * d + -k * c * y) (y * d) = (a, b) := by
    rw [← red_scale g _ _ hg hyd, s1, s2, red_scale _ _ _ (Int.mul_pos (by omega) (by omega)) (by omega), red_id h1]
  unfold addF
  rw [if_pos ⟨h4, h2⟩, if_pos (by omega), e]
  unfold told
  rw [if_pos h1]
theorem addF_order {a b c d k x y : Int} (h : addF a b c d k = .tup [fr x y, .int .i64 0]) : cmpF x y a b = .tup [.int .i64 (k * c.sign), .int .i64 0] ∧ cmpF c d 0 1 = .tup [.int .i64 c.sign, .int .i64 0] := by
  obtain ⟨h1, h2, h3, h4, h5⟩ := addF_ok h
  have b1 := isFr_g h1
  have b2 := isFr_g h2
  have b4 := isFr_g h4
  have hbd : 0 < b * d := Int.mul_pos (by omega) (by omega)
  obtain ⟨g, hg, g1, g2⟩ := red_cross (a := a * d + k * c * b) hbd
  rw [h5] at g1 g2
  obtain ⟨_, _, s3⟩ := add_scale g1 g2
  have hs : (x * b - a * y).sign = k * c.sign := by
    have e1 : (g * (x * b - a * y)).sign = (x * b - a * y).sign := by rw [Int.sign_mul, Int.sign_eq_one_of_pos hg, Int.one_mul]
    rw [← e1, s3, Int.sign_mul, Int.sign_mul, Int.sign_eq_one_of_pos (Int.mul_pos (show 0 < b by omega) (by omega)), Int.mul_one]
    rcases h3 with rfl | rfl <;> rfl
  have h0 : isFr 1000000000 0 1 = true := by decide
  refine ⟨?_, ?_⟩
  · unfold cmpF
    rw [if_pos ⟨h4, h1⟩, hs]
  · unfold cmpF
    rw [if_pos ⟨h2, h0⟩]
    simp
theorem mulF_comm (a b c d : Int) : mulF c d a b = mulF a b c d := by
  unfold mulF
  rw [Int.mul_comm c a, Int.mul_comm d b]
  by_cases h1 : isFr 1000000000 a b = true <;> by_cases h2 : isFr 1000000000 c d = true <;> simp [h1, h2]
theorem cmpF_two (a b c d : Int) : ∃ z e, cmpF a b c d = .tup [.int .i64 z, .int .i64 e] := by
  unfold cmpF; split <;> exact ⟨_, _, rfl⟩
theorem tup1 {x e x' e' : Int} (h : AV.tup [.int .i64 x, .int .i64 e] = .tup [.int .i64 x', .int .i64 e']) : x = x' ∧ e = e' := by
  simp only [AV.tup.injEq, List.cons.injEq, AV.int.injEq, true_and, and_true] at h
  exact h
theorem cmpF_ok {a b c d z : Int} (h : cmpF a b c d = .tup [.int .i64 z, .int .i64 0]) : cmpF c d a b = .tup [.int .i64 (-z), .int .i64 0] ∧ (z = 0 ↔ a = c ∧ b = d) ∧ -1 ≤ z ∧ z ≤ 1 := by
  unfold cmpF at h ⊢
  split at h
  · rename_i h1
    obtain ⟨h2, _⟩ := tup1 h
    subst h2
    have b1 := isFr_g h1.1
    have b2 := isFr_g h1.2
    rw [if_pos ⟨h1.2, h1.1⟩]
    refine ⟨?_, ?_, ?_⟩
    · rw [← Int.sign_neg, Int.neg_sub]
    · rw [Int.sign_eq_zero_iff_zero]
      constructor
      · intro e
        have e1 : d * a = b * c := by rw [Int.mul_comm d a, Int.mul_comm b c]; omega
        have r1 := red_scale d a b (by omega) (by omega)
        have r2 := red_scale b c d (by omega) (by omega)
        rw [red_id h1.1, e1, Int.mul_comm d b, r2, red_id h1.2] at r1
        simp only [Prod.mk.injEq] at r1
        exact ⟨r1.1.symm, r1.2.symm⟩
      · rintro ⟨rfl, rfl⟩
        exact Int.sub_self _
    · rcases Int.sign_trichotomy (a * d - c * b) with e | e | e <;> rw [e] <;> decide
  · exact absurd (tup1 h).2 (by decide)
theorem fracOf_ok {a b x y : Int} (h : fracOf a b = .tup [fr x y, .int .i64 0]) : isFr 1000000000 x y = true := by
  unfold fracOf at h
  split at h
  · exact (told_ok h).1
  · exact absurd (tup2 h).2.2 (by decide)
def c_laws_big : F := ⟨(.seq (.reg false [⟨some 2, .mv (.c (.bool false)), none⟩]) (.seq (.reg false [⟨some 3, .mv (.t 0), none⟩, ⟨some 4, .len (.t 3), none⟩, ⟨some 5, .bin .gtr (.t 4) (.c (.int .i64 4096)), none⟩, ⟨some 2, .mv (.t 5), none⟩]) .ret)), 6, [(.t 2)]⟩
theorem k_laws_big : compF Tryd.prog Tryd.f10 = some c_laws_big := by kernel_rfl
def c_laws_FnFractions : F := ⟨(.seq (.reg false [⟨some 2, .mv (.c (.bool false)), none⟩]) (.seq (.seq (.reg false [⟨some 44, .mv (.t 0), none⟩, ⟨some 45, .call (.f 10) [(.t 44)], none⟩]) (.cond (.t 45) (.seq (.reg false [⟨some 2, .mv (.c (.bool true)), none⟩]) .ret) .skip)) (.seq (.reg false [⟨some 47, .mv (.t 0), none⟩, ⟨some 48, .call (.f 11) [(.t 47)], none⟩, ⟨some 46, .mv (.t 48), none⟩, ⟨some 49, .ext (.t 46) 0, none⟩, ⟨some 50, .ext (.t 46) 1, none⟩, ⟨some 51, .ext (.t 46) 2, none⟩, ⟨some 3, .alloc 26 [(.int .i64 0), (.int .i64 0)], none⟩, ⟨some 4, .alloc 26 [(.int .i64 0), (.int .i64 0)], none⟩, ⟨none, .st 2 (.t 3) (.t 49), none⟩, ⟨none, .st 2 (.t 4) (.t 50), none⟩, ⟨some 5, .mv (.t 51), none⟩]) (.seq (.reg false [⟨some 53, .ld 2 (.t 3), none⟩, ⟨some 54, .ld 2 (.t 4), none⟩, ⟨some 55, .mv (.t 5), none⟩, ⟨some 56, .call (.f 12) [(.t 53), (.t 54), (.t 55)], none⟩, ⟨some 52, .mv (.t 56), none⟩, ⟨some 57, .ext (.t 52) 0, none⟩, ⟨some 58, .ext (.t 52) 1, none⟩, ⟨some 6, .alloc 26 [(.int .i64 0), (.int .i64 0)], none⟩, ⟨none, .st 2 (.t 6) (.t 57), none⟩, ⟨some 7, .mv (.t 58), none⟩]) (.seq (.reg false [⟨some 60, .ld 2 (.t 3), none⟩, ⟨some 61, .ld 2 (.t 4), none⟩, ⟨some 62, .mv (.t 5), none⟩, ⟨some 63, .call (.f 13) [(.t 60), (.t 61), (.t 62)], none⟩, ⟨some 59, .mv (.t 63), none⟩, ⟨some 64, .ext (.t 59) 0, none⟩, ⟨some 65, .ext (.t 59) 1, none⟩, ⟨some 8, .alloc 26 [(.int .i64 0), (.int .i64 0)], none⟩, ⟨none, .st 2 (.t 8) (.t 64), none⟩, ⟨some 9, .mv (.t 65), none⟩]) (.seq (.seq (.reg true [⟨some 66, .mv (.t 7), none⟩, ⟨some 67, .mv (.t 9), none⟩, ⟨some 68, .bin .neq (.t 66) (.t 67), none⟩, ⟨some 69, .mv (.t 68), none⟩, ⟨some 70, .ld 2 (.t 6), some (69, false)⟩, ⟨some 71, .ld 2 (.t 8), some (69, false)⟩, ⟨some 72, .feq true (.t 70) (.t 71), some (69, false)⟩, ⟨some 73, .pick (.t 69) (.c (.bool true)) (.t 72), none⟩, ⟨some 74, .mv (.t 73), none⟩, ⟨some 75, .ld 2 (.t 3), some (74, false)⟩, ⟨some 77, .ld 2 (.t 3), some (74, false)⟩, ⟨some 76, .call (.f 14) [(.t 75)], some (74, false)⟩, ⟨some 78, .call (.f 15) [(.t 77)], some (74, false)⟩, ⟨some 79, .beq true (.t 76) (.t 78), some (74, false)⟩, ⟨some 80, .pick (.t 74) (.c (.bool true)) (.t 79), none⟩]) (.cond (.t 80) (.seq (.reg false [⟨some 2, .mv (.c (.bool false)), none⟩]) .ret) .skip)) (.seq (.seq (.reg false [⟨some 81, .mv (.t 7), none⟩, ⟨some 82, .bin .eql (.t 81) (.c (.int .i64 0)), none⟩]) (.cond (.t 82) (.seq (.reg false [⟨some 84, .ld 2 (.t 6), none⟩, ⟨some 85, .ld 2 (.t 4), none⟩, ⟨some 86, .mv (.t 5), none⟩, ⟨some 87, .un .neg (.t 86), none⟩, ⟨some 88, .call (.f 12) [(.t 84), (.t 85), (.t 87)], none⟩, ⟨some 83, .mv (.t 88), none⟩, ⟨some 89, .ext (.t 83) 0, none⟩, ⟨some 90, .ext (.t 83) 1, none⟩, ⟨some 10, .alloc 26 [(.int .i64 0), (.int .i64 0)], none⟩, ⟨none, .st 2 (.t 10) (.t 89), none⟩, ⟨some 11, .mv (.t 90), none⟩]) (.seq (.reg false [⟨some 92, .ld 2 (.t 6), none⟩, ⟨some 93, .ld 2 (.t 3), none⟩, ⟨some 94, .call (.f 16) [(.t 92), (.t 93)], none⟩, ⟨some 91, .mv (.t 94), none⟩, ⟨some 95, .ext (.t 91) 0, none⟩, ⟨some 96, .ext (.t 91) 1, none⟩, ⟨some 12, .mv (.t 95), none⟩, ⟨some 13, .mv (.t 96), none⟩]) (.seq (.reg false [⟨some 97, .build [(.int .i64 0), (.int .i64 0)] [(0, (1, (.c (.int .i64 0)))), (1, (1, (.c (.int .i64 1))))], none⟩, ⟨some 14, .alloc 26 [(.int .i64 0), (.int .i64 0)], none⟩, ⟨none, .st 2 (.t 14) (.t 97), none⟩]) (.seq (.reg false [⟨some 99, .ld 2 (.t 4), none⟩, ⟨some 100, .ld 2 (.t 14), none⟩, ⟨some 101, .call (.f 16) [(.t 99), (.t 100)], none⟩, ⟨some 98, .mv (.t 101), none⟩, ⟨some 102, .ext (.t 98) 0, none⟩, ⟨some 103, .ext (.t 98) 1, none⟩, ⟨some 15, .mv (.t 102), none⟩, ⟨some 16, .mv (.t 103), none⟩]) (.seq (.reg false [⟨some 104, .mv (.t 11), none⟩, ⟨some 105, .bin .neq (.t 104) (.c (.int .i64 0)), none⟩, ⟨some 106, .mv (.t 105), none⟩, ⟨some 107, .mv (.t 13), some (106, false)⟩, ⟨some 108, .bin .neq (.t 107) (.c (.int .i64 0)), some (106, false)⟩, ⟨some 109, .pick (.t 106) (.c (.bool true)) (.t 108), none⟩, ⟨some 110, .mv (.t 109), none⟩, ⟨some 111, .mv (.t 16), some (110, false)⟩, ⟨some 112, .bin .neq (.t 111) (.c (.int .i64 0)), some (110, false)⟩, ⟨some 113, .pick (.t 110) (.c (.bool true)) (.t 112), none⟩, ⟨some 114, .mv (.t 113), none⟩, ⟨some 115, .ld 2 (.t 10), some (114, false)⟩, ⟨some 116, .ld 2 (.t 3), some (114, false)⟩, ⟨some 117, .feq true (.t 115) (.t 116), some (114, false)⟩, ⟨some 118, .pick (.t 114) (.c (.bool true)) (.t 117), none⟩, ⟨some 119, .mv (.t 118), none⟩, ⟨some 120, .ld 2 (.t 6), some (119, false)⟩, ⟨some 121, .call (.f 14) [(.t 120)], some (119, false)⟩, ⟨some 122, .un .not (.t 121), some (119, false)⟩, ⟨some 123, .pick (.t 119) (.c (.bool true)) (.t 122), none⟩, ⟨some 124, .mv (.t 123), none⟩, ⟨some 125, .mv (.t 12), some (124, false)⟩, ⟨some 126, .mv (.t 5), some (124, false)⟩, ⟨some 127, .mv (.t 15), some (124, false)⟩, ⟨some 128, .bin .mul (.t 126) (.t 127), some (124, false)⟩, ⟨some 129, .bin .neq (.t 125) (.t 128), some (124, false)⟩, ⟨some 130, .pick (.t 124) (.c (.bool true)) (.t 129), none⟩]) (.cond (.t 130) (.seq (.reg false [⟨some 2, .mv (.c (.bool false)), none⟩]) .ret) .skip)))))) .skip)) (.seq (.reg false [⟨some 132, .mv (.t 0), none⟩, ⟨some 133, .call (.f 17) [(.t 132)], none⟩, ⟨some 131, .mv (.t 133), none⟩, ⟨some 134, .ext (.t 131) 0, none⟩, ⟨some 135, .ext (.t 131) 1, none⟩, ⟨some 17, .alloc 26 [(.int .i64 0), (.int .i64 0)], none⟩, ⟨some 18, .alloc 26 [(.int .i64 0), (.int .i64 0)], none⟩, ⟨none, .st 2 (.t 17) (.t 134), none⟩, ⟨none, .st 2 (.t 18) (.t 135), none⟩]) (.seq (.reg false [⟨some 137, .ld 2 (.t 17), none⟩, ⟨some 138, .ld 2 (.t 18), none⟩, ⟨some 139, .call (.f 18) [(.t 137), (.t 138)], none⟩, ⟨some 136, .mv (.t 139), none⟩, ⟨some 140, .ext (.t 136) 0, none⟩, ⟨some 141, .ext (.t 136) 1, none⟩, ⟨some 19, .alloc 26 [(.int .i64 0), (.int .i64 0)], none⟩, ⟨none, .st 2 (.t 19) (.t 140), none⟩, ⟨some 20, .mv (.t 141), none⟩]) (.seq (.reg false [⟨some 143, .ld 2 (.t 17), none⟩, ⟨some 144, .ld 2 (.t 18), none⟩, ⟨some 145, .call (.f 19) [(.t 143), (.t 144)], none⟩, ⟨some 142, .mv (.t 145), none⟩, ⟨some 146, .ext (.t 142) 0, none⟩, ⟨some 147, .ext (.t 142) 1, none⟩, ⟨some 21, .alloc 26 [(.int .i64 0), (.int .i64 0)], none⟩, ⟨none, .st 2 (.t 21) (.t 146), none⟩, ⟨some 22, .mv (.t 147), none⟩]) (.seq (.reg false [⟨some 149, .ld 2 (.t 18), none⟩, ⟨some 150, .ld 2 (.t 17), none⟩, ⟨some 151, .call (.f 18) [(.t 149), (.t 150)], none⟩, ⟨some 148, .mv (.t 151), none⟩, ⟨some 152, .ext (.t 148) 0, none⟩, ⟨some 153, .ext (.t 148) 1, none⟩, ⟨some 23, .alloc 26 [(.int .i64 0), (.int .i64 0)], none⟩, ⟨none, .st 2 (.t 23) (.t 152), none⟩, ⟨some 24, .mv (.t 153), none⟩]) (.seq (.seq (.reg false [⟨some 154, .mv (.t 20), none⟩, ⟨some 155, .mv (.t 22), none⟩, ⟨some 156, .bin .neq (.t 154) (.t 155), none⟩, ⟨some 157, .mv (.t 156), none⟩, ⟨some 158, .ld 2 (.t 19), some (157, false)⟩, ⟨some 159, .ld 2 (.t 21), some (157, false)⟩, ⟨some 160, .feq true (.t 158) (.t 159), some (157, false)⟩, ⟨some 161, .pick (.t 157) (.c (.bool true)) (.t 160), none⟩, ⟨some 162, .mv (.t 161), none⟩, ⟨some 163, .mv (.t 24), some (162, false)⟩, ⟨some 164, .mv (.t 20), some (162, false)⟩, ⟨some 165, .bin .neq (.t 163) (.t 164), some (162, false)⟩, ⟨some 166, .pick (.t 162) (.c (.bool true)) (.t 165), none⟩, ⟨some 167, .mv (.t 166), none⟩, ⟨some 168, .ld 2 (.t 23), some (167, false)⟩, ⟨some 169, .ld 2 (.t 19), some (167, false)⟩, ⟨some 170, .feq true (.t 168) (.t 169), some (167, false)⟩, ⟨some 171, .pick (.t 167) (.c (.bool true)) (.t 170), none⟩]) (.cond (.t 171) (.seq (.reg false [⟨some 2, .mv (.c (.bool false)), none⟩]) .ret) .skip)) (.seq (.reg false [⟨some 173, .mv (.t 0), none⟩, ⟨some 174, .call (.f 20) [(.t 173)], none⟩, ⟨some 172, .mv (.t 174), none⟩, ⟨some 175, .ext (.t 172) 0, none⟩, ⟨some 176, .ext (.t 172) 1, none⟩, ⟨some 25, .alloc 26 [(.int .i64 0), (.int .i64 0)], none⟩, ⟨some 26, .alloc 26 [(.int .i64 0), (.int .i64 0)], none⟩, ⟨none, .st 2 (.t 25) (.t 175), none⟩, ⟨none, .st 2 (.t 26) (.t 176), none⟩]) (.seq (.reg false [⟨some 178, .ld 2 (.t 25), none⟩, ⟨some 179, .ld 2 (.t 26), none⟩, ⟨some 180, .call (.f 16) [(.t 178), (.t 179)], none⟩, ⟨some 177, .mv (.t 180), none⟩, ⟨some 181, .ext (.t 177) 0, none⟩, ⟨some 182, .ext (.t 177) 1, none⟩, ⟨some 27, .mv (.t 181), none⟩, ⟨some 28, .mv (.t 182), none⟩]) (.seq (.reg false [⟨some 184, .ld 2 (.t 25), none⟩, ⟨some 185, .ld 2 (.t 26), none⟩, ⟨some 186, .call (.f 21) [(.t 184), (.t 185)], none⟩, ⟨some 183, .mv (.t 186), none⟩, ⟨some 187, .ext (.t 183) 0, none⟩, ⟨some 188, .ext (.t 183) 1, none⟩, ⟨some 29, .mv (.t 187), none⟩, ⟨some 30, .mv (.t 188), none⟩]) (.seq (.seq (.reg false [⟨some 189, .mv (.t 28), none⟩, ⟨some 190, .mv (.t 30), none⟩, ⟨some 191, .bin .neq (.t 189) (.t 190), none⟩, ⟨some 192, .mv (.t 191), none⟩, ⟨some 193, .mv (.t 27), some (192, false)⟩, ⟨some 194, .mv (.t 29), some (192, false)⟩, ⟨some 195, .bin .neq (.t 193) (.t 194), some (192, false)⟩, ⟨some 196, .pick (.t 192) (.c (.bool true)) (.t 195), none⟩]) (.cond (.t 196) (.seq (.reg false [⟨some 2, .mv (.c (.bool false)), none⟩]) .ret) .skip)) (.seq (.seq (.reg false [⟨some 197, .mv (.t 28), none⟩, ⟨some 198, .bin .eql (.t 197) (.c (.int .i64 0)), none⟩]) (.cond (.t 198) (.seq (.reg false [⟨some 200, .ld 2 (.t 26), none⟩, ⟨some 201, .ld 2 (.t 25), none⟩, ⟨some 202, .call (.f 16) [(.t 200), (.t 201)], none⟩, ⟨some 199, .mv (.t 202), none⟩, ⟨some 203, .ext (.t 199) 0, none⟩, ⟨some 204, .ext (.t 199) 1, none⟩, ⟨some 31, .mv (.t 203), none⟩, ⟨some 32, .mv (.t 204), none⟩]) (.seq (.reg false [⟨some 205, .mv (.t 32), none⟩, ⟨some 206, .bin .neq (.t 205) (.c (.int .i64 0)), none⟩, ⟨some 207, .mv (.t 206), none⟩, ⟨some 208, .mv (.t 31), some (207, false)⟩, ⟨some 209, .mv (.t 27), some (207, false)⟩, ⟨some 210, .un .neg (.t 209), some (207, false)⟩, ⟨some 211, .bin .neq (.t 208) (.t 210), some (207, false)⟩, ⟨some 212, .pick (.t 207) (.c (.bool true)) (.t 211), none⟩, ⟨some 213, .mv (.t 212), none⟩, ⟨some 214, .mv (.t 27), some (213, false)⟩, ⟨some 215, .bin .eql (.t 214) (.c (.int .i64 0)), some (213, false)⟩, ⟨some 216, .ld 2 (.t 25), some (213, false)⟩, ⟨some 217, .ld 2 (.t 26), some (213, false)⟩, ⟨some 218, .feq false (.t 216) (.t 217), some (213, false)⟩, ⟨some 219, .beq true (.t 215) (.t 218), some (213, false)⟩, ⟨some 220, .pick (.t 213) (.c (.bool true)) (.t 219), none⟩]) (.cond (.t 220) (.seq (.reg false [⟨some 2, .mv (.c (.bool false)), none⟩]) .ret) .skip))) .skip)) (.seq (.reg false [⟨some 222, .mv (.t 0), none⟩, ⟨some 223, .call (.f 22) [(.t 222)], none⟩, ⟨some 221, .mv (.t 223), none⟩, ⟨some 224, .ext (.t 221) 0, none⟩, ⟨some 225, .ext (.t 221) 1, none⟩, ⟨some 33, .mv (.t 224), none⟩, ⟨some 34, .mv (.t 225), none⟩]) (.seq (.reg false [⟨some 227, .mv (.t 33), none⟩, ⟨some 228, .mv (.t 34), none⟩, ⟨some 229, .call (.f 23) [(.t 227), (.t 228)], none⟩, ⟨some 226, .mv (.t 229), none⟩, ⟨some 230, .ext (.t 226) 0, none⟩, ⟨some 231, .ext (.t 226) 1, none⟩, ⟨some 35, .alloc 26 [(.int .i64 0), (.int .i64 0)], none⟩, ⟨none, .st 2 (.t 35) (.t 230), none⟩, ⟨some 36, .mv (.t 231), none⟩]) (.seq (.reg false [⟨some 233, .mv (.t 33), none⟩, ⟨some 234, .mv (.t 34), none⟩, ⟨some 235, .call (.f 24) [(.t 233), (.t 234)], none⟩, ⟨some 232, .mv (.t 235), none⟩, ⟨some 236, .ext (.t 232) 0, none⟩, ⟨some 237, .ext (.t 232) 1, none⟩, ⟨some 37, .alloc 26 [(.int .i64 0), (.int .i64 0)], none⟩, ⟨none, .st 2 (.t 37) (.t 236), none⟩, ⟨some 38, .mv (.t 237), none⟩]) (.seq (.seq (.reg false [⟨some 238, .mv (.t 36), none⟩, ⟨some 239, .mv (.t 38), none⟩, ⟨some 240, .bin .neq (.t 238) (.t 239), none⟩, ⟨some 241, .mv (.t 240), none⟩, ⟨some 242, .ld 2 (.t 35), some (241, false)⟩, ⟨some 243, .ld 2 (.t 37), some (241, false)⟩, ⟨some 244, .feq true (.t 242) (.t 243), some (241, false)⟩, ⟨some 245, .pick (.t 241) (.c (.bool true)) (.t 244), none⟩, ⟨some 246, .mv (.t 245), none⟩, ⟨some 247, .mv (.t 36), some (246, false)⟩, ⟨some 248, .bin .eql (.t 247) (.c (.int .i64 0)), some (246, false)⟩, ⟨some 249, .mv (.t 248), some (246, false)⟩, ⟨some 250, .ld 2 (.t 35), some (249, true)⟩, ⟨some 251, .call (.f 14) [(.t 250)], some (249, true)⟩, ⟨some 252, .un .not (.t 251), some (249, true)⟩, ⟨some 253, .pick (.t 249) (.t 252) (.c (.bool false)), some (246, false)⟩, ⟨some 254, .pick (.t 246) (.c (.bool true)) (.t 253), none⟩]) (.cond (.t 254) (.seq (.reg false [⟨some 2, .mv (.c (.bool false)), none⟩]) .ret) .skip)) (.seq (.reg false [⟨some 255, .mv (.t 0), none⟩, ⟨some 256, .call (.f 25) [(.t 255)], none⟩, ⟨some 39, .alloc 26 [(.int .i64 0), (.int .i64 0)], none⟩, ⟨none, .st 2 (.t 39) (.t 256), none⟩]) (.seq (.reg false [⟨some 258, .ld 2 (.t 39), none⟩, ⟨some 259, .call (.f 9) [(.t 258)], none⟩, ⟨some 257, .mv (.t 259), none⟩, ⟨some 260, .ext (.t 257) 0, none⟩, ⟨some 261, .ext (.t 257) 1, none⟩, ⟨some 40, .mv (.t 260), none⟩, ⟨some 41, .mv (.t 261), none⟩]) (.seq (.reg false [⟨some 263, .ld 2 (.t 39), none⟩, ⟨some 264, .call (.f 7) [(.t 263)], none⟩, ⟨some 262, .mv (.t 264), none⟩, ⟨some 265, .ext (.t 262) 0, none⟩, ⟨some 266, .ext (.t 262) 1, none⟩, ⟨some 42, .mv (.t 265), none⟩, ⟨some 43, .mv (.t 266), none⟩]) (.seq (.reg false [⟨some 267, .mv (.t 41), none⟩, ⟨some 268, .mv (.t 43), none⟩, ⟨some 269, .bin .eql (.t 267) (.t 268), none⟩, ⟨some 270, .mv (.t 269), none⟩, ⟨some 271, .mv (.t 40), some (270, true)⟩, ⟨some 272, .mv (.t 42), some (270, true)⟩, ⟨some 273, .bin .eql (.t 271) (.t 272), some (270, true)⟩, ⟨some 274, .pick (.t 270) (.t 273) (.c (.bool false)), none⟩, ⟨some 2, .mv (.t 274), none⟩]) .ret))))))))))))))))))))))))), 275, [(.t 2)]⟩
theorem k_laws_FnFractions : compF Tryd.prog Tryd.f4 = some c_laws_FnFractions := by kernel_rfl

theorem laws_big {lo hi : Nat} {h : AH} {v : AV} {code : List Int} (s : Sl false lo hi h 1 v (bytesA code)) (n : Nat) : Q Tryd.prog 10 [v] h n (.bool (decide (4096 < code.length))) := by
  refine q_intro Tryd.func10 k_laws_big ?_
  have hsl : slen v = code.length := by have := s.len; rw [bytesA_len] at this; omega
  simp (maxSteps := 2000000) -implicitDefEqProofs (disch := omega) only [c_laws_big, s.ln, hsl, xsW, xsC, xsD, xsE, fillA, reduceCtorEq, Nat.reduceAdd, Nat.reduceSub, Nat.reduceLeDiff, Nat.reduceMul, Int.reduceLT, Int.reduceLE, Int.reduceEq, Int.reduceNe, Int.reduceAdd, Int.reduceSub, Int.reduceMul, Int.reduceNeg, Int.reduceToNat]
  rw [show decide ((code.length : Int) > 4096) = decide (4096 < code.length) from decide_eq_decide.2 (by omega)]
set_option maxRecDepth 100000 in
set_option maxHeartbeats 8000000 in
theorem laws_FnFractions {hi : Nat} {h : AH} {v : AV} {code : List Int} (t : Tab h) (s : Sl false 0 hi h 1 v (bytesA code)) (hc : ∀ x ∈ code, 0 ≤ x ∧ x ≤ 255) (n : Nat) (hn : hi ≤ n) (hn1 : 1 ≤ n) :
    Q Tryd.prog 4 [v] h n (.bool true) := by
  refine q_intro Tryd.func4 k_laws_FnFractions ?_
  simp (maxSteps := 2000000) -implicitDefEqProofs (disch := omega) only [c_laws_FnFractions, xsW, xsC, xsD, xsE, fillA, reduceCtorEq, Nat.reduceAdd, Nat.reduceSub, Nat.reduceLeDiff, Nat.reduceMul, Int.reduceLT, Int.reduceLE, Int.reduceEq, Int.reduceNe, Int.reduceAdd, Int.reduceSub, Int.reduceMul, Int.reduceNeg, Int.reduceToNat]
  refine q_use (laws_big s n) fun nC hn1 => ?_
  by_cases hb : 4096 < code.length
  · rw [decide_eq_true hb]
    simp (maxSteps := 2000000) -implicitDefEqProofs (disch := omega) only [xsW, xsC, xsD, xsE, fillA, reduceCtorEq, Nat.reduceAdd, Nat.reduceSub, Nat.reduceLeDiff, Nat.reduceMul, Int.reduceLT, Int.reduceLE, Int.reduceEq, Int.reduceNe, Int.reduceAdd, Int.reduceSub, Int.reduceMul, Int.reduceNeg, Int.reduceToNat]
  rw [decide_eq_false hb]
  have hb' : code.length ≤ 4096 := by omega
  simp (maxSteps := 2000000) -implicitDefEqProofs (disch := omega) only [xsW, xsC, xsD, xsE, fillA, reduceCtorEq, Nat.reduceAdd, Nat.reduceSub, Nat.reduceLeDiff, Nat.reduceMul, Int.reduceLT, Int.reduceLE, Int.reduceEq, Int.reduceNe, Int.reduceAdd, Int.reduceSub, Int.reduceMul, Int.reduceNeg, Int.reduceToNat]
  refine fq_use (spec_DrawAddFracs s hb' hc nC (by omega)) fun x2 h2 n2 hn2 hs2 ⟨a, b, c, d, k, hx⟩ => ?_
  subst hx
  have sc2 := s.keep (h' := h2) fun i _ hi' => hs2 i (by omega)
  have t2 : Tab h2 := t.keep (hs2 0 (by omega))
  simp (maxSteps := 2000000) -implicitDefEqProofs (disch := omega) only [xsW, xsC, xsD, xsE, fillA, reduceCtorEq, Nat.reduceAdd, Nat.reduceSub, Nat.reduceLeDiff, Nat.reduceMul, Int.reduceLT, Int.reduceLE, Int.reduceEq, Int.reduceNe, Int.reduceAdd, Int.reduceSub, Int.reduceMul, Int.reduceNeg, Int.reduceToNat,  fr]
  refine q_use (impl_AddFracs a b c d k _ _) fun n3 hn3 => ?_
  obtain ⟨x, y, e, hadd⟩ := addF_two a b c d k
  rw [hadd]
  simp (maxSteps := 2000000) -implicitDefEqProofs (disch := omega) only [xsW, xsC, xsD, xsE, fillA, reduceCtorEq, Nat.reduceAdd, Nat.reduceSub, Nat.reduceLeDiff, Nat.reduceMul, Int.reduceLT, Int.reduceLE, Int.reduceEq, Int.reduceNe, Int.reduceAdd, Int.reduceSub, Int.reduceMul, Int.reduceNeg, Int.reduceToNat,  fr]
  refine q_use (spec_AddFracs a b c d k _ _) fun n4 hn4 => ?_
  rw [hadd]
  simp (maxSteps := 2000000) -implicitDefEqProofs (disch := omega) only [xsW, xsC, xsD, xsE, fillA, reduceCtorEq, Nat.reduceAdd, Nat.reduceSub, Nat.reduceLeDiff, Nat.reduceMul, Int.reduceLT, Int.reduceLE, Int.reduceEq, Int.reduceNe, Int.reduceAdd, Int.reduceSub, Int.reduceMul, Int.reduceNeg, Int.reduceToNat,  fr, w_feq, fe_n, fe_e, eq_self, decide_true, Bool.and_self, Bool.not_true]
  refine q_use (impl_IsFrac a b _ _) fun n5 hn5 => ?_
  simp (maxSteps := 2000000) -implicitDefEqProofs (disch := omega) only [xsW, xsC, xsD, xsE, fillA, reduceCtorEq, Nat.reduceAdd, Nat.reduceSub, Nat.reduceLeDiff, Nat.reduceMul, Int.reduceLT, Int.reduceLE, Int.reduceEq, Int.reduceNe, Int.reduceAdd, Int.reduceSub, Int.reduceMul, Int.reduceNeg, Int.reduceToNat,  fr, w_feq, fe_n, fe_e, eq_self, decide_true, Bool.and_self, Bool.not_true]
  refine q_use (spec_IsFrac a b _ _) fun n6 hn6 => ?_
  simp (maxSteps := 2000000) -implicitDefEqProofs (disch := omega) only [xsW, xsC, xsD, xsE, fillA, reduceCtorEq, Nat.reduceAdd, Nat.reduceSub, Nat.reduceLeDiff, Nat.reduceMul, Int.reduceLT, Int.reduceLE, Int.reduceEq, Int.reduceNe, Int.reduceAdd, Int.reduceSub, Int.reduceMul, Int.reduceNeg, Int.reduceToNat,  fr, w_feq, fe_n, fe_e, eq_self, decide_true, Bool.and_self, Bool.not_true]
  by_cases he : e = 0
  · subst he
    obtain ⟨i1, i2, i3, i4, i5⟩ := addF_ok hadd
    have hks : -1 ≤ k * c.sign ∧ k * c.sign ≤ 1 := by
      rcases Int.sign_trichotomy c with e | e | e <;> rw [e] <;> omega
    simp (maxSteps := 2000000) -implicitDefEqProofs (disch := omega) only [xsW, xsC, xsD, xsE, fillA, reduceCtorEq, Nat.reduceAdd, Nat.reduceSub, Nat.reduceLeDiff, Nat.reduceMul, Int.reduceLT, Int.reduceLE, Int.reduceEq, Int.reduceNe, Int.reduceAdd, Int.reduceSub, Int.reduceMul, Int.reduceNeg, Int.reduceToNat,  fr, w_feq, fe_n, fe_e, eq_self, decide_true, Bool.and_self, Bool.not_true]
    refine q_use (impl_AddFracs x y c d (-k) _ _) fun n6 hn6 => ?_
    rw [addF_back hadd]
    simp (maxSteps := 2000000) -implicitDefEqProofs (disch := omega) only [xsW, xsC, xsD, xsE, fillA, reduceCtorEq, Nat.reduceAdd, Nat.reduceSub, Nat.reduceLeDiff, Nat.reduceMul, Int.reduceLT, Int.reduceLE, Int.reduceEq, Int.reduceNe, Int.reduceAdd, Int.reduceSub, Int.reduceMul, Int.reduceNeg, Int.reduceToNat,  fr, w_feq, fe_n, fe_e, eq_self, decide_true, Bool.and_self, Bool.not_true]
    refine q_use (impl_CompareFracs x y a b _ _) fun n7 hn7 => ?_
    rw [(addF_order hadd).1]
    simp (maxSteps := 2000000) -implicitDefEqProofs (disch := omega) only [xsW, xsC, xsD, xsE, fillA, reduceCtorEq, Nat.reduceAdd, Nat.reduceSub, Nat.reduceLeDiff, Nat.reduceMul, Int.reduceLT, Int.reduceLE, Int.reduceEq, Int.reduceNe, Int.reduceAdd, Int.reduceSub, Int.reduceMul, Int.reduceNeg, Int.reduceToNat,  fr, w_feq, fe_n, fe_e, eq_self, decide_true, Bool.and_self, Bool.not_true]
    refine q_use (impl_CompareFracs c d 0 1 _ _) fun n8 hn8 => ?_
    rw [(addF_order hadd).2]
    simp (maxSteps := 2000000) -implicitDefEqProofs (disch := omega) only [xsW, xsC, xsD, xsE, fillA, reduceCtorEq, Nat.reduceAdd, Nat.reduceSub, Nat.reduceLeDiff, Nat.reduceMul, Int.reduceLT, Int.reduceLE, Int.reduceEq, Int.reduceNe, Int.reduceAdd, Int.reduceSub, Int.reduceMul, Int.reduceNeg, Int.reduceToNat,  fr, w_feq, fe_n, fe_e, eq_self, decide_true, Bool.and_self, Bool.not_true]
    refine q_use (impl_IsFrac x y _ _) fun n9 hn9 => ?_
    rw [i4]
    simp (maxSteps := 2000000) -implicitDefEqProofs (disch := omega) only [xsW, xsC, xsD, xsE, fillA, reduceCtorEq, Nat.reduceAdd, Nat.reduceSub, Nat.reduceLeDiff, Nat.reduceMul, Int.reduceLT, Int.reduceLE, Int.reduceEq, Int.reduceNe, Int.reduceAdd, Int.reduceSub, Int.reduceMul, Int.reduceNeg, Int.reduceToNat,  fr, w_feq, fe_n, fe_e, eq_self, decide_true, Bool.and_self, Bool.not_true]
    refine fq_use (spec_DrawMultiplyFracs (sc2.keep (fun i _ hi9 => by simp (disch := omega) only [upd_other])) hb' hc _ (by omega)) fun x10 h10 n10 hn10 hs10 ⟨ma, mb, mc, md, hx10⟩ => ?_
    subst hx10
    have sc10 := sc2.keep (h' := h10) fun i _ hi' => by rw [hs10 i (by omega)]; simp (disch := omega) only [upd_other]
    have t10 : Tab h10 := t2.keep (by rw [hs10 0 (by omega)]; simp (disch := omega) only [upd_other])
    clear hs10
    simp (maxSteps := 2000000) -implicitDefEqProofs (disch := omega) only [xsW, xsC, xsD, xsE, fillA, reduceCtorEq, Nat.reduceAdd, Nat.reduceSub, Nat.reduceLeDiff, Nat.reduceMul, Int.reduceLT, Int.reduceLE, Int.reduceEq, Int.reduceNe, Int.reduceAdd, Int.reduceSub, Int.reduceMul, Int.reduceNeg, Int.reduceToNat,  fr, w_feq, fe_n, fe_e, eq_self, decide_true, Bool.and_self, Bool.not_true]
    refine q_use (impl_MultiplyFracs ma mb mc md _ _) fun n11 hn11 => ?_
    obtain ⟨mx, my, me, hmul⟩ := mulF_two ma mb mc md
    rw [hmul]
    simp (maxSteps := 2000000) -implicitDefEqProofs (disch := omega) only [xsW, xsC, xsD, xsE, fillA, reduceCtorEq, Nat.reduceAdd, Nat.reduceSub, Nat.reduceLeDiff, Nat.reduceMul, Int.reduceLT, Int.reduceLE, Int.reduceEq, Int.reduceNe, Int.reduceAdd, Int.reduceSub, Int.reduceMul, Int.reduceNeg, Int.reduceToNat,  fr, w_feq, fe_n, fe_e, eq_self, decide_true, Bool.and_self, Bool.not_true]
    refine q_use (spec_MultiplyFracs ma mb mc md _ _) fun n12 hn12 => ?_
    rw [hmul]
    simp (maxSteps := 2000000) -implicitDefEqProofs (disch := omega) only [xsW, xsC, xsD, xsE, fillA, reduceCtorEq, Nat.reduceAdd, Nat.reduceSub, Nat.reduceLeDiff, Nat.reduceMul, Int.reduceLT, Int.reduceLE, Int.reduceEq, Int.reduceNe, Int.reduceAdd, Int.reduceSub, Int.reduceMul, Int.reduceNeg, Int.reduceToNat,  fr, w_feq, fe_n, fe_e, eq_self, decide_true, Bool.and_self, Bool.not_true]
    refine q_use (impl_MultiplyFracs mc md ma mb _ _) fun n13 hn13 => ?_
    rw [mulF_comm, hmul]
    simp (maxSteps := 2000000) -implicitDefEqProofs (disch := omega) only [xsW, xsC, xsD, xsE, fillA, reduceCtorEq, Nat.reduceAdd, Nat.reduceSub, Nat.reduceLeDiff, Nat.reduceMul, Int.reduceLT, Int.reduceLE, Int.reduceEq, Int.reduceNe, Int.reduceAdd, Int.reduceSub, Int.reduceMul, Int.reduceNeg, Int.reduceToNat,  fr, w_feq, fe_n, fe_e, eq_self, decide_true, Bool.and_self, Bool.not_true]
    refine fq_use (spec_DrawCompareFracs (sc10.keep (fun i _ hi9 => by simp (disch := omega) only [upd_other])) hb' hc _ (by omega)) fun x20 h20 n20 hn20 hs20 ⟨ca, cb, cc, cd_, hx20⟩ => ?_
    subst hx20
    have sc20 := sc10.keep (h' := h20) fun i _ hi' => by rw [hs20 i (by omega)]; simp (disch := omega) only [upd_other]
    have t20 : Tab h20 := t10.keep (by rw [hs20 0 (by omega)]; simp (disch := omega) only [upd_other])
    clear hs20
    simp (maxSteps := 2000000) -implicitDefEqProofs (disch := omega) only [xsW, xsC, xsD, xsE, fillA, reduceCtorEq, Nat.reduceAdd, Nat.reduceSub, Nat.reduceLeDiff, Nat.reduceMul, Int.reduceLT, Int.reduceLE, Int.reduceEq, Int.reduceNe, Int.reduceAdd, Int.reduceSub, Int.reduceMul, Int.reduceNeg, Int.reduceToNat,  fr, w_feq, fe_n, fe_e, eq_self, decide_true, Bool.and_self, Bool.not_true]
    refine q_use (impl_CompareFracs ca cb cc cd_ _ _) fun n21 hn21 => ?_
    obtain ⟨cz, ce, hcmp⟩ := cmpF_two ca cb cc cd_
    rw [hcmp]
    simp (maxSteps := 2000000) -implicitDefEqProofs (disch := omega) only [xsW, xsC, xsD, xsE, fillA, reduceCtorEq, Nat.reduceAdd, Nat.reduceSub, Nat.reduceLeDiff, Nat.reduceMul, Int.reduceLT, Int.reduceLE, Int.reduceEq, Int.reduceNe, Int.reduceAdd, Int.reduceSub, Int.reduceMul, Int.reduceNeg, Int.reduceToNat,  fr, w_feq, fe_n, fe_e, eq_self, decide_true, Bool.and_self, Bool.not_true]
    refine q_use (spec_CompareFracs ca cb cc cd_ _ _) fun n22 hn22 => ?_
    rw [hcmp]
    simp (maxSteps := 2000000) -implicitDefEqProofs (disch := omega) only [xsW, xsC, xsD, xsE, fillA, reduceCtorEq, Nat.reduceAdd, Nat.reduceSub, Nat.reduceLeDiff, Nat.reduceMul, Int.reduceLT, Int.reduceLE, Int.reduceEq, Int.reduceNe, Int.reduceAdd, Int.reduceSub, Int.reduceMul, Int.reduceNeg, Int.reduceToNat,  fr, w_feq, fe_n, fe_e, eq_self, decide_true, Bool.and_self, Bool.not_true]
    by_cases hce : ce = 0
    · subst hce
      obtain ⟨j1, j2, j3, j4⟩ := cmpF_ok hcmp
      simp (maxSteps := 2000000) -implicitDefEqProofs (disch := omega) only [xsW, xsC, xsD, xsE, fillA, reduceCtorEq, Nat.reduceAdd, Nat.reduceSub, Nat.reduceLeDiff, Nat.reduceMul, Int.reduceLT, Int.reduceLE, Int.reduceEq, Int.reduceNe, Int.reduceAdd, Int.reduceSub, Int.reduceMul, Int.reduceNeg, Int.reduceToNat,  fr, w_feq, fe_n, fe_e, eq_self, decide_true, Bool.and_self, Bool.not_true]
      refine q_use (impl_CompareFracs cc cd_ ca cb _ _) fun n23 hn23 => ?_
      rw [j1]
      by_cases hz : cz = 0
      · obtain ⟨q1, q2⟩ := j2.1 hz
        subst hz
        subst q1
        subst q2
        simp (maxSteps := 2000000) -implicitDefEqProofs (disch := omega) only [xsW, xsC, xsD, xsE, fillA, reduceCtorEq, Nat.reduceAdd, Nat.reduceSub, Nat.reduceLeDiff, Nat.reduceMul, Int.reduceLT, Int.reduceLE, Int.reduceEq, Int.reduceNe, Int.reduceAdd, Int.reduceSub, Int.reduceMul, Int.reduceNeg, Int.reduceToNat,  fr, w_feq, fe_n, fe_e, eq_self, decide_true, Bool.and_self, Bool.not_true]
        refine fq_use (spec_DrawFracOf (sc20.keep (fun i _ hi9 => by simp (disch := omega) only [upd_other])) hb' hc _ (by omega)) fun x30 h30 n30 hn30 hs30 ⟨oa, ob, hx30⟩ => ?_
        subst hx30
        have sc30 := sc20.keep (h' := h30) fun i _ hi' => by rw [hs30 i (by omega)]; simp (disch := omega) only [upd_other]
        have t30 : Tab h30 := t20.keep (by rw [hs30 0 (by omega)]; simp (disch := omega) only [upd_other])
        clear hs30
        simp (maxSteps := 2000000) -implicitDefEqProofs (disch := omega) only [xsW, xsC, xsD, xsE, fillA, reduceCtorEq, Nat.reduceAdd, Nat.reduceSub, Nat.reduceLeDiff, Nat.reduceMul, Int.reduceLT, Int.reduceLE, Int.reduceEq, Int.reduceNe, Int.reduceAdd, Int.reduceSub, Int.reduceMul, Int.reduceNeg, Int.reduceToNat,  fr, w_feq, fe_n, fe_e, eq_self, decide_true, Bool.and_self, Bool.not_true]
        refine q_use (impl_FracOf oa ob _ _) fun n31 hn31 => ?_
        obtain ⟨ox, oy, oe, hof⟩ := fracOf_two oa ob
        rw [hof]
        simp (maxSteps := 2000000) -implicitDefEqProofs (disch := omega) only [xsW, xsC, xsD, xsE, fillA, reduceCtorEq, Nat.reduceAdd, Nat.reduceSub, Nat.reduceLeDiff, Nat.reduceMul, Int.reduceLT, Int.reduceLE, Int.reduceEq, Int.reduceNe, Int.reduceAdd, Int.reduceSub, Int.reduceMul, Int.reduceNeg, Int.reduceToNat,  fr, w_feq, fe_n, fe_e, eq_self, decide_true, Bool.and_self, Bool.not_true]
        refine q_use (spec_FracOf oa ob _ _) fun n32 hn32 => ?_
        rw [hof]
        by_cases hoe : oe = 0
        · subst hoe
          simp (maxSteps := 2000000) -implicitDefEqProofs (disch := omega) only [xsW, xsC, xsD, xsE, fillA, reduceCtorEq, Nat.reduceAdd, Nat.reduceSub, Nat.reduceLeDiff, Nat.reduceMul, Int.reduceLT, Int.reduceLE, Int.reduceEq, Int.reduceNe, Int.reduceAdd, Int.reduceSub, Int.reduceMul, Int.reduceNeg, Int.reduceToNat,  fr, w_feq, fe_n, fe_e, eq_self, decide_true, Bool.and_self, Bool.not_true]
          refine q_use (impl_IsFrac ox oy _ _) fun n33 hn33 => ?_
          rw [fracOf_ok hof]
          simp (maxSteps := 2000000) -implicitDefEqProofs (disch := omega) only [xsW, xsC, xsD, xsE, fillA, reduceCtorEq, Nat.reduceAdd, Nat.reduceSub, Nat.reduceLeDiff, Nat.reduceMul, Int.reduceLT, Int.reduceLE, Int.reduceEq, Int.reduceNe, Int.reduceAdd, Int.reduceSub, Int.reduceMul, Int.reduceNeg, Int.reduceToNat,  fr, w_feq, fe_n, fe_e, eq_self, decide_true, Bool.and_self, Bool.not_true]
          refine fq_use (spec_DrawFracText (sc30.keep (fun i _ hi9 => by simp (disch := omega) only [upd_other])) hb' hc _ (by omega)) fun x40 h40 n40 hn40 hs40 ⟨ga, gb, hx40⟩ => ?_
          subst hx40
          have t40 : Tab h40 := t30.keep (by rw [hs40 0 (by omega)]; simp (disch := omega) only [upd_other])
          clear hs40
          simp (maxSteps := 2000000) -implicitDefEqProofs (disch := omega) only [xsW, xsC, xsD, xsE, fillA, reduceCtorEq, Nat.reduceAdd, Nat.reduceSub, Nat.reduceLeDiff, Nat.reduceMul, Int.reduceLT, Int.reduceLE, Int.reduceEq, Int.reduceNe, Int.reduceAdd, Int.reduceSub, Int.reduceMul, Int.reduceNeg, Int.reduceToNat,  fr, w_feq, fe_n, fe_e, eq_self, decide_true, Bool.and_self, Bool.not_true]
          refine q_use (impl_FracText (t40.keep (by simp (disch := omega) only [upd_other])) ga gb _ (by omega)) fun n41 hn41 => ?_
          simp (maxSteps := 2000000) -implicitDefEqProofs (disch := omega) only [xsW, xsC, xsD, xsE, fillA, reduceCtorEq, Nat.reduceAdd, Nat.reduceSub, Nat.reduceLeDiff, Nat.reduceMul, Int.reduceLT, Int.reduceLE, Int.reduceEq, Int.reduceNe, Int.reduceAdd, Int.reduceSub, Int.reduceMul, Int.reduceNeg, Int.reduceToNat,  fr, w_feq, fe_n, fe_e, eq_self, decide_true, Bool.and_self, Bool.not_true]
          refine q_use (spec_FracText (t40.keep (by simp (disch := omega) only [upd_other])) ga gb _ (by omega)) fun n42 hn42 => ?_
          simp (maxSteps := 2000000) -implicitDefEqProofs (disch := omega) only [xsW, xsC, xsD, xsE, fillA, reduceCtorEq, Nat.reduceAdd, Nat.reduceSub, Nat.reduceLeDiff, Nat.reduceMul, Int.reduceLT, Int.reduceLE, Int.reduceEq, Int.reduceNe, Int.reduceAdd, Int.reduceSub, Int.reduceMul, Int.reduceNeg, Int.reduceToNat,  fr, w_feq, fe_n, fe_e, eq_self, decide_true, Bool.and_self, Bool.not_true]
        · simp (maxSteps := 2000000) -implicitDefEqProofs (disch := omega) only [xsW, xsC, xsD, xsE, fillA, reduceCtorEq, Nat.reduceAdd, Nat.reduceSub, Nat.reduceLeDiff, Nat.reduceMul, Int.reduceLT, Int.reduceLE, Int.reduceEq, Int.reduceNe, Int.reduceAdd, Int.reduceSub, Int.reduceMul, Int.reduceNeg, Int.reduceToNat,  fr, w_feq, fe_n, fe_e, eq_self, decide_true, Bool.and_self, Bool.not_true]
          refine fq_use (spec_DrawFracText (sc30.keep (fun i _ hi9 => by simp (disch := omega) only [upd_other])) hb' hc _ (by omega)) fun x40 h40 n40 hn40 hs40 ⟨ga, gb, hx40⟩ => ?_
          subst hx40
          have t40 : Tab h40 := t30.keep (by rw [hs40 0 (by omega)]; simp (disch := omega) only [upd_other])
          clear hs40
          simp (maxSteps := 2000000) -implicitDefEqProofs (disch := omega) only [xsW, xsC, xsD, xsE, fillA, reduceCtorEq, Nat.reduceAdd, Nat.reduceSub, Nat.reduceLeDiff, Nat.reduceMul, Int.reduceLT, Int.reduceLE, Int.reduceEq, Int.reduceNe, Int.reduceAdd, Int.reduceSub, Int.reduceMul, Int.reduceNeg, Int.reduceToNat,  fr, w_feq, fe_n, fe_e, eq_self, decide_true, Bool.and_self, Bool.not_true]
          refine q_use (impl_FracText (t40.keep (by simp (disch := omega) only [upd_other])) ga gb _ (by omega)) fun n41 hn41 => ?_
          simp (maxSteps := 2000000) -implicitDefEqProofs (disch := omega) only [xsW, xsC, xsD, xsE, fillA, reduceCtorEq, Nat.reduceAdd, Nat.reduceSub, Nat.reduceLeDiff, Nat.reduceMul, Int.reduceLT, Int.reduceLE, Int.reduceEq, Int.reduceNe, Int.reduceAdd, Int.reduceSub, Int.reduceMul, Int.reduceNeg, Int.reduceToNat,  fr, w_feq, fe_n, fe_e, eq_self, decide_true, Bool.and_self, Bool.not_true]
          refine q_use (spec_FracText (t40.keep (by simp (disch := omega) only [upd_other])) ga gb _ (by omega)) fun n42 hn42 => ?_
          simp (maxSteps := 2000000) -implicitDefEqProofs (disch := omega) only [xsW, xsC, xsD, xsE, fillA, reduceCtorEq, Nat.reduceAdd, Nat.reduceSub, Nat.reduceLeDiff, Nat.reduceMul, Int.reduceLT, Int.reduceLE, Int.reduceEq, Int.reduceNe, Int.reduceAdd, Int.reduceSub, Int.reduceMul, Int.reduceNeg, Int.reduceToNat,  fr, w_feq, fe_n, fe_e, eq_self, decide_true, Bool.and_self, Bool.not_true]
      · have d1 : decide (cz = 0) = false := decide_eq_false hz
        have d2 : (decide (ca = cc) && decide (cb = cd_)) = false := by
          rw [← Bool.not_eq_true, Bool.and_eq_true, decide_eq_true_eq, decide_eq_true_eq]
          exact fun q => hz (j2.2 q)
        simp (maxSteps := 2000000) -implicitDefEqProofs (disch := omega) only [xsW, xsC, xsD, xsE, fillA, reduceCtorEq, Nat.reduceAdd, Nat.reduceSub, Nat.reduceLeDiff, Nat.reduceMul, Int.reduceLT, Int.reduceLE, Int.reduceEq, Int.reduceNe, Int.reduceAdd, Int.reduceSub, Int.reduceMul, Int.reduceNeg, Int.reduceToNat,  d1, d2, fr, w_feq, fe_n, fe_e, eq_self, decide_true, Bool.and_self, Bool.not_true]
        refine fq_use (spec_DrawFracOf (sc20.keep (fun i _ hi9 => by simp (disch := omega) only [upd_other])) hb' hc _ (by omega)) fun x30 h30 n30 hn30 hs30 ⟨oa, ob, hx30⟩ => ?_
        subst hx30
        have sc30 := sc20.keep (h' := h30) fun i _ hi' => by rw [hs30 i (by omega)]; simp (disch := omega) only [upd_other]
        have t30 : Tab h30 := t20.keep (by rw [hs30 0 (by omega)]; simp (disch := omega) only [upd_other])
        clear hs30
        simp (maxSteps := 2000000) -implicitDefEqProofs (disch := omega) only [xsW, xsC, xsD, xsE, fillA, reduceCtorEq, Nat.reduceAdd, Nat.reduceSub, Nat.reduceLeDiff, Nat.reduceMul, Int.reduceLT, Int.reduceLE, Int.reduceEq, Int.reduceNe, Int.reduceAdd, Int.reduceSub, Int.reduceMul, Int.reduceNeg, Int.reduceToNat,  fr, w_feq, fe_n, fe_e, eq_self, decide_true, Bool.and_self, Bool.not_true]
        refine q_use (impl_FracOf oa ob _ _) fun n31 hn31 => ?_
        obtain ⟨ox, oy, oe, hof⟩ := fracOf_two oa ob
        rw [hof]
        simp (maxSteps := 2000000) -implicitDefEqProofs (disch := omega) only [xsW, xsC, xsD, xsE, fillA, reduceCtorEq, Nat.reduceAdd, Nat.reduceSub, Nat.reduceLeDiff, Nat.reduceMul, Int.reduceLT, Int.reduceLE, Int.reduceEq, Int.reduceNe, Int.reduceAdd, Int.reduceSub, Int.reduceMul, Int.reduceNeg, Int.reduceToNat,  fr, w_feq, fe_n, fe_e, eq_self, decide_true, Bool.and_self, Bool.not_true]
        refine q_use (spec_FracOf oa ob _ _) fun n32 hn32 => ?_
        rw [hof]
        by_cases hoe : oe = 0
        · subst hoe
          simp (maxSteps := 2000000) -implicitDefEqProofs (disch := omega) only [xsW, xsC, xsD, xsE, fillA, reduceCtorEq, Nat.reduceAdd, Nat.reduceSub, Nat.reduceLeDiff, Nat.reduceMul, Int.reduceLT, Int.reduceLE, Int.reduceEq, Int.reduceNe, Int.reduceAdd, Int.reduceSub, Int.reduceMul, Int.reduceNeg, Int.reduceToNat,  fr, w_feq, fe_n, fe_e, eq_self, decide_true, Bool.and_self, Bool.not_true]
          refine q_use (impl_IsFrac ox oy _ _) fun n33 hn33 => ?_
          rw [fracOf_ok hof]
          simp (maxSteps := 2000000) -implicitDefEqProofs (disch := omega) only [xsW, xsC, xsD, xsE, fillA, reduceCtorEq, Nat.reduceAdd, Nat.reduceSub, Nat.reduceLeDiff, Nat.reduceMul, Int.reduceLT, Int.reduceLE, Int.reduceEq, Int.reduceNe, Int.reduceAdd, Int.reduceSub, Int.reduceMul, Int.reduceNeg, Int.reduceToNat,  fr, w_feq, fe_n, fe_e, eq_self, decide_true, Bool.and_self, Bool.not_true]
          refine fq_use (spec_DrawFracText (sc30.keep (fun i _ hi9 => by simp (disch := omega) only [upd_other])) hb' hc _ (by omega)) fun x40 h40 n40 hn40 hs40 ⟨ga, gb, hx40⟩ => ?_
          subst hx40
          have t40 : Tab h40 := t30.keep (by rw [hs40 0 (by omega)]; simp (disch := omega) only [upd_other])
          clear hs40
          simp (maxSteps := 2000000) -implicitDefEqProofs (disch := omega) only [xsW, xsC, xsD, xsE, fillA, reduceCtorEq, Nat.reduceAdd, Nat.reduceSub, Nat.reduceLeDiff, Nat.reduceMul, Int.reduceLT, Int.reduceLE, Int.reduceEq, Int.reduceNe, Int.reduceAdd, Int.reduceSub, Int.reduceMul, Int.reduceNeg, Int.reduceToNat,  fr, w_feq, fe_n, fe_e, eq_self, decide_true, Bool.and_self, Bool.not_true]
          refine q_use (impl_FracText (t40.keep (by simp (disch := omega) only [upd_other])) ga gb _ (by omega)) fun n41 hn41 => ?_
          simp (maxSteps := 2000000) -implicitDefEqProofs (disch := omega) only [xsW, xsC, xsD, xsE, fillA, reduceCtorEq, Nat.reduceAdd, Nat.reduceSub, Nat.reduceLeDiff, Nat.reduceMul, Int.reduceLT, Int.reduceLE, Int.reduceEq, Int.reduceNe, Int.reduceAdd, Int.reduceSub, Int.reduceMul, Int.reduceNeg, Int.reduceToNat,  fr, w_feq, fe_n, fe_e, eq_self, decide_true, Bool.and_self, Bool.not_true]
          refine q_use (spec_FracText (t40.keep (by simp (disch := omega) only [upd_other])) ga gb _ (by omega)) fun n42 hn42 => ?_
          simp (maxSteps := 2000000) -implicitDefEqProofs (disch := omega) only [xsW, xsC, xsD, xsE, fillA, reduceCtorEq, Nat.reduceAdd, Nat.reduceSub, Nat.reduceLeDiff, Nat.reduceMul, Int.reduceLT, Int.reduceLE, Int.reduceEq, Int.reduceNe, Int.reduceAdd, Int.reduceSub, Int.reduceMul, Int.reduceNeg, Int.reduceToNat,  fr, w_feq, fe_n, fe_e, eq_self, decide_true, Bool.and_self, Bool.not_true]
        · simp (maxSteps := 2000000) -implicitDefEqProofs (disch := omega) only [xsW, xsC, xsD, xsE, fillA, reduceCtorEq, Nat.reduceAdd, Nat.reduceSub, Nat.reduceLeDiff, Nat.reduceMul, Int.reduceLT, Int.reduceLE, Int.reduceEq, Int.reduceNe, Int.reduceAdd, Int.reduceSub, Int.reduceMul, Int.reduceNeg, Int.reduceToNat,  fr, w_feq, fe_n, fe_e, eq_self, decide_true, Bool.and_self, Bool.not_true]
          refine fq_use (spec_DrawFracText (sc30.keep (fun i _ hi9 => by simp (disch := omega) only [upd_other])) hb' hc _ (by omega)) fun x40 h40 n40 hn40 hs40 ⟨ga, gb, hx40⟩ => ?_
          subst hx40
          have t40 : Tab h40 := t30.keep (by rw [hs40 0 (by omega)]; simp (disch := omega) only [upd_other])
          clear hs40
          simp (maxSteps := 2000000) -implicitDefEqProofs (disch := omega) only [xsW, xsC, xsD, xsE, fillA, reduceCtorEq, Nat.reduceAdd, Nat.reduceSub, Nat.reduceLeDiff, Nat.reduceMul, Int.reduceLT, Int.reduceLE, Int.reduceEq, Int.reduceNe, Int.reduceAdd, Int.reduceSub, Int.reduceMul, Int.reduceNeg, Int.reduceToNat,  fr, w_feq, fe_n, fe_e, eq_self, decide_true, Bool.and_self, Bool.not_true]
          refine q_use (impl_FracText (t40.keep (by simp (disch := omega) only [upd_other])) ga gb _ (by omega)) fun n41 hn41 => ?_
          simp (maxSteps := 2000000) -implicitDefEqProofs (disch := omega) only [xsW, xsC, xsD, xsE, fillA, reduceCtorEq, Nat.reduceAdd, Nat.reduceSub, Nat.reduceLeDiff, Nat.reduceMul, Int.reduceLT, Int.reduceLE, Int.reduceEq, Int.reduceNe, Int.reduceAdd, Int.reduceSub, Int.reduceMul, Int.reduceNeg, Int.reduceToNat,  fr, w_feq, fe_n, fe_e, eq_self, decide_true, Bool.and_self, Bool.not_true]
          refine q_use (spec_FracText (t40.keep (by simp (disch := omega) only [upd_other])) ga gb _ (by omega)) fun n42 hn42 => ?_
          simp (maxSteps := 2000000) -implicitDefEqProofs (disch := omega) only [xsW, xsC, xsD, xsE, fillA, reduceCtorEq, Nat.reduceAdd, Nat.reduceSub, Nat.reduceLeDiff, Nat.reduceMul, Int.reduceLT, Int.reduceLE, Int.reduceEq, Int.reduceNe, Int.reduceAdd, Int.reduceSub, Int.reduceMul, Int.reduceNeg, Int.reduceToNat,  fr, w_feq, fe_n, fe_e, eq_self, decide_true, Bool.and_self, Bool.not_true]
    · simp (maxSteps := 2000000) -implicitDefEqProofs (disch := omega) only [xsW, xsC, xsD, xsE, fillA, reduceCtorEq, Nat.reduceAdd, Nat.reduceSub, Nat.reduceLeDiff, Nat.reduceMul, Int.reduceLT, Int.reduceLE, Int.reduceEq, Int.reduceNe, Int.reduceAdd, Int.reduceSub, Int.reduceMul, Int.reduceNeg, Int.reduceToNat,  fr, w_feq, fe_n, fe_e, eq_self, decide_true, Bool.and_self, Bool.not_true]
      refine fq_use (spec_DrawFracOf (sc20.keep (fun i _ hi9 => by simp (disch := omega) only [upd_other])) hb' hc _ (by omega)) fun x30 h30 n30 hn30 hs30 ⟨oa, ob, hx30⟩ => ?_
      subst hx30
      have sc30 := sc20.keep (h' := h30) fun i _ hi' => by rw [hs30 i (by omega)]; simp (disch := omega) only [upd_other]
      have t30 : Tab h30 := t20.keep (by rw [hs30 0 (by omega)]; simp (disch := omega) only [upd_other])
      clear hs30
      simp (maxSteps := 2000000) -implicitDefEqProofs (disch := omega) only [xsW, xsC, xsD, xsE, fillA, reduceCtorEq, Nat.reduceAdd, Nat.reduceSub, Nat.reduceLeDiff, Nat.reduceMul, Int.reduceLT, Int.reduceLE, Int.reduceEq, Int.reduceNe, Int.reduceAdd, Int.reduceSub, Int.reduceMul, Int.reduceNeg, Int.reduceToNat,  fr, w_feq, fe_n, fe_e, eq_self, decide_true, Bool.and_self, Bool.not_true]
      refine q_use (impl_FracOf oa ob _ _) fun n31 hn31 => ?_
      obtain ⟨ox, oy, oe, hof⟩ := fracOf_two oa ob
      rw [hof]
      simp (maxSteps := 2000000) -implicitDefEqProofs (disch := omega) only [xsW, xsC, xsD, xsE, fillA, reduceCtorEq, Nat.reduceAdd, Nat.reduceSub, Nat.reduceLeDiff, Nat.reduceMul, Int.reduceLT, Int.reduceLE, Int.reduceEq, Int.reduceNe, Int.reduceAdd, Int.reduceSub, Int.reduceMul, Int.reduceNeg, Int.reduceToNat,  fr, w_feq, fe_n, fe_e, eq_self, decide_true, Bool.and_self, Bool.not_true]
      refine q_use (spec_FracOf oa ob _ _) fun n32 hn32 => ?_
      rw [hof]
      by_cases hoe : oe = 0
      · subst hoe
        simp (maxSteps := 2000000) -implicitDefEqProofs (disch := omega) only [xsW, xsC, xsD, xsE, fillA, reduceCtorEq, Nat.reduceAdd, Nat.reduceSub, Nat.reduceLeDiff, Nat.reduceMul, Int.reduceLT, Int.reduceLE, Int.reduceEq, Int.reduceNe, Int.reduceAdd, Int.reduceSub, Int.reduceMul, Int.reduceNeg, Int.reduceToNat,  fr, w_feq, fe_n, fe_e, eq_self, decide_true, Bool.and_self, Bool.not_true]
        refine q_use (impl_IsFrac ox oy _ _) fun n33 hn33 => ?_
        rw [fracOf_ok hof]
        simp (maxSteps := 2000000) -implicitDefEqProofs (disch := omega) only [xsW, xsC, xsD, xsE, fillA, reduceCtorEq, Nat.reduceAdd, Nat.reduceSub, Nat.reduceLeDiff, Nat.reduceMul, Int.reduceLT, Int.reduceLE, Int.reduceEq, Int.reduceNe, Int.reduceAdd, Int.reduceSub, Int.reduceMul, Int.reduceNeg, Int.reduceToNat,  fr, w_feq, fe_n, fe_e, eq_self, decide_true, Bool.and_self, Bool.not_true]
        refine fq_use (spec_DrawFracText (sc30.keep (fun i _ hi9 => by simp (disch := omega) only [upd_other])) hb' hc _ (by omega)) fun x40 h40 n40 hn40 hs40 ⟨ga, gb, hx40⟩ => ?_
        subst hx40
        have t40 : Tab h40 := t30.keep (by rw [hs40 0 (by omega)]; simp (disch := omega) only [upd_other])
        clear hs40
        simp (maxSteps := 2000000) -implicitDefEqProofs (disch := omega) only [xsW, xsC, xsD, xsE, fillA, reduceCtorEq, Nat.reduceAdd, Nat.reduceSub, Nat.reduceLeDiff, Nat.reduceMul, Int.reduceLT, Int.reduceLE, Int.reduceEq, Int.reduceNe, Int.reduceAdd, Int.reduceSub, Int.reduceMul, Int.reduceNeg, Int.reduceToNat,  fr, w_feq, fe_n, fe_e, eq_self, decide_true, Bool.and_self, Bool.not_true]
        refine q_use (impl_FracText (t40.keep (by simp (disch := omega) only [upd_other])) ga gb _ (by omega)) fun n41 hn41 => ?_
        simp (maxSteps := 2000000) -implicitDefEqProofs (disch := omega) only [xsW, xsC, xsD, xsE, fillA, reduceCtorEq, Nat.reduceAdd, Nat.reduceSub, Nat.reduceLeDiff, Nat.reduceMul, Int.reduceLT, Int.reduceLE, Int.reduceEq, Int.reduceNe, Int.reduceAdd, Int.reduceSub, Int.reduceMul, Int.reduceNeg, Int.reduceToNat,  fr, w_feq, fe_n, fe_e, eq_self, decide_true, Bool.and_self, Bool.not_true]
        refine q_use (spec_FracText (t40.keep (by simp (disch := omega) only [upd_other])) ga gb _ (by omega)) fun n42 hn42 => ?_
        simp (maxSteps := 2000000) -implicitDefEqProofs (disch := omega) only [xsW, xsC, xsD, xsE, fillA, reduceCtorEq, Nat.reduceAdd, Nat.reduceSub, Nat.reduceLeDiff, Nat.reduceMul, Int.reduceLT, Int.reduceLE, Int.reduceEq, Int.reduceNe, Int.reduceAdd, Int.reduceSub, Int.reduceMul, Int.reduceNeg, Int.reduceToNat,  fr, w_feq, fe_n, fe_e, eq_self, decide_true, Bool.and_self, Bool.not_true]
      · simp (maxSteps := 2000000) -implicitDefEqProofs (disch := omega) only [xsW, xsC, xsD, xsE, fillA, reduceCtorEq, Nat.reduceAdd, Nat.reduceSub, Nat.reduceLeDiff, Nat.reduceMul, Int.reduceLT, Int.reduceLE, Int.reduceEq, Int.reduceNe, Int.reduceAdd, Int.reduceSub, Int.reduceMul, Int.reduceNeg, Int.reduceToNat,  fr, w_feq, fe_n, fe_e, eq_self, decide_true, Bool.and_self, Bool.not_true]
        refine fq_use (spec_DrawFracText (sc30.keep (fun i _ hi9 => by simp (disch := omega) only [upd_other])) hb' hc _ (by omega)) fun x40 h40 n40 hn40 hs40 ⟨ga, gb, hx40⟩ => ?_
        subst hx40
        have t40 : Tab h40 := t30.keep (by rw [hs40 0 (by omega)]; simp (disch := omega) only [upd_other])
        clear hs40
        simp (maxSteps := 2000000) -implicitDefEqProofs (disch := omega) only [xsW, xsC, xsD, xsE, fillA, reduceCtorEq, Nat.reduceAdd, Nat.reduceSub, Nat.reduceLeDiff, Nat.reduceMul, Int.reduceLT, Int.reduceLE, Int.reduceEq, Int.reduceNe, Int.reduceAdd, Int.reduceSub, Int.reduceMul, Int.reduceNeg, Int.reduceToNat,  fr, w_feq, fe_n, fe_e, eq_self, decide_true, Bool.and_self, Bool.not_true]
        refine q_use (impl_FracText (t40.keep (by simp (disch := omega) only [upd_other])) ga gb _ (by omega)) fun n41 hn41 => ?_
        simp (maxSteps := 2000000) -implicitDefEqProofs (disch := omega) only [xsW, xsC, xsD, xsE, fillA, reduceCtorEq, Nat.reduceAdd, Nat.reduceSub, Nat.reduceLeDiff, Nat.reduceMul, Int.reduceLT, Int.reduceLE, Int.reduceEq, Int.reduceNe, Int.reduceAdd, Int.reduceSub, Int.reduceMul, Int.reduceNeg, Int.reduceToNat,  fr, w_feq, fe_n, fe_e, eq_self, decide_true, Bool.and_self, Bool.not_true]
        refine q_use (spec_FracText (t40.keep (by simp (disch := omega) only [upd_other])) ga gb _ (by omega)) fun n42 hn42 => ?_
        simp (maxSteps := 2000000) -implicitDefEqProofs (disch := omega) only [xsW, xsC, xsD, xsE, fillA, reduceCtorEq, Nat.reduceAdd, Nat.reduceSub, Nat.reduceLeDiff, Nat.reduceMul, Int.reduceLT, Int.reduceLE, Int.reduceEq, Int.reduceNe, Int.reduceAdd, Int.reduceSub, Int.reduceMul, Int.reduceNeg, Int.reduceToNat,  fr, w_feq, fe_n, fe_e, eq_self, decide_true, Bool.and_self, Bool.not_true]
  · simp (maxSteps := 2000000) -implicitDefEqProofs (disch := omega) only [xsW, xsC, xsD, xsE, fillA, reduceCtorEq, Nat.reduceAdd, Nat.reduceSub, Nat.reduceLeDiff, Nat.reduceMul, Int.reduceLT, Int.reduceLE, Int.reduceEq, Int.reduceNe, Int.reduceAdd, Int.reduceSub, Int.reduceMul, Int.reduceNeg, Int.reduceToNat,  fr, w_feq, fe_n, fe_e, eq_self, decide_true, Bool.and_self, Bool.not_true]
    refine fq_use (spec_DrawMultiplyFracs (sc2.keep (fun i _ hi9 => by simp (disch := omega) only [upd_other])) hb' hc _ (by omega)) fun x10 h10 n10 hn10 hs10 ⟨ma, mb, mc, md, hx10⟩ => ?_
    subst hx10
    have sc10 := sc2.keep (h' := h10) fun i _ hi' => by rw [hs10 i (by omega)]; simp (disch := omega) only [upd_other]
    have t10 : Tab h10 := t2.keep (by rw [hs10 0 (by omega)]; simp (disch := omega) only [upd_other])
    clear hs10
    simp (maxSteps := 2000000) -implicitDefEqProofs (disch := omega) only [xsW, xsC, xsD, xsE, fillA, reduceCtorEq, Nat.reduceAdd, Nat.reduceSub, Nat.reduceLeDiff, Nat.reduceMul, Int.reduceLT, Int.reduceLE, Int.reduceEq, Int.reduceNe, Int.reduceAdd, Int.reduceSub, Int.reduceMul, Int.reduceNeg, Int.reduceToNat,  fr, w_feq, fe_n, fe_e, eq_self, decide_true, Bool.and_self, Bool.not_true]
    refine q_use (impl_MultiplyFracs ma mb mc md _ _) fun n11 hn11 => ?_
    obtain ⟨mx, my, me, hmul⟩ := mulF_two ma mb mc md
    rw [hmul]
    simp (maxSteps := 2000000) -implicitDefEqProofs (disch := omega) only [xsW, xsC, xsD, xsE, fillA, reduceCtorEq, Nat.reduceAdd, Nat.reduceSub, Nat.reduceLeDiff, Nat.reduceMul, Int.reduceLT, Int.reduceLE, Int.reduceEq, Int.reduceNe, Int.reduceAdd, Int.reduceSub, Int.reduceMul, Int.reduceNeg, Int.reduceToNat,  fr, w_feq, fe_n, fe_e, eq_self, decide_true, Bool.and_self, Bool.not_true]
    refine q_use (spec_MultiplyFracs ma mb mc md _ _) fun n12 hn12 => ?_
    rw [hmul]
    simp (maxSteps := 2000000) -implicitDefEqProofs (disch := omega) only [xsW, xsC, xsD, xsE, fillA, reduceCtorEq, Nat.reduceAdd, Nat.reduceSub, Nat.reduceLeDiff, Nat.reduceMul, Int.reduceLT, Int.reduceLE, Int.reduceEq, Int.reduceNe, Int.reduceAdd, Int.reduceSub, Int.reduceMul, Int.reduceNeg, Int.reduceToNat,  fr, w_feq, fe_n, fe_e, eq_self, decide_true, Bool.and_self, Bool.not_true]
    refine q_use (impl_MultiplyFracs mc md ma mb _ _) fun n13 hn13 => ?_
    rw [mulF_comm, hmul]
    simp (maxSteps := 2000000) -implicitDefEqProofs (disch := omega) only [xsW, xsC, xsD, xsE, fillA, reduceCtorEq, Nat.reduceAdd, Nat.reduceSub, Nat.reduceLeDiff, Nat.reduceMul, Int.reduceLT, Int.reduceLE, Int.reduceEq, Int.reduceNe, Int.reduceAdd, Int.reduceSub, Int.reduceMul, Int.reduceNeg, Int.reduceToNat,  fr, w_feq, fe_n, fe_e, eq_self, decide_true, Bool.and_self, Bool.not_true]
    refine fq_use (spec_DrawCompareFracs (sc10.keep (fun i _ hi9 => by simp (disch := omega) only [upd_other])) hb' hc _ (by omega)) fun x20 h20 n20 hn20 hs20 ⟨ca, cb, cc, cd_, hx20⟩ => ?_
    subst hx20
    have sc20 := sc10.keep (h' := h20) fun i _ hi' => by rw [hs20 i (by omega)]; simp (disch := omega) only [upd_other]
    have t20 : Tab h20 := t10.keep (by rw [hs20 0 (by omega)]; simp (disch := omega) only [upd_other])
    clear hs20
    simp (maxSteps := 2000000) -implicitDefEqProofs (disch := omega) only [xsW, xsC, xsD, xsE, fillA, reduceCtorEq, Nat.reduceAdd, Nat.reduceSub, Nat.reduceLeDiff, Nat.reduceMul, Int.reduceLT, Int.reduceLE, Int.reduceEq, Int.reduceNe, Int.reduceAdd, Int.reduceSub, Int.reduceMul, Int.reduceNeg, Int.reduceToNat,  fr, w_feq, fe_n, fe_e, eq_self, decide_true, Bool.and_self, Bool.not_true]
    refine q_use (impl_CompareFracs ca cb cc cd_ _ _) fun n21 hn21 => ?_
    obtain ⟨cz, ce, hcmp⟩ := cmpF_two ca cb cc cd_
    rw [hcmp]
    simp (maxSteps := 2000000) -implicitDefEqProofs (disch := omega) only [xsW, xsC, xsD, xsE, fillA, reduceCtorEq, Nat.reduceAdd, Nat.reduceSub, Nat.reduceLeDiff, Nat.reduceMul, Int.reduceLT, Int.reduceLE, Int.reduceEq, Int.reduceNe, Int.reduceAdd, Int.reduceSub, Int.reduceMul, Int.reduceNeg, Int.reduceToNat,  fr, w_feq, fe_n, fe_e, eq_self, decide_true, Bool.and_self, Bool.not_true]
    refine q_use (spec_CompareFracs ca cb cc cd_ _ _) fun n22 hn22 => ?_
    rw [hcmp]
    simp (maxSteps := 2000000) -implicitDefEqProofs (disch := omega) only [xsW, xsC, xsD, xsE, fillA, reduceCtorEq, Nat.reduceAdd, Nat.reduceSub, Nat.reduceLeDiff, Nat.reduceMul, Int.reduceLT, Int.reduceLE, Int.reduceEq, Int.reduceNe, Int.reduceAdd, Int.reduceSub, Int.reduceMul, Int.reduceNeg, Int.reduceToNat,  fr, w_feq, fe_n, fe_e, eq_self, decide_true, Bool.and_self, Bool.not_true]
    by_cases hce : ce = 0
    · subst hce
      obtain ⟨j1, j2, j3, j4⟩ := cmpF_ok hcmp
      simp (maxSteps := 2000000) -implicitDefEqProofs (disch := omega) only [xsW, xsC, xsD, xsE, fillA, reduceCtorEq, Nat.reduceAdd, Nat.reduceSub, Nat.reduceLeDiff, Nat.reduceMul, Int.reduceLT, Int.reduceLE, Int.reduceEq, Int.reduceNe, Int.reduceAdd, Int.reduceSub, Int.reduceMul, Int.reduceNeg, Int.reduceToNat,  fr, w_feq, fe_n, fe_e, eq_self, decide_true, Bool.and_self, Bool.not_true]
      refine q_use (impl_CompareFracs cc cd_ ca cb _ _) fun n23 hn23 => ?_
      rw [j1]
      by_cases hz : cz = 0
      · obtain ⟨q1, q2⟩ := j2.1 hz
        subst hz
        subst q1
        subst q2
        simp (maxSteps := 2000000) -implicitDefEqProofs (disch := omega) only [xsW, xsC, xsD, xsE, fillA, reduceCtorEq, Nat.reduceAdd, Nat.reduceSub, Nat.reduceLeDiff, Nat.reduceMul, Int.reduceLT, Int.reduceLE, Int.reduceEq, Int.reduceNe, Int.reduceAdd, Int.reduceSub, Int.reduceMul, Int.reduceNeg, Int.reduceToNat,  fr, w_feq, fe_n, fe_e, eq_self, decide_true, Bool.and_self, Bool.not_true]
        refine fq_use (spec_DrawFracOf (sc20.keep (fun i _ hi9 => by simp (disch := omega) only [upd_other])) hb' hc _ (by omega)) fun x30 h30 n30 hn30 hs30 ⟨oa, ob, hx30⟩ => ?_
        subst hx30
        have sc30 := sc20.keep (h' := h30) fun i _ hi' => by rw [hs30 i (by omega)]; simp (disch := omega) only [upd_other]
        have t30 : Tab h30 := t20.keep (by rw [hs30 0 (by omega)]; simp (disch := omega) only [upd_other])
        clear hs30
        simp (maxSteps := 2000000) -implicitDefEqProofs (disch := omega) only [xsW, xsC, xsD, xsE, fillA, reduceCtorEq, Nat.reduceAdd, Nat.reduceSub, Nat.reduceLeDiff, Nat.reduceMul, Int.reduceLT, Int.reduceLE, Int.reduceEq, Int.reduceNe, Int.reduceAdd, Int.reduceSub, Int.reduceMul, Int.reduceNeg, Int.reduceToNat,  fr, w_feq, fe_n, fe_e, eq_self, decide_true, Bool.and_self, Bool.not_true]
        refine q_use (impl_FracOf oa ob _ _) fun n31 hn31 => ?_
        obtain ⟨ox, oy, oe, hof⟩ := fracOf_two oa ob
        rw [hof]
        simp (maxSteps := 2000000) -implicitDefEqProofs (disch := omega) only [xsW, xsC, xsD, xsE, fillA, reduceCtorEq, Nat.reduceAdd, Nat.reduceSub, Nat.reduceLeDiff, Nat.reduceMul, Int.reduceLT, Int.reduceLE, Int.reduceEq, Int.reduceNe, Int.reduceAdd, Int.reduceSub, Int.reduceMul, Int.reduceNeg, Int.reduceToNat,  fr, w_feq, fe_n, fe_e, eq_self, decide_true, Bool.and_self, Bool.not_true]
        refine q_use (spec_FracOf oa ob _ _) fun n32 hn32 => ?_
        rw [hof]
        by_cases hoe : oe = 0
        · subst hoe
          simp (maxSteps := 2000000) -implicitDefEqProofs (disch := omega) only [xsW, xsC, xsD, xsE, fillA, reduceCtorEq, Nat.reduceAdd, Nat.reduceSub, Nat.reduceLeDiff, Nat.reduceMul, Int.reduceLT, Int.reduceLE, Int.reduceEq, Int.reduceNe, Int.reduceAdd, Int.reduceSub, Int.reduceMul, Int.reduceNeg, Int.reduceToNat,  fr, w_feq, fe_n, fe_e, eq_self, decide_true, Bool.and_self, Bool.not_true]
          refine q_use (impl_IsFrac ox oy _ _) fun n33 hn33 => ?_
          rw [fracOf_ok hof]
          simp (maxSteps := 2000000) -implicitDefEqProofs (disch := omega) only [xsW, xsC, xsD, xsE, fillA, reduceCtorEq, Nat.reduceAdd, Nat.reduceSub, Nat.reduceLeDiff, Nat.reduceMul, Int.reduceLT, Int.reduceLE, Int.reduceEq, Int.reduceNe, Int.reduceAdd, Int.reduceSub, Int.reduceMul, Int.reduceNeg, Int.reduceToNat,  fr, w_feq, fe_n, fe_e, eq_self, decide_true, Bool.and_self, Bool.not_true]
          refine fq_use (spec_DrawFracText (sc30.keep (fun i _ hi9 => by simp (disch := omega) only [upd_other])) hb' hc _ (by omega)) fun x40 h40 n40 hn40 hs40 ⟨ga, gb, hx40⟩ => ?_
          subst hx40
          have t40 : Tab h40 := t30.keep (by rw [hs40 0 (by omega)]; simp (disch := omega) only [upd_other])
          clear hs40
          simp (maxSteps := 2000000) -implicitDefEqProofs (disch := omega) only [xsW, xsC, xsD, xsE, fillA, reduceCtorEq, Nat.reduceAdd, Nat.reduceSub, Nat.reduceLeDiff, Nat.reduceMul, Int.reduceLT, Int.reduceLE, Int.reduceEq, Int.reduceNe, Int.reduceAdd, Int.reduceSub, Int.reduceMul, Int.reduceNeg, Int.reduceToNat,  fr, w_feq, fe_n, fe_e, eq_self, decide_true, Bool.and_self, Bool.not_true]
          refine q_use (impl_FracText (t40.keep (by simp (disch := omega) only [upd_other])) ga gb _ (by omega)) fun n41 hn41 => ?_
          simp (maxSteps := 2000000) -implicitDefEqProofs (disch := omega) only [xsW, xsC, xsD, xsE, fillA, reduceCtorEq, Nat.reduceAdd, Nat.reduceSub, Nat.reduceLeDiff, Nat.reduceMul, Int.reduceLT, Int.reduceLE, Int.reduceEq, Int.reduceNe, Int.reduceAdd, Int.reduceSub, Int.reduceMul, Int.reduceNeg, Int.reduceToNat,  fr, w_feq, fe_n, fe_e, eq_self, decide_true, Bool.and_self, Bool.not_true]
          refine q_use (spec_FracText (t40.keep (by simp (disch := omega) only [upd_other])) ga gb _ (by omega)) fun n42 hn42 => ?_
          simp (maxSteps := 2000000) -implicitDefEqProofs (disch := omega) only [xsW, xsC, xsD, xsE, fillA, reduceCtorEq, Nat.reduceAdd, Nat.reduceSub, Nat.reduceLeDiff, Nat.reduceMul, Int.reduceLT, Int.reduceLE, Int.reduceEq, Int.reduceNe, Int.reduceAdd, Int.reduceSub, Int.reduceMul, Int.reduceNeg, Int.reduceToNat,  fr, w_feq, fe_n, fe_e, eq_self, decide_true, Bool.and_self, Bool.not_true]
        · simp (maxSteps := 2000000) -implicitDefEqProofs (disch := omega) only [xsW, xsC, xsD, xsE, fillA, reduceCtorEq, Nat.reduceAdd, Nat.reduceSub, Nat.reduceLeDiff, Nat.reduceMul, Int.reduceLT, Int.reduceLE, Int.reduceEq, Int.reduceNe, Int.reduceAdd, Int.reduceSub, Int.reduceMul, Int.reduceNeg, Int.reduceToNat,  fr, w_feq, fe_n, fe_e, eq_self, decide_true, Bool.and_self, Bool.not_true]
          refine fq_use (spec_DrawFracText (sc30.keep (fun i _ hi9 => by simp (disch := omega) only [upd_other])) hb' hc _ (by omega)) fun x40 h40 n40 hn40 hs40 ⟨ga, gb, hx40⟩ => ?_
          subst hx40
          have t40 : Tab h40 := t30.keep (by rw [hs40 0 (by omega)]; simp (disch := omega) only [upd_other])
          clear hs40
          simp (maxSteps := 2000000) -implicitDefEqProofs (disch := omega) only [xsW, xsC, xsD, xsE, fillA, reduceCtorEq, Nat.reduceAdd, Nat.reduceSub, Nat.reduceLeDiff, Nat.reduceMul, Int.reduceLT, Int.reduceLE, Int.reduceEq, Int.reduceNe, Int.reduceAdd, Int.reduceSub, Int.reduceMul, Int.reduceNeg, Int.reduceToNat,  fr, w_feq, fe_n, fe_e, eq_self, decide_true, Bool.and_self, Bool.not_true]
          refine q_use (impl_FracText (t40.keep (by simp (disch := omega) only [upd_other])) ga gb _ (by omega)) fun n41 hn41 => ?_
          simp (maxSteps := 2000000) -implicitDefEqProofs (disch := omega) only [xsW, xsC, xsD, xsE, fillA, reduceCtorEq, Nat.reduceAdd, Nat.reduceSub, Nat.reduceLeDiff, Nat.reduceMul, Int.reduceLT, Int.reduceLE, Int.reduceEq, Int.reduceNe, Int.reduceAdd, Int.reduceSub, Int.reduceMul, Int.reduceNeg, Int.reduceToNat,  fr, w_feq, fe_n, fe_e, eq_self, decide_true, Bool.and_self, Bool.not_true]
          refine q_use (spec_FracText (t40.keep (by simp (disch := omega) only [upd_other])) ga gb _ (by omega)) fun n42 hn42 => ?_
          simp (maxSteps := 2000000) -implicitDefEqProofs (disch := omega) only [xsW, xsC, xsD, xsE, fillA, reduceCtorEq, Nat.reduceAdd, Nat.reduceSub, Nat.reduceLeDiff, Nat.reduceMul, Int.reduceLT, Int.reduceLE, Int.reduceEq, Int.reduceNe, Int.reduceAdd, Int.reduceSub, Int.reduceMul, Int.reduceNeg, Int.reduceToNat,  fr, w_feq, fe_n, fe_e, eq_self, decide_true, Bool.and_self, Bool.not_true]
      · have d1 : decide (cz = 0) = false := decide_eq_false hz
        have d2 : (decide (ca = cc) && decide (cb = cd_)) = false := by
          rw [← Bool.not_eq_true, Bool.and_eq_true, decide_eq_true_eq, decide_eq_true_eq]
          exact fun q => hz (j2.2 q)
        simp (maxSteps := 2000000) -implicitDefEqProofs (disch := omega) only [xsW, xsC, xsD, xsE, fillA, reduceCtorEq, Nat.reduceAdd, Nat.reduceSub, Nat.reduceLeDiff, Nat.reduceMul, Int.reduceLT, Int.reduceLE, Int.reduceEq, Int.reduceNe, Int.reduceAdd, Int.reduceSub, Int.reduceMul, Int.reduceNeg, Int.reduceToNat,  d1, d2, fr, w_feq, fe_n, fe_e, eq_self, decide_true, Bool.and_self, Bool.not_true]
        refine fq_use (spec_DrawFracOf (sc20.keep (fun i _ hi9 => by simp (disch := omega) only [upd_other])) hb' hc _ (by omega)) fun x30 h30 n30 hn30 hs30 ⟨oa, ob, hx30⟩ => ?_
        subst hx30
        have sc30 := sc20.keep (h' := h30) fun i _ hi' => by rw [hs30 i (by omega)]; simp (disch := omega) only [upd_other]
        have t30 : Tab h30 := t20.keep (by rw [hs30 0 (by omega)]; simp (disch := omega) only [upd_other])
        clear hs30
        simp (maxSteps := 2000000) -implicitDefEqProofs (disch := omega) only [xsW, xsC, xsD, xsE, fillA, reduceCtorEq, Nat.reduceAdd, Nat.reduceSub, Nat.reduceLeDiff, Nat.reduceMul, Int.reduceLT, Int.reduceLE, Int.reduceEq, Int.reduceNe, Int.reduceAdd, Int.reduceSub, Int.reduceMul, Int.reduceNeg, Int.reduceToNat,  fr, w_feq, fe_n, fe_e, eq_self, decide_true, Bool.and_self, Bool.not_true]
        refine q_use (impl_FracOf oa ob _ _) fun n31 hn31 => ?_
        obtain ⟨ox, oy, oe, hof⟩ := fracOf_two oa ob
        rw [hof]
        simp (maxSteps := 2000000) -implicitDefEqProofs (disch := omega) only [xsW, xsC, xsD, xsE, fillA, reduceCtorEq, Nat.reduceAdd, Nat.reduceSub, Nat.reduceLeDiff, Nat.reduceMul, Int.reduceLT, Int.reduceLE, Int.reduceEq, Int.reduceNe, Int.reduceAdd, Int.reduceSub, Int.reduceMul, Int.reduceNeg, Int.reduceToNat,  fr, w_feq, fe_n, fe_e, eq_self, decide_true, Bool.and_self, Bool.not_true]
        refine q_use (spec_FracOf oa ob _ _) fun n32 hn32 => ?_
        rw [hof]
        by_cases hoe : oe = 0
        · subst hoe
          simp (maxSteps := 2000000) -implicitDefEqProofs (disch := omega) only [xsW, xsC, xsD, xsE, fillA, reduceCtorEq, Nat.reduceAdd, Nat.reduceSub, Nat.reduceLeDiff, Nat.reduceMul, Int.reduceLT, Int.reduceLE, Int.reduceEq, Int.reduceNe, Int.reduceAdd, Int.reduceSub, Int.reduceMul, Int.reduceNeg, Int.reduceToNat,  fr, w_feq, fe_n, fe_e, eq_self, decide_true, Bool.and_self, Bool.not_true]
          refine q_use (impl_IsFrac ox oy _ _) fun n33 hn33 => ?_
          rw [fracOf_ok hof]
          simp (maxSteps := 2000000) -implicitDefEqProofs (disch := omega) only [xsW, xsC, xsD, xsE, fillA, reduceCtorEq, Nat.reduceAdd, Nat.reduceSub, Nat.reduceLeDiff, Nat.reduceMul, Int.reduceLT, Int.reduceLE, Int.reduceEq, Int.reduceNe, Int.reduceAdd, Int.reduceSub, Int.reduceMul, Int.reduceNeg, Int.reduceToNat,  fr, w_feq, fe_n, fe_e, eq_self, decide_true, Bool.and_self, Bool.not_true]
          refine fq_use (spec_DrawFracText (sc30.keep (fun i _ hi9 => by simp (disch := omega) only [upd_other])) hb' hc _ (by omega)) fun x40 h40 n40 hn40 hs40 ⟨ga, gb, hx40⟩ => ?_
          subst hx40
          have t40 : Tab h40 := t30.keep (by rw [hs40 0 (by omega)]; simp (disch := omega) only [upd_other])
          clear hs40
          simp (maxSteps := 2000000) -implicitDefEqProofs (disch := omega) only [xsW, xsC, xsD, xsE, fillA, reduceCtorEq, Nat.reduceAdd, Nat.reduceSub, Nat.reduceLeDiff, Nat.reduceMul, Int.reduceLT, Int.reduceLE, Int.reduceEq, Int.reduceNe, Int.reduceAdd, Int.reduceSub, Int.reduceMul, Int.reduceNeg, Int.reduceToNat,  fr, w_feq, fe_n, fe_e, eq_self, decide_true, Bool.and_self, Bool.not_true]
          refine q_use (impl_FracText (t40.keep (by simp (disch := omega) only [upd_other])) ga gb _ (by omega)) fun n41 hn41 => ?_
          simp (maxSteps := 2000000) -implicitDefEqProofs (disch := omega) only [xsW, xsC, xsD, xsE, fillA, reduceCtorEq, Nat.reduceAdd, Nat.reduceSub, Nat.reduceLeDiff, Nat.reduceMul, Int.reduceLT, Int.reduceLE, Int.reduceEq, Int.reduceNe, Int.reduceAdd, Int.reduceSub, Int.reduceMul, Int.reduceNeg, Int.reduceToNat,  fr, w_feq, fe_n, fe_e, eq_self, decide_true, Bool.and_self, Bool.not_true]
          refine q_use (spec_FracText (t40.keep (by simp (disch := omega) only [upd_other])) ga gb _ (by omega)) fun n42 hn42 => ?_
          simp (maxSteps := 2000000) -implicitDefEqProofs (disch := omega) only [xsW, xsC, xsD, xsE, fillA, reduceCtorEq, Nat.reduceAdd, Nat.reduceSub, Nat.reduceLeDiff, Nat.reduceMul, Int.reduceLT, Int.reduceLE, Int.reduceEq, Int.reduceNe, Int.reduceAdd, Int.reduceSub, Int.reduceMul, Int.reduceNeg, Int.reduceToNat,  fr, w_feq, fe_n, fe_e, eq_self, decide_true, Bool.and_self, Bool.not_true]
        · simp (maxSteps := 2000000) -implicitDefEqProofs (disch := omega) only [xsW, xsC, xsD, xsE, fillA, reduceCtorEq, Nat.reduceAdd, Nat.reduceSub, Nat.reduceLeDiff, Nat.reduceMul, Int.reduceLT, Int.reduceLE, Int.reduceEq, Int.reduceNe, Int.reduceAdd, Int.reduceSub, Int.reduceMul, Int.reduceNeg, Int.reduceToNat,  fr, w_feq, fe_n, fe_e, eq_self, decide_true, Bool.and_self, Bool.not_true]
          refine fq_use (spec_DrawFracText (sc30.keep (fun i _ hi9 => by simp (disch := omega) only [upd_other])) hb' hc _ (by omega)) fun x40 h40 n40 hn40 hs40 ⟨ga, gb, hx40⟩ => ?_
          subst hx40
          have t40 : Tab h40 := t30.keep (by rw [hs40 0 (by omega)]; simp (disch := omega) only [upd_other])
          clear hs40
          simp (maxSteps := 2000000) -implicitDefEqProofs (disch := omega) only [xsW, xsC, xsD, xsE, fillA, reduceCtorEq, Nat.reduceAdd, Nat.reduceSub, Nat.reduceLeDiff, Nat.reduceMul, Int.reduceLT, Int.reduceLE, Int.reduceEq, Int.reduceNe, Int.reduceAdd, Int.reduceSub, Int.reduceMul, Int.reduceNeg, Int.reduceToNat,  fr, w_feq, fe_n, fe_e, eq_self, decide_true, Bool.and_self, Bool.not_true]
          refine q_use (impl_FracText (t40.keep (by simp (disch := omega) only [upd_other])) ga gb _ (by omega)) fun n41 hn41 => ?_
          simp (maxSteps := 2000000) -implicitDefEqProofs (disch := omega) only [xsW, xsC, xsD, xsE, fillA, reduceCtorEq, Nat.reduceAdd, Nat.reduceSub, Nat.reduceLeDiff, Nat.reduceMul, Int.reduceLT, Int.reduceLE, Int.reduceEq, Int.reduceNe, Int.reduceAdd, Int.reduceSub, Int.reduceMul, Int.reduceNeg, Int.reduceToNat,  fr, w_feq, fe_n, fe_e, eq_self, decide_true, Bool.and_self, Bool.not_true]
          refine q_use (spec_FracText (t40.keep (by simp (disch := omega) only [upd_other])) ga gb _ (by omega)) fun n42 hn42 => ?_
          simp (maxSteps := 2000000) -implicitDefEqProofs (disch := omega) only [xsW, xsC, xsD, xsE, fillA, reduceCtorEq, Nat.reduceAdd, Nat.reduceSub, Nat.reduceLeDiff, Nat.reduceMul, Int.reduceLT, Int.reduceLE, Int.reduceEq, Int.reduceNe, Int.reduceAdd, Int.reduceSub, Int.reduceMul, Int.reduceNeg, Int.reduceToNat,  fr, w_feq, fe_n, fe_e, eq_self, decide_true, Bool.and_self, Bool.not_true]
    · simp (maxSteps := 2000000) -implicitDefEqProofs (disch := omega) only [xsW, xsC, xsD, xsE, fillA, reduceCtorEq, Nat.reduceAdd, Nat.reduceSub, Nat.reduceLeDiff, Nat.reduceMul, Int.reduceLT, Int.reduceLE, Int.reduceEq, Int.reduceNe, Int.reduceAdd, Int.reduceSub, Int.reduceMul, Int.reduceNeg, Int.reduceToNat,  fr, w_feq, fe_n, fe_e, eq_self, decide_true, Bool.and_self, Bool.not_true]
      refine fq_use (spec_DrawFracOf (sc20.keep (fun i _ hi9 => by simp (disch := omega) only [upd_other])) hb' hc _ (by omega)) fun x30 h30 n30 hn30 hs30 ⟨oa, ob, hx30⟩ => ?_
      subst hx30
      have sc30 := sc20.keep (h' := h30) fun i _ hi' => by rw [hs30 i (by omega)]; simp (disch := omega) only [upd_other]
      have t30 : Tab h30 := t20.keep (by rw [hs30 0 (by omega)]; simp (disch := omega) only [upd_other])
      clear hs30
      simp (maxSteps := 2000000) -implicitDefEqProofs (disch := omega) only [xsW, xsC, xsD, xsE, fillA, reduceCtorEq, Nat.reduceAdd, Nat.reduceSub, Nat.reduceLeDiff, Nat.reduceMul, Int.reduceLT, Int.reduceLE, Int.reduceEq, Int.reduceNe, Int.reduceAdd, Int.reduceSub, Int.reduceMul, Int.reduceNeg, Int.reduceToNat,  fr, w_feq, fe_n, fe_e, eq_self, decide_true, Bool.and_self, Bool.not_true]
      refine q_use (impl_FracOf oa ob _ _) fun n31 hn31 => ?_
      obtain ⟨ox, oy, oe, hof⟩ := fracOf_two oa ob
      rw [hof]
      simp (maxSteps := 2000000) -implicitDefEqProofs (disch := omega) only [xsW, xsC, xsD, xsE, fillA, reduceCtorEq, Nat.reduceAdd, Nat.reduceSub, Nat.reduceLeDiff, Nat.reduceMul, Int.reduceLT, Int.reduceLE, Int.reduceEq, Int.reduceNe, Int.reduceAdd, Int.reduceSub, Int.reduceMul, Int.reduceNeg, Int.reduceToNat,  fr, w_feq, fe_n, fe_e, eq_self, decide_true, Bool.and_self, Bool.not_true]
      refine q_use (spec_FracOf oa ob _ _) fun n32 hn32 => ?_
      rw [hof]
      by_cases hoe : oe = 0
      · subst hoe
        simp (maxSteps := 2000000) -implicitDefEqProofs (disch := omega) only [xsW, xsC, xsD, xsE, fillA, reduceCtorEq, Nat.reduceAdd, Nat.reduceSub, Nat.reduceLeDiff, Nat.reduceMul, Int.reduceLT, Int.reduceLE, Int.reduceEq, Int.reduceNe, Int.reduceAdd, Int.reduceSub, Int.reduceMul, Int.reduceNeg, Int.reduceToNat,  fr, w_feq, fe_n, fe_e, eq_self, decide_true, Bool.and_self, Bool.not_true]
        refine q_use (impl_IsFrac ox oy _ _) fun n33 hn33 => ?_
        rw [fracOf_ok hof]
        simp (maxSteps := 2000000) -implicitDefEqProofs (disch := omega) only [xsW, xsC, xsD, xsE, fillA, reduceCtorEq, Nat.reduceAdd, Nat.reduceSub, Nat.reduceLeDiff, Nat.reduceMul, Int.reduceLT, Int.reduceLE, Int.reduceEq, Int.reduceNe, Int.reduceAdd, Int.reduceSub, Int.reduceMul, Int.reduceNeg, Int.reduceToNat,  fr, w_feq, fe_n, fe_e, eq_self, decide_true, Bool.and_self, Bool.not_true]
        refine fq_use (spec_DrawFracText (sc30.keep (fun i _ hi9 => by simp (disch := omega) only [upd_other])) hb' hc _ (by omega)) fun x40 h40 n40 hn40 hs40 ⟨ga, gb, hx40⟩ => ?_
        subst hx40
        have t40 : Tab h40 := t30.keep (by rw [hs40 0 (by omega)]; simp (disch := omega) only [upd_other])
        clear hs40
        simp (maxSteps := 2000000) -implicitDefEqProofs (disch := omega) only [xsW, xsC, xsD, xsE, fillA, reduceCtorEq, Nat.reduceAdd, Nat.reduceSub, Nat.reduceLeDiff, Nat.reduceMul, Int.reduceLT, Int.reduceLE, Int.reduceEq, Int.reduceNe, Int.reduceAdd, Int.reduceSub, Int.reduceMul, Int.reduceNeg, Int.reduceToNat,  fr, w_feq, fe_n, fe_e, eq_self, decide_true, Bool.and_self, Bool.not_true]
        refine q_use (impl_FracText (t40.keep (by simp (disch := omega) only [upd_other])) ga gb _ (by omega)) fun n41 hn41 => ?_
        simp (maxSteps := 2000000) -implicitDefEqProofs (disch := omega) only [xsW, xsC, xsD, xsE, fillA, reduceCtorEq, Nat.reduceAdd, Nat.reduceSub, Nat.reduceLeDiff, Nat.reduceMul, Int.reduceLT, Int.reduceLE, Int.reduceEq, Int.reduceNe, Int.reduceAdd, Int.reduceSub, Int.reduceMul, Int.reduceNeg, Int.reduceToNat,  fr, w_feq, fe_n, fe_e, eq_self, decide_true, Bool.and_self, Bool.not_true]
        refine q_use (spec_FracText (t40.keep (by simp (disch := omega) only [upd_other])) ga gb _ (by omega)) fun n42 hn42 => ?_
        simp (maxSteps := 2000000) -implicitDefEqProofs (disch := omega) only [xsW, xsC, xsD, xsE, fillA, reduceCtorEq, Nat.reduceAdd, Nat.reduceSub, Nat.reduceLeDiff, Nat.reduceMul, Int.reduceLT, Int.reduceLE, Int.reduceEq, Int.reduceNe, Int.reduceAdd, Int.reduceSub, Int.reduceMul, Int.reduceNeg, Int.reduceToNat,  fr, w_feq, fe_n, fe_e, eq_self, decide_true, Bool.and_self, Bool.not_true]
      · simp (maxSteps := 2000000) -implicitDefEqProofs (disch := omega) only [xsW, xsC, xsD, xsE, fillA, reduceCtorEq, Nat.reduceAdd, Nat.reduceSub, Nat.reduceLeDiff, Nat.reduceMul, Int.reduceLT, Int.reduceLE, Int.reduceEq, Int.reduceNe, Int.reduceAdd, Int.reduceSub, Int.reduceMul, Int.reduceNeg, Int.reduceToNat,  fr, w_feq, fe_n, fe_e, eq_self, decide_true, Bool.and_self, Bool.not_true]
        refine fq_use (spec_DrawFracText (sc30.keep (fun i _ hi9 => by simp (disch := omega) only [upd_other])) hb' hc _ (by omega)) fun x40 h40 n40 hn40 hs40 ⟨ga, gb, hx40⟩ => ?_
        subst hx40
        have t40 : Tab h40 := t30.keep (by rw [hs40 0 (by omega)]; simp (disch := omega) only [upd_other])
        clear hs40
        simp (maxSteps := 2000000) -implicitDefEqProofs (disch := omega) only [xsW, xsC, xsD, xsE, fillA, reduceCtorEq, Nat.reduceAdd, Nat.reduceSub, Nat.reduceLeDiff, Nat.reduceMul, Int.reduceLT, Int.reduceLE, Int.reduceEq, Int.reduceNe, Int.reduceAdd, Int.reduceSub, Int.reduceMul, Int.reduceNeg, Int.reduceToNat,  fr, w_feq, fe_n, fe_e, eq_self, decide_true, Bool.and_self, Bool.not_true]
        refine q_use (impl_FracText (t40.keep (by simp (disch := omega) only [upd_other])) ga gb _ (by omega)) fun n41 hn41 => ?_
        simp (maxSteps := 2000000) -implicitDefEqProofs (disch := omega) only [xsW, xsC, xsD, xsE, fillA, reduceCtorEq, Nat.reduceAdd, Nat.reduceSub, Nat.reduceLeDiff, Nat.reduceMul, Int.reduceLT, Int.reduceLE, Int.reduceEq, Int.reduceNe, Int.reduceAdd, Int.reduceSub, Int.reduceMul, Int.reduceNeg, Int.reduceToNat,  fr, w_feq, fe_n, fe_e, eq_self, decide_true, Bool.and_self, Bool.not_true]
        refine q_use (spec_FracText (t40.keep (by simp (disch := omega) only [upd_other])) ga gb _ (by omega)) fun n42 hn42 => ?_
        simp (maxSteps := 2000000) -implicitDefEqProofs (disch := omega) only [xsW, xsC, xsD, xsE, fillA, reduceCtorEq, Nat.reduceAdd, Nat.reduceSub, Nat.reduceLeDiff, Nat.reduceMul, Int.reduceLT, Int.reduceLE, Int.reduceEq, Int.reduceNe, Int.reduceAdd, Int.reduceSub, Int.reduceMul, Int.reduceNeg, Int.reduceToNat,  fr, w_feq, fe_n, fe_e, eq_self, decide_true, Bool.and_self, Bool.not_true]
end Go.Proofs.YtkpibnhddhdooacDoor.L
