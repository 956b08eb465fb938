/- Contracts: the statement on IsMatrix. -/
import Derived.Test.YtkpibnhddhdooaaB1
set_option linter.unusedSimpArgs false
set_option linter.unusedVariables false
namespace Go.Proofs.Ytkpibnhddhdooaa.L
open Go


def c_impl_sum : F := ⟨(.seq (.reg false [⟨some 4, .mv (.c (.int .i64 0)), none⟩]) (.seq (.reg false [⟨some 5, .mv (.c (.int .i64 0)), none⟩]) (.seq (.seq (.reg false [⟨some 8, .mv (.t 0), none⟩, ⟨some 9, .len (.t 8), none⟩, ⟨some 10, .mv (.c (.int .i64 0)), none⟩]) (.block 0 (.loop (.seq (.reg false [⟨some 11, .bin .lss (.t 10) (.t 9), none⟩]) (.seq (.cond (.t 11) .skip (.exit 0)) (.seq (.block 1 (.seq (.reg false [⟨some 12, .mv (.t 10), none⟩, ⟨some 13, .ia 1 (.t 8) (.t 10), none⟩, ⟨some 14, .ld1 (.t 13), none⟩, ⟨some 6, .mv (.t 12), none⟩, ⟨some 7, .mv (.t 14), none⟩]) (.reg false [⟨some 15, .mv (.t 5), none⟩, ⟨some 16, .mv (.t 7), none⟩, ⟨some 17, .mv (.t 1), none⟩, ⟨some 18, .mv (.t 6), none⟩, ⟨some 19, .ia 1 (.t 17) (.t 18), none⟩, ⟨some 20, .ld1 (.t 19), none⟩, ⟨some 21, .bin .mul (.t 16) (.t 20), none⟩, ⟨some 22, .bin .add (.t 15) (.t 21), none⟩, ⟨some 5, .mv (.t 22), none⟩]))) (.reg false [⟨some 23, .bin .add (.t 10) (.c (.int .i64 1)), none⟩, ⟨some 10, .mv (.t 23), none⟩]))))))) (.seq (.reg false [⟨some 24, .mv (.t 5), none⟩, ⟨some 4, .mv (.t 24), none⟩]) .ret)))), 25, [(.t 4)]⟩
theorem k_impl_sum : compF Try.prog Try.f126 = some c_impl_sum := by kernel_rfl
def c_impl_form : F := ⟨(.seq (.reg false [⟨some 6, .mv (.c (.int .i64 0)), none⟩]) (.seq (.reg false [⟨some 7, .mv (.c (.int .i64 0)), none⟩]) (.seq (.seq (.reg false [⟨some 10, .mv (.t 0), none⟩, ⟨some 11, .len (.t 10), none⟩, ⟨some 12, .mv (.c (.int .i64 0)), none⟩]) (.block 0 (.loop (.seq (.reg false [⟨some 13, .bin .lss (.t 12) (.t 11), none⟩]) (.seq (.cond (.t 13) .skip (.exit 0)) (.seq (.block 1 (.seq (.reg false [⟨some 14, .mv (.t 12), none⟩, ⟨some 15, .ia 1 (.t 10) (.t 12), none⟩, ⟨some 16, .ld1 (.t 15), none⟩, ⟨some 8, .mv (.t 14), none⟩, ⟨some 9, .mv (.t 16), none⟩]) (.reg true [⟨some 17, .mv (.t 7), none⟩, ⟨some 18, .mv (.t 1), none⟩, ⟨some 19, .mv (.t 8), none⟩, ⟨some 20, .ia 1 (.t 18) (.t 19), none⟩, ⟨some 21, .ld1 (.t 20), none⟩, ⟨some 22, .mv (.t 9), none⟩, ⟨some 23, .mv (.t 2), none⟩, ⟨some 24, .call (.f 126) [(.t 22), (.t 23)], none⟩, ⟨some 25, .bin .mul (.t 21) (.t 24), none⟩, ⟨some 26, .bin .add (.t 17) (.t 25), none⟩, ⟨some 7, .mv (.t 26), none⟩]))) (.reg false [⟨some 27, .bin .add (.t 12) (.c (.int .i64 1)), none⟩, ⟨some 12, .mv (.t 27), none⟩]))))))) (.seq (.reg false [⟨some 28, .mv (.t 7), none⟩, ⟨some 6, .mv (.t 28), none⟩]) .ret)))), 29, [(.t 6)]⟩
theorem k_impl_form : compF Try.prog Try.f94 = some c_impl_form := by kernel_rfl
def c_impl_FormAt : F := ⟨(.seq (.reg false [⟨some 4, .mv (.c (.int .i64 0)), none⟩, ⟨some 5, .mv (.c (.int .i64 0)), none⟩]) (.seq (.seq (.reg false [⟨some 6, .mv (.t 0), none⟩, ⟨some 7, .call (.f 47) [(.t 6)], none⟩, ⟨some 8, .un .not (.t 7), none⟩]) (.cond (.t 8) (.seq (.reg false [⟨some 4, .mv (.c (.int .i64 0)), none⟩, ⟨some 5, .mv (.c (.int .i64 1)), none⟩]) .ret) .skip)) (.seq (.seq (.reg false [⟨some 9, .mv (.t 1), none⟩, ⟨some 10, .len (.t 9), none⟩, ⟨some 11, .mv (.t 0), none⟩, ⟨some 12, .len (.t 11), none⟩, ⟨some 13, .bin .neq (.t 10) (.t 12), none⟩, ⟨some 14, .mv (.t 13), none⟩, ⟨some 15, .mv (.t 1), some (14, false)⟩, ⟨some 16, .call (.f 93) [(.t 15), (.c (.int .i64 1000))], some (14, false)⟩, ⟨some 17, .un .not (.t 16), some (14, false)⟩, ⟨some 18, .pick (.t 14) (.c (.bool true)) (.t 17), none⟩]) (.cond (.t 18) (.seq (.reg false [⟨some 4, .mv (.c (.int .i64 0)), none⟩, ⟨some 5, .mv (.c (.int .i64 2)), none⟩]) .ret) .skip)) (.seq (.reg false [⟨some 19, .mv (.t 0), none⟩, ⟨some 20, .mv (.t 1), none⟩, ⟨some 21, .mv (.t 1), none⟩, ⟨some 22, .call (.f 94) [(.t 19), (.t 20), (.t 21)], none⟩, ⟨some 4, .mv (.t 22), none⟩, ⟨some 5, .mv (.c (.int .i64 0)), none⟩]) .ret)))), 23, [(.t 4), (.t 5)]⟩
theorem k_impl_FormAt : compF Try.prog Try.f51 = some c_impl_FormAt := by kernel_rfl
def c_spec_FormAt : F := ⟨(.seq (.reg false [⟨some 4, .mv (.c (.int .i64 0)), none⟩, ⟨some 5, .mv (.c (.int .i64 0)), none⟩]) (.seq (.seq (.reg false [⟨some 10, .mv (.t 0), none⟩, ⟨some 11, .call (.f 56) [(.t 10)], none⟩, ⟨some 12, .un .not (.t 11), none⟩]) (.cond (.t 12) (.seq (.reg false [⟨some 4, .mv (.c (.int .i64 0)), none⟩, ⟨some 5, .mv (.c (.int .i64 1)), none⟩]) .ret) .skip)) (.seq (.seq (.reg false [⟨some 13, .mv (.t 1), none⟩, ⟨some 14, .len (.t 13), none⟩, ⟨some 15, .mv (.t 0), none⟩, ⟨some 16, .len (.t 15), none⟩, ⟨some 17, .bin .neq (.t 14) (.t 16), none⟩]) (.cond (.t 17) (.seq (.reg false [⟨some 4, .mv (.c (.int .i64 0)), none⟩, ⟨some 5, .mv (.c (.int .i64 2)), none⟩]) .ret) .skip)) (.seq (.seq (.reg false [⟨some 6, .mv (.c (.int .i64 0)), none⟩]) (.block 0 (.loop (.seq (.seq (.reg false [⟨some 18, .mv (.t 6), none⟩, ⟨some 19, .mv (.t 1), none⟩, ⟨some 20, .len (.t 19), none⟩, ⟨some 21, .bin .lss (.t 18) (.t 20), none⟩]) (.cond (.t 21) .skip (.exit 0))) (.seq (.block 1 (.seq (.reg false [⟨some 24, .mv (.t 1), none⟩, ⟨some 25, .mv (.t 6), none⟩, ⟨some 26, .ia 1 (.t 24) (.t 25), none⟩, ⟨some 27, .ld1 (.t 26), none⟩, ⟨some 28, .call (.f 57) [(.t 27), (.c (.int .i64 (-1000))), (.c (.int .i64 1000))], none⟩, ⟨some 29, .un .not (.t 28), none⟩]) (.cond (.t 29) (.seq (.reg false [⟨some 4, .mv (.c (.int .i64 0)), none⟩, ⟨some 5, .mv (.c (.int .i64 2)), none⟩]) .ret) .skip))) (.reg false [⟨some 22, .mv (.t 6), none⟩, ⟨some 23, .bin .add (.t 22) (.c (.int .i64 1)), none⟩, ⟨some 6, .mv (.t 23), none⟩])))))) (.seq (.reg false [⟨some 7, .mv (.c (.int .i64 0)), none⟩]) (.seq (.seq (.reg false [⟨some 8, .mv (.c (.int .i64 0)), none⟩]) (.block 2 (.loop (.seq (.seq (.reg false [⟨some 30, .mv (.t 8), none⟩, ⟨some 31, .mv (.t 0), none⟩, ⟨some 32, .len (.t 31), none⟩, ⟨some 33, .bin .lss (.t 30) (.t 32), none⟩]) (.cond (.t 33) .skip (.exit 2))) (.seq (.block 3 (.seq (.reg false [⟨some 9, .mv (.c (.int .i64 0)), none⟩]) (.block 4 (.loop (.seq (.seq (.reg false [⟨some 36, .mv (.t 9), none⟩, ⟨some 37, .mv (.t 0), none⟩, ⟨some 38, .len (.t 37), none⟩, ⟨some 39, .bin .lss (.t 36) (.t 38), none⟩]) (.cond (.t 39) .skip (.exit 4))) (.seq (.block 5 (.reg true [⟨some 42, .mv (.t 7), none⟩, ⟨some 43, .mv (.t 1), none⟩, ⟨some 44, .mv (.t 8), none⟩, ⟨some 45, .ia 1 (.t 43) (.t 44), none⟩, ⟨some 46, .ld1 (.t 45), none⟩, ⟨some 47, .mv (.t 0), none⟩, ⟨some 48, .mv (.t 8), none⟩, ⟨some 49, .ia 1 (.t 47) (.t 48), none⟩, ⟨some 50, .ld1 (.t 49), none⟩, ⟨some 51, .mv (.t 9), none⟩, ⟨some 52, .ia 1 (.t 50) (.t 51), none⟩, ⟨some 53, .ld1 (.t 52), none⟩, ⟨some 54, .bin .mul (.t 46) (.t 53), none⟩, ⟨some 55, .mv (.t 1), none⟩, ⟨some 56, .mv (.t 9), none⟩, ⟨some 57, .ia 1 (.t 55) (.t 56), none⟩, ⟨some 58, .ld1 (.t 57), none⟩, ⟨some 59, .bin .mul (.t 54) (.t 58), none⟩, ⟨some 60, .bin .add (.t 42) (.t 59), none⟩, ⟨some 7, .mv (.t 60), none⟩])) (.reg false [⟨some 40, .mv (.t 9), none⟩, ⟨some 41, .bin .add (.t 40) (.c (.int .i64 1)), none⟩, ⟨some 9, .mv (.t 41), none⟩]))))))) (.reg false [⟨some 34, .mv (.t 8), none⟩, ⟨some 35, .bin .add (.t 34) (.c (.int .i64 1)), none⟩, ⟨some 8, .mv (.t 35), none⟩])))))) (.seq (.reg false [⟨some 61, .mv (.t 7), none⟩, ⟨some 4, .mv (.t 61), none⟩, ⟨some 5, .mv (.c (.int .i64 0)), none⟩]) .ret))))))), 62, [(.t 4), (.t 5)]⟩
theorem k_spec_FormAt : compF Try.prog Try.f54 = some c_spec_FormAt := by kernel_rfl

theorem impl_sum {w w' : Bool} {lo hi lo' hi' : Nat} {h : AH} {v v' : AV} {l l' : List Int} (s : Ints w lo hi h v l) (s' : Ints w' lo' hi' h v' l') (hl : l.length ≤ l'.length) (B : Int) (hB : 0 ≤ B) (hn : l.length * B ≤ 4611686018427387904) (hm : l.length ≤ 1048576)
    (hb : ∀ i, i < l.length → -B ≤ l.getD i 0 * l'.getD i 0 ∧ l.getD i 0 * l'.getD i 0 ≤ B) (n : Nat) :
    Q Try.prog 126 [v, v'] h n (.int .i64 (sumTo l.length fun i => l.getD i 0 * l'.getD i 0)) := by
  refine q_intro Try.func126 k_impl_sum ?_
  have hs := fun k hk => sumTo_small (n := l.length) (k := k) (f := fun i => l.getD i 0 * l'.getD i 0) hb hk hB hn
  simp (maxSteps := 2000000) -implicitDefEqProofs (disch := omega) only [c_impl_sum, s.ln, xsW, xsC, xsD, xsE, fillA, reduceCtorEq, Nat.reduceAdd, Nat.reduceSub, Nat.reduceLeDiff, Nat.reduceMul, Int.reduceLT, Int.reduceLE, Int.reduceEq, Int.reduceNe, Int.reduceAdd, Int.reduceSub, Int.reduceMul, Int.reduceNeg, Int.reduceToNat]
  refine loop_for l.length 0 (fun k (_ : Unit) => [v, v', .any, .any, .int .i64 0, .int .i64 (sumTo k fun i => l.getD i 0 * l'.getD i 0), .any, .any, v, .int .i64 l.length, .int .i64 k, .any, .any, .any, .any, .any, .any, .any, .any, .any, .any, .any, .any, .any, .any]) (fun k _ => h)
    (fun k _ _ => True) () (Nat.zero_le _) trivial (by simp [LeL, Le1, sumTo]) (fun _ _ h => h) ?_
  rintro k - n1 - hk hn1 -
  simp (maxSteps := 2000000) -implicitDefEqProofs (disch := omega) only [xsW, xsC, xsD, xsE, fillA, reduceCtorEq, Nat.reduceAdd, Nat.reduceSub, Nat.reduceLeDiff, Nat.reduceMul, Int.reduceLT, Int.reduceLE, Int.reduceEq, Int.reduceNe, Int.reduceAdd, Int.reduceSub, Int.reduceMul, Int.reduceNeg, Int.reduceToNat]
  (refine cd_dec (fun h1 => ?_) (fun h1 => ?_) <;> simp (maxSteps := 2000000) -implicitDefEqProofs (disch := omega) only [xsW, xsC, xsD, xsE, fillA, reduceCtorEq, Nat.reduceAdd, Nat.reduceSub, Nat.reduceLeDiff, Nat.reduceMul, Int.reduceLT, Int.reduceLE, Int.reduceEq, Int.reduceNe, Int.reduceAdd, Int.reduceSub, Int.reduceMul, Int.reduceNeg, Int.reduceToNat,  h1])
  · have hk' : k < l.length := by omega
    have b1 := hb k hk'
    have b2 := hs k hk
    have b3 := hs (k + 1) hk'
    rw [sumTo_succ] at b3
    have hB2 := Int.mul_le_mul_of_nonneg_right (show (1 : Int) ≤ l.length by omega) hB
    simp (maxSteps := 2000000) -implicitDefEqProofs (disch := omega) only [xsW, xsC, xsD, xsE, fillA, reduceCtorEq, Nat.reduceAdd, Nat.reduceSub, Nat.reduceLeDiff, Nat.reduceMul, Int.reduceLT, Int.reduceLE, Int.reduceEq, Int.reduceNe, Int.reduceAdd, Int.reduceSub, Int.reduceMul, Int.reduceNeg, Int.reduceToNat,  s.ia, s.ld, s'.ia, s'.ld]
    exact ⟨(), by omega, by omega, by simp [LeL, Le1, sumTo]⟩
  · rw [show k = l.length by omega]
def formOf (ll : List (List Int)) (l : List Int) : Int := sumTo ll.length fun i => l.getD i 0 * sumTo ll.length fun k => (ll.getD i []).getD k 0 * l.getD k 0
section
variable {w w' : Bool} {lo hi lo' hi' : Nat} {h : AH} {v u : AV} {vs : List AV} {ll : List (List Int)} {l : List Int}
theorem form_bounds (hm : isMat ll = true) (hl : l.length = ll.length) (hw : within 1000 l = true) :
    ll.length ≤ 5 ∧ ∀ i, i < ll.length → (-1000 ≤ l.getD i 0 ∧ l.getD i 0 ≤ 1000) ∧ (ll.getD i []).length = ll.length ∧ ∀ k, k < ll.length → (-20000 ≤ (ll.getD i []).getD k 0 * l.getD k 0 ∧ (ll.getD i []).getD k 0 * l.getD k 0 ≤ 20000) := by
  rw [isMat_iff] at hm
  rw [within_iff] at hw
  refine ⟨hm.2.1, fun i hi => ⟨hw i (by omega), (hm.2.2 i hi).1, fun k hk => ?_⟩⟩
  have h1 := (hm.2.2 i hi).2
  rw [within_iff] at h1
  exact mul_bound (A := 20) (B := 1000) (h1 k (by rw [(hm.2.2 i hi).1]; exact hk)) (hw k (by omega))
theorem impl_form (s : Rows w lo hi h v vs ll) (q : Ints w' lo' hi' h u l) (hm : isMat ll = true) (hl : l.length = ll.length) (hw : within 1000 l = true) (n : Nat) :
    Q Try.prog 94 [v, u, u] h n (.int .i64 (formOf ll l)) := by
  refine q_intro Try.func94 k_impl_form ?_
  obtain ⟨c1, c2⟩ := form_bounds hm hl hw
  have c3 : ∀ i, i < ll.length → -100000 ≤ (sumTo ll.length fun k => (ll.getD i []).getD k 0 * l.getD k 0) ∧ (sumTo ll.length fun k => (ll.getD i []).getD k 0 * l.getD k 0) ≤ 100000 :=
    fun i hi => sumTo_small (n := ll.length) (B := 20000) (C := 100000) (c2 i hi).2.2 (Nat.le_refl _) (by omega) (by omega)
  have c4 : ∀ i, i < ll.length → -100000000 ≤ l.getD i 0 * (sumTo ll.length fun k => (ll.getD i []).getD k 0 * l.getD k 0) ∧ l.getD i 0 * (sumTo ll.length fun k => (ll.getD i []).getD k 0 * l.getD k 0) ≤ 100000000 :=
    fun i hi => mul_bound (A := 1000) (B := 100000) (c2 i hi).1 (c3 i hi)
  have c5 := fun k hk => sumTo_small (n := ll.length) (k := k) (B := 100000000) (C := 500000000) c4 hk (by omega) (by omega)
  simp (maxSteps := 2000000) -implicitDefEqProofs (disch := omega) only [c_impl_form, s.ln, xsW, xsC, xsD, xsE, fillA, reduceCtorEq, Nat.reduceAdd, Nat.reduceSub, Nat.reduceLeDiff, Nat.reduceMul, Int.reduceLT, Int.reduceLE, Int.reduceEq, Int.reduceNe, Int.reduceAdd, Int.reduceSub, Int.reduceMul, Int.reduceNeg, Int.reduceToNat]
  refine loop_for ll.length 0 (fun k (_ : Unit) => [v, u, u, .any, .any, .any, .int .i64 0, .int .i64 (sumTo k fun i => l.getD i 0 * sumTo ll.length fun k => (ll.getD i []).getD k 0 * l.getD k 0), .any, .any, v, .int .i64 ll.length, .int .i64 k, .any, .any, .any, .any, .any, .any, .any, .any, .any, .any, .any, .any, .any, .any, .any, .any]) (fun k _ => h)
    (fun k _ _ => True) () (Nat.zero_le _) trivial (by simp [LeL, Le1, sumTo]) (fun _ _ h => h) ?_
  rintro k - n1 - hk hn1 -
  simp (maxSteps := 2000000) -implicitDefEqProofs (disch := omega) only [xsW, xsC, xsD, xsE, fillA, reduceCtorEq, Nat.reduceAdd, Nat.reduceSub, Nat.reduceLeDiff, Nat.reduceMul, Int.reduceLT, Int.reduceLE, Int.reduceEq, Int.reduceNe, Int.reduceAdd, Int.reduceSub, Int.reduceMul, Int.reduceNeg, Int.reduceToNat]
  (refine cd_dec (fun h1 => ?_) (fun h1 => ?_) <;> simp (maxSteps := 2000000) -implicitDefEqProofs (disch := omega) only [xsW, xsC, xsD, xsE, fillA, reduceCtorEq, Nat.reduceAdd, Nat.reduceSub, Nat.reduceLeDiff, Nat.reduceMul, Int.reduceLT, Int.reduceLE, Int.reduceEq, Int.reduceNe, Int.reduceAdd, Int.reduceSub, Int.reduceMul, Int.reduceNeg, Int.reduceToNat,  h1])
  · have hk' : k < ll.length := by omega
    have hr := s.row k hk'
    have b0 := (c2 k hk').2.1
    have b1 := c4 k hk'
    have b2 := c5 k hk
    have b3 := c5 (k + 1) hk'
    rw [sumTo_succ] at b3
    simp (maxSteps := 2000000) -implicitDefEqProofs (disch := omega) only [xsW, xsC, xsD, xsE, fillA, reduceCtorEq, Nat.reduceAdd, Nat.reduceSub, Nat.reduceLeDiff, Nat.reduceMul, Int.reduceLT, Int.reduceLE, Int.reduceEq, Int.reduceNe, Int.reduceAdd, Int.reduceSub, Int.reduceMul, Int.reduceNeg, Int.reduceToNat,  s.ia, s.ld, q.ia, q.ld]
    have hsum := impl_sum hr q (by omega) 20000 (by omega) (by omega) (by omega) (fun i hi => (c2 k hk').2.2 i (by omega)) n1
    rw [b0] at hsum
    refine q_use hsum fun n2 hn2 => ?_
    simp (maxSteps := 2000000) -implicitDefEqProofs (disch := omega) only [xsW, xsC, xsD, xsE, fillA, reduceCtorEq, Nat.reduceAdd, Nat.reduceSub, Nat.reduceLeDiff, Nat.reduceMul, Int.reduceLT, Int.reduceLE, Int.reduceEq, Int.reduceNe, Int.reduceAdd, Int.reduceSub, Int.reduceMul, Int.reduceNeg, Int.reduceToNat]
    exact ⟨(), by omega, by omega, by simp [LeL, Le1, sumTo]⟩
  · rw [show k = ll.length by omega]; rfl
def formAt (ll : List (List Int)) (l : List Int) : AV := if isMat ll = true then (if l.length = ll.length ∧ within 1000 l = true then .tup [.int .i64 (formOf ll l), .int .i64 0] else .tup [.int .i64 0, .int .i64 2]) else .tup [.int .i64 0, .int .i64 1]
theorem impl_FormAt (s : Rows w lo hi h v vs ll) (q : Ints w' lo' hi' h u l) (hb : ll.length ≤ 1048576) (hbb : ∀ l ∈ ll, l.length ≤ 1048576) (hbl : l.length ≤ 1048576) (n : Nat) (hn : hi ≤ n) (hn' : hi' ≤ n) :
    Q Try.prog 51 [v, u] h n (formAt ll l) := by
  refine q_intro Try.func51 k_impl_FormAt ?_
  simp (maxSteps := 2000000) -implicitDefEqProofs (disch := omega) only [c_impl_FormAt, xsW, xsC, xsD, xsE, fillA, reduceCtorEq, Nat.reduceAdd, Nat.reduceSub, Nat.reduceLeDiff, Nat.reduceMul, Int.reduceLT, Int.reduceLE, Int.reduceEq, Int.reduceNe, Int.reduceAdd, Int.reduceSub, Int.reduceMul, Int.reduceNeg, Int.reduceToNat]
  refine q_use (impl_IsMatrix s hb hbb _ hn) fun n1 hn1 => ?_
  simp only [formAt]
  cases hm : isMat ll
  · simp (maxSteps := 2000000) -implicitDefEqProofs (disch := omega) only [xsW, xsC, xsD, xsE, fillA, reduceCtorEq, Nat.reduceAdd, Nat.reduceSub, Nat.reduceLeDiff, Nat.reduceMul, Int.reduceLT, Int.reduceLE, Int.reduceEq, Int.reduceNe, Int.reduceAdd, Int.reduceSub, Int.reduceMul, Int.reduceNeg, Int.reduceToNat]
  simp (maxSteps := 2000000) -implicitDefEqProofs (disch := omega) only [xsW, xsC, xsD, xsE, fillA, reduceCtorEq, Nat.reduceAdd, Nat.reduceSub, Nat.reduceLeDiff, Nat.reduceMul, Int.reduceLT, Int.reduceLE, Int.reduceEq, Int.reduceNe, Int.reduceAdd, Int.reduceSub, Int.reduceMul, Int.reduceNeg, Int.reduceToNat,  s.ln, q.ln]
  (refine gd_dec (fun h1 => ?_) (fun h1 => ?_) <;> simp (maxSteps := 2000000) -implicitDefEqProofs (disch := omega) only [xsW, xsC, xsD, xsE, fillA, reduceCtorEq, Nat.reduceAdd, Nat.reduceSub, Nat.reduceLeDiff, Nat.reduceMul, Int.reduceLT, Int.reduceLE, Int.reduceEq, Int.reduceNe, Int.reduceAdd, Int.reduceSub, Int.reduceMul, Int.reduceNeg, Int.reduceToNat,  h1])
  · rw [if_neg (by omega)]
  · refine q_use (impl_allUpTo q (by omega) _ (by unfold in64; omega) _ (by omega)) fun n2 hn2 => ?_
    cases hw : within 1000 l
    · simp (maxSteps := 2000000) -implicitDefEqProofs (disch := omega) only [xsW, xsC, xsD, xsE, fillA, reduceCtorEq, Nat.reduceAdd, Nat.reduceSub, Nat.reduceLeDiff, Nat.reduceMul, Int.reduceLT, Int.reduceLE, Int.reduceEq, Int.reduceNe, Int.reduceAdd, Int.reduceSub, Int.reduceMul, Int.reduceNeg, Int.reduceToNat]
    · simp (maxSteps := 2000000) -implicitDefEqProofs (disch := omega) only [xsW, xsC, xsD, xsE, fillA, reduceCtorEq, Nat.reduceAdd, Nat.reduceSub, Nat.reduceLeDiff, Nat.reduceMul, Int.reduceLT, Int.reduceLE, Int.reduceEq, Int.reduceNe, Int.reduceAdd, Int.reduceSub, Int.reduceMul, Int.reduceNeg, Int.reduceToNat]
      refine q_use (impl_form s q hm (by omega) hw _) fun n3 hn3 => ?_
      simp (maxSteps := 2000000) -implicitDefEqProofs (disch := omega) only [xsW, xsC, xsD, xsE, fillA, reduceCtorEq, Nat.reduceAdd, Nat.reduceSub, Nat.reduceLeDiff, Nat.reduceMul, Int.reduceLT, Int.reduceLE, Int.reduceEq, Int.reduceNe, Int.reduceAdd, Int.reduceSub, Int.reduceMul, Int.reduceNeg, Int.reduceToNat]
      rw [if_pos (by omega)]
def cell3 (ll : List (List Int)) (l : List Int) (i k : Nat) : Int := l.getD i 0 * (ll.getD i []).getD k 0 * l.getD k 0
theorem formOf_eq (ll : List (List Int)) (l : List Int) : (sumTo ll.length fun i => sumTo ll.length fun k => cell3 ll l i k) = formOf ll l := by
  unfold formOf cell3
  exact sumTo_congr fun i _ => by rw [sumTo_mul]; exact sumTo_congr fun k _ => Int.mul_assoc ..
theorem spec_FormAt (s : Rows w lo hi h v vs ll) (q : Ints w' lo' hi' h u l) (hb : ll.length ≤ 1048576) (hbb : ∀ l ∈ ll, l.length ≤ 1048576) (hbl : l.length ≤ 1048576) (n : Nat) (hn : hi ≤ n) (hn' : hi' ≤ n) :
    Q Try.prog 54 [v, u] h n (formAt ll l) := by
  refine q_intro Try.func54 k_spec_FormAt ?_
  simp (maxSteps := 2000000) -implicitDefEqProofs (disch := omega) only [c_spec_FormAt, xsW, xsC, xsD, xsE, fillA, reduceCtorEq, Nat.reduceAdd, Nat.reduceSub, Nat.reduceLeDiff, Nat.reduceMul, Int.reduceLT, Int.reduceLE, Int.reduceEq, Int.reduceNe, Int.reduceAdd, Int.reduceSub, Int.reduceMul, Int.reduceNeg, Int.reduceToNat]
  refine q_use (spec_l01Matrix s hb _) fun n1 hn1 => ?_
  simp only [formAt]
  cases hm : isMat ll
  · simp (maxSteps := 2000000) -implicitDefEqProofs (disch := omega) only [xsW, xsC, xsD, xsE, fillA, reduceCtorEq, Nat.reduceAdd, Nat.reduceSub, Nat.reduceLeDiff, Nat.reduceMul, Int.reduceLT, Int.reduceLE, Int.reduceEq, Int.reduceNe, Int.reduceAdd, Int.reduceSub, Int.reduceMul, Int.reduceNeg, Int.reduceToNat]
  simp (maxSteps := 2000000) -implicitDefEqProofs (disch := omega) only [xsW, xsC, xsD, xsE, fillA, reduceCtorEq, Nat.reduceAdd, Nat.reduceSub, Nat.reduceLeDiff, Nat.reduceMul, Int.reduceLT, Int.reduceLE, Int.reduceEq, Int.reduceNe, Int.reduceAdd, Int.reduceSub, Int.reduceMul, Int.reduceNeg, Int.reduceToNat,  s.ln, q.ln]
  (refine cd_dec (fun h1 => ?_) (fun h1 => ?_) <;> simp (maxSteps := 2000000) -implicitDefEqProofs (disch := omega) only [xsW, xsC, xsD, xsE, fillA, reduceCtorEq, Nat.reduceAdd, Nat.reduceSub, Nat.reduceLeDiff, Nat.reduceMul, Int.reduceLT, Int.reduceLE, Int.reduceEq, Int.reduceNe, Int.reduceAdd, Int.reduceSub, Int.reduceMul, Int.reduceNeg, Int.reduceToNat,  h1])
  · rw [if_neg (by omega)]
  refine loop_for l.length 0 (fun k (_ : Unit) => [v, u, .any, .any, .int .i64 0, .int .i64 0, .int .i64 k, .any, .any, .any, .any, .any, .any, .any, .any, .any, .any, .any, .any, .any, .any, .any, .any, .any, .any, .any, .any, .any, .any, .any, .any, .any, .any, .any, .any, .any, .any, .any, .any, .any, .any, .any, .any, .any, .any, .any, .any, .any, .any, .any, .any, .any, .any, .any, .any, .any, .any, .any, .any, .any, .any, .any]) (fun k _ => h)
    (fun j _ _ => ∀ i, i < j → -1000 ≤ l.getD i 0 ∧ l.getD i 0 ≤ 1000) () (Nat.zero_le _) (fun j hj => absurd hj (Nat.not_lt_zero _)) (by simp [LeL, Le1]) (fun _ _ h => h) ?_
  rintro k - n2 - hk hn2 he
  simp (maxSteps := 2000000) -implicitDefEqProofs (disch := omega) only [xsW, xsC, xsD, xsE, fillA, reduceCtorEq, Nat.reduceAdd, Nat.reduceSub, Nat.reduceLeDiff, Nat.reduceMul, Int.reduceLT, Int.reduceLE, Int.reduceEq, Int.reduceNe, Int.reduceAdd, Int.reduceSub, Int.reduceMul, Int.reduceNeg, Int.reduceToNat,  q.ln]
  (refine cd_dec (fun h2 => ?_) (fun h2 => ?_) <;> simp (maxSteps := 2000000) -implicitDefEqProofs (disch := omega) only [xsW, xsC, xsD, xsE, fillA, reduceCtorEq, Nat.reduceAdd, Nat.reduceSub, Nat.reduceLeDiff, Nat.reduceMul, Int.reduceLT, Int.reduceLE, Int.reduceEq, Int.reduceNe, Int.reduceAdd, Int.reduceSub, Int.reduceMul, Int.reduceNeg, Int.reduceToNat,  h2])
  · have hk' : k < l.length := by omega
    simp (maxSteps := 2000000) -implicitDefEqProofs (disch := omega) only [xsW, xsC, xsD, xsE, fillA, reduceCtorEq, Nat.reduceAdd, Nat.reduceSub, Nat.reduceLeDiff, Nat.reduceMul, Int.reduceLT, Int.reduceLE, Int.reduceEq, Int.reduceNe, Int.reduceAdd, Int.reduceSub, Int.reduceMul, Int.reduceNeg, Int.reduceToNat,  q.ia, q.ld]
    refine q_use (spec_l01In _ _ _ _ _) fun n3 hn3 => ?_
    simp (maxSteps := 2000000) -implicitDefEqProofs (disch := omega) only [xsW, xsC, xsD, xsE, fillA, reduceCtorEq, Nat.reduceAdd, Nat.reduceSub, Nat.reduceLeDiff, Nat.reduceMul, Int.reduceLT, Int.reduceLE, Int.reduceEq, Int.reduceNe, Int.reduceAdd, Int.reduceSub, Int.reduceMul, Int.reduceNeg, Int.reduceToNat]
    (refine cd_dec (fun h3 => ?_) (fun h3 => ?_) <;> simp (maxSteps := 2000000) -implicitDefEqProofs (disch := omega) only [xsW, xsC, xsD, xsE, fillA, reduceCtorEq, Nat.reduceAdd, Nat.reduceSub, Nat.reduceLeDiff, Nat.reduceMul, Int.reduceLT, Int.reduceLE, Int.reduceEq, Int.reduceNe, Int.reduceAdd, Int.reduceSub, Int.reduceMul, Int.reduceNeg, Int.reduceToNat,  h3])
    · rw [if_neg fun hx => h3 ((within_iff 1000 l).1 hx.2 k hk')]
    · exact ⟨(), fun i hi' => (Nat.lt_succ_iff_lt_or_eq.1 hi').elim (he i) (fun e => by rw [e]; omega), by omega, by omega, (by simp [LeL, Le1])⟩
  · have hlen : l.length = ll.length := by omega
    have hw : within 1000 l = true := (within_iff 1000 l).2 fun i hi' => he i (by omega)
    rw [if_pos ⟨hlen, hw⟩]
    obtain ⟨c1, c2⟩ := form_bounds hm hlen hw
    have c3 : ∀ i k, i < ll.length → k < ll.length → -20000000 ≤ cell3 ll l i k ∧ cell3 ll l i k ≤ 20000000 := fun i k hi hk => by
      have := mul_bound (A := 1000) (B := 20000) (c2 i hi).1 ((c2 i hi).2.2 k hk)
      rw [← Int.mul_assoc] at this
      exact this
    have c3' : ∀ i k, i < ll.length → k < ll.length → -20000 ≤ l.getD i 0 * (ll.getD i []).getD k 0 ∧ l.getD i 0 * (ll.getD i []).getD k 0 ≤ 20000 := fun i k hi hk => by
      rw [isMat_iff] at hm
      have h1 := (hm.2.2 i hi).2
      rw [within_iff] at h1
      exact mul_bound (A := 1000) (B := 20) (c2 i hi).1 (h1 k (by rw [(c2 i hi).2.1]; exact hk))
    have c4 : ∀ i k, i < ll.length → k ≤ ll.length → -100000000 ≤ sumTo k (cell3 ll l i) ∧ sumTo k (cell3 ll l i) ≤ 100000000 :=
      fun i k hi hk => sumTo_small (n := ll.length) (B := 20000000) (fun j hj => c3 i j hi hj) hk (by omega) (by omega)
    have c5 : ∀ i, i ≤ ll.length → -500000000 ≤ sumTo i (fun i => sumTo ll.length (cell3 ll l i)) ∧ sumTo i (fun i => sumTo ll.length (cell3 ll l i)) ≤ 500000000 :=
      fun i hi => sumTo_small (n := ll.length) (B := 100000000) (fun j hj => c4 j ll.length hj (Nat.le_refl _)) hi (by omega) (by omega)
    refine loop_for ll.length 0 (fun k (_ : Unit) => [v, u, .any, .any, .int .i64 0, .int .i64 0, .any, .int .i64 (sumTo k fun i => sumTo ll.length (cell3 ll l i)), .int .i64 k, .any, .any, .any, .any, .any, .any, .any, .any, .any, .any, .any, .any, .any, .any, .any, .any, .any, .any, .any, .any, .any, .any, .any, .any, .any, .any, .any, .any, .any, .any, .any, .any, .any, .any, .any, .any, .any, .any, .any, .any, .any, .any, .any, .any, .any, .any, .any, .any, .any, .any, .any, .any, .any]) (fun k _ => h)
      (fun _ _ _ => True) () (Nat.zero_le _) trivial (by simp [LeL, Le1, sumTo]) (fun _ _ h => h) ?_
    rintro i - n3 - hi3 hn3 -
    simp (maxSteps := 2000000) -implicitDefEqProofs (disch := omega) only [xsW, xsC, xsD, xsE, fillA, reduceCtorEq, Nat.reduceAdd, Nat.reduceSub, Nat.reduceLeDiff, Nat.reduceMul, Int.reduceLT, Int.reduceLE, Int.reduceEq, Int.reduceNe, Int.reduceAdd, Int.reduceSub, Int.reduceMul, Int.reduceNeg, Int.reduceToNat,  s.ln]
    (refine cd_dec (fun h4 => ?_) (fun h4 => ?_) <;> simp (maxSteps := 2000000) -implicitDefEqProofs (disch := omega) only [xsW, xsC, xsD, xsE, fillA, reduceCtorEq, Nat.reduceAdd, Nat.reduceSub, Nat.reduceLeDiff, Nat.reduceMul, Int.reduceLT, Int.reduceLE, Int.reduceEq, Int.reduceNe, Int.reduceAdd, Int.reduceSub, Int.reduceMul, Int.reduceNeg, Int.reduceToNat,  h4])
    · have hi4 : i < ll.length := by omega
      have b1 := c5 i hi3
      refine loop_for ll.length 0 (fun k (_ : Unit) => [v, u, .any, .any, .int .i64 0, .int .i64 0, .any, .int .i64 ((sumTo i fun i => sumTo ll.length (cell3 ll l i)) + sumTo k (cell3 ll l i)), .int .i64 i, .int .i64 k, .any, .any, .any, .any, .any, .any, .any, .any, .any, .any, .any, .any, .any, .any, .any, .any, .any, .any, .any, .any, .any, .any, .any, .any, .any, .any, .any, .any, .any, .any, .any, .any, .any, .any, .any, .any, .any, .any, .any, .any, .any, .any, .any, .any, .any, .any, .any, .any, .any, .any, .any, .any]) (fun k _ => h)
        (fun _ _ _ => True) () (Nat.zero_le _) trivial (by simp [LeL, Le1, sumTo]) (fun _ _ h => h) ?_
      rintro k - n4 - hk4 hn4 -
      simp (maxSteps := 2000000) -implicitDefEqProofs (disch := omega) only [xsW, xsC, xsD, xsE, fillA, reduceCtorEq, Nat.reduceAdd, Nat.reduceSub, Nat.reduceLeDiff, Nat.reduceMul, Int.reduceLT, Int.reduceLE, Int.reduceEq, Int.reduceNe, Int.reduceAdd, Int.reduceSub, Int.reduceMul, Int.reduceNeg, Int.reduceToNat,  s.ln]
      (refine cd_dec (fun h5 => ?_) (fun h5 => ?_) <;> simp (maxSteps := 2000000) -implicitDefEqProofs (disch := omega) only [xsW, xsC, xsD, xsE, fillA, reduceCtorEq, Nat.reduceAdd, Nat.reduceSub, Nat.reduceLeDiff, Nat.reduceMul, Int.reduceLT, Int.reduceLE, Int.reduceEq, Int.reduceNe, Int.reduceAdd, Int.reduceSub, Int.reduceMul, Int.reduceNeg, Int.reduceToNat,  h5])
      · have hk5 : k < ll.length := by omega
        have hr := s.row i hi4
        have b0 := (c2 i hi4).2.1
        have b2 := c4 i k hi4 hk4
        have b3 := c4 i (k + 1) hi4 hk5
        have b4 := c3' i k hi4 hk5
        have b5 := c3 i k hi4 hk5
        rw [sumTo_succ] at b3
        unfold cell3 at b5
        simp (maxSteps := 2000000) -implicitDefEqProofs (disch := omega) only [xsW, xsC, xsD, xsE, fillA, reduceCtorEq, Nat.reduceAdd, Nat.reduceSub, Nat.reduceLeDiff, Nat.reduceMul, Int.reduceLT, Int.reduceLE, Int.reduceEq, Int.reduceNe, Int.reduceAdd, Int.reduceSub, Int.reduceMul, Int.reduceNeg, Int.reduceToNat,  s.ia, s.ld, hr.ia, hr.ld, q.ia, q.ld]
        refine ⟨(), by omega, by omega, ?_⟩
        have e : sumTo (k + 1) (cell3 ll l i) = sumTo k (cell3 ll l i) + l.getD i 0 * (ll.getD i []).getD k 0 * l.getD k 0 := rfl
        rw [e, ← Int.add_assoc]
        simp [LeL, Le1]
      · refine ⟨(), by omega, by omega, ?_⟩
        rw [sumTo_succ, show k = ll.length by omega]
        simp [LeL, Le1]
    · rw [show i = ll.length by omega, formOf_eq]
end
def c_slices_Clone_Sint64_int64 : F := ⟨(.seq (.reg false [⟨some 2, .mv (.c .nilsl), none⟩]) (.seq (.seq (.reg false [⟨some 3, .mv (.t 0), none⟩, ⟨some 4, .nilseq false (.t 3), none⟩]) (.cond (.t 4) (.seq (.reg false [⟨some 2, .mv (.c .nilsl), none⟩]) .ret) .skip)) (.seq (.reg false [⟨some 5, .lit 2 1 0 [(.int .i64 0)] [], none⟩, ⟨some 6, .mv (.t 0), none⟩, ⟨some 7, .app 2 1 8 [(.int .i64 0)] (.t 5) (.t 6), none⟩, ⟨some 2, .mv (.t 7), none⟩]) .ret))), 8, [(.t 2)]⟩
theorem k_slices_Clone_Sint64_int64 : compF Try.prog Try.f122 = some c_slices_Clone_Sint64_int64 := by kernel_rfl
def c_spec_l01Own : F := ⟨(.seq (.reg false [⟨some 2, .mv (.c .nilsl), none⟩]) (.seq (.reg false [⟨some 3, .lit 2 1 0 [(.int .i64 0)] [], none⟩, ⟨some 4, .mv (.t 0), none⟩, ⟨some 5, .app 2 1 8 [(.int .i64 0)] (.t 3) (.t 4), none⟩, ⟨some 2, .mv (.t 5), none⟩]) .ret)), 6, [(.t 2)]⟩
theorem k_spec_l01Own : compF Try.prog Try.f88 = some c_spec_l01Own := by kernel_rfl
def c_impl_copyRows : F := ⟨(.seq (.reg false [⟨some 2, .mv (.c .nilsl), none⟩]) (.seq (.reg false [⟨some 3, .mv (.c .nilsl), none⟩]) (.seq (.seq (.reg false [⟨some 6, .mv (.t 0), none⟩, ⟨some 7, .len (.t 6), none⟩, ⟨some 8, .mv (.c (.int .i64 0)), none⟩]) (.block 0 (.loop (.seq (.reg false [⟨some 9, .bin .lss (.t 8) (.t 7), none⟩]) (.seq (.cond (.t 9) .skip (.exit 0)) (.seq (.block 1 (.seq (.reg false [⟨some 10, .ia 1 (.t 6) (.t 8), none⟩, ⟨some 11, .ld1 (.t 10), none⟩, ⟨some 5, .mv (.t 11), none⟩]) (.reg false [⟨some 12, .mv (.t 3), none⟩, ⟨some 13, .mv (.t 5), none⟩, ⟨some 14, .call (.f 122) [(.t 13)], none⟩, ⟨some 15, .lit 29 1 1 [.nilsl] [(0, (.t 14))], none⟩, ⟨some 16, .app 29 1 24 [.nilsl] (.t 12) (.t 15), none⟩, ⟨some 3, .mv (.t 16), none⟩]))) (.reg false [⟨some 17, .bin .add (.t 8) (.c (.int .i64 1)), none⟩, ⟨some 8, .mv (.t 17), none⟩]))))))) (.seq (.reg false [⟨some 18, .mv (.t 3), none⟩, ⟨some 2, .mv (.t 18), none⟩]) .ret)))), 19, [(.t 2)]⟩
theorem k_impl_copyRows : compF Try.prog Try.f87 = some c_impl_copyRows := by kernel_rfl

theorem ints_one (l : List Int) : (ints l).all AV.one = true := by
  simp only [List.all_eq_true, ints, List.mem_map]
  rintro _ ⟨a, _, rfl⟩
  rfl
theorem sq_any {neg : Bool} {v : AV} (hs : isSl v = true) (K : AV → AH → Nat → Prop) (h : AH) (n : Nat) : SQ neg v K h n = K (.bool neg) h n := by
  cases v <;> first | rfl | simp [isSl] at hs
theorem slices_Clone {lo hi : Nat} {h : AH} {v : AV} {l : List Int} (s : Ints true lo hi h v l) (hl : l.length ≤ 1048576) (n : Nat) (hn : hi ≤ n) :
    FQ Try.prog 122 [v] h n fun v' h' n' => Ints true n n' h' v' l := by
  refine fq_intro Try.func122 k_slices_Clone_Sint64_int64 ?_
  by_cases h0 : v = .nilsl
  · subst h0
    have hl0 : l = [] := by have := s.slen; simpa [slen] using this.symm
    subst hl0
    simp (maxSteps := 2000000) -implicitDefEqProofs (disch := omega) only [c_slices_Clone_Sint64_int64, xsW, xsC, xsD, xsE, fillA, reduceCtorEq, Nat.reduceAdd, Nat.reduceSub, Nat.reduceLeDiff, Nat.reduceMul, Int.reduceLT, Int.reduceLE, Int.reduceEq, Int.reduceNe, Int.reduceAdd, Int.reduceSub, Int.reduceMul, Int.reduceNeg, Int.reduceToNat]
    intro h2 _
    exact Sl.nil
  · have hs := Sl.isReal s h0
    simp (maxSteps := 2000000) -implicitDefEqProofs (disch := omega) only [c_slices_Clone_Sint64_int64, sq_any hs, xsW, xsC, xsD, xsE, fillA, reduceCtorEq, Nat.reduceAdd, Nat.reduceSub, Nat.reduceLeDiff, Nat.reduceMul, Int.reduceLT, Int.reduceLE, Int.reduceEq, Int.reduceNe, Int.reduceAdd, Int.reduceSub, Int.reduceMul, Int.reduceNeg, Int.reduceToNat]
    refine app_acc (lo := n) (Acc.empty (upd_same _ _ _) rfl (Nat.le_refl _) (by omega)) (Nat.le_refl _) (by omega) (Sl.src (s.keep (fun i _ hi9 => by simp (disch := omega) only [upd_other]))) (by rw [Sl.len s]) (ints_one l) (by rw [s.slen]; simp [slen]; omega) fun v' h' n' g1 g2 g3 g4 g5 g6 => ?_
    simp (maxSteps := 2000000) -implicitDefEqProofs (disch := omega) only [xsW, xsC, xsD, xsE, fillA, reduceCtorEq, Nat.reduceAdd, Nat.reduceSub, Nat.reduceLeDiff, Nat.reduceMul, Int.reduceLT, Int.reduceLE, Int.reduceEq, Int.reduceNe, Int.reduceAdd, Int.reduceSub, Int.reduceMul, Int.reduceNeg, Int.reduceToNat]
    intro _ h2 hh
    exact (g3.keep fun i a b => hh i a b).sl
theorem spec_l01Own {w : Bool} {lo hi : Nat} {h : AH} {v : AV} {l : List Int} (s : Ints w lo hi h v l) (hl : l.length ≤ 1048576) (n : Nat) (hn : hi ≤ n) :
    FQ Try.prog 88 [v] h n fun v' h' n' => Ints true n n' h' v' l := by
  refine fq_intro Try.func88 k_spec_l01Own ?_
  simp (maxSteps := 2000000) -implicitDefEqProofs (disch := omega) only [c_spec_l01Own, xsW, xsC, xsD, xsE, fillA, reduceCtorEq, Nat.reduceAdd, Nat.reduceSub, Nat.reduceLeDiff, Nat.reduceMul, Int.reduceLT, Int.reduceLE, Int.reduceEq, Int.reduceNe, Int.reduceAdd, Int.reduceSub, Int.reduceMul, Int.reduceNeg, Int.reduceToNat]
  refine app_acc (lo := n) (Acc.empty (upd_same _ _ _) rfl (Nat.le_refl _) (by omega)) (Nat.le_refl _) (by omega) (Sl.src (s.keep (fun i _ hi9 => by simp (disch := omega) only [upd_other]))) (by rw [Sl.len s]) (ints_one l) (by rw [s.slen]; simp [slen]; omega) fun v' h' n' g1 g2 g3 g4 g5 g6 => ?_
  simp (maxSteps := 2000000) -implicitDefEqProofs (disch := omega) only [xsW, xsC, xsD, xsE, fillA, reduceCtorEq, Nat.reduceAdd, Nat.reduceSub, Nat.reduceLeDiff, Nat.reduceMul, Int.reduceLT, Int.reduceLE, Int.reduceEq, Int.reduceNe, Int.reduceAdd, Int.reduceSub, Int.reduceMul, Int.reduceNeg, Int.reduceToNat]
  intro _ h2 hh
  exact (g3.keep fun i a b => hh i a b).sl
theorem impl_copyRows {lo hi : Nat} {h : AH} {v : AV} {vs : List AV} {ll : List (List Int)} (s : Rows true lo hi h v vs ll) (hl : ll.length ≤ 1048576) (hll : ∀ l ∈ ll, l.length ≤ 1048576) (n : Nat) (hn : hi ≤ n) :
    FQ Try.prog 87 [v] h n fun v' h' n' => ∃ vs', Rows true n n' h' v' vs' ll := by
  refine fq_intro Try.func87 k_impl_copyRows ?_
  simp (maxSteps := 2000000) -implicitDefEqProofs (disch := omega) only [c_impl_copyRows, s.ln, xsW, xsC, xsD, xsE, fillA, reduceCtorEq, Nat.reduceAdd, Nat.reduceSub, Nat.reduceLeDiff, Nat.reduceMul, Int.reduceLT, Int.reduceLE, Int.reduceEq, Int.reduceNe, Int.reduceAdd, Int.reduceSub, Int.reduceMul, Int.reduceNeg, Int.reduceToNat]
  refine loop_for ll.length 0 (fun k p => [v, .any, .nilsl, p.1, .any, .any, v, .int .i64 ll.length, .int .i64 k, .any, .any, .any, .any, .any, .any, .any, .any, .any, .any]) (fun k (p : AV × List AV × AH) => p.2.2)
    (fun k p m => Grow n m h p.2.2 29 p.1 p.2.1 (ll.take k)) (.nilsl, [], h) (Nat.zero_le _) Grow.start (by simp [LeL, Le1]) (fun _ _ h => h) ?_
  rintro k ⟨out, ws, hp⟩ m - hk hm g
  simp only at g
  simp (maxSteps := 2000000) -implicitDefEqProofs (disch := omega) only [xsW, xsC, xsD, xsE, fillA, reduceCtorEq, Nat.reduceAdd, Nat.reduceSub, Nat.reduceLeDiff, Nat.reduceMul, Int.reduceLT, Int.reduceLE, Int.reduceEq, Int.reduceNe, Int.reduceAdd, Int.reduceSub, Int.reduceMul, Int.reduceNeg, Int.reduceToNat]
  (refine cd_dec (fun h1 => ?_) (fun h1 => ?_) <;> simp (maxSteps := 2000000) -implicitDefEqProofs (disch := omega) only [xsW, xsC, xsD, xsE, fillA, reduceCtorEq, Nat.reduceAdd, Nat.reduceSub, Nat.reduceLeDiff, Nat.reduceMul, Int.reduceLT, Int.reduceLE, Int.reduceEq, Int.reduceNe, Int.reduceAdd, Int.reduceSub, Int.reduceMul, Int.reduceNeg, Int.reduceToNat,  h1])
  · have hk' : k < ll.length := by omega
    have hb := s.out.below (by rw [s.slen]; omega)
    have hold := g.old
    simp (maxSteps := 2000000) -implicitDefEqProofs (disch := omega) only [xsW, xsC, xsD, xsE, fillA, reduceCtorEq, Nat.reduceAdd, Nat.reduceSub, Nat.reduceLeDiff, Nat.reduceMul, Int.reduceLT, Int.reduceLE, Int.reduceEq, Int.reduceNe, Int.reduceAdd, Int.reduceSub, Int.reduceMul, Int.reduceNeg, Int.reduceToNat,  s.ia, hold, s.ld]
    refine fq_use (slices_Clone ((s.row k hk').keep (fun i _ hi9 => by simp (disch := omega) only [upd_other, hold])) (hll _ (getD_mem hk')) m (by omega)) fun v1 h1' n2 hn2 hs1 hv1 => ?_
    have o1 := one_any (Sl.any hv1)
    have o2 := sto_any (Sl.any hv1)
    have o3 := cel_any (Sl.any hv1)
    simp (maxSteps := 2000000) -implicitDefEqProofs (disch := omega) only [xsW, xsC, xsD, xsE, fillA, reduceCtorEq, Nat.reduceAdd, Nat.reduceSub, Nat.reduceLeDiff, Nat.reduceMul, Int.reduceLT, Int.reduceLE, Int.reduceEq, Int.reduceNe, Int.reduceAdd, Int.reduceSub, Int.reduceMul, Int.reduceNeg, Int.reduceToNat,  o1, o2, o3]
    refine g.app (hv1.keep (fun i _ hi9 => by simp (disch := omega) only [upd_other])) (fun i hi9 => by simp (disch := omega) only [upd_other, hs1]) hn2 (by omega) (Nat.le_refl _) ⟨rfl, _, upd_same _ _ _, by simp, by simp [cutA]⟩ (by simp; omega) fun out' h' n' q1 q2 => ?_
    simp (maxSteps := 2000000) -implicitDefEqProofs (disch := omega) only [xsW, xsC, xsD, xsE, fillA, reduceCtorEq, Nat.reduceAdd, Nat.reduceSub, Nat.reduceLeDiff, Nat.reduceMul, Int.reduceLT, Int.reduceLE, Int.reduceEq, Int.reduceNe, Int.reduceAdd, Int.reduceSub, Int.reduceMul, Int.reduceNeg, Int.reduceToNat]
    exact ⟨(out', ws ++ [v1], h'), by rw [take_succ_getD hk']; exact q2, by omega, by omega, (by simp [LeL, Le1]), fun _ _ h => h⟩
  · intro _ h2 hh
    rw [List.take_of_length_le (by omega)] at g
    exact ⟨ws, g.rowsOf hh⟩
def c_spec_l03Symmetric : F := ⟨(.seq (.reg false [⟨some 2, .mv (.c .nilsl), none⟩]) (.seq (.reg false [⟨some 7, .lit 29 1 0 [.nilsl] [], none⟩, ⟨some 3, .mv (.t 7), none⟩]) (.seq (.seq (.reg false [⟨some 4, .mv (.c (.int .i64 0)), none⟩]) (.block 0 (.loop (.seq (.seq (.reg false [⟨some 8, .mv (.t 4), none⟩, ⟨some 9, .mv (.t 0), none⟩, ⟨some 10, .len (.t 9), none⟩, ⟨some 11, .bin .lss (.t 8) (.t 10), none⟩]) (.cond (.t 11) .skip (.exit 0))) (.seq (.block 1 (.seq (.reg false [⟨some 14, .lit 2 1 0 [(.int .i64 0)] [], none⟩, ⟨some 5, .mv (.t 14), none⟩]) (.seq (.seq (.reg false [⟨some 6, .mv (.c (.int .i64 0)), none⟩]) (.block 2 (.loop (.seq (.seq (.reg false [⟨some 15, .mv (.t 6), none⟩, ⟨some 16, .mv (.t 0), none⟩, ⟨some 17, .len (.t 16), none⟩, ⟨some 18, .bin .lss (.t 15) (.t 17), none⟩]) (.cond (.t 18) .skip (.exit 2))) (.seq (.block 3 (.reg true [⟨some 21, .mv (.t 5), none⟩, ⟨some 22, .mv (.t 0), none⟩, ⟨some 23, .mv (.t 4), none⟩, ⟨some 24, .ia 1 (.t 22) (.t 23), none⟩, ⟨some 25, .ld1 (.t 24), none⟩, ⟨some 26, .mv (.t 6), none⟩, ⟨some 27, .ia 1 (.t 25) (.t 26), none⟩, ⟨some 28, .ld1 (.t 27), none⟩, ⟨some 29, .mv (.t 0), none⟩, ⟨some 30, .mv (.t 6), none⟩, ⟨some 31, .ia 1 (.t 29) (.t 30), none⟩, ⟨some 32, .ld1 (.t 31), none⟩, ⟨some 33, .mv (.t 4), none⟩, ⟨some 34, .ia 1 (.t 32) (.t 33), none⟩, ⟨some 35, .ld1 (.t 34), none⟩, ⟨some 36, .bin .add (.t 28) (.t 35), none⟩, ⟨some 37, .lit 2 1 1 [(.int .i64 0)] [(0, (.t 36))], none⟩, ⟨some 38, .app 2 1 8 [(.int .i64 0)] (.t 21) (.t 37), none⟩, ⟨some 5, .mv (.t 38), none⟩])) (.reg false [⟨some 19, .mv (.t 6), none⟩, ⟨some 20, .bin .add (.t 19) (.c (.int .i64 1)), none⟩, ⟨some 6, .mv (.t 20), none⟩])))))) (.reg false [⟨some 39, .mv (.t 3), none⟩, ⟨some 40, .mv (.t 5), none⟩, ⟨some 41, .lit 29 1 1 [.nilsl] [(0, (.t 40))], none⟩, ⟨some 42, .app 29 1 24 [.nilsl] (.t 39) (.t 41), none⟩, ⟨some 3, .mv (.t 42), none⟩])))) (.reg false [⟨some 12, .mv (.t 4), none⟩, ⟨some 13, .bin .add (.t 12) (.c (.int .i64 1)), none⟩, ⟨some 4, .mv (.t 13), none⟩])))))) (.seq (.reg false [⟨some 43, .mv (.t 3), none⟩, ⟨some 2, .mv (.t 43), none⟩]) .ret)))), 44, [(.t 2)]⟩
theorem k_spec_l03Symmetric : compF Try.prog Try.f76 = some c_spec_l03Symmetric := by kernel_rfl
def c_spec_l03Comparison : F := ⟨(.seq (.reg false [⟨some 2, .mv (.c .nilsl), none⟩]) (.seq (.reg false [⟨some 8, .lit 29 1 0 [.nilsl] [], none⟩, ⟨some 3, .mv (.t 8), none⟩]) (.seq (.seq (.reg false [⟨some 4, .mv (.c (.int .i64 0)), none⟩]) (.block 0 (.loop (.seq (.seq (.reg false [⟨some 9, .mv (.t 4), none⟩, ⟨some 10, .mv (.t 0), none⟩, ⟨some 11, .len (.t 10), none⟩, ⟨some 12, .bin .lss (.t 9) (.t 11), none⟩]) (.cond (.t 12) .skip (.exit 0))) (.seq (.block 1 (.seq (.reg false [⟨some 15, .lit 2 1 0 [(.int .i64 0)] [], none⟩, ⟨some 5, .mv (.t 15), none⟩]) (.seq (.seq (.reg false [⟨some 6, .mv (.c (.int .i64 0)), none⟩]) (.block 2 (.loop (.seq (.seq (.reg false [⟨some 16, .mv (.t 6), none⟩, ⟨some 17, .mv (.t 0), none⟩, ⟨some 18, .len (.t 17), none⟩, ⟨some 19, .bin .lss (.t 16) (.t 18), none⟩]) (.cond (.t 19) .skip (.exit 2))) (.seq (.block 3 (.seq (.reg true [⟨some 22, .mv (.t 0), none⟩, ⟨some 23, .mv (.t 4), none⟩, ⟨some 24, .ia 1 (.t 22) (.t 23), none⟩, ⟨some 25, .ld1 (.t 24), none⟩, ⟨some 26, .mv (.t 6), none⟩, ⟨some 27, .ia 1 (.t 25) (.t 26), none⟩, ⟨some 28, .ld1 (.t 27), none⟩, ⟨some 29, .mv (.t 0), none⟩, ⟨some 30, .mv (.t 4), none⟩, ⟨some 31, .ia 1 (.t 29) (.t 30), none⟩, ⟨some 32, .ld1 (.t 31), none⟩, ⟨some 33, .mv (.t 6), none⟩, ⟨some 34, .ia 1 (.t 32) (.t 33), none⟩, ⟨some 35, .ld1 (.t 34), none⟩, ⟨some 36, .un .neg (.t 35), none⟩, ⟨some 37, .mx [(.t 28), (.t 36)], none⟩, ⟨some 7, .mv (.t 37), none⟩]) (.seq (.seq (.reg false [⟨some 38, .mv (.t 4), none⟩, ⟨some 39, .mv (.t 6), none⟩, ⟨some 40, .bin .neq (.t 38) (.t 39), none⟩]) (.cond (.t 40) (.reg false [⟨some 41, .mv (.t 7), none⟩, ⟨some 42, .un .neg (.t 41), none⟩, ⟨some 7, .mv (.t 42), none⟩]) .skip)) (.reg false [⟨some 43, .mv (.t 5), none⟩, ⟨some 44, .mv (.t 7), none⟩, ⟨some 45, .lit 2 1 1 [(.int .i64 0)] [(0, (.t 44))], none⟩, ⟨some 46, .app 2 1 8 [(.int .i64 0)] (.t 43) (.t 45), none⟩, ⟨some 5, .mv (.t 46), none⟩])))) (.reg false [⟨some 20, .mv (.t 6), none⟩, ⟨some 21, .bin .add (.t 20) (.c (.int .i64 1)), none⟩, ⟨some 6, .mv (.t 21), none⟩])))))) (.reg false [⟨some 47, .mv (.t 3), none⟩, ⟨some 48, .mv (.t 5), none⟩, ⟨some 49, .lit 29 1 1 [.nilsl] [(0, (.t 48))], none⟩, ⟨some 50, .app 29 1 24 [.nilsl] (.t 47) (.t 49), none⟩, ⟨some 3, .mv (.t 50), none⟩])))) (.reg false [⟨some 13, .mv (.t 4), none⟩, ⟨some 14, .bin .add (.t 13) (.c (.int .i64 1)), none⟩, ⟨some 4, .mv (.t 14), none⟩])))))) (.seq (.reg false [⟨some 51, .mv (.t 3), none⟩, ⟨some 2, .mv (.t 51), none⟩]) .ret)))), 52, [(.t 2)]⟩
theorem k_spec_l03Comparison : compF Try.prog Try.f78 = some c_spec_l03Comparison := by kernel_rfl
def c_spec_l03Set : F := ⟨(.seq (.reg false [⟨some 4, .mv (.c (.int .i64 0)), none⟩]) (.seq (.seq (.reg false [⟨some 6, .mv (.t 0), none⟩, ⟨some 7, .call (.f 56) [(.t 6)], none⟩, ⟨some 8, .un .not (.t 7), none⟩]) (.cond (.t 8) (.seq (.reg false [⟨some 4, .mv (.c (.int .i64 1)), none⟩]) .ret) .skip)) (.seq (.seq (.reg false [⟨some 5, .mv (.c (.int .i64 0)), none⟩]) (.block 0 (.loop (.seq (.seq (.reg false [⟨some 9, .mv (.t 5), none⟩, ⟨some 10, .mv (.t 1), none⟩, ⟨some 11, .len (.t 10), none⟩, ⟨some 12, .bin .lss (.t 9) (.t 11), none⟩]) (.cond (.t 12) .skip (.exit 0))) (.seq (.block 1 (.seq (.reg false [⟨some 15, .mv (.t 1), none⟩, ⟨some 16, .mv (.t 5), none⟩, ⟨some 17, .ia 1 (.t 15) (.t 16), none⟩, ⟨some 18, .ld1 (.t 17), none⟩, ⟨some 19, .mv (.t 0), none⟩, ⟨some 20, .len (.t 19), none⟩, ⟨some 21, .cvi .u64 (.t 20), none⟩, ⟨some 22, .bin .shl (.c (.int .i64 1)) (.t 21), none⟩, ⟨some 23, .bin .sub (.t 22) (.c (.int .i64 1)), none⟩, ⟨some 24, .call (.f 57) [(.t 18), (.c (.int .i64 0)), (.t 23)], none⟩, ⟨some 25, .un .not (.t 24), none⟩]) (.cond (.t 25) (.seq (.reg false [⟨some 4, .mv (.c (.int .i64 2)), none⟩]) .ret) .skip))) (.reg false [⟨some 13, .mv (.t 5), none⟩, ⟨some 14, .bin .add (.t 13) (.c (.int .i64 1)), none⟩, ⟨some 5, .mv (.t 14), none⟩])))))) (.seq (.reg false [⟨some 4, .mv (.c (.int .i64 0)), none⟩]) .ret)))), 26, [(.t 4)]⟩
theorem k_spec_l03Set : compF Try.prog Try.f62 = some c_spec_l03Set := by kernel_rfl
theorem isMat_at {ll : List (List Int)} (h : isMat ll = true) {i k : Nat} (hi : i < ll.length) (hk : k < ll.length) : -20 ≤ at2 ll i k ∧ at2 ll i k ≤ 20 := by
  rw [isMat_iff] at h
  have h1 := h.2.2 i hi
  have h2 := h1.2
  rw [within_iff] at h2
  exact h2 k (by omega)
section
variable {w : Bool} {lo hi : Nat} {h : AH} {v : AV} {vs : List AV} {ll : List (List Int)}
theorem spec_l03Symmetric (s : Rows w lo hi h v vs ll) (hm : isMat ll = true) (n : Nat) (hn : hi ≤ n) :
    FQ Try.prog 76 [v] h n fun v' h' n' => ∃ vs', Rows true n n' h' v' vs' (rowsOf ll.length fun i => rowOf ll.length fun k => at2 ll i k + at2 ll k i) := by
  refine fq_intro Try.func76 k_spec_l03Symmetric ?_
  have hN := ((isMat_iff ll).1 hm).2
  simp (maxSteps := 2000000) -implicitDefEqProofs (disch := omega) only [c_spec_l03Symmetric, xsW, xsC, xsD, xsE, fillA, reduceCtorEq, Nat.reduceAdd, Nat.reduceSub, Nat.reduceLeDiff, Nat.reduceMul, Int.reduceLT, Int.reduceLE, Int.reduceEq, Int.reduceNe, Int.reduceAdd, Int.reduceSub, Int.reduceMul, Int.reduceNeg, Int.reduceToNat]
  refine loop_for ll.length 0 (fun k p => [v, .any, .nilsl, p.1, .int .i64 k, .any, .any, .any, .any, .any, .any, .any, .any, .any, .any, .any, .any, .any, .any, .any, .any, .any, .any, .any, .any, .any, .any, .any, .any, .any, .any, .any, .any, .any, .any, .any, .any, .any, .any, .any, .any, .any, .any, .any]) (fun k (p : AV × List AV × AH) => p.2.2)
    (fun k p m => Grow n m h p.2.2 29 p.1 p.2.1 (rowsOf k fun i => rowOf ll.length fun k => at2 ll i k + at2 ll k i)) (.sl n 0 0 0, [], _) (Nat.zero_le _) (Grow.start0 rfl) (by simp [LeL, Le1]) (fun _ _ h => h) ?_
  rintro i ⟨out, ws, hp⟩ m - hi1 hm1 g
  simp only at g
  have hold := g.old
  simp (maxSteps := 2000000) -implicitDefEqProofs (disch := omega) only [xsW, xsC, xsD, xsE, fillA, reduceCtorEq, Nat.reduceAdd, Nat.reduceSub, Nat.reduceLeDiff, Nat.reduceMul, Int.reduceLT, Int.reduceLE, Int.reduceEq, Int.reduceNe, Int.reduceAdd, Int.reduceSub, Int.reduceMul, Int.reduceNeg, Int.reduceToNat,  s.ln]
  (refine cd_dec (fun c1 => ?_) (fun c1 => ?_) <;> simp (maxSteps := 2000000) -implicitDefEqProofs (disch := omega) only [xsW, xsC, xsD, xsE, fillA, reduceCtorEq, Nat.reduceAdd, Nat.reduceSub, Nat.reduceLeDiff, Nat.reduceMul, Int.reduceLT, Int.reduceLE, Int.reduceEq, Int.reduceNe, Int.reduceAdd, Int.reduceSub, Int.reduceMul, Int.reduceNeg, Int.reduceToNat,  c1])
  · have hi2 : i < ll.length := by omega
    have hri := s.row i hi2
    have hb := s.out.below (by rw [s.slen]; omega)
    refine loop_for ll.length 0 (fun k p => [v, .any, .nilsl, out, .int .i64 i, p.1, .int .i64 k, .any, .any, .any, .any, .any, .any, .any, .any, .any, .any, .any, .any, .any, .any, .any, .any, .any, .any, .any, .any, .any, .any, .any, .any, .any, .any, .any, .any, .any, .any, .any, .any, .any, .any, .any, .any, .any]) (fun k (p : AV × AH) => p.2)
      (fun k p m' => Acc m m' p.2 2 1 p.1 (ints (rowOf k fun k => at2 ll i k + at2 ll k i)) ∧ m ≤ m' ∧ ∀ j, j < m → p.2 j = hp j) (.sl m 0 0 0, _) (Nat.zero_le _) ⟨Acc.empty (upd_same _ _ _) rfl (Nat.le_refl _) (by omega), by omega, fun j hj => upd_other (by omega)⟩ (by simp [LeL, Le1]) (fun _ _ h => h) ?_
    rintro k ⟨row, hq⟩ mq - hk1 hm2 ⟨a, hle, hold2⟩
    simp only at a hold2
    simp (maxSteps := 2000000) -implicitDefEqProofs (disch := omega) only [xsW, xsC, xsD, xsE, fillA, reduceCtorEq, Nat.reduceAdd, Nat.reduceSub, Nat.reduceLeDiff, Nat.reduceMul, Int.reduceLT, Int.reduceLE, Int.reduceEq, Int.reduceNe, Int.reduceAdd, Int.reduceSub, Int.reduceMul, Int.reduceNeg, Int.reduceToNat,  s.ln]
    (refine cd_dec (fun c2 => ?_) (fun c2 => ?_) <;> simp (maxSteps := 2000000) -implicitDefEqProofs (disch := omega) only [xsW, xsC, xsD, xsE, fillA, reduceCtorEq, Nat.reduceAdd, Nat.reduceSub, Nat.reduceLeDiff, Nat.reduceMul, Int.reduceLT, Int.reduceLE, Int.reduceEq, Int.reduceNe, Int.reduceAdd, Int.reduceSub, Int.reduceMul, Int.reduceNeg, Int.reduceToNat,  c2])
    · have hk2 : k < ll.length := by omega
      have hrk := s.row k hk2
      have li := (hN.2 i hi2).1
      have lk := (hN.2 k hk2).1
      have bi := Sl.below hri (by rw [hri.slen]; omega)
      have bk := Sl.below hrk (by rw [hrk.slen]; omega)
      have xi := isMat_at hm hi2 hk2
      have xk := isMat_at hm hk2 hi2
      unfold at2 at xi xk
      simp (maxSteps := 2000000) -implicitDefEqProofs (disch := omega) only [xsW, xsC, xsD, xsE, fillA, reduceCtorEq, Nat.reduceAdd, Nat.reduceSub, Nat.reduceLeDiff, Nat.reduceMul, Int.reduceLT, Int.reduceLE, Int.reduceEq, Int.reduceNe, Int.reduceAdd, Int.reduceSub, Int.reduceMul, Int.reduceNeg, Int.reduceToNat,  s.ia, s.ld, hri.ia, hri.ld, hrk.ia, hrk.ld, hold, hold2]
      refine app_int (y := at2 ll i k + at2 ll k i) (a.keep (fun i _ hi9 => by simp (disch := omega) only [upd_other]) |>.wide (Nat.le_refl _) (by omega)) (by omega) (by omega) ⟨rfl, _, upd_same _ _ _, by simp, by simp [cutA, at2]⟩ (by rw [rowOf_len]; omega) fun v' h' n' q1 q2 q3 => ?_
      simp (maxSteps := 2000000) -implicitDefEqProofs (disch := omega) only [xsW, xsC, xsD, xsE, fillA, reduceCtorEq, Nat.reduceAdd, Nat.reduceSub, Nat.reduceLeDiff, Nat.reduceMul, Int.reduceLT, Int.reduceLE, Int.reduceEq, Int.reduceNe, Int.reduceAdd, Int.reduceSub, Int.reduceMul, Int.reduceNeg, Int.reduceToNat]
      exact ⟨(v', h'), ⟨by rw [rowOf_succ]; exact q2, by omega, fun j hj => (q3 j hj).trans (by rw [upd_other (by omega), hold2 j hj])⟩, by omega, by omega, (by simp [LeL, Le1]), fun _ _ h => h⟩
    · have e : k = ll.length := by omega
      subst e
      have o1 := one_any a.any
      have o2 := sto_any a.any
      have o3 := cel_any a.any
      simp (maxSteps := 2000000) -implicitDefEqProofs (disch := omega) only [xsW, xsC, xsD, xsE, fillA, reduceCtorEq, Nat.reduceAdd, Nat.reduceSub, Nat.reduceLeDiff, Nat.reduceMul, Int.reduceLT, Int.reduceLE, Int.reduceEq, Int.reduceNe, Int.reduceAdd, Int.reduceSub, Int.reduceMul, Int.reduceNeg, Int.reduceToNat,  o1, o2, o3]
      refine g.app (hB := upd hq mq _) (l := rowOf ll.length fun k => at2 ll i k + at2 ll k i) (a.sl.keep (fun i _ hi9 => by simp (disch := omega) only [upd_other])) (fun i hi9 => by simp (disch := omega) only [upd_other, hold2]) hle (by omega) (Nat.le_refl _) ⟨rfl, _, upd_same _ _ _, by simp, by simp [cutA]⟩ (by rw [rowsOf_len]; omega) fun out' h' n' q1 q2 => ?_
      simp (maxSteps := 2000000) -implicitDefEqProofs (disch := omega) only [xsW, xsC, xsD, xsE, fillA, reduceCtorEq, Nat.reduceAdd, Nat.reduceSub, Nat.reduceLeDiff, Nat.reduceMul, Int.reduceLT, Int.reduceLE, Int.reduceEq, Int.reduceNe, Int.reduceAdd, Int.reduceSub, Int.reduceMul, Int.reduceNeg, Int.reduceToNat]
      exact ⟨(out', ws ++ [row], h'), by rw [rowsOf_succ]; exact q2, by omega, by omega, (by simp [LeL, Le1]), fun _ _ h => h⟩
  · intro _ h2 hh
    have e : i = ll.length := by omega
    subst e
    exact ⟨ws, g.rowsOf hh⟩
def cmp2 (ll : List (List Int)) (i k : Nat) : Int := if i = k then (at2 ll i k).natAbs else -(at2 ll i k).natAbs
theorem spec_l03Comparison (s : Rows w lo hi h v vs ll) (hm : isMat ll = true) (n : Nat) (hn : hi ≤ n) :
    FQ Try.prog 78 [v] h n fun v' h' n' => ∃ vs', Rows true n n' h' v' vs' (rowsOf ll.length fun i => rowOf ll.length fun k => cmp2 ll i k) := by
  refine fq_intro Try.func78 k_spec_l03Comparison ?_
  have hN := ((isMat_iff ll).1 hm).2
  simp (maxSteps := 2000000) -implicitDefEqProofs (disch := omega) only [c_spec_l03Comparison, xsW, xsC, xsD, xsE, fillA, reduceCtorEq, Nat.reduceAdd, Nat.reduceSub, Nat.reduceLeDiff, Nat.reduceMul, Int.reduceLT, Int.reduceLE, Int.reduceEq, Int.reduceNe, Int.reduceAdd, Int.reduceSub, Int.reduceMul, Int.reduceNeg, Int.reduceToNat]
  refine loop_for ll.length 0 (fun k p => [v, .any, .nilsl, p.1, .int .i64 k, .any, .any, .any, .any, .any, .any, .any, .any, .any, .any, .any, .any, .any, .any, .any, .any, .any, .any, .any, .any, .any, .any, .any, .any, .any, .any, .any, .any, .any, .any, .any, .any, .any, .any, .any, .any, .any, .any, .any, .any, .any, .any, .any, .any, .any, .any, .any]) (fun k (p : AV × List AV × AH) => p.2.2)
    (fun k p m => Grow n m h p.2.2 29 p.1 p.2.1 (rowsOf k fun i => rowOf ll.length fun k => cmp2 ll i k)) (.sl n 0 0 0, [], _) (Nat.zero_le _) (Grow.start0 rfl) (by simp [LeL, Le1]) (fun _ _ h => h) ?_
  rintro i ⟨out, ws, hp⟩ m - hi1 hm1 g
  simp only at g
  have hold := g.old
  simp (maxSteps := 2000000) -implicitDefEqProofs (disch := omega) only [xsW, xsC, xsD, xsE, fillA, reduceCtorEq, Nat.reduceAdd, Nat.reduceSub, Nat.reduceLeDiff, Nat.reduceMul, Int.reduceLT, Int.reduceLE, Int.reduceEq, Int.reduceNe, Int.reduceAdd, Int.reduceSub, Int.reduceMul, Int.reduceNeg, Int.reduceToNat,  s.ln]
  (refine cd_dec (fun c1 => ?_) (fun c1 => ?_) <;> simp (maxSteps := 2000000) -implicitDefEqProofs (disch := omega) only [xsW, xsC, xsD, xsE, fillA, reduceCtorEq, Nat.reduceAdd, Nat.reduceSub, Nat.reduceLeDiff, Nat.reduceMul, Int.reduceLT, Int.reduceLE, Int.reduceEq, Int.reduceNe, Int.reduceAdd, Int.reduceSub, Int.reduceMul, Int.reduceNeg, Int.reduceToNat,  c1])
  · have hi2 : i < ll.length := by omega
    have hri := s.row i hi2
    have hb := s.out.below (by rw [s.slen]; omega)
    refine loop_for ll.length 0 (fun k p => [v, .any, .nilsl, out, .int .i64 i, p.1, .int .i64 k, .any, .any, .any, .any, .any, .any, .any, .any, .any, .any, .any, .any, .any, .any, .any, .any, .any, .any, .any, .any, .any, .any, .any, .any, .any, .any, .any, .any, .any, .any, .any, .any, .any, .any, .any, .any, .any, .any, .any, .any, .any, .any, .any, .any, .any]) (fun k (p : AV × AH) => p.2)
      (fun k p m' => Acc m m' p.2 2 1 p.1 (ints (rowOf k fun k => cmp2 ll i k)) ∧ m ≤ m' ∧ ∀ j, j < m → p.2 j = hp j) (.sl m 0 0 0, _) (Nat.zero_le _) ⟨Acc.empty (upd_same _ _ _) rfl (Nat.le_refl _) (by omega), by omega, fun j hj => upd_other (by omega)⟩ (by simp [LeL, Le1]) (fun _ _ h => h) ?_
    rintro k ⟨row, hq⟩ mq - hk1 hm2 ⟨a, hle, hold2⟩
    simp only at a hold2
    simp (maxSteps := 2000000) -implicitDefEqProofs (disch := omega) only [xsW, xsC, xsD, xsE, fillA, reduceCtorEq, Nat.reduceAdd, Nat.reduceSub, Nat.reduceLeDiff, Nat.reduceMul, Int.reduceLT, Int.reduceLE, Int.reduceEq, Int.reduceNe, Int.reduceAdd, Int.reduceSub, Int.reduceMul, Int.reduceNeg, Int.reduceToNat,  s.ln]
    (refine cd_dec (fun c2 => ?_) (fun c2 => ?_) <;> simp (maxSteps := 2000000) -implicitDefEqProofs (disch := omega) only [xsW, xsC, xsD, xsE, fillA, reduceCtorEq, Nat.reduceAdd, Nat.reduceSub, Nat.reduceLeDiff, Nat.reduceMul, Int.reduceLT, Int.reduceLE, Int.reduceEq, Int.reduceNe, Int.reduceAdd, Int.reduceSub, Int.reduceMul, Int.reduceNeg, Int.reduceToNat,  c2])
    · have hk2 : k < ll.length := by omega
      have li := (hN.2 i hi2).1
      have bi := Sl.below hri (by rw [hri.slen]; omega)
      have xi := isMat_at hm hi2 hk2
      unfold at2 at xi
      simp (maxSteps := 2000000) -implicitDefEqProofs (disch := omega) only [xsW, xsC, xsD, xsE, fillA, reduceCtorEq, Nat.reduceAdd, Nat.reduceSub, Nat.reduceLeDiff, Nat.reduceMul, Int.reduceLT, Int.reduceLE, Int.reduceEq, Int.reduceNe, Int.reduceAdd, Int.reduceSub, Int.reduceMul, Int.reduceNeg, Int.reduceToNat,  s.ia, s.ld, hri.ia, hri.ld, hold, hold2]
      have hz : ∃ z, z = cmp2 ll i k := ⟨_, rfl⟩
      obtain ⟨z, hz⟩ := hz
      (refine cd_dec (fun c3 => ?_) (fun c3 => ?_) <;> simp (maxSteps := 2000000) -implicitDefEqProofs (disch := omega) only [xsW, xsC, xsD, xsE, fillA, reduceCtorEq, Nat.reduceAdd, Nat.reduceSub, Nat.reduceLeDiff, Nat.reduceMul, Int.reduceLT, Int.reduceLE, Int.reduceEq, Int.reduceNe, Int.reduceAdd, Int.reduceSub, Int.reduceMul, Int.reduceNeg, Int.reduceToNat,  c3])
      all_goals
        refine app_int (y := z) (a.keep (fun i _ hi9 => by simp (disch := omega) only [upd_other]) |>.wide (Nat.le_refl _) (by omega)) (by omega) (by omega) ⟨rfl, _, upd_same _ _ _, by simp, by simp [cutA, hz, cmp2, at2]; omega⟩ (by rw [rowOf_len]; omega) fun v' h' n' q1 q2 q3 => ?_
        simp (maxSteps := 2000000) -implicitDefEqProofs (disch := omega) only [xsW, xsC, xsD, xsE, fillA, reduceCtorEq, Nat.reduceAdd, Nat.reduceSub, Nat.reduceLeDiff, Nat.reduceMul, Int.reduceLT, Int.reduceLE, Int.reduceEq, Int.reduceNe, Int.reduceAdd, Int.reduceSub, Int.reduceMul, Int.reduceNeg, Int.reduceToNat]
        exact ⟨(v', h'), ⟨by rw [rowOf_succ, ← hz]; exact q2, by omega, fun j hj => (q3 j hj).trans (by rw [upd_other (by omega), hold2 j hj])⟩, by omega, by omega, (by simp [LeL, Le1]), fun _ _ h => h⟩
    · have e : k = ll.length := by omega
      subst e
      have o1 := one_any a.any
      have o2 := sto_any a.any
      have o3 := cel_any a.any
      simp (maxSteps := 2000000) -implicitDefEqProofs (disch := omega) only [xsW, xsC, xsD, xsE, fillA, reduceCtorEq, Nat.reduceAdd, Nat.reduceSub, Nat.reduceLeDiff, Nat.reduceMul, Int.reduceLT, Int.reduceLE, Int.reduceEq, Int.reduceNe, Int.reduceAdd, Int.reduceSub, Int.reduceMul, Int.reduceNeg, Int.reduceToNat,  o1, o2, o3]
      refine g.app (hB := upd hq mq _) (l := rowOf ll.length fun k => cmp2 ll i k) (a.sl.keep (fun i _ hi9 => by simp (disch := omega) only [upd_other])) (fun i hi9 => by simp (disch := omega) only [upd_other, hold2]) hle (by omega) (Nat.le_refl _) ⟨rfl, _, upd_same _ _ _, by simp, by simp [cutA]⟩ (by rw [rowsOf_len]; omega) fun out' h' n' q1 q2 => ?_
      simp (maxSteps := 2000000) -implicitDefEqProofs (disch := omega) only [xsW, xsC, xsD, xsE, fillA, reduceCtorEq, Nat.reduceAdd, Nat.reduceSub, Nat.reduceLeDiff, Nat.reduceMul, Int.reduceLT, Int.reduceLE, Int.reduceEq, Int.reduceNe, Int.reduceAdd, Int.reduceSub, Int.reduceMul, Int.reduceNeg, Int.reduceToNat]
      exact ⟨(out', ws ++ [row], h'), by rw [rowsOf_succ]; exact q2, by omega, by omega, (by simp [LeL, Le1]), fun _ _ h => h⟩
  · intro _ h2 hh
    have e : i = ll.length := by omega
    subst e
    exact ⟨ws, g.rowsOf hh⟩
theorem spec_l03Set0 (s : Rows w lo hi h v vs ll) (hl : ll.length ≤ 1048576) (n : Nat) : Q Try.prog 62 [v, .nilsl] h n (.int .i64 (if isMat ll = true then 0 else 1)) := by
  refine q_intro Try.func62 k_spec_l03Set ?_
  simp (maxSteps := 2000000) -implicitDefEqProofs (disch := omega) only [c_spec_l03Set, xsW, xsC, xsD, xsE, fillA, reduceCtorEq, Nat.reduceAdd, Nat.reduceSub, Nat.reduceLeDiff, Nat.reduceMul, Int.reduceLT, Int.reduceLE, Int.reduceEq, Int.reduceNe, Int.reduceAdd, Int.reduceSub, Int.reduceMul, Int.reduceNeg, Int.reduceToNat]
  refine q_use (spec_l01Matrix s hl _) fun n1 hn1 => ?_
  cases hm : isMat ll
  · simp (maxSteps := 2000000) -implicitDefEqProofs (disch := omega) only [xsW, xsC, xsD, xsE, fillA, reduceCtorEq, Nat.reduceAdd, Nat.reduceSub, Nat.reduceLeDiff, Nat.reduceMul, Int.reduceLT, Int.reduceLE, Int.reduceEq, Int.reduceNe, Int.reduceAdd, Int.reduceSub, Int.reduceMul, Int.reduceNeg, Int.reduceToNat]
  · simp (maxSteps := 2000000) -implicitDefEqProofs (disch := omega) only [xsW, xsC, xsD, xsE, fillA, reduceCtorEq, Nat.reduceAdd, Nat.reduceSub, Nat.reduceLeDiff, Nat.reduceMul, Int.reduceLT, Int.reduceLE, Int.reduceEq, Int.reduceNe, Int.reduceAdd, Int.reduceSub, Int.reduceMul, Int.reduceNeg, Int.reduceToNat]
    refine loop_for 0 0 (fun k (_ : Unit) => [v, .nilsl, .any, .any, .int .i64 0, .int .i64 k, .any, .any, .any, .any, .any, .any, .any, .any, .any, .any, .any, .any, .any, .any, .any, .any, .any, .any, .any, .any]) (fun k _ => h) (fun _ _ _ => True) () (Nat.zero_le _) trivial (by simp [LeL, Le1]) (fun _ _ h => h) ?_
    rintro k - n2 - hk hn2 -
    simp (maxSteps := 2000000) -implicitDefEqProofs (disch := omega) only [xsW, xsC, xsD, xsE, fillA, reduceCtorEq, Nat.reduceAdd, Nat.reduceSub, Nat.reduceLeDiff, Nat.reduceMul, Int.reduceLT, Int.reduceLE, Int.reduceEq, Int.reduceNe, Int.reduceAdd, Int.reduceSub, Int.reduceMul, Int.reduceNeg, Int.reduceToNat]
def symF (ll : List (List Int)) : List (List Int) := rowsOf ll.length fun i => rowOf ll.length fun k => at2 ll i k + at2 ll k i
def cmpF2 (ll : List (List Int)) : List (List Int) := rowsOf ll.length fun i => rowOf ll.length fun k => cmp2 ll i k
end
def c_impl_mapped : F := ⟨(.seq (.reg false [⟨some 4, .mv (.c .nilsl), none⟩]) (.seq (.reg false [⟨some 9, .mv (.t 0), none⟩, ⟨some 10, .call (.f 87) [(.t 9)], none⟩, ⟨some 5, .mv (.t 10), none⟩]) (.seq (.seq (.reg false [⟨some 11, .mv (.t 5), none⟩, ⟨some 12, .len (.t 11), none⟩, ⟨some 13, .mv (.c (.int .i64 0)), none⟩]) (.block 0 (.loop (.seq (.reg false [⟨some 14, .bin .lss (.t 13) (.t 12), none⟩]) (.seq (.cond (.t 14) .skip (.exit 0)) (.seq (.block 1 (.seq (.reg false [⟨some 15, .mv (.t 13), none⟩, ⟨some 16, .ia 1 (.t 11) (.t 13), none⟩, ⟨some 17, .ld1 (.t 16), none⟩, ⟨some 6, .mv (.t 15), none⟩, ⟨some 7, .mv (.t 17), none⟩]) (.seq (.reg false [⟨some 18, .mv (.t 7), none⟩, ⟨some 19, .len (.t 18), none⟩, ⟨some 20, .mv (.c (.int .i64 0)), none⟩]) (.block 2 (.loop (.seq (.reg false [⟨some 21, .bin .lss (.t 20) (.t 19), none⟩]) (.seq (.cond (.t 21) .skip (.exit 2)) (.seq (.block 3 (.seq (.reg false [⟨some 22, .mv (.t 20), none⟩, ⟨some 8, .mv (.t 22), none⟩]) (.reg false [⟨some 23, .mv (.t 7), none⟩, ⟨some 24, .mv (.t 8), none⟩, ⟨some 25, .mv (.t 1), none⟩, ⟨some 26, .mv (.t 6), none⟩, ⟨some 27, .mv (.t 8), none⟩, ⟨some 28, .call (.t 25) [(.t 26), (.t 27)], none⟩, ⟨some 29, .ia 1 (.t 23) (.t 24), none⟩, ⟨none, .st 1 (.t 29) (.t 28), none⟩]))) (.reg false [⟨some 30, .bin .add (.t 20) (.c (.int .i64 1)), none⟩, ⟨some 20, .mv (.t 30), none⟩]))))))))) (.reg false [⟨some 31, .bin .add (.t 13) (.c (.int .i64 1)), none⟩, ⟨some 13, .mv (.t 31), none⟩]))))))) (.seq (.reg false [⟨some 32, .mv (.t 5), none⟩, ⟨some 4, .mv (.t 32), none⟩]) .ret)))), 33, [(.t 4)]⟩
theorem k_impl_mapped : compF Try.prog Try.f79 = some c_impl_mapped := by kernel_rfl
def c_impl_symmetric : F := ⟨(.seq (.reg false [⟨some 1, .box 22 (.t 0), none⟩, ⟨some 2, .mv (.c .nilsl), none⟩]) (.seq (.reg false [⟨some 3, .ld1 (.t 1), none⟩, ⟨some 4, .mkf 119 [(.t 1)], none⟩, ⟨some 5, .call (.f 79) [(.t 3), (.t 4)], none⟩, ⟨some 2, .mv (.t 5), none⟩]) .ret)), 6, [(.t 2)]⟩
theorem k_impl_symmetric : compF Try.prog Try.f75 = some c_impl_symmetric := by kernel_rfl
def c_impl_symmetric_1 : F := ⟨(.seq (.reg false [⟨some 5, .mv (.c (.int .i64 0)), none⟩]) (.seq (.reg true [⟨some 6, .ld1 (.t 2), none⟩, ⟨some 7, .mv (.t 0), none⟩, ⟨some 8, .ia 1 (.t 6) (.t 7), none⟩, ⟨some 9, .ld1 (.t 8), none⟩, ⟨some 10, .mv (.t 1), none⟩, ⟨some 11, .ia 1 (.t 9) (.t 10), none⟩, ⟨some 12, .ld1 (.t 11), none⟩, ⟨some 13, .ld1 (.t 2), none⟩, ⟨some 14, .mv (.t 1), none⟩, ⟨some 15, .ia 1 (.t 13) (.t 14), none⟩, ⟨some 16, .ld1 (.t 15), none⟩, ⟨some 17, .mv (.t 0), none⟩, ⟨some 18, .ia 1 (.t 16) (.t 17), none⟩, ⟨some 19, .ld1 (.t 18), none⟩, ⟨some 20, .bin .add (.t 12) (.t 19), none⟩, ⟨some 5, .mv (.t 20), none⟩]) .ret)), 21, [(.t 5)]⟩
theorem k_impl_symmetric_1 : compF Try.prog Try.f119 = some c_impl_symmetric_1 := by kernel_rfl
def c_impl_comparison : F := ⟨(.seq (.reg false [⟨some 1, .box 22 (.t 0), none⟩, ⟨some 2, .mv (.c .nilsl), none⟩]) (.seq (.reg false [⟨some 3, .ld1 (.t 1), none⟩, ⟨some 4, .mkf 120 [(.t 1)], none⟩, ⟨some 5, .call (.f 79) [(.t 3), (.t 4)], none⟩, ⟨some 2, .mv (.t 5), none⟩]) .ret)), 6, [(.t 2)]⟩
theorem k_impl_comparison : compF Try.prog Try.f77 = some c_impl_comparison := by kernel_rfl
def c_impl_comparison_1 : F := ⟨(.seq (.reg false [⟨some 5, .mv (.c (.int .i64 0)), none⟩]) (.seq (.seq (.reg false [⟨some 6, .mv (.t 0), none⟩, ⟨some 7, .mv (.t 1), none⟩, ⟨some 8, .bin .eql (.t 6) (.t 7), none⟩]) (.cond (.t 8) (.seq (.reg false [⟨some 9, .ld1 (.t 2), none⟩, ⟨some 10, .mv (.t 0), none⟩, ⟨some 11, .ia 1 (.t 9) (.t 10), none⟩, ⟨some 12, .ld1 (.t 11), none⟩, ⟨some 13, .mv (.t 1), none⟩, ⟨some 14, .ia 1 (.t 12) (.t 13), none⟩, ⟨some 15, .ld1 (.t 14), none⟩, ⟨some 16, .call (.f 121) [(.t 15)], none⟩, ⟨some 5, .mv (.t 16), none⟩]) .ret) .skip)) (.seq (.reg false [⟨some 17, .ld1 (.t 2), none⟩, ⟨some 18, .mv (.t 0), none⟩, ⟨some 19, .ia 1 (.t 17) (.t 18), none⟩, ⟨some 20, .ld1 (.t 19), none⟩, ⟨some 21, .mv (.t 1), none⟩, ⟨some 22, .ia 1 (.t 20) (.t 21), none⟩, ⟨some 23, .ld1 (.t 22), none⟩, ⟨some 24, .call (.f 121) [(.t 23)], none⟩, ⟨some 25, .un .neg (.t 24), none⟩, ⟨some 5, .mv (.t 25), none⟩]) .ret))), 26, [(.t 5)]⟩
theorem k_impl_comparison_1 : compF Try.prog Try.f120 = some c_impl_comparison_1 := by kernel_rfl
def mixR (ll : List (List Int)) (F : Nat → Nat → Int) (i : Nat) : List (List Int) := (rowsOf i fun j => rowOf ll.length (F j)) ++ ll.drop i
theorem mixR_len (ll : List (List Int)) (F : Nat → Nat → Int) (i : Nat) (hi : i ≤ ll.length) : (mixR ll F i).length = ll.length := by simp [mixR, rowsOf]; omega
theorem mixR_get (ll : List (List Int)) (F : Nat → Nat → Int) (i : Nat) (hi : i < ll.length) : (mixR ll F i).getD i [] = ll.getD i [] := by
  have h1 : (rowsOf i fun j => rowOf ll.length (F j)).length = i := rowsOf_len ..
  simp [mixR, List.getD, List.getElem?_append_right, h1]
theorem mixR_set (ll : List (List Int)) (F : Nat → Nat → Int) (i : Nat) (hi : i < ll.length) : (mixR ll F i).set i (rowOf ll.length (F i)) = mixR ll F (i + 1) := by
  have h1 : (rowsOf i fun j => rowOf ll.length (F j)).length = i := rowsOf_len ..
  rw [mixR, mixR, rowsOf_succ, List.set_append, if_neg (by omega), h1, Nat.sub_self, List.drop_eq_getElem_cons hi, List.set_cons_zero]
  simp
theorem mixL_set (l : List Int) (f : Nat → Int) (k : Nat) (hk : k < l.length) : (rowOf k f ++ l.drop k).set k (f k) = rowOf (k + 1) f ++ l.drop (k + 1) := by
  have h1 : (rowOf k f).length = k := rowOf_len ..
  rw [rowOf_succ, List.set_append, if_neg (by omega), h1, Nat.sub_self, List.drop_eq_getElem_cons hk, List.set_cons_zero]
  simp
section
variable {lo hi : Nat} {h : AH} {v : AV} {vs : List AV} {ll : List (List Int)}
theorem impl_mapped (s : Rows true lo hi h v vs ll) (hm : isMat ll = true) (g : Nat) (ds : List AV) (F : Nat → Nat → Int) (n : Nat) (hn : hi ≤ n)
    (hF : ∀ i k (hp : AH) n', i < ll.length → k < ll.length → (∀ j, j < n → hp j = h j) → n ≤ n' → Q Try.prog g (.int .i64 i :: .int .i64 k :: ds) hp n' (.int .i64 (F i k))) :
    FQ Try.prog 79 [v, .fn g ds] h n fun v' h' n' => ∃ vs', Rows true n n' h' v' vs' (rowsOf ll.length fun i => rowOf ll.length (F i)) := by
  refine fq_intro Try.func79 k_impl_mapped ?_
  obtain ⟨hN1, hN⟩ := ((isMat_iff ll).1 hm).2
  simp (maxSteps := 2000000) -implicitDefEqProofs (disch := omega) only [c_impl_mapped, xsW, xsC, xsD, xsE, fillA, reduceCtorEq, Nat.reduceAdd, Nat.reduceSub, Nat.reduceLeDiff, Nat.reduceMul, Int.reduceLT, Int.reduceLE, Int.reduceEq, Int.reduceNe, Int.reduceAdd, Int.reduceSub, Int.reduceMul, Int.reduceNeg, Int.reduceToNat]
  refine fq_use (impl_copyRows s (by omega) (fun l hl => by
    obtain ⟨k, hk, rfl⟩ := List.mem_iff_getElem.1 hl
    have := (hN k hk).1
    simp [List.getD, hk] at this
    omega) n hn) fun o h0 n0' hn0 hs0 ⟨ws, ho⟩ => ?_
  simp (maxSteps := 2000000) -implicitDefEqProofs (disch := omega) only [xsW, xsC, xsD, xsE, fillA, reduceCtorEq, Nat.reduceAdd, Nat.reduceSub, Nat.reduceLeDiff, Nat.reduceMul, Int.reduceLT, Int.reduceLE, Int.reduceEq, Int.reduceNe, Int.reduceAdd, Int.reduceSub, Int.reduceMul, Int.reduceNeg, Int.reduceToNat,  ho.ln]
  refine loop_for ll.length 0 (fun k hp => [v, .fn g ds, .any, .any, .nilsl, o, .any, .any, .any, .any, .any, o, .int .i64 ll.length, .int .i64 k, .any, .any, .any, .any, .any, .any, .any, .any, .any, .any, .any, .any, .any, .any, .any, .any, .any, .any, .any]) (fun k (hp : AH) => hp)
    (fun i hp m => Rows true n n0' hp o ws (mixR ll F i) ∧ (∀ j, j < n → hp j = h j) ∧ n0' ≤ m) h0 (Nat.zero_le _) ⟨by simpa [mixR, rowsOf] using ho, hs0, Nat.le_refl _⟩ (by simp [LeL, Le1]) (fun _ _ h => h) ?_
  rintro i hp m - hi1 hm1 ⟨g1, g2, g3⟩
  have hlen := mixR_len ll F i hi1
  simp (maxSteps := 2000000) -implicitDefEqProofs (disch := omega) only [xsW, xsC, xsD, xsE, fillA, reduceCtorEq, Nat.reduceAdd, Nat.reduceSub, Nat.reduceLeDiff, Nat.reduceMul, Int.reduceLT, Int.reduceLE, Int.reduceEq, Int.reduceNe, Int.reduceAdd, Int.reduceSub, Int.reduceMul, Int.reduceNeg, Int.reduceToNat]
  (refine cd_dec (fun c1 => ?_) (fun c1 => ?_) <;> simp (maxSteps := 2000000) -implicitDefEqProofs (disch := omega) only [xsW, xsC, xsD, xsE, fillA, reduceCtorEq, Nat.reduceAdd, Nat.reduceSub, Nat.reduceLeDiff, Nat.reduceMul, Int.reduceLT, Int.reduceLE, Int.reduceEq, Int.reduceNe, Int.reduceAdd, Int.reduceSub, Int.reduceMul, Int.reduceNeg, Int.reduceToNat,  c1])
  · have hi2 : i < ll.length := by omega
    have hr := g1.row i (by omega)
    rw [mixR_get ll F i hi2] at hr
    have hrl := (hN i hi2).1
    simp (maxSteps := 2000000) -implicitDefEqProofs (disch := omega) only [xsW, xsC, xsD, xsE, fillA, reduceCtorEq, Nat.reduceAdd, Nat.reduceSub, Nat.reduceLeDiff, Nat.reduceMul, Int.reduceLT, Int.reduceLE, Int.reduceEq, Int.reduceNe, Int.reduceAdd, Int.reduceSub, Int.reduceMul, Int.reduceNeg, Int.reduceToNat,  g1.ia, g1.ld, hlen, hr.ln, hrl]
    refine loop_for ll.length 0 (fun k hp => [v, .fn g ds, .any, .any, .nilsl, o, .int .i64 i, ws.getD i .any, .any, .any, .any, o, .int .i64 ll.length, .int .i64 i, .any, .any, .any, .any, .any, .int .i64 ll.length, .int .i64 k, .any, .any, .any, .any, .any, .any, .any, .any, .any, .any, .any, .any]) (fun k (hp : AH) => hp)
      (fun k hq m => Ints true n n0' hq (ws.getD i .any) (rowOf k (F i) ++ (ll.getD i []).drop k) ∧ (∀ j, j ≠ bid (ws.getD i .any) → hq j = hp j) ∧ n0' ≤ m) hp (Nat.zero_le _) ⟨by simpa [rowOf] using hr, fun _ _ => rfl, g3⟩ (by simp [LeL, Le1]) (fun _ _ h => h) ?_
    rintro k hq mk - hk1 hm2 ⟨a1, a2, a3⟩
    have hl2 : (rowOf k (F i) ++ (ll.getD i []).drop k).length = ll.length := by simp only [List.length_append, rowOf_len, List.length_drop]; omega
    simp (maxSteps := 2000000) -implicitDefEqProofs (disch := omega) only [xsW, xsC, xsD, xsE, fillA, reduceCtorEq, Nat.reduceAdd, Nat.reduceSub, Nat.reduceLeDiff, Nat.reduceMul, Int.reduceLT, Int.reduceLE, Int.reduceEq, Int.reduceNe, Int.reduceAdd, Int.reduceSub, Int.reduceMul, Int.reduceNeg, Int.reduceToNat]
    (refine cd_dec (fun c2 => ?_) (fun c2 => ?_) <;> simp (maxSteps := 2000000) -implicitDefEqProofs (disch := omega) only [xsW, xsC, xsD, xsE, fillA, reduceCtorEq, Nat.reduceAdd, Nat.reduceSub, Nat.reduceLeDiff, Nat.reduceMul, Int.reduceLT, Int.reduceLE, Int.reduceEq, Int.reduceNe, Int.reduceAdd, Int.reduceSub, Int.reduceMul, Int.reduceNeg, Int.reduceToNat,  c2])
    · have hk2 : k < ll.length := by omega
      have hown := Sl.own hr (Sl.isReal hr (by
        intro e'
        have := hr.slen
        rw [e'] at this
        change 0 = _ at this
        omega))
      refine q_use (hF i k hq mk hi2 hk2 (fun j hj => by rw [a2 j (by omega), g2 j hj]) (by omega)) fun n5 hn5 => ?_
      have e1 := fun K => Ints.st a1 (k := k) (x := F i k) (n0 := n) (n := n5) (W := none') (by omega) (fun i a b => .inl a) (by omega) K
      simp (maxSteps := 2000000) -implicitDefEqProofs (disch := omega) only [xsW, xsC, xsD, xsE, fillA, reduceCtorEq, Nat.reduceAdd, Nat.reduceSub, Nat.reduceLeDiff, Nat.reduceMul, Int.reduceLT, Int.reduceLE, Int.reduceEq, Int.reduceNe, Int.reduceAdd, Int.reduceSub, Int.reduceMul, Int.reduceNeg, Int.reduceToNat,  a1.ia, hl2, e1]
      refine ⟨_, ⟨?_, ?_, by omega⟩, by omega, by omega, (by simp [LeL, Le1]), fun _ _ h => h⟩
      · have := a1.wr (k := k) (by omega) (F i k)
        rw [mixL_set _ (F i) k (by omega)] at this
        exact this
      · intro j hj
        rw [wr_other hj, a2 j hj]
    · have hkk : k = ll.length := by omega
      subst hkk
      rw [List.drop_of_length_le (by omega), List.append_nil] at a1
      have hne : isSl (ws.getD i .any) = true ∨ hq = hp := .inl (Sl.isReal hr (by
        intro e'
        have := hr.slen
        rw [e'] at this
        change 0 = _ at this
        omega))
      have g4 := g1.row1 (by omega) a1 hne a2
      rw [mixR_set ll F i hi2] at g4
      have hown := Sl.own hr (Sl.isReal hr (by
        intro e'
        have := hr.slen
        rw [e'] at this
        change 0 = _ at this
        omega))
      exact ⟨hq, ⟨g4, fun j hj => by rw [a2 j (by omega), g2 j hj], by omega⟩, by omega, by omega, (by simp [LeL, Le1]), fun _ _ h => h⟩
  · intro _ h2 hh
    have e : i = ll.length := by omega
    subst e
    refine ⟨ws, ?_⟩
    have : mixR ll F ll.length = rowsOf ll.length fun i => rowOf ll.length (F i) := by simp [mixR]
    rw [this] at g1
    exact (g1.keep fun i a b => hh i a (by omega)).wide (Nat.le_refl _) (by omega)
theorem impl_symmetric1 {w : Bool} (s : Rows w lo hi h v vs ll) (hm : isMat ll = true) {b : Nat} {wr : Bool} {op ty n : Nat} (hb : h b = some ⟨ty, [v], wr, op⟩) {i k : Nat} (hi2 : i < ll.length) (hk2 : k < ll.length) :
    Q Try.prog 119 [.int .i64 i, .int .i64 k, .ptr b 0] h n (.int .i64 (at2 ll i k + at2 ll k i)) := by
  refine q_intro Try.func119 k_impl_symmetric_1 ?_
  obtain ⟨hN1, hN⟩ := ((isMat_iff ll).1 hm).2
  have hri := s.row i hi2
  have hrk := s.row k hk2
  have li := (hN i hi2).1
  have lk := (hN k hk2).1
  have xi := isMat_at hm hi2 hk2
  have xk := isMat_at hm hk2 hi2
  unfold at2 at xi xk
  simp (maxSteps := 2000000) -implicitDefEqProofs (disch := omega) only [c_impl_symmetric_1, hb, s.ia, s.ld, hri.ia, hri.ld, hrk.ia, hrk.ld, xsW, xsC, xsD, xsE, fillA, reduceCtorEq, Nat.reduceAdd, Nat.reduceSub, Nat.reduceLeDiff, Nat.reduceMul, Int.reduceLT, Int.reduceLE, Int.reduceEq, Int.reduceNe, Int.reduceAdd, Int.reduceSub, Int.reduceMul, Int.reduceNeg, Int.reduceToNat]
  rfl
theorem impl_comparison1 {w : Bool} (s : Rows w lo hi h v vs ll) (hm : isMat ll = true) {b : Nat} {wr : Bool} {op ty n : Nat} (hb : h b = some ⟨ty, [v], wr, op⟩) {i k : Nat} (hi2 : i < ll.length) (hk2 : k < ll.length) :
    Q Try.prog 120 [.int .i64 i, .int .i64 k, .ptr b 0] h n (.int .i64 (cmp2 ll i k)) := by
  refine q_intro Try.func120 k_impl_comparison_1 ?_
  obtain ⟨hN1, hN⟩ := ((isMat_iff ll).1 hm).2
  have hri := s.row i hi2
  have li := (hN i hi2).1
  have xi := isMat_at hm hi2 hk2
  unfold at2 at xi
  simp (maxSteps := 2000000) -implicitDefEqProofs (disch := omega) only [c_impl_comparison_1, hb, s.ia, s.ld, hri.ia, hri.ld, xsW, xsC, xsD, xsE, fillA, reduceCtorEq, Nat.reduceAdd, Nat.reduceSub, Nat.reduceLeDiff, Nat.reduceMul, Int.reduceLT, Int.reduceLE, Int.reduceEq, Int.reduceNe, Int.reduceAdd, Int.reduceSub, Int.reduceMul, Int.reduceNeg, Int.reduceToNat]
  refine cd_dec (fun c1 => ?_) (fun c1 => ?_)
  all_goals
    simp (maxSteps := 2000000) -implicitDefEqProofs (disch := omega) only [xsW, xsC, xsD, xsE, fillA, reduceCtorEq, Nat.reduceAdd, Nat.reduceSub, Nat.reduceLeDiff, Nat.reduceMul, Int.reduceLT, Int.reduceLE, Int.reduceEq, Int.reduceNe, Int.reduceAdd, Int.reduceSub, Int.reduceMul, Int.reduceNeg, Int.reduceToNat,  hb, s.ia, s.ld, hri.ia, hri.ld]
    refine q_use (impl_size _ (by unfold in64; omega) _ _) fun n1 hn1 => ?_
    simp (maxSteps := 2000000) -implicitDefEqProofs (disch := omega) only [xsW, xsC, xsD, xsE, fillA, reduceCtorEq, Nat.reduceAdd, Nat.reduceSub, Nat.reduceLeDiff, Nat.reduceMul, Int.reduceLT, Int.reduceLE, Int.reduceEq, Int.reduceNe, Int.reduceAdd, Int.reduceSub, Int.reduceMul, Int.reduceNeg, Int.reduceToNat]
    simp [cmp2, at2]
    omega
theorem impl_symmetric (s : Rows true lo hi h v vs ll) (hm : isMat ll = true) (n : Nat) (hn : hi ≤ n) :
    FQ Try.prog 75 [v] h n fun v' h' n' => ∃ vs', Rows true n n' h' v' vs' (symF ll) := by
  refine fq_intro Try.func75 k_impl_symmetric ?_
  have o1 := one_any (Sl.any s.out)
  have o2 := sto_any (Sl.any s.out)
  have o3 := cel_any (Sl.any s.out)
  simp (maxSteps := 2000000) -implicitDefEqProofs (disch := omega) only [c_impl_symmetric, o1, o2, o3, xsW, xsC, xsD, xsE, fillA, reduceCtorEq, Nat.reduceAdd, Nat.reduceSub, Nat.reduceLeDiff, Nat.reduceMul, Int.reduceLT, Int.reduceLE, Int.reduceEq, Int.reduceNe, Int.reduceAdd, Int.reduceSub, Int.reduceMul, Int.reduceNeg, Int.reduceToNat]
  refine fq_use (impl_mapped (s.keep (fun i _ hi9 => by simp (disch := omega) only [upd_other])) hm _ _ (fun i k => at2 ll i k + at2 ll k i) _ (by omega) fun i k hp n' hi2 hk2 hag hn' =>
    impl_symmetric1 (s.keep (fun i _ hi9 => by simp (disch := omega) only [upd_other, hag])) hm (by rw [hag n (by omega)]; exact upd_same _ _ _) hi2 hk2) fun v' h' n' hn' hs ⟨vs', hv'⟩ => ?_
  simp (maxSteps := 2000000) -implicitDefEqProofs (disch := omega) only [xsW, xsC, xsD, xsE, fillA, reduceCtorEq, Nat.reduceAdd, Nat.reduceSub, Nat.reduceLeDiff, Nat.reduceMul, Int.reduceLT, Int.reduceLE, Int.reduceEq, Int.reduceNe, Int.reduceAdd, Int.reduceSub, Int.reduceMul, Int.reduceNeg, Int.reduceToNat]
  intro _ h2 hh
  exact ⟨vs', (hv'.keep fun i a b => hh i (by omega) b).wide (by omega) (Nat.le_refl _)⟩
theorem impl_comparison (s : Rows true lo hi h v vs ll) (hm : isMat ll = true) (n : Nat) (hn : hi ≤ n) :
    FQ Try.prog 77 [v] h n fun v' h' n' => ∃ vs', Rows true n n' h' v' vs' (cmpF2 ll) := by
  refine fq_intro Try.func77 k_impl_comparison ?_
  have o1 := one_any (Sl.any s.out)
  have o2 := sto_any (Sl.any s.out)
  have o3 := cel_any (Sl.any s.out)
  simp (maxSteps := 2000000) -implicitDefEqProofs (disch := omega) only [c_impl_comparison, o1, o2, o3, xsW, xsC, xsD, xsE, fillA, reduceCtorEq, Nat.reduceAdd, Nat.reduceSub, Nat.reduceLeDiff, Nat.reduceMul, Int.reduceLT, Int.reduceLE, Int.reduceEq, Int.reduceNe, Int.reduceAdd, Int.reduceSub, Int.reduceMul, Int.reduceNeg, Int.reduceToNat]
  refine fq_use (impl_mapped (s.keep (fun i _ hi9 => by simp (disch := omega) only [upd_other])) hm _ _ (fun i k => cmp2 ll i k) _ (by omega) fun i k hp n' hi2 hk2 hag hn' =>
    impl_comparison1 (s.keep (fun i _ hi9 => by simp (disch := omega) only [upd_other, hag])) hm (by rw [hag n (by omega)]; exact upd_same _ _ _) hi2 hk2) fun v' h' n' hn' hs ⟨vs', hv'⟩ => ?_
  simp (maxSteps := 2000000) -implicitDefEqProofs (disch := omega) only [xsW, xsC, xsD, xsE, fillA, reduceCtorEq, Nat.reduceAdd, Nat.reduceSub, Nat.reduceLeDiff, Nat.reduceMul, Int.reduceLT, Int.reduceLE, Int.reduceEq, Int.reduceNe, Int.reduceAdd, Int.reduceSub, Int.reduceMul, Int.reduceNeg, Int.reduceToNat]
  intro _ h2 hh
  exact ⟨vs', (hv'.keep fun i a b => hh i (by omega) b).wide (by omega) (Nat.le_refl _)⟩
end
end Go.Proofs.Ytkpibnhddhdooaa.L
