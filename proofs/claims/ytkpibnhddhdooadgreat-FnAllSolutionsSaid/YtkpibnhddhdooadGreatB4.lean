/- Contracts: marking a problem; columns, determinants, pivots: functions and statements. -/
import Derived.Test.YtkpibnhddhdooadGreatB3
set_option linter.unusedSimpArgs false
set_option linter.unusedVariables false
namespace Go.Proofs.YtkpibnhddhdooadGreat.L
open Go
section
variable {w : Bool} {lo hi : Nat} {h : AH} {v u : AV} {vs : List AV} {ll : List (List Int)} {q : List Int}
end
def c_impl_Problem_solve : F := ⟨(.seq (.reg false [⟨some 3, .box 30 (.t 0), none⟩, ⟨some 6, .mv (.c .nilsl), none⟩, ⟨some 7, .mv (.c (.int .i64 0)), none⟩, ⟨some 8, .mv (.c (.bool false)), none⟩]) (.seq (.reg false [⟨some 14, .ld 2 (.t 3), none⟩, ⟨some 15, .mv (.t 1), none⟩, ⟨some 16, .call (.f 136) [(.t 14), (.t 15)], none⟩, ⟨some 9, .mv (.t 16), none⟩]) (.seq (.reg false [⟨some 17, .mv (.t 9), none⟩, ⟨some 18, .call (.f 137) [(.t 17)], none⟩, ⟨some 10, .mv (.t 18), none⟩]) (.seq (.seq (.reg false [⟨some 19, .mv (.t 10), none⟩, ⟨some 20, .bin .eql (.t 19) (.c (.int .i64 0)), none⟩]) (.cond (.t 20) (.seq (.reg false [⟨some 6, .mv (.c .nilsl), none⟩, ⟨some 7, .mv (.c (.int .i64 0)), none⟩, ⟨some 8, .mv (.c (.bool false)), none⟩]) .ret) .skip)) (.seq (.reg false [⟨some 21, .mv (.t 2), none⟩, ⟨some 22, .len (.t 21), none⟩, ⟨some 23, .mks 2 1 [(.int .i64 0)] (.t 22) (.t 22), none⟩, ⟨some 11, .mv (.t 23), none⟩]) (.seq (.seq (.reg false [⟨some 24, .mv (.t 11), none⟩, ⟨some 25, .len (.t 24), none⟩, ⟨some 26, .mv (.c (.int .i64 0)), none⟩]) (.block 0 (.loop (.seq (.reg false [⟨some 27, .bin .lss (.t 26) (.t 25), none⟩]) (.seq (.cond (.t 27) .skip (.exit 0)) (.seq (.block 1 (.seq (.reg false [⟨some 28, .mv (.t 26), none⟩, ⟨some 12, .mv (.t 28), none⟩]) (.seq (.reg false [⟨some 29, .mv (.t 9), none⟩, ⟨some 30, .call (.f 138) [(.t 29)], none⟩, ⟨some 13, .mv (.t 30), none⟩]) (.seq (.reg false [⟨some 31, .mv (.t 13), none⟩, ⟨some 32, .mv (.t 12), none⟩, ⟨some 33, .mv (.t 2), none⟩, ⟨some 34, .call (.f 139) [(.t 31), (.t 32), (.t 33)], none⟩]) (.reg false [⟨some 35, .mv (.t 11), none⟩, ⟨some 36, .mv (.t 12), none⟩, ⟨some 37, .mv (.t 10), none⟩, ⟨some 38, .call (.f 102) [(.t 37)], none⟩, ⟨some 39, .mv (.t 13), none⟩, ⟨some 40, .call (.f 137) [(.t 39)], none⟩, ⟨some 41, .bin .mul (.t 38) (.t 40), none⟩, ⟨some 42, .ia 1 (.t 35) (.t 36), none⟩, ⟨none, .st 1 (.t 42) (.t 41), none⟩]))))) (.reg false [⟨some 43, .bin .add (.t 26) (.c (.int .i64 1)), none⟩, ⟨some 26, .mv (.t 43), none⟩]))))))) (.seq (.reg false [⟨some 44, .mv (.t 11), none⟩, ⟨some 45, .mv (.t 10), none⟩, ⟨some 46, .call (.f 128) [(.t 45)], none⟩, ⟨some 6, .mv (.t 44), none⟩, ⟨some 7, .mv (.t 46), none⟩, ⟨some 8, .mv (.c (.bool true)), none⟩]) .ret))))))), 47, [(.t 6), (.t 7), (.t 8)]⟩
theorem k_impl_Problem_solve : compF Tryz.prog Tryz.f110 = some c_impl_Problem_solve := by kernel_rfl
def c_impl_Problem_point : F := ⟨(.seq (.reg false [⟨some 2, .box 30 (.t 0), none⟩, ⟨some 4, .mv (.c .nilsl), none⟩, ⟨some 5, .mv (.c (.int .i64 0)), none⟩, ⟨some 6, .mv (.c (.bool false)), none⟩]) (.seq (.reg false [⟨some 7, .ld 2 (.t 2), none⟩, ⟨some 8, .mv (.t 1), none⟩, ⟨some 9, .fa 1 (.t 2), none⟩, ⟨some 10, .ld1 (.t 9), none⟩, ⟨some 11, .call (.f 110) [(.t 7), (.t 8), (.t 10)], none⟩, ⟨some 12, .ext (.t 11) 0, none⟩, ⟨some 13, .ext (.t 11) 1, none⟩, ⟨some 14, .ext (.t 11) 2, none⟩, ⟨some 4, .mv (.t 12), none⟩, ⟨some 5, .mv (.t 13), none⟩, ⟨some 6, .mv (.t 14), none⟩]) .ret)), 15, [(.t 4), (.t 5), (.t 6)]⟩
theorem k_impl_Problem_point : compF Tryz.prog Tryz.f81 = some c_impl_Problem_point := by kernel_rfl
def c_spec_l01Solve : F := ⟨(.seq (.reg false [⟨some 4, .mv (.c .nilsl), none⟩, ⟨some 5, .mv (.c (.int .i64 0)), none⟩]) (.seq (.reg false [⟨some 11, .lit 2 1 0 [(.int .i64 0)] [], none⟩, ⟨some 6, .mv (.t 11), none⟩]) (.seq (.seq (.reg false [⟨some 7, .mv (.c (.int .i64 0)), none⟩]) (.block 0 (.loop (.seq (.seq (.reg false [⟨some 12, .mv (.t 7), none⟩, ⟨some 13, .mv (.t 0), none⟩, ⟨some 14, .len (.t 13), none⟩, ⟨some 15, .bin .lss (.t 12) (.t 14), none⟩]) (.cond (.t 15) .skip (.exit 0))) (.seq (.block 1 (.seq (.reg false [⟨some 18, .lit 23 1 0 [.nilsl] [], none⟩, ⟨some 8, .mv (.t 18), none⟩]) (.seq (.seq (.reg false [⟨some 9, .mv (.c (.int .i64 0)), none⟩]) (.block 2 (.loop (.seq (.seq (.reg false [⟨some 19, .mv (.t 9), none⟩, ⟨some 20, .mv (.t 0), none⟩, ⟨some 21, .len (.t 20), none⟩, ⟨some 22, .bin .lss (.t 19) (.t 21), none⟩]) (.cond (.t 22) .skip (.exit 2))) (.seq (.block 3 (.seq (.reg false [⟨some 25, .mv (.t 0), none⟩, ⟨some 26, .mv (.t 9), none⟩, ⟨some 27, .ia 1 (.t 25) (.t 26), none⟩, ⟨some 28, .ld1 (.t 27), none⟩, ⟨some 29, .call (.f 132) [(.t 28)], none⟩, ⟨some 10, .mv (.t 29), none⟩]) (.seq (.reg false [⟨some 30, .mv (.t 10), none⟩, ⟨some 31, .mv (.t 7), none⟩, ⟨some 32, .mv (.t 1), none⟩, ⟨some 33, .mv (.t 9), none⟩, ⟨some 34, .ia 1 (.t 32) (.t 33), none⟩, ⟨some 35, .ld1 (.t 34), none⟩, ⟨some 36, .ia 1 (.t 30) (.t 31), none⟩, ⟨none, .st 1 (.t 36) (.t 35), none⟩]) (.reg false [⟨some 37, .mv (.t 8), none⟩, ⟨some 38, .mv (.t 10), none⟩, ⟨some 39, .lit 23 1 1 [.nilsl] [(0, (.t 38))], none⟩, ⟨some 40, .app 23 1 24 [.nilsl] (.t 37) (.t 39), none⟩, ⟨some 8, .mv (.t 40), none⟩])))) (.reg false [⟨some 23, .mv (.t 9), none⟩, ⟨some 24, .bin .add (.t 23) (.c (.int .i64 1)), none⟩, ⟨some 9, .mv (.t 24), none⟩])))))) (.reg false [⟨some 41, .mv (.t 6), none⟩, ⟨some 42, .mv (.t 8), none⟩, ⟨some 43, .call (.f 149) [(.t 42)], none⟩, ⟨some 44, .lit 2 1 1 [(.int .i64 0)] [(0, (.t 43))], none⟩, ⟨some 45, .app 2 1 8 [(.int .i64 0)] (.t 41) (.t 44), none⟩, ⟨some 6, .mv (.t 45), none⟩])))) (.reg false [⟨some 16, .mv (.t 7), none⟩, ⟨some 17, .bin .add (.t 16) (.c (.int .i64 1)), none⟩, ⟨some 7, .mv (.t 17), none⟩])))))) (.seq (.reg false [⟨some 46, .mv (.t 6), none⟩, ⟨some 47, .mv (.t 0), none⟩, ⟨some 48, .call (.f 149) [(.t 47)], none⟩, ⟨some 4, .mv (.t 46), none⟩, ⟨some 5, .mv (.t 48), none⟩]) .ret)))), 49, [(.t 4), (.t 5)]⟩
theorem k_spec_l01Solve : compF Tryz.prog Tryz.f130 = some c_spec_l01Solve := by kernel_rfl
def c_spec_l01Point : F := ⟨(.seq (.reg false [⟨some 2, .box 30 (.t 0), none⟩, ⟨some 4, .mv (.c .nilsl), none⟩, ⟨some 5, .mv (.c (.bool false)), none⟩]) (.seq (.reg true [⟨some 11, .fa 0 (.t 2), none⟩, ⟨some 12, .ld1 (.t 11), none⟩, ⟨some 13, .mv (.t 1), none⟩, ⟨some 15, .fa 1 (.t 2), none⟩, ⟨some 16, .ld1 (.t 15), none⟩, ⟨some 14, .call (.f 131) [(.t 12), (.t 13)], none⟩, ⟨some 17, .call (.f 130) [(.t 14), (.t 16)], none⟩, ⟨some 10, .mv (.t 17), none⟩, ⟨some 18, .ext (.t 10) 0, none⟩, ⟨some 19, .ext (.t 10) 1, none⟩, ⟨some 6, .mv (.t 18), none⟩, ⟨some 7, .mv (.t 19), none⟩]) (.seq (.seq (.reg false [⟨some 20, .mv (.t 7), none⟩, ⟨some 21, .bin .eql (.t 20) (.c (.int .i64 0)), none⟩]) (.cond (.t 21) (.seq (.reg false [⟨some 4, .mv (.c .nilsl), none⟩, ⟨some 5, .mv (.c (.bool false)), none⟩]) .ret) .skip)) (.seq (.reg false [⟨some 22, .lit 49 2 0 [(.int .i64 0), (.int .i64 0)] [], none⟩, ⟨some 8, .mv (.t 22), none⟩]) (.seq (.seq (.reg false [⟨some 9, .mv (.c (.int .i64 0)), none⟩]) (.block 0 (.loop (.seq (.seq (.reg false [⟨some 23, .mv (.t 9), none⟩, ⟨some 24, .mv (.t 6), none⟩, ⟨some 25, .len (.t 24), none⟩, ⟨some 26, .bin .lss (.t 23) (.t 25), none⟩]) (.cond (.t 26) .skip (.exit 0))) (.seq (.block 1 (.reg false [⟨some 29, .mv (.t 8), none⟩, ⟨some 30, .mv (.t 6), none⟩, ⟨some 31, .mv (.t 9), none⟩, ⟨some 32, .ia 1 (.t 30) (.t 31), none⟩, ⟨some 33, .ld1 (.t 32), none⟩, ⟨some 34, .mv (.t 7), none⟩, ⟨some 35, .call (.f 65) [(.t 33), (.t 34)], none⟩, ⟨some 36, .lit 49 2 1 [(.int .i64 0), (.int .i64 0)] [(0, (.t 35))], none⟩, ⟨some 37, .app 49 2 16 [(.int .i64 0), (.int .i64 0)] (.t 29) (.t 36), none⟩, ⟨some 8, .mv (.t 37), none⟩])) (.reg false [⟨some 27, .mv (.t 9), none⟩, ⟨some 28, .bin .add (.t 27) (.c (.int .i64 1)), none⟩, ⟨some 9, .mv (.t 28), none⟩])))))) (.seq (.reg false [⟨some 38, .mv (.t 8), none⟩, ⟨some 4, .mv (.t 38), none⟩, ⟨some 5, .mv (.c (.bool true)), none⟩]) .ret)))))), 39, [(.t 4), (.t 5)]⟩
theorem k_spec_l01Point : compF Tryz.prog Tryz.f101 = some c_spec_l01Point := by kernel_rfl
def c_impl_allReduced : F := ⟨(.seq (.reg false [⟨some 4, .mv (.c .nilsl), none⟩, ⟨some 5, .mv (.c (.int .i64 0)), none⟩]) (.seq (.reg false [⟨some 6, .mv (.c .nilsl), none⟩]) (.seq (.seq (.reg false [⟨some 11, .mv (.t 0), none⟩, ⟨some 12, .len (.t 11), none⟩, ⟨some 13, .mv (.c (.int .i64 0)), none⟩]) (.block 0 (.loop (.seq (.reg false [⟨some 14, .bin .lss (.t 13) (.t 12), none⟩]) (.seq (.cond (.t 14) .skip (.exit 0)) (.seq (.block 1 (.seq (.reg false [⟨some 15, .ia 1 (.t 11) (.t 13), none⟩, ⟨some 16, .ld1 (.t 15), none⟩, ⟨some 8, .mv (.t 16), none⟩]) (.seq (.reg false [⟨some 18, .mv (.t 8), none⟩, ⟨some 19, .mv (.t 1), none⟩, ⟨some 20, .call (.f 58) [(.t 18), (.t 19)], none⟩, ⟨some 17, .mv (.t 20), none⟩, ⟨some 21, .ext (.t 17) 0, none⟩, ⟨some 22, .ext (.t 17) 1, none⟩, ⟨some 9, .alloc 49 [(.int .i64 0), (.int .i64 0)], none⟩, ⟨none, .st 2 (.t 9) (.t 21), none⟩, ⟨some 10, .mv (.t 22), none⟩]) (.seq (.seq (.reg false [⟨some 23, .mv (.t 10), none⟩, ⟨some 24, .bin .neq (.t 23) (.c (.int .i64 0)), none⟩]) (.cond (.t 24) (.seq (.reg false [⟨some 25, .mv (.t 10), none⟩, ⟨some 4, .mv (.c .nilsl), none⟩, ⟨some 5, .mv (.t 25), none⟩]) .ret) .skip)) (.reg false [⟨some 26, .mv (.t 6), none⟩, ⟨some 27, .ld 2 (.t 9), none⟩, ⟨some 28, .lit 49 2 1 [(.int .i64 0), (.int .i64 0)] [(0, (.t 27))], none⟩, ⟨some 29, .app 49 2 16 [(.int .i64 0), (.int .i64 0)] (.t 26) (.t 28), none⟩, ⟨some 6, .mv (.t 29), none⟩]))))) (.reg false [⟨some 30, .bin .add (.t 13) (.c (.int .i64 1)), none⟩, ⟨some 13, .mv (.t 30), none⟩]))))))) (.seq (.reg false [⟨some 31, .mv (.t 6), none⟩, ⟨some 4, .mv (.t 31), none⟩, ⟨some 5, .mv (.c (.int .i64 0)), none⟩]) .ret)))), 32, [(.t 4), (.t 5)]⟩
theorem k_impl_allReduced : compF Tryz.prog Tryz.f82 = some c_impl_allReduced := by kernel_rfl

theorem putL_at {ll : List (List Int)} {i : Nat} {c : List Int} {r k : Nat} (hr : r < ll.length) (hk : k < (ll.getD r []).length) : at2 (putL ll i c) r k = if i = k then c.getD r 0 else at2 ll r k := by
  unfold at2 putL
  rw [rowsOf_get hr, getD_set]
  by_cases e : i = k
  · rw [if_pos ⟨e, hk⟩, if_pos e]
  · rw [if_neg fun h => e h.1, if_neg e]
theorem putL_sq {n i : Nat} {ll : List (List Int)} {c : List Int} (h : Sq n ll) : Sq n (putL ll i c) := by
  refine ⟨by rw [putL, rowsOf_len, h.1], fun k hk => ?_⟩
  rw [putL, rowsOf_get (by rw [h.1]; exact hk), List.length_set, h.2 k hk]
def dtS (ll : List (List Int)) (s : Int) : Int := det ll.length (mx (colsL ll s))
def dtK (ll : List (List Int)) (q : List Int) (s : Int) (k : Nat) : Int := det ll.length (mx (putL (colsL ll s) k q))
theorem putL_lim {ll : List (List Int)} {q : List Int} (hp : isProb ll q = true) (s : Int) (k : Nat) : Lim k ll.length (mx (putL (colsL ll s) k q)) := fun r c hr hc => by
  obtain ⟨hm, hq, hw⟩ := isProb_facts hp
  have h1 := colE_b hm s hr hc
  have h2 := (within_iff _ _).1 hw r (by omega)
  unfold mx
  rw [putL_at (by rw [(colsL_sq ll s).1]; exact hr) (by rw [(colsL_sq ll s).2 r hr]; exact hc), colsL_at hr hc]
  by_cases e : k = c
  · subst e; rw [if_pos rfl, if_pos rfl]; omega
  · rw [if_neg e, if_neg fun h => e h.symm]; omega
theorem dtS_b {ll : List (List Int)} {q : List Int} (hp : isProb ll q = true) (s : Int) : -60000000000 ≤ dtS ll s ∧ dtS ll s ≤ 60000000000 := by
  have hm := (isProb_facts hp).1
  exact det_small (colsL_lim hm s) ((isMat_iff ll).1 hm).2.1
theorem dtK_b {ll : List (List Int)} {q : List Int} (hp : isProb ll q = true) (s : Int) (k : Nat) : -60000000000 ≤ dtK ll q s k ∧ dtK ll q s k ≤ 60000000000 := by
  have hm := (isProb_facts hp).1
  exact det_small (putL_lim hp s k) ((isMat_iff ll).1 hm).2.1
def solL (ll : List (List Int)) (q : List Int) (s : Int) : List Int := rowOf ll.length fun k => (dtS ll s).sign * dtK ll q s k
def ptL (ll : List (List Int)) (q : List Int) (s : Int) : List Int := rowOf ll.length fun k => dtK ll q s k
def ptF (ll : List (List Int)) (q : List Int) (s : Int) : List (Int × Int) := (ptL ll q s).map fun x => red x (dtS ll s)
theorem solL_len (ll : List (List Int)) (q : List Int) (s : Int) : (solL ll q s).length = ll.length := rowOf_len _ _
theorem ptL_len (ll : List (List Int)) (q : List Int) (s : Int) : (ptL ll q s).length = ll.length := rowOf_len _ _
theorem ptF_len (ll : List (List Int)) (q : List Int) (s : Int) : (ptF ll q s).length = ll.length := by simp [ptF, ptL_len]
theorem sign_mul_b {a x B : Int} (h : -B ≤ x ∧ x ≤ B) : -B ≤ a.sign * x ∧ a.sign * x ≤ B := by
  rcases Int.lt_trichotomy a 0 with h' | h' | h'
  · rw [Int.sign_eq_neg_one_of_neg h']; omega
  · subst h'; simp; omega
  · rw [Int.sign_eq_one_of_pos h']; omega
theorem solL_b {ll : List (List Int)} {q : List Int} (hp : isProb ll q = true) (s : Int) {k : Nat} (hk : k < ll.length) : -60000000000 ≤ (solL ll q s).getD k 0 ∧ (solL ll q s).getD k 0 ≤ 60000000000 := by
  rw [solL, rowOf_get hk]
  exact sign_mul_b (dtK_b hp s k)
theorem red_sgn {x d : Int} (hd : d ≠ 0) : red (d.sign * x) d.natAbs = red x d := by
  have h1 : ((d.natAbs : Int)).sign = 1 := Int.sign_eq_one_of_pos (by omega)
  have h2 : (Int.gcd (d.sign * x) (d.natAbs : Int) : Nat) = Int.gcd x d := by
    rcases Int.lt_or_gt_of_ne hd with h | h
    · rw [Int.sign_eq_neg_one_of_neg h]; simp [Int.gcd]
    · rw [Int.sign_eq_one_of_pos h]; simp [Int.gcd]
  simp only [red, h1, h2, Int.mul_one, Int.natAbs_natCast]
  rw [Int.mul_comm]
section
variable {w : Bool} {lo hi : Nat} {h : AH} {v u : AV} {vs : List AV} {ll : List (List Int)} {q : List Int}
theorem impl_solve (s : Prob w lo hi h v u vs ll q) (hp : isProb ll q = true) (a : Int) (n : Nat) (hn : hi ≤ n) :
    FQ Tryz.prog 110 [.agg [v, u], .int .i64 a, u] h n fun x h' n' => (dtS ll a = 0 ∧ x = .tup [.nilsl, .int .i64 0, .bool false]) ∨ (dtS ll a ≠ 0 ∧ ∃ v', x = .tup [v', .int .i64 (dtS ll a).natAbs, .bool true] ∧ Ints true n n' h' v' (solL ll q a)) := by
  refine fq_intro Tryz.func110 k_impl_Problem_solve ?_
  obtain ⟨hm, hq, _⟩ := isProb_facts hp
  have hN := ((isMat_iff ll).1 hm).2.1
  have o1 := one_any (Sl.any s.M.out)
  have o2 := one_any (Sl.any s.Q)
  have hd := dtS_b hp a
  have hsq := colsL_sq ll a
  simp (maxSteps := 2000000) -implicitDefEqProofs (disch := omega) only [c_impl_Problem_solve, o1, o2, xsW, xsC, xsD, xsE, fillA, reduceCtorEq, Nat.reduceAdd, Nat.reduceSub, Nat.reduceLeDiff, Nat.reduceMul, Int.reduceLT, Int.reduceLE, Int.reduceEq, Int.reduceNe, Int.reduceAdd, Int.reduceSub, Int.reduceMul, Int.reduceNeg, Int.reduceToNat]
  refine fq_use (impl_columns (s.keep (fun i _ hi9 => by simp (disch := omega) only [upd_other])) hp a _ (by omega)) fun v1 h1 n1 hn1 hs1 ⟨vs1, hv1⟩ => ?_
  simp (maxSteps := 2000000) -implicitDefEqProofs (disch := omega) only [xsW, xsC, xsD, xsE, fillA, reduceCtorEq, Nat.reduceAdd, Nat.reduceSub, Nat.reduceLeDiff, Nat.reduceMul, Int.reduceLT, Int.reduceLE, Int.reduceEq, Int.reduceNe, Int.reduceAdd, Int.reduceSub, Int.reduceMul, Int.reduceNeg, Int.reduceToNat]
  refine q_use (impl_determinant _ hv1 hN hsq ⟨_, colsL_lim hm a⟩ n1 (Nat.le_refl _)) fun n2 hn2 => ?_
  rw [show det ll.length (mx (colsL ll a)) = dtS ll a from rfl]
  simp (maxSteps := 2000000) -implicitDefEqProofs (disch := omega) only [xsW, xsC, xsD, xsE, fillA, reduceCtorEq, Nat.reduceAdd, Nat.reduceSub, Nat.reduceLeDiff, Nat.reduceMul, Int.reduceLT, Int.reduceLE, Int.reduceEq, Int.reduceNe, Int.reduceAdd, Int.reduceSub, Int.reduceMul, Int.reduceNeg, Int.reduceToNat]
  (refine cd_dec (fun c1 => ?_) (fun c1 => ?_) <;> simp (maxSteps := 2000000) -implicitDefEqProofs (disch := omega) only [xsW, xsC, xsD, xsE, fillA, reduceCtorEq, Nat.reduceAdd, Nat.reduceSub, Nat.reduceLeDiff, Nat.reduceMul, Int.reduceLT, Int.reduceLE, Int.reduceEq, Int.reduceNe, Int.reduceAdd, Int.reduceSub, Int.reduceMul, Int.reduceNeg, Int.reduceToNat,  c1])
  · have s1 := s.keep (h' := h1) (fun i _ hi9 => by simp (disch := omega) only [upd_other, hs1])
    simp (maxSteps := 2000000) -implicitDefEqProofs (disch := omega) only [xsW, xsC, xsD, xsE, fillA, reduceCtorEq, Nat.reduceAdd, Nat.reduceSub, Nat.reduceLeDiff, Nat.reduceMul, Int.reduceLT, Int.reduceLE, Int.reduceEq, Int.reduceNe, Int.reduceAdd, Int.reduceSub, Int.reduceMul, Int.reduceNeg, Int.reduceToNat,  s1.Q.ln, hq]
    have hlen := solL_len ll q a
    refine loop_for ll.length 0 (fun k _ => [.agg [v, u], .int .i64 a, u, .ptr n 0, .any, .any, .nilsl, .int .i64 0, .bool false, v1, .int .i64 (dtS ll a), .sl n2 0 ll.length ll.length, .any, .any, .any, .any, .any, .any, .any, .any, .any, .any, .any, .any, .sl n2 0 ll.length ll.length, .int .i64 ll.length, .int .i64 k, .any, .any, .any, .any, .any, .any, .any, .any, .any, .any, .any, .any, .any, .any, .any, .any, .any, .any, .any, .any]) (fun _ hp' => hp')
      (fun k hp' m => hp' n2 = some ⟨2, (ints (solL ll q a)).take k ++ List.replicate ((solL ll q a).length - k) (.int .i64 0), true, 0⟩ ∧ (∀ j, j < n2 → hp' j = h1 j)) (upd h1 n2 (some ⟨2, List.replicate ll.length (.int .i64 0), true, 0⟩)) (Nat.zero_le _) ⟨by rw [upd_same]; simp [hlen], fun j hj => upd_other (by omega)⟩ (by simp [LeL, Le1]) (fun _ _ h => h) ?_
    rintro k hp' m - hk hm1 ⟨g1, g2⟩
    simp (maxSteps := 2000000) -implicitDefEqProofs (disch := omega) only [xsW, xsC, xsD, xsE, fillA, reduceCtorEq, Nat.reduceAdd, Nat.reduceSub, Nat.reduceLeDiff, Nat.reduceMul, Int.reduceLT, Int.reduceLE, Int.reduceEq, Int.reduceNe, Int.reduceAdd, Int.reduceSub, Int.reduceMul, Int.reduceNeg, Int.reduceToNat]
    (refine cd_dec (fun c2 => ?_) (fun c2 => ?_) <;> simp (maxSteps := 2000000) -implicitDefEqProofs (disch := omega) only [xsW, xsC, xsD, xsE, fillA, reduceCtorEq, Nat.reduceAdd, Nat.reduceSub, Nat.reduceLeDiff, Nat.reduceMul, Int.reduceLT, Int.reduceLE, Int.reduceEq, Int.reduceNe, Int.reduceAdd, Int.reduceSub, Int.reduceMul, Int.reduceNeg, Int.reduceToNat,  c2])
    · have hk2 : k < ll.length := by omega
      refine fq_use (impl_copyRows (hv1.keep (h' := hp') (fun i _ hi9 => by simp (disch := omega) only [upd_other, g2])) (by rw [hsq.1]; omega) (fun l hl => by
        obtain ⟨j, hj, rfl⟩ := List.mem_iff_getElem.1 hl
        have := hsq.2 j (by rw [hsq.1] at hj; exact hj)
        simp [List.getD, hj] at this
        omega) m (by omega)) fun v3 h3 n3 hn3 hs3 ⟨vs3, hv3⟩ => ?_
      simp (maxSteps := 2000000) -implicitDefEqProofs (disch := omega) only [xsW, xsC, xsD, xsE, fillA, reduceCtorEq, Nat.reduceAdd, Nat.reduceSub, Nat.reduceLeDiff, Nat.reduceMul, Int.reduceLT, Int.reduceLE, Int.reduceEq, Int.reduceNe, Int.reduceAdd, Int.reduceSub, Int.reduceMul, Int.reduceNeg, Int.reduceToNat]
      have sQ3 := s1.Q.keep (h' := h3) (fun i _ hi9 => by simp (disch := omega) only [upd_other, hs3, g2])
      refine mq_use (impl_put hv3 (by rw [hsq.1]; omega) sQ3 (by rw [hsq.1]; omega) (.inl (by omega)) k (fun r hr => by rw [hsq.1] at hr; rw [hsq.2 r hr]; exact hk2) n3 (by omega)) (fun i a b => .inl (by omega)) fun x4 h4 n4 hn4 ⟨hv4, hs4⟩ => ?_
      simp (maxSteps := 2000000) -implicitDefEqProofs (disch := omega) only [xsW, xsC, xsD, xsE, fillA, reduceCtorEq, Nat.reduceAdd, Nat.reduceSub, Nat.reduceLeDiff, Nat.reduceMul, Int.reduceLT, Int.reduceLE, Int.reduceEq, Int.reduceNe, Int.reduceAdd, Int.reduceSub, Int.reduceMul, Int.reduceNeg, Int.reduceToNat]
      refine q_use (impl_sign _ _ _) fun n5 hn5 => ?_
      simp (maxSteps := 2000000) -implicitDefEqProofs (disch := omega) only [xsW, xsC, xsD, xsE, fillA, reduceCtorEq, Nat.reduceAdd, Nat.reduceSub, Nat.reduceLeDiff, Nat.reduceMul, Int.reduceLT, Int.reduceLE, Int.reduceEq, Int.reduceNe, Int.reduceAdd, Int.reduceSub, Int.reduceMul, Int.reduceNeg, Int.reduceToNat]
      refine q_use (impl_determinant _ hv4 hN (putL_sq hsq) ⟨_, putL_lim hp a k⟩ n5 (by omega)) fun n6 hn6 => ?_
      have e : (dtS ll a).sign * det ll.length (mx (putL (colsL ll a) k q)) = (solL ll q a).getD k 0 := by rw [solL, rowOf_get hk2]; rfl
      have eb := solL_b hp a hk2
      have g4 : h4 n2 = some ⟨2, (ints (solL ll q a)).take k ++ List.replicate ((solL ll q a).length - k) (.int .i64 0), true, 0⟩ := by rw [hs4 n2 (.inl (by omega)), hs3 n2 (by omega), g1]
      rw [hlen] at g4
      have fi := fill_ints (solL ll q a) (.int .i64 0) k (by omega)
      rw [hlen] at fi
      simp (maxSteps := 2000000) -implicitDefEqProofs (disch := omega) only [xsW, xsC, xsD, xsE, fillA, reduceCtorEq, Nat.reduceAdd, Nat.reduceSub, Nat.reduceLeDiff, Nat.reduceMul, Int.reduceLT, Int.reduceLE, Int.reduceEq, Int.reduceNe, Int.reduceAdd, Int.reduceSub, Int.reduceMul, Int.reduceNeg, Int.reduceToNat,  e, g4, fi]
      refine ⟨by omega, _, ⟨by rw [upd_same, hlen], fun j hj => (upd_other (by omega)).trans ((hs4 j (.inl (by omega))).trans ((hs3 j (by omega)).trans (g2 j hj)))⟩, by omega, by omega, (by simp [LeL, Le1]), fun _ _ h => h⟩
    · have e : k = ll.length := by omega
      subst e
      refine q_use (impl_size _ (by unfold in64; omega) _ _) fun n3 hn3 => ?_
      simp (maxSteps := 2000000) -implicitDefEqProofs (disch := omega) only [xsW, xsC, xsD, xsE, fillA, reduceCtorEq, Nat.reduceAdd, Nat.reduceSub, Nat.reduceLeDiff, Nat.reduceMul, Int.reduceLT, Int.reduceLE, Int.reduceEq, Int.reduceNe, Int.reduceAdd, Int.reduceSub, Int.reduceMul, Int.reduceNeg, Int.reduceToNat]
      intro _ h2 hh
      refine .inr ⟨_, rfl, Sl.of_sl (ty := 2) (op := 0) (cs := ints (solL ll q a)) ?_ (by simp [ints, hlen]) (Nat.le_refl _) (by omega) (by omega)⟩
      rw [hh n2 (by omega) (by omega), g1]
      simp [hlen, ints, List.take_of_length_le]
theorem impl_point (s : Prob w lo hi h v u vs ll q) (hp : isProb ll q = true) (a : Int) (n : Nat) (hn : hi ≤ n) :
    FQ Tryz.prog 81 [.agg [v, u], .int .i64 a] h n fun x h' n' => (dtS ll a = 0 ∧ x = .tup [.nilsl, .int .i64 0, .bool false]) ∨ (dtS ll a ≠ 0 ∧ ∃ v', x = .tup [v', .int .i64 (dtS ll a).natAbs, .bool true] ∧ Ints true n n' h' v' (solL ll q a)) := by
  refine fq_intro Tryz.func81 k_impl_Problem_point ?_
  have o1 := one_any (Sl.any s.M.out)
  have o2 := one_any (Sl.any s.Q)
  simp (maxSteps := 2000000) -implicitDefEqProofs (disch := omega) only [c_impl_Problem_point, o1, o2, xsW, xsC, xsD, xsE, fillA, reduceCtorEq, Nat.reduceAdd, Nat.reduceSub, Nat.reduceLeDiff, Nat.reduceMul, Int.reduceLT, Int.reduceLE, Int.reduceEq, Int.reduceNe, Int.reduceAdd, Int.reduceSub, Int.reduceMul, Int.reduceNeg, Int.reduceToNat]
  refine fq_use (impl_solve (s.keep (fun i _ hi9 => by simp (disch := omega) only [upd_other])) hp a _ (by omega)) fun x1 h1 n1 hn1 hs1 hx1 => ?_
  rcases hx1 with ⟨c1, rfl⟩ | ⟨c1, v1, rfl, hv1⟩
  · simp (maxSteps := 2000000) -implicitDefEqProofs (disch := omega) only [xsW, xsC, xsD, xsE, fillA, reduceCtorEq, Nat.reduceAdd, Nat.reduceSub, Nat.reduceLeDiff, Nat.reduceMul, Int.reduceLT, Int.reduceLE, Int.reduceEq, Int.reduceNe, Int.reduceAdd, Int.reduceSub, Int.reduceMul, Int.reduceNeg, Int.reduceToNat]
    intro _ h2 _
    first | exact .inl c1 | exact .inl ⟨c1, rfl⟩
  · simp (maxSteps := 2000000) -implicitDefEqProofs (disch := omega) only [xsW, xsC, xsD, xsE, fillA, reduceCtorEq, Nat.reduceAdd, Nat.reduceSub, Nat.reduceLeDiff, Nat.reduceMul, Int.reduceLT, Int.reduceLE, Int.reduceEq, Int.reduceNe, Int.reduceAdd, Int.reduceSub, Int.reduceMul, Int.reduceNeg, Int.reduceToNat]
    intro _ h2 hh
    first | exact .inr ⟨c1, v1, rfl, (hv1.keep fun i a b => hh i (by omega) b).wide (by omega) (Nat.le_refl _)⟩ | exact .inr ⟨c1, v1, ⟨rfl, rfl⟩, (hv1.keep fun i a b => hh i (by omega) b).wide (by omega) (Nat.le_refl _)⟩
end
section
variable {w w' : Bool} {lo hi lo' hi' : Nat} {h : AH} {v u : AV} {vs : List AV} {ll : List (List Int)} {q : List Int}
theorem spec_l01Solve (sR : Rows w lo hi h v vs ll) (hN : ll.length ≤ 5) (hs : Sq ll.length ll) (hl : ∃ q', Lim q' ll.length (mx ll)) (qc : Ints w' lo' hi' h u q) (hq : q.length = ll.length) (hk : ∀ k, k < ll.length → ∃ q', Lim q' ll.length (mx (putL ll k q))) (n : Nat) (hn : hi ≤ n) (hn' : hi' ≤ n) :
    FQ Tryz.prog 130 [v, u] h n fun x h' n' => ∃ v', x = .tup [v', .int .i64 (det ll.length (mx ll))] ∧ Ints true n n' h' v' (rowOf ll.length fun k => det ll.length (mx (putL ll k q))) := by
  refine fq_intro Tryz.func130 k_spec_l01Solve ?_
  simp (maxSteps := 2000000) -implicitDefEqProofs (disch := omega) only [c_spec_l01Solve, xsW, xsC, xsD, xsE, fillA, reduceCtorEq, Nat.reduceAdd, Nat.reduceSub, Nat.reduceLeDiff, Nat.reduceMul, Int.reduceLT, Int.reduceLE, Int.reduceEq, Int.reduceNe, Int.reduceAdd, Int.reduceSub, Int.reduceMul, Int.reduceNeg, Int.reduceToNat]
  refine loop_for ll.length 0 (fun k p => [v, u, .any, .any, .nilsl, .int .i64 0, p.1, .int .i64 k, .any, .any, .any, .any, .any, .any, .any, .any, .any, .any, .any, .any, .any, .any, .any, .any, .any, .any, .any, .any, .any, .any, .any, .any, .any, .any, .any, .any, .any, .any, .any, .any, .any, .any, .any, .any, .any, .any, .any, .any, .any]) (fun _ (p : AV × AH) => p.2)
    (fun k p m => Acc n m p.2 2 1 p.1 (ints (rowOf k fun k => det ll.length (mx (putL ll k q)))) ∧ n ≤ m ∧ ∀ j, j < n → p.2 j = h j) (.sl n 0 0 0, _) (Nat.zero_le _) ⟨Acc.empty (upd_same _ _ _) rfl (Nat.le_refl _) (by omega), by omega, fun j hj => upd_other (by omega)⟩ (by simp [LeL, Le1]) (fun _ _ h => h) ?_
  rintro k ⟨out, hp⟩ m - hk1 hm ⟨acc, hle, hold⟩
  simp only at acc hold
  simp (maxSteps := 2000000) -implicitDefEqProofs (disch := omega) only [xsW, xsC, xsD, xsE, fillA, reduceCtorEq, Nat.reduceAdd, Nat.reduceSub, Nat.reduceLeDiff, Nat.reduceMul, Int.reduceLT, Int.reduceLE, Int.reduceEq, Int.reduceNe, Int.reduceAdd, Int.reduceSub, Int.reduceMul, Int.reduceNeg, Int.reduceToNat,  sR.ln]
  (refine cd_dec (fun c1 => ?_) (fun c1 => ?_) <;> simp (maxSteps := 2000000) -implicitDefEqProofs (disch := omega) only [xsW, xsC, xsD, xsE, fillA, reduceCtorEq, Nat.reduceAdd, Nat.reduceSub, Nat.reduceLeDiff, Nat.reduceMul, Int.reduceLT, Int.reduceLE, Int.reduceEq, Int.reduceNe, Int.reduceAdd, Int.reduceSub, Int.reduceMul, Int.reduceNeg, Int.reduceToNat,  c1])
  · have hk2 : k < ll.length := by omega
    refine loop_for ll.length 0 (fun i p => [v, u, .any, .any, .nilsl, .int .i64 0, out, .int .i64 k, p.1, .int .i64 i, .any, .any, .any, .any, .any, .any, .any, .any, .any, .any, .any, .any, .any, .any, .any, .any, .any, .any, .any, .any, .any, .any, .any, .any, .any, .any, .any, .any, .any, .any, .any, .any, .any, .any, .any, .any, .any, .any, .any]) (fun _ (p : AV × List AV × AH) => p.2.2)
      (fun i p m' => Grow m m' hp p.2.2 23 p.1 p.2.1 (rowsOf i fun r => (ll.getD r []).set k (q.getD r 0))) (.sl m 0 0 0, [], _) (Nat.zero_le _) (Grow.start0 rfl) (by simp [LeL, Le1]) (fun _ _ h => h) ?_
    rintro i ⟨own, ws, hr⟩ mB - hi1 hm2 g
    simp only at g
    have hold2 := g.old
    simp (maxSteps := 2000000) -implicitDefEqProofs (disch := omega) only [xsW, xsC, xsD, xsE, fillA, reduceCtorEq, Nat.reduceAdd, Nat.reduceSub, Nat.reduceLeDiff, Nat.reduceMul, Int.reduceLT, Int.reduceLE, Int.reduceEq, Int.reduceNe, Int.reduceAdd, Int.reduceSub, Int.reduceMul, Int.reduceNeg, Int.reduceToNat,  sR.ln]
    (refine cd_dec (fun c2 => ?_) (fun c2 => ?_) <;> simp (maxSteps := 2000000) -implicitDefEqProofs (disch := omega) only [xsW, xsC, xsD, xsE, fillA, reduceCtorEq, Nat.reduceAdd, Nat.reduceSub, Nat.reduceLeDiff, Nat.reduceMul, Int.reduceLT, Int.reduceLE, Int.reduceEq, Int.reduceNe, Int.reduceAdd, Int.reduceSub, Int.reduceMul, Int.reduceNeg, Int.reduceToNat,  c2])
    · have hi2 : i < ll.length := by omega
      have hbl := sR.out.below (by rw [sR.slen]; omega)
      have hbq := Sl.below qc (by rw [qc.slen]; omega)
      have hri := sR.row i hi2
      have li := hs.2 i hi2
      simp (maxSteps := 2000000) -implicitDefEqProofs (disch := omega) only [xsW, xsC, xsD, xsE, fillA, reduceCtorEq, Nat.reduceAdd, Nat.reduceSub, Nat.reduceLeDiff, Nat.reduceMul, Int.reduceLT, Int.reduceLE, Int.reduceEq, Int.reduceNe, Int.reduceAdd, Int.reduceSub, Int.reduceMul, Int.reduceNeg, Int.reduceToNat,  hold2, hold, sR.ia, sR.ld]
      refine fq_use (spec_l01OwnA (hri.keep (h' := hr) (fun i _ hi9 => by simp (disch := omega) only [upd_other, hold2, hold])) (by omega) mB (by omega)) fun v3 h3 n3 hn3 hs3 a3 => ?_
      have sO : Ints true mB n3 h3 v3 (ll.getD i []) := a3.sl
      have e1 := fun K => Ints.st sO (k := k) (x := q.getD i 0) (n0 := n) (n := n3) (W := none') (by omega) (fun i a b => .inl (by omega)) (by omega) K
      have sO2 := sO.wr (k := k) (by omega) (q.getD i 0)
      have o1 := one_any (Sl.any sO)
      have o2 := sto_any (Sl.any sO)
      have o3 := cel_any (Sl.any sO)
      have hown := Sl.own sO (Sl.isReal sO (slen_ne sO (by omega)).2)
      have hs5 : ∀ j, j < mB → wr h3 (bid v3) (boff v3 + k) (.int .i64 (q.getD i 0)) j = hr j := fun j hj => (wr_other (by omega)).trans (hs3 j hj)
      simp (maxSteps := 2000000) -implicitDefEqProofs (disch := omega) only [xsW, xsC, xsD, xsE, fillA, reduceCtorEq, Nat.reduceAdd, Nat.reduceSub, Nat.reduceLeDiff, Nat.reduceMul, Int.reduceLT, Int.reduceLE, Int.reduceEq, Int.reduceNe, Int.reduceAdd, Int.reduceSub, Int.reduceMul, Int.reduceNeg, Int.reduceToNat,  hs3, hold2, hold, qc.ia, qc.ld, hq, sO.ia, e1, o1, o2, o3]
      refine g.app (hB := upd (wr h3 (bid v3) (boff v3 + k) (.int .i64 (q.getD i 0))) n3 _) (v1 := v3) (l := (ll.getD i []).set k (q.getD i 0)) (sO2.keep (fun i _ hi9 => by simp (disch := omega) only [upd_other])) (fun i hi9 => by simp (disch := omega) only [upd_other, hs5]) hn3 (by omega) (by omega) ⟨rfl, _, upd_same _ _ _, by simp, by simp [cutA]⟩ (by rw [rowsOf_len]; omega) fun out' h' n' q1 q2 => ?_
      simp (maxSteps := 2000000) -implicitDefEqProofs (disch := omega) only [xsW, xsC, xsD, xsE, fillA, reduceCtorEq, Nat.reduceAdd, Nat.reduceSub, Nat.reduceLeDiff, Nat.reduceMul, Int.reduceLT, Int.reduceLE, Int.reduceEq, Int.reduceNe, Int.reduceAdd, Int.reduceSub, Int.reduceMul, Int.reduceNeg, Int.reduceToNat]
      exact ⟨(out', ws ++ [v3], h'), by rw [rowsOf_succ]; exact q2, by omega, by omega, (by simp [LeL, Le1]), fun _ _ h => h⟩
    · have e : i = ll.length := by omega
      subst e
      have hR := g.rowsOf (h2 := hr) fun _ _ _ => rfl
      refine q_use (spec_l01Det _ hR hN (putL_sq hs) (hk k hk2) mB (Nat.le_refl _)) fun n5 hn5 => ?_
      rw [show det ll.length (mx (rowsOf ll.length fun r => (ll.getD r []).set k (q.getD r 0))) = det ll.length (mx (putL ll k q)) from rfl]
      simp (maxSteps := 2000000) -implicitDefEqProofs (disch := omega) only [xsW, xsC, xsD, xsE, fillA, reduceCtorEq, Nat.reduceAdd, Nat.reduceSub, Nat.reduceLeDiff, Nat.reduceMul, Int.reduceLT, Int.reduceLE, Int.reduceEq, Int.reduceNe, Int.reduceAdd, Int.reduceSub, Int.reduceMul, Int.reduceNeg, Int.reduceToNat]
      refine app_int (y := det ll.length (mx (putL ll k q))) ((acc.keep (h' := hr) (fun i _ hi9 => by simp (disch := omega) only [upd_other, hold2])).keep (fun i _ hi9 => by simp (disch := omega) only [upd_other]) |>.wide (Nat.le_refl _) (by omega)) (by omega) (by omega) ⟨rfl, _, upd_same _ _ _, by simp, by simp [cutA]⟩ (by rw [rowOf_len]; omega) fun v' h' n' q1 q2 q3 => ?_
      simp (maxSteps := 2000000) -implicitDefEqProofs (disch := omega) only [xsW, xsC, xsD, xsE, fillA, reduceCtorEq, Nat.reduceAdd, Nat.reduceSub, Nat.reduceLeDiff, Nat.reduceMul, Int.reduceLT, Int.reduceLE, Int.reduceEq, Int.reduceNe, Int.reduceAdd, Int.reduceSub, Int.reduceMul, Int.reduceNeg, Int.reduceToNat]
      exact ⟨(v', h'), ⟨by rw [rowOf_succ]; exact q2, by omega, fun j hj => (q3 j hj).trans (by rw [upd_other (by omega), hold2 j (by omega), hold j hj])⟩, by omega, by omega, (by simp [LeL, Le1]), fun _ _ h => h⟩
  · have e : k = ll.length := by omega
    subst e
    refine q_use (spec_l01Det _ (sR.keep (h' := hp) (fun i _ hi9 => by simp (disch := omega) only [upd_other, hold])) hN hs hl m (by omega)) fun n5 hn5 => ?_
    simp (maxSteps := 2000000) -implicitDefEqProofs (disch := omega) only [xsW, xsC, xsD, xsE, fillA, reduceCtorEq, Nat.reduceAdd, Nat.reduceSub, Nat.reduceLeDiff, Nat.reduceMul, Int.reduceLT, Int.reduceLE, Int.reduceEq, Int.reduceNe, Int.reduceAdd, Int.reduceSub, Int.reduceMul, Int.reduceNeg, Int.reduceToNat]
    intro _ h2 hh
    exact ⟨out, rfl, (acc.keep fun i a b => hh i a (by omega)).sl.wide (Nat.le_refl _) (by omega)⟩
theorem spec_l01Point (s : Prob w lo hi h v u vs ll q) (hp : isProb ll q = true) (a : Int) (n : Nat) (hn : hi ≤ n) :
    FQ Tryz.prog 101 [.agg [v, u], .int .i64 a] h n fun x h' n' => (dtS ll a = 0 ∧ x = .tup [.nilsl, .bool false]) ∨ (dtS ll a ≠ 0 ∧ ∃ v', x = .tup [v', .bool true] ∧ Fracs true n n' h' v' (ptF ll q a)) := by
  refine fq_intro Tryz.func101 k_spec_l01Point ?_
  obtain ⟨hm, hq, _⟩ := isProb_facts hp
  have hN := ((isMat_iff ll).1 hm).2.1
  have o1 := one_any (Sl.any s.M.out)
  have o2 := one_any (Sl.any s.Q)
  have hd := dtS_b hp a
  have hsq := colsL_sq ll a
  have hcl := hsq.1
  simp (maxSteps := 2000000) -implicitDefEqProofs (disch := omega) only [c_spec_l01Point, o1, o2, xsW, xsC, xsD, xsE, fillA, reduceCtorEq, Nat.reduceAdd, Nat.reduceSub, Nat.reduceLeDiff, Nat.reduceMul, Int.reduceLT, Int.reduceLE, Int.reduceEq, Int.reduceNe, Int.reduceAdd, Int.reduceSub, Int.reduceMul, Int.reduceNeg, Int.reduceToNat]
  refine fq_use (spec_l01Columns (s.M.keep (fun i _ hi9 => by simp (disch := omega) only [upd_other])) hm a _ (by omega)) fun v1 h1 n1 hn1 hs1 ⟨vs1, hv1⟩ => ?_
  simp (maxSteps := 2000000) -implicitDefEqProofs (disch := omega) only [xsW, xsC, xsD, xsE, fillA, reduceCtorEq, Nat.reduceAdd, Nat.reduceSub, Nat.reduceLeDiff, Nat.reduceMul, Int.reduceLT, Int.reduceLE, Int.reduceEq, Int.reduceNe, Int.reduceAdd, Int.reduceSub, Int.reduceMul, Int.reduceNeg, Int.reduceToNat]
  refine fq_use (spec_l01Solve hv1 (by omega) (by rw [hcl]; exact hsq) ⟨_, by rw [hcl]; exact colsL_lim hm a⟩ (s.Q.keep (h' := h1) (fun i _ hi9 => by simp (disch := omega) only [upd_other, hs1])) (by omega) (fun k hk => ⟨_, by rw [hcl]; exact putL_lim hp a k⟩) n1 (by omega) (by omega)) fun x2 h2 n2 hn2 hs2 ⟨v2, hx2, hv2⟩ => ?_
  subst hx2
  rw [hcl] at hv2 ⊢
  rw [show det ll.length (mx (colsL ll a)) = dtS ll a from rfl]
  have hv2 : Ints true n1 n2 h2 v2 (ptL ll q a) := hv2
  simp (maxSteps := 2000000) -implicitDefEqProofs (disch := omega) only [xsW, xsC, xsD, xsE, fillA, reduceCtorEq, Nat.reduceAdd, Nat.reduceSub, Nat.reduceLeDiff, Nat.reduceMul, Int.reduceLT, Int.reduceLE, Int.reduceEq, Int.reduceNe, Int.reduceAdd, Int.reduceSub, Int.reduceMul, Int.reduceNeg, Int.reduceToNat]
  (refine cd_dec (fun c1 => ?_) (fun c1 => ?_) <;> simp (maxSteps := 2000000) -implicitDefEqProofs (disch := omega) only [xsW, xsC, xsD, xsE, fillA, reduceCtorEq, Nat.reduceAdd, Nat.reduceSub, Nat.reduceLeDiff, Nat.reduceMul, Int.reduceLT, Int.reduceLE, Int.reduceEq, Int.reduceNe, Int.reduceAdd, Int.reduceSub, Int.reduceMul, Int.reduceNeg, Int.reduceToNat,  c1])
  · have hpl := ptL_len ll q a
    refine loop_for ll.length 0 (fun k p => [.agg [v, u], .int .i64 a, .ptr n 0, .any, .nilsl, .bool false, v2, .int .i64 (dtS ll a), p.1, .int .i64 k, .any, .any, .any, .any, .any, .any, .any, .any, .any, .any, .any, .any, .any, .any, .any, .any, .any, .any, .any, .any, .any, .any, .any, .any, .any, .any, .any, .any, .any]) (fun _ (p : AV × AH) => p.2)
      (fun k p m => Acc n2 m p.2 49 2 p.1 (fracs ((ptF ll q a).take k)) ∧ n2 ≤ m ∧ ∀ j, j < n2 → p.2 j = h2 j) (.sl n2 0 0 0, _) (Nat.zero_le _) ⟨Acc.empty (upd_same _ _ _) rfl (Nat.le_refl _) (by omega), by omega, fun j hj => upd_other (by omega)⟩ (by simp [LeL, Le1]) (fun _ _ h => h) ?_
    rintro k ⟨out, hp'⟩ m - hk1 hm1 ⟨acc, hle, hold⟩
    simp only at acc hold
    simp (maxSteps := 2000000) -implicitDefEqProofs (disch := omega) only [xsW, xsC, xsD, xsE, fillA, reduceCtorEq, Nat.reduceAdd, Nat.reduceSub, Nat.reduceLeDiff, Nat.reduceMul, Int.reduceLT, Int.reduceLE, Int.reduceEq, Int.reduceNe, Int.reduceAdd, Int.reduceSub, Int.reduceMul, Int.reduceNeg, Int.reduceToNat,  hv2.ln, hpl]
    (refine cd_dec (fun c2 => ?_) (fun c2 => ?_) <;> simp (maxSteps := 2000000) -implicitDefEqProofs (disch := omega) only [xsW, xsC, xsD, xsE, fillA, reduceCtorEq, Nat.reduceAdd, Nat.reduceSub, Nat.reduceLeDiff, Nat.reduceMul, Int.reduceLT, Int.reduceLE, Int.reduceEq, Int.reduceNe, Int.reduceAdd, Int.reduceSub, Int.reduceMul, Int.reduceNeg, Int.reduceToNat,  c2])
    · have hk2 : k < ll.length := by omega
      have hb2 := Sl.below hv2 (by rw [hv2.slen]; omega)
      have eb : (ptL ll q a).getD k 0 = dtK ll q a k := rowOf_get hk2
      have ebb := dtK_b hp a k
      have ef : (ptF ll q a).getD k (0, 0) = red (dtK ll q a k) (dtS ll a) := by
        rw [ptF, getD_map _ _ _ 0 _ (by omega), eb]
      simp (maxSteps := 2000000) -implicitDefEqProofs (disch := omega) only [xsW, xsC, xsD, xsE, fillA, reduceCtorEq, Nat.reduceAdd, Nat.reduceSub, Nat.reduceLeDiff, Nat.reduceMul, Int.reduceLT, Int.reduceLE, Int.reduceEq, Int.reduceNe, Int.reduceAdd, Int.reduceSub, Int.reduceMul, Int.reduceNeg, Int.reduceToNat,  hold, hv2.ia, hv2.ld, hpl, eb]
      refine q_use (spec_l01Frac _ _ (by unfold in64; omega) (by unfold in64; omega) c1 _ _) fun n3 hn3 => ?_
      simp (maxSteps := 2000000) -implicitDefEqProofs (disch := omega) only [xsW, xsC, xsD, xsE, fillA, reduceCtorEq, Nat.reduceAdd, Nat.reduceSub, Nat.reduceLeDiff, Nat.reduceMul, Int.reduceLT, Int.reduceLE, Int.reduceEq, Int.reduceNe, Int.reduceAdd, Int.reduceSub, Int.reduceMul, Int.reduceNeg, Int.reduceToNat,  fr]
      refine app_frac (p := (ptF ll q a).getD k (0, 0)) (acc.keep (fun i _ hi9 => by simp (disch := omega) only [upd_other]) |>.wide (Nat.le_refl _) (by omega)) (by omega) (by omega) ⟨rfl, _, upd_same _ _ _, by simp, by rw [ef]; simp [cutA]⟩ (by simp; omega) fun v' h' n' q1 q2 q3 => ?_
      simp (maxSteps := 2000000) -implicitDefEqProofs (disch := omega) only [xsW, xsC, xsD, xsE, fillA, reduceCtorEq, Nat.reduceAdd, Nat.reduceSub, Nat.reduceLeDiff, Nat.reduceMul, Int.reduceLT, Int.reduceLE, Int.reduceEq, Int.reduceNe, Int.reduceAdd, Int.reduceSub, Int.reduceMul, Int.reduceNeg, Int.reduceToNat]
      exact ⟨(v', h'), ⟨by rw [take_succ_getD (d := (0, 0)) (by rw [ptF_len]; exact hk2)]; exact q2, by omega, fun j hj => (q3 j hj).trans (by rw [upd_other (by omega), hold j hj])⟩, by omega, by omega, (by simp [LeL, Le1]), fun _ _ h => h⟩
    · have e : k = ll.length := by omega
      rw [List.take_of_length_le (by rw [ptF_len]; omega)] at acc
      intro _ h3 hh
      exact .inr ⟨out, rfl, (Acc.sl (acc.keep fun i a b => hh i (by omega) b)).wide (by omega) (Nat.le_refl _)⟩
theorem impl_allReduced (sI : Ints w lo hi h v q) (hl : q.length ≤ 1048576) (hb : ∀ k, k < q.length → -1000000000000000000 ≤ q.getD k 0 ∧ q.getD k 0 ≤ 1000000000000000000) (d : Int) (hd : in64 d ∧ in64 (-d)) (h0 : d ≠ 0) (n : Nat) (hn : hi ≤ n) :
    FQ Tryz.prog 82 [v, .int .i64 d] h n fun x h' n' => ∃ v', x = .tup [v', .int .i64 (if ((q.map fun y => red y d).all fun p => isFr 1000000000 p.1 p.2) = true then 0 else 3)] ∧ Fracs true n n' h' v' (if ((q.map fun y => red y d).all fun p => isFr 1000000000 p.1 p.2) = true then q.map fun y => red y d else []) := by
  refine fq_intro Tryz.func82 k_impl_allReduced ?_
  simp (maxSteps := 2000000) -implicitDefEqProofs (disch := omega) only [c_impl_allReduced, sI.ln, xsW, xsC, xsD, xsE, fillA, reduceCtorEq, Nat.reduceAdd, Nat.reduceSub, Nat.reduceLeDiff, Nat.reduceMul, Int.reduceLT, Int.reduceLE, Int.reduceEq, Int.reduceNe, Int.reduceAdd, Int.reduceSub, Int.reduceMul, Int.reduceNeg, Int.reduceToNat]
  refine loop_for q.length 0 (fun k p => [v, .int .i64 d, .any, .any, .nilsl, .int .i64 0, p.1, .any, .any, .any, .any, v, .int .i64 q.length, .int .i64 k, .any, .any, .any, .any, .any, .any, .any, .any, .any, .any, .any, .any, .any, .any, .any, .any, .any, .any]) (fun _ (p : AV × AH) => p.2)
    (fun k p m => Acc n m p.2 49 2 p.1 (fracs ((q.map fun y => red y d).take k)) ∧ n ≤ m ∧ (∀ j, j < n → p.2 j = h j) ∧ ∀ j, j < k → isFr 1000000000 (red (q.getD j 0) d).1 (red (q.getD j 0) d).2 = true) (.nilsl, h) (Nat.zero_le _) ⟨Acc.nil, by omega, fun _ _ => rfl, fun j hj => absurd hj (Nat.not_lt_zero _)⟩ (by simp [LeL, Le1]) (fun _ _ h => h) ?_
  rintro k ⟨out, hp'⟩ m - hk1 hm1 ⟨acc, hle, hold, hall⟩
  simp only at acc hold
  simp (maxSteps := 2000000) -implicitDefEqProofs (disch := omega) only [xsW, xsC, xsD, xsE, fillA, reduceCtorEq, Nat.reduceAdd, Nat.reduceSub, Nat.reduceLeDiff, Nat.reduceMul, Int.reduceLT, Int.reduceLE, Int.reduceEq, Int.reduceNe, Int.reduceAdd, Int.reduceSub, Int.reduceMul, Int.reduceNeg, Int.reduceToNat]
  (refine cd_dec (fun c1 => ?_) (fun c1 => ?_) <;> simp (maxSteps := 2000000) -implicitDefEqProofs (disch := omega) only [xsW, xsC, xsD, xsE, fillA, reduceCtorEq, Nat.reduceAdd, Nat.reduceSub, Nat.reduceLeDiff, Nat.reduceMul, Int.reduceLT, Int.reduceLE, Int.reduceEq, Int.reduceNe, Int.reduceAdd, Int.reduceSub, Int.reduceMul, Int.reduceNeg, Int.reduceToNat,  c1])
  · have hk2 : k < q.length := by omega
    have hb2 := Sl.below sI (by rw [sI.slen]; omega)
    have hbk := hb k hk2
    have ef : (q.map fun y => red y d).getD k (0, 0) = red (q.getD k 0) d := getD_map _ _ _ 0 _ hk2
    simp (maxSteps := 2000000) -implicitDefEqProofs (disch := omega) only [xsW, xsC, xsD, xsE, fillA, reduceCtorEq, Nat.reduceAdd, Nat.reduceSub, Nat.reduceLeDiff, Nat.reduceMul, Int.reduceLT, Int.reduceLE, Int.reduceEq, Int.reduceNe, Int.reduceAdd, Int.reduceSub, Int.reduceMul, Int.reduceNeg, Int.reduceToNat,  hold, sI.ia, sI.ld]
    refine q_use (impl_reduced _ _ (by unfold in64; omega) hd h0 _ _) fun n3 hn3 => ?_
    cases hf : isFr 1000000000 (red (q.getD k 0) d).1 (red (q.getD k 0) d).2
    · rw [if_neg (show ¬ (false = true) by simp)]
      simp (maxSteps := 2000000) -implicitDefEqProofs (disch := omega) only [xsW, xsC, xsD, xsE, fillA, reduceCtorEq, Nat.reduceAdd, Nat.reduceSub, Nat.reduceLeDiff, Nat.reduceMul, Int.reduceLT, Int.reduceLE, Int.reduceEq, Int.reduceNe, Int.reduceAdd, Int.reduceSub, Int.reduceMul, Int.reduceNeg, Int.reduceToNat,  fr]
      intro _ h2 _
      have hno : ¬ ((q.map fun y => red y d).all fun p => isFr 1000000000 p.1 p.2) = true := fun hx => by
        have := List.all_eq_true.1 hx _ (getD_mem (d := (0, 0)) (show k < (q.map fun y => red y d).length by simpa using hk2))
        rw [ef, hf] at this; cases this
      rw [if_neg hno, if_neg hno]
      exact ⟨.nilsl, by simp, Sl.nil⟩
    · rw [if_pos (show true = true from rfl)]
      simp (maxSteps := 2000000) -implicitDefEqProofs (disch := omega) only [xsW, xsC, xsD, xsE, fillA, reduceCtorEq, Nat.reduceAdd, Nat.reduceSub, Nat.reduceLeDiff, Nat.reduceMul, Int.reduceLT, Int.reduceLE, Int.reduceEq, Int.reduceNe, Int.reduceAdd, Int.reduceSub, Int.reduceMul, Int.reduceNeg, Int.reduceToNat,  fr]
      refine app_frac (p := (q.map fun y => red y d).getD k (0, 0)) (acc.keep (fun i _ hi9 => by simp (disch := omega) only [upd_other]) |>.wide (Nat.le_refl _) (by omega)) (by omega) (by omega) ⟨rfl, _, upd_same _ _ _, by simp, by rw [ef]; simp [cutA]⟩ (by simp; omega) fun v' h' n' q1 q2 q3 => ?_
      simp (maxSteps := 2000000) -implicitDefEqProofs (disch := omega) only [xsW, xsC, xsD, xsE, fillA, reduceCtorEq, Nat.reduceAdd, Nat.reduceSub, Nat.reduceLeDiff, Nat.reduceMul, Int.reduceLT, Int.reduceLE, Int.reduceEq, Int.reduceNe, Int.reduceAdd, Int.reduceSub, Int.reduceMul, Int.reduceNeg, Int.reduceToNat]
      exact ⟨(v', h'), ⟨by rw [take_succ_getD (d := (0, 0)) (by simpa using hk2)]; exact q2, by omega, fun j hj => (q3 j hj).trans (by rw [upd_other (by omega), upd_other (by omega), hold j hj]), fun j hj => (Nat.lt_succ_iff_lt_or_eq.1 hj).elim (hall j) (fun e => by rw [e]; exact hf)⟩, by omega, by omega, (by simp [LeL, Le1]), fun _ _ h => h⟩
  · have e : k = q.length := by omega
    rw [List.take_of_length_le (by simp; omega)] at acc
    have hyes : ((q.map fun y => red y d).all fun p => isFr 1000000000 p.1 p.2) = true := by
      rw [List.all_eq_true]
      intro p hp
      obtain ⟨j, hj, rfl⟩ := List.mem_iff_getElem.1 hp
      simp only [List.length_map] at hj
      have := hall j (by omega)
      simpa [List.getD, hj] using this
    intro _ h3 hh
    rw [if_pos hyes, if_pos hyes]
    exact ⟨out, by simp, Acc.sl (acc.keep fun i a b => hh i a b)⟩
end


def allFr (l : List (Int × Int)) : Bool := l.all fun p => isFr 1000000000 p.1 p.2
theorem allFr_iff (l : List (Int × Int)) : allFr l = true ↔ ∀ j, j < l.length → isFr 1000000000 (l.getD j (0, 0)).1 (l.getD j (0, 0)).2 = true := by
  rw [allFr, List.all_eq_true]
  constructor
  · exact fun h j hj => h _ (getD_mem hj)
  · intro h p hp
    obtain ⟨j, hj, rfl⟩ := List.mem_iff_getElem.1 hp
    have := h j hj
    simpa [List.getD, hj] using this
theorem ptF_sol (ll : List (List Int)) (q : List Int) (s : Int) (hd : dtS ll s ≠ 0) : ((solL ll q s).map fun y => red y (dtS ll s).natAbs) = ptF ll q s := by
  refine getD_ext (d := (0, 0)) (by simp [solL_len, ptF_len]) fun k hk => ?_
  simp only [List.length_map, solL_len] at hk
  rw [getD_map _ _ _ 0 _ (by rw [solL_len]; exact hk), ptF, getD_map _ _ _ 0 _ (by rw [ptL_len]; exact hk), solL, ptL, rowOf_get hk, rowOf_get hk, red_sgn hd]
section
variable {w : Bool} {lo hi : Nat} {h : AH} {v u : AV} {vs : List AV} {ll : List (List Int)} {q : List Int}
end
def c_impl_Problem_all : F := ⟨(.seq (.reg false [⟨some 1, .box 30 (.t 0), none⟩, ⟨some 2, .mv (.c (.int .i64 0)), none⟩]) (.seq (.reg false [⟨some 3, .fa 1 (.t 1), none⟩, ⟨some 4, .ld1 (.t 3), none⟩, ⟨some 5, .len (.t 4), none⟩, ⟨some 6, .bin .shl (.c (.int .i64 1)) (.t 5), none⟩, ⟨some 2, .mv (.t 6), none⟩]) .ret)), 7, [(.t 2)]⟩
theorem k_impl_Problem_all : compF Tryz.prog Tryz.f106 = some c_impl_Problem_all := by kernel_rfl
def c_impl_sets : F := ⟨(.seq (.reg false [⟨some 2, .box 30 (.t 0), none⟩, ⟨some 4, .mv (.c .nilsl), none⟩, ⟨some 5, .mv (.c (.int .i64 0)), none⟩]) (.seq (.seq (.reg false [⟨some 11, .ld 2 (.t 2), none⟩, ⟨some 12, .call (.f 91) [(.t 11)], none⟩, ⟨some 13, .un .not (.t 12), none⟩]) (.cond (.t 13) (.seq (.reg false [⟨some 4, .mv (.c .nilsl), none⟩, ⟨some 5, .mv (.c (.int .i64 1)), none⟩]) .ret) .skip)) (.seq (.reg false [⟨some 6, .mv (.c .nilsl), none⟩]) (.seq (.seq (.reg false [⟨some 14, .ld 2 (.t 2), none⟩, ⟨some 15, .call (.f 106) [(.t 14)], none⟩, ⟨some 16, .mv (.c (.int .i64 0)), none⟩]) (.block 0 (.loop (.seq (.reg false [⟨some 17, .bin .lss (.t 16) (.t 15), none⟩]) (.seq (.cond (.t 17) .skip (.exit 0)) (.seq (.block 1 (.seq (.reg false [⟨some 18, .mv (.t 16), none⟩, ⟨some 7, .mv (.t 18), none⟩]) (.seq (.reg false [⟨some 20, .ld 2 (.t 2), none⟩, ⟨some 21, .mv (.t 7), none⟩, ⟨some 22, .call (.f 81) [(.t 20), (.t 21)], none⟩, ⟨some 19, .mv (.t 22), none⟩, ⟨some 23, .ext (.t 19) 0, none⟩, ⟨some 24, .ext (.t 19) 1, none⟩, ⟨some 25, .ext (.t 19) 2, none⟩, ⟨some 8, .mv (.t 23), none⟩, ⟨some 9, .mv (.t 24), none⟩, ⟨some 10, .mv (.t 25), none⟩]) (.seq (.reg false [⟨some 26, .mv (.t 10), none⟩, ⟨some 27, .mv (.t 26), none⟩, ⟨some 28, .mv (.t 1), some (27, true)⟩, ⟨some 29, .mv (.t 8), some (27, true)⟩, ⟨some 30, .call (.t 28) [(.t 29)], some (27, true)⟩, ⟨some 31, .pick (.t 27) (.t 30) (.c (.bool false)), none⟩]) (.cond (.t 31) (.reg false [⟨some 32, .mv (.t 6), none⟩, ⟨some 33, .mv (.t 7), none⟩, ⟨some 34, .lit 2 1 1 [(.int .i64 0)] [(0, (.t 33))], none⟩, ⟨some 35, .app 2 1 8 [(.int .i64 0)] (.t 32) (.t 34), none⟩, ⟨some 6, .mv (.t 35), none⟩]) .skip))))) (.reg false [⟨some 36, .bin .add (.t 16) (.c (.int .i64 1)), none⟩, ⟨some 16, .mv (.t 36), none⟩]))))))) (.seq (.reg false [⟨some 37, .mv (.t 6), none⟩, ⟨some 4, .mv (.t 37), none⟩, ⟨some 5, .mv (.c (.int .i64 0)), none⟩]) .ret))))), 38, [(.t 4), (.t 5)]⟩
theorem k_impl_sets : compF Tryz.prog Tryz.f78 = some c_impl_sets := by kernel_rfl

def selL (p : Nat → Bool) (k : Nat) : List Int := ((List.range k).filter p).map fun i : Nat => (i : Int)
theorem selL_t {p : Nat → Bool} {k : Nat} (h : p k = true) : selL p (k + 1) = selL p k ++ [(k : Int)] := by
  unfold selL; rw [List.range_succ, List.filter_append, List.filter_cons_of_pos (by simpa using h)]; simp
theorem selL_f {p : Nat → Bool} {k : Nat} (h : p k = false) : selL p (k + 1) = selL p k := by
  unfold selL; rw [List.range_succ, List.filter_append, List.filter_cons_of_neg (by simp [h])]; simp
theorem selL_len (p : Nat → Bool) (k : Nat) : (selL p k).length ≤ k := by
  have := List.length_filter_le p (List.range k)
  simpa [selL] using this
def setP (ll : List (List Int)) (q : List Int) (T : List Int → Bool) (s : Nat) : Bool := decide (dtS ll s ≠ 0) && T (solL ll q s)
def setsV (ll : List (List Int)) (q : List Int) (T : List Int → Bool) : List Int × Int := if isProb ll q = true then (selL (setP ll q T) (pw ll.length), 0) else ([], 1)
section
variable {w : Bool} {lo hi : Nat} {h : AH} {v u : AV} {vs : List AV} {ll : List (List Int)} {q : List Int}
theorem impl_all (s : Prob w lo hi h v u vs ll q) (hp : isProb ll q = true) (n : Nat) (hn : hi ≤ n) : Q Tryz.prog 106 [.agg [v, u]] h n (.int .i64 (pw ll.length)) := by
  refine q_intro Tryz.func106 k_impl_Problem_all ?_
  have o1 := one_any (Sl.any s.M.out)
  have o2 := one_any (Sl.any s.Q)
  have hN := ((isMat_iff ll).1 (isProb_facts hp).1).2.1
  have hq := (isProb_facts hp).2.1
  have h2 := pw_le hN
  simp (maxSteps := 2000000) -implicitDefEqProofs (disch := omega) only [c_impl_Problem_all, o1, o2, s.Q.ln, hq, shl1, xsW, xsC, xsD, xsE, fillA, reduceCtorEq, Nat.reduceAdd, Nat.reduceSub, Nat.reduceLeDiff, Nat.reduceMul, Int.reduceLT, Int.reduceLE, Int.reduceEq, Int.reduceNe, Int.reduceAdd, Int.reduceSub, Int.reduceMul, Int.reduceNeg, Int.reduceToNat]
theorem impl_sets (s : Prob w lo hi h v u vs ll q) (hl : ll.length ≤ 1048576) (hll : ∀ l ∈ ll, l.length ≤ 1048576) (hq : q.length ≤ 1048576) (g : Nat) (T : List Int → Bool)
    (hT : ∀ (l : List Int) (v' : AV) (lo' hi' : Nat) (h' : AH) (n' : Nat), Ints true lo' hi' h' v' l → l.length ≤ 5 → hi' ≤ n' → Q Tryz.prog g [v'] h' n' (.bool (T l))) (n : Nat) (hn : hi ≤ n) :
    FQ Tryz.prog 78 [.agg [v, u], .fn g []] h n fun x h' n' => ∃ v', x = .tup [v', .int .i64 (setsV ll q T).2] ∧ Ints true n n' h' v' (setsV ll q T).1 := by
  refine fq_intro Tryz.func78 k_impl_sets ?_
  have o1 := one_any (Sl.any s.M.out)
  have o2 := one_any (Sl.any s.Q)
  simp (maxSteps := 2000000) -implicitDefEqProofs (disch := omega) only [c_impl_sets, o1, o2, xsW, xsC, xsD, xsE, fillA, reduceCtorEq, Nat.reduceAdd, Nat.reduceSub, Nat.reduceLeDiff, Nat.reduceMul, Int.reduceLT, Int.reduceLE, Int.reduceEq, Int.reduceNe, Int.reduceAdd, Int.reduceSub, Int.reduceMul, Int.reduceNeg, Int.reduceToNat]
  refine q_use (impl_IsProblem (s.keep (fun i _ hi9 => by simp (disch := omega) only [upd_other])) hl hll hq _ (by omega)) fun n1 hn1 => ?_
  cases hp : isProb ll q
  · simp (maxSteps := 2000000) -implicitDefEqProofs (disch := omega) only [xsW, xsC, xsD, xsE, fillA, reduceCtorEq, Nat.reduceAdd, Nat.reduceSub, Nat.reduceLeDiff, Nat.reduceMul, Int.reduceLT, Int.reduceLE, Int.reduceEq, Int.reduceNe, Int.reduceAdd, Int.reduceSub, Int.reduceMul, Int.reduceNeg, Int.reduceToNat]
    intro _ h2 _
    exact ⟨.nilsl, by simp [setsV, hp], by simp [setsV, hp]; exact Sl.nil⟩
  · have hN := ((isMat_iff ll).1 (isProb_facts hp).1).2.1
    have hpw := pw_le hN
    simp (maxSteps := 2000000) -implicitDefEqProofs (disch := omega) only [xsW, xsC, xsD, xsE, fillA, reduceCtorEq, Nat.reduceAdd, Nat.reduceSub, Nat.reduceLeDiff, Nat.reduceMul, Int.reduceLT, Int.reduceLE, Int.reduceEq, Int.reduceNe, Int.reduceAdd, Int.reduceSub, Int.reduceMul, Int.reduceNeg, Int.reduceToNat]
    refine q_use (impl_all (s.keep (fun i _ hi9 => by simp (disch := omega) only [upd_other])) hp _ (by omega)) fun n2 hn2 => ?_
    simp (maxSteps := 2000000) -implicitDefEqProofs (disch := omega) only [xsW, xsC, xsD, xsE, fillA, reduceCtorEq, Nat.reduceAdd, Nat.reduceSub, Nat.reduceLeDiff, Nat.reduceMul, Int.reduceLT, Int.reduceLE, Int.reduceEq, Int.reduceNe, Int.reduceAdd, Int.reduceSub, Int.reduceMul, Int.reduceNeg, Int.reduceToNat]
    refine loop_for (pw ll.length) 0 (fun k p => [.agg [v, u], .fn g [], .ptr n 0, .any, .nilsl, .int .i64 0, p.1, .any, .any, .any, .any, .any, .any, .any, .any, .int .i64 (pw ll.length), .int .i64 k, .any, .any, .any, .any, .any, .any, .any, .any, .any, .any, .any, .any, .any, .any, .any, .any, .any, .any, .any, .any, .any]) (fun _ (p : AV × AH) => p.2)
      (fun k p m => Acc n2 m p.2 2 1 p.1 (ints (selL (setP ll q T) k)) ∧ n2 ≤ m ∧ ∀ j, j < n2 → p.2 j = upd h n (some ⟨30, [v, u], true, 0⟩) j) (.nilsl, _) (Nat.zero_le _) ⟨Acc.nil, by omega, fun _ _ => rfl⟩ (by simp [LeL, Le1]) (fun _ _ h => h) ?_
    rintro k ⟨out, hp'⟩ m - hk hm ⟨acc, hle, hold⟩
    simp only at acc hold
    have hbox : hp' n = some ⟨30, [v, u], true, 0⟩ := by rw [hold n (by omega), upd_same]
    simp (maxSteps := 2000000) -implicitDefEqProofs (disch := omega) only [xsW, xsC, xsD, xsE, fillA, reduceCtorEq, Nat.reduceAdd, Nat.reduceSub, Nat.reduceLeDiff, Nat.reduceMul, Int.reduceLT, Int.reduceLE, Int.reduceEq, Int.reduceNe, Int.reduceAdd, Int.reduceSub, Int.reduceMul, Int.reduceNeg, Int.reduceToNat]
    (refine cd_dec (fun c1 => ?_) (fun c1 => ?_) <;> simp (maxSteps := 2000000) -implicitDefEqProofs (disch := omega) only [xsW, xsC, xsD, xsE, fillA, reduceCtorEq, Nat.reduceAdd, Nat.reduceSub, Nat.reduceLeDiff, Nat.reduceMul, Int.reduceLT, Int.reduceLE, Int.reduceEq, Int.reduceNe, Int.reduceAdd, Int.reduceSub, Int.reduceMul, Int.reduceNeg, Int.reduceToNat,  c1])
    · have hsl := selL_len (setP ll q T) k
      simp (maxSteps := 2000000) -implicitDefEqProofs (disch := omega) only [xsW, xsC, xsD, xsE, fillA, reduceCtorEq, Nat.reduceAdd, Nat.reduceSub, Nat.reduceLeDiff, Nat.reduceMul, Int.reduceLT, Int.reduceLE, Int.reduceEq, Int.reduceNe, Int.reduceAdd, Int.reduceSub, Int.reduceMul, Int.reduceNeg, Int.reduceToNat,  hbox]
      refine fq_use (impl_point (s.keep (h' := hp') (fun i _ hi9 => by simp (disch := omega) only [upd_other, hold])) hp (k : Int) m (by omega)) fun x1 h1 n3 hn3 hs1 hx1 => ?_
      have acc1 := (acc.keep (h' := h1) (fun i _ hi9 => by simp (disch := omega) only [upd_other, hs1])).wide (Nat.le_refl _) hn3
      rcases hx1 with ⟨d1, rfl⟩ | ⟨d1, v1, rfl, hv1⟩
      · simp (maxSteps := 2000000) -implicitDefEqProofs (disch := omega) only [xsW, xsC, xsD, xsE, fillA, reduceCtorEq, Nat.reduceAdd, Nat.reduceSub, Nat.reduceLeDiff, Nat.reduceMul, Int.reduceLT, Int.reduceLE, Int.reduceEq, Int.reduceNe, Int.reduceAdd, Int.reduceSub, Int.reduceMul, Int.reduceNeg, Int.reduceToNat]
        exact ⟨(out, h1), ⟨by rw [selL_f (by simp [setP, d1])]; exact acc1, by omega, fun j hj => (hs1 j (by omega)).trans (hold j hj)⟩, by omega, by omega, (by simp [LeL, Le1]), fun _ _ h => h⟩
      · simp (maxSteps := 2000000) -implicitDefEqProofs (disch := omega) only [xsW, xsC, xsD, xsE, fillA, reduceCtorEq, Nat.reduceAdd, Nat.reduceSub, Nat.reduceLeDiff, Nat.reduceMul, Int.reduceLT, Int.reduceLE, Int.reduceEq, Int.reduceNe, Int.reduceAdd, Int.reduceSub, Int.reduceMul, Int.reduceNeg, Int.reduceToNat]
        refine q_use (hT _ v1 _ _ h1 n3 hv1 (by rw [solL_len]; exact hN) (Nat.le_refl _)) fun n4 hn4 => ?_
        cases ht : T (solL ll q k)
        · simp (maxSteps := 2000000) -implicitDefEqProofs (disch := omega) only [xsW, xsC, xsD, xsE, fillA, reduceCtorEq, Nat.reduceAdd, Nat.reduceSub, Nat.reduceLeDiff, Nat.reduceMul, Int.reduceLT, Int.reduceLE, Int.reduceEq, Int.reduceNe, Int.reduceAdd, Int.reduceSub, Int.reduceMul, Int.reduceNeg, Int.reduceToNat]
          exact ⟨(out, h1), ⟨by rw [selL_f (by simp [setP, ht])]; exact acc1.wide (Nat.le_refl _) hn4, by omega, fun j hj => (hs1 j (by omega)).trans (hold j hj)⟩, by omega, by omega, (by simp [LeL, Le1]), fun _ _ h => h⟩
        · simp (maxSteps := 2000000) -implicitDefEqProofs (disch := omega) only [xsW, xsC, xsD, xsE, fillA, reduceCtorEq, Nat.reduceAdd, Nat.reduceSub, Nat.reduceLeDiff, Nat.reduceMul, Int.reduceLT, Int.reduceLE, Int.reduceEq, Int.reduceNe, Int.reduceAdd, Int.reduceSub, Int.reduceMul, Int.reduceNeg, Int.reduceToNat]
          refine app_int (y := (k : Int)) ((acc1.wide (Nat.le_refl _) hn4).keep (fun i _ hi9 => by simp (disch := omega) only [upd_other]) |>.wide (Nat.le_refl _) (by omega)) (by omega) (by omega) ⟨rfl, _, upd_same _ _ _, by simp, by simp [cutA]⟩ (by omega) fun v' h' n' q1 q2 q3 => ?_
          simp (maxSteps := 2000000) -implicitDefEqProofs (disch := omega) only [xsW, xsC, xsD, xsE, fillA, reduceCtorEq, Nat.reduceAdd, Nat.reduceSub, Nat.reduceLeDiff, Nat.reduceMul, Int.reduceLT, Int.reduceLE, Int.reduceEq, Int.reduceNe, Int.reduceAdd, Int.reduceSub, Int.reduceMul, Int.reduceNeg, Int.reduceToNat]
          exact ⟨(v', h'), ⟨by rw [selL_t (by simp [setP, ht, d1])]; exact q2, by omega, fun j hj => (q3 j hj).trans (by rw [upd_other (by omega), hs1 j (by omega), hold j hj])⟩, by omega, by omega, (by simp [LeL, Le1]), fun _ _ h => h⟩
    · have e : k = pw ll.length := by omega
      subst e
      intro _ h2 hh
      exact ⟨out, by simp [setsV, hp], by simp only [setsV, hp, if_true]; exact (Acc.sl (acc.keep fun i a b => hh i (by omega) b)).wide (by omega) (Nat.le_refl _)⟩
end
def c_impl_isFeasible_1 : F := ⟨(.seq (.reg false [⟨some 2, .mv (.c (.bool false)), none⟩]) (.seq (.reg false [⟨some 3, .mv (.t 0), none⟩, ⟨some 4, .bin .lss (.t 3) (.c (.int .i64 0)), none⟩, ⟨some 2, .mv (.t 4), none⟩]) .ret)), 5, [(.t 2)]⟩
theorem k_impl_isFeasible_1 : compF Tryz.prog Tryz.f108 = some c_impl_isFeasible_1 := by kernel_rfl
def c_impl_isFeasible : F := ⟨(.seq (.reg false [⟨some 2, .mv (.c (.bool false)), none⟩]) (.seq (.reg false [⟨some 3, .mv (.t 0), none⟩, ⟨some 4, .call (.f 107) [(.t 3), (.f 108)], none⟩, ⟨some 5, .un .not (.t 4), none⟩, ⟨some 2, .mv (.t 5), none⟩]) .ret)), 6, [(.t 2)]⟩
theorem k_impl_isFeasible : compF Tryz.prog Tryz.f79 = some c_impl_isFeasible := by kernel_rfl
def c_impl_FeasibleSets : F := ⟨(.seq (.reg false [⟨some 1, .box 30 (.t 0), none⟩, ⟨some 2, .mv (.c .nilsl), none⟩, ⟨some 3, .mv (.c (.int .i64 0)), none⟩]) (.seq (.reg false [⟨some 4, .ld 2 (.t 1), none⟩, ⟨some 5, .call (.f 78) [(.t 4), (.f 79)], none⟩, ⟨some 6, .ext (.t 5) 0, none⟩, ⟨some 7, .ext (.t 5) 1, none⟩, ⟨some 2, .mv (.t 6), none⟩, ⟨some 3, .mv (.t 7), none⟩]) .ret)), 8, [(.t 2), (.t 3)]⟩
theorem k_impl_FeasibleSets : compF Tryz.prog Tryz.f46 = some c_impl_FeasibleSets := by kernel_rfl
def c_spec_l02Feasible : F := ⟨(.seq (.reg false [⟨some 2, .box 30 (.t 0), none⟩, ⟨some 4, .mv (.c (.bool false)), none⟩]) (.seq (.reg false [⟨some 9, .ld 2 (.t 2), none⟩, ⟨some 10, .mv (.t 1), none⟩, ⟨some 11, .call (.f 101) [(.t 9), (.t 10)], none⟩, ⟨some 8, .mv (.t 11), none⟩, ⟨some 12, .ext (.t 8) 0, none⟩, ⟨some 13, .ext (.t 8) 1, none⟩, ⟨some 5, .mv (.t 12), none⟩, ⟨some 6, .mv (.t 13), none⟩]) (.seq (.seq (.reg false [⟨some 7, .mv (.c (.int .i64 0)), none⟩]) (.block 0 (.loop (.seq (.seq (.reg false [⟨some 14, .mv (.t 7), none⟩, ⟨some 15, .mv (.t 5), none⟩, ⟨some 16, .len (.t 15), none⟩, ⟨some 17, .bin .lss (.t 14) (.t 16), none⟩, ⟨some 18, .mv (.t 17), none⟩, ⟨some 19, .mv (.t 6), some (18, true)⟩, ⟨some 20, .pick (.t 18) (.t 19) (.c (.bool false)), none⟩]) (.cond (.t 20) .skip (.exit 0))) (.seq (.block 1 (.reg false [⟨some 23, .mv (.t 5), none⟩, ⟨some 24, .mv (.t 7), none⟩, ⟨some 25, .ia 2 (.t 23) (.t 24), none⟩, ⟨some 26, .fa 0 (.t 25), none⟩, ⟨some 27, .ld1 (.t 26), none⟩, ⟨some 28, .bin .geq (.t 27) (.c (.int .i64 0)), none⟩, ⟨some 6, .mv (.t 28), none⟩])) (.reg false [⟨some 21, .mv (.t 7), none⟩, ⟨some 22, .bin .add (.t 21) (.c (.int .i64 1)), none⟩, ⟨some 7, .mv (.t 22), none⟩])))))) (.seq (.reg false [⟨some 29, .mv (.t 6), none⟩, ⟨some 4, .mv (.t 29), none⟩]) .ret)))), 30, [(.t 4)]⟩
theorem k_spec_l02Feasible : compF Tryz.prog Tryz.f71 = some c_spec_l02Feasible := by kernel_rfl
def c_spec_FeasibleSets : F := ⟨(.seq (.reg false [⟨some 1, .box 30 (.t 0), none⟩, ⟨some 2, .mv (.c .nilsl), none⟩, ⟨some 3, .mv (.c (.int .i64 0)), none⟩]) (.seq (.seq (.reg false [⟨some 6, .ld 2 (.t 1), none⟩, ⟨some 7, .call (.f 30) [(.t 6)], none⟩, ⟨some 8, .un .not (.t 7), none⟩]) (.cond (.t 8) (.seq (.reg false [⟨some 2, .mv (.c .nilsl), none⟩, ⟨some 3, .mv (.c (.int .i64 1)), none⟩]) .ret) .skip)) (.seq (.reg false [⟨some 9, .lit 2 1 0 [(.int .i64 0)] [], none⟩, ⟨some 4, .mv (.t 9), none⟩]) (.seq (.seq (.reg false [⟨some 5, .mv (.c (.int .i64 0)), none⟩]) (.block 0 (.loop (.seq (.seq (.reg false [⟨some 10, .mv (.t 5), none⟩, ⟨some 11, .fa 1 (.t 1), none⟩, ⟨some 12, .ld1 (.t 11), none⟩, ⟨some 13, .len (.t 12), none⟩, ⟨some 14, .cvi .u64 (.t 13), none⟩, ⟨some 15, .bin .shl (.c (.int .i64 1)) (.t 14), none⟩, ⟨some 16, .bin .lss (.t 10) (.t 15), none⟩]) (.cond (.t 16) .skip (.exit 0))) (.seq (.block 1 (.seq (.reg false [⟨some 19, .ld 2 (.t 1), none⟩, ⟨some 20, .mv (.t 5), none⟩, ⟨some 21, .call (.f 71) [(.t 19), (.t 20)], none⟩]) (.cond (.t 21) (.reg false [⟨some 22, .mv (.t 4), none⟩, ⟨some 23, .mv (.t 5), none⟩, ⟨some 24, .lit 2 1 1 [(.int .i64 0)] [(0, (.t 23))], none⟩, ⟨some 25, .app 2 1 8 [(.int .i64 0)] (.t 22) (.t 24), none⟩, ⟨some 4, .mv (.t 25), none⟩]) .skip))) (.reg false [⟨some 17, .mv (.t 5), none⟩, ⟨some 18, .bin .add (.t 17) (.c (.int .i64 1)), none⟩, ⟨some 5, .mv (.t 18), none⟩])))))) (.seq (.reg false [⟨some 26, .mv (.t 4), none⟩, ⟨some 2, .mv (.t 26), none⟩, ⟨some 3, .mv (.c (.int .i64 0)), none⟩]) .ret))))), 27, [(.t 2), (.t 3)]⟩
theorem k_spec_FeasibleSets : compF Tryz.prog Tryz.f123 = some c_spec_FeasibleSets := by kernel_rfl

theorem red_sign {x d : Int} (hd : d ≠ 0) : (red x d).1.sign = (d.sign * x).sign := by
  simp only [red]
  have hg : 0 < (Int.gcd x d : Int) := by have := Int.gcd_pos_of_ne_zero_right x hd; omega
  have h2 : (Int.gcd x d : Int) ∣ x * d.sign := Int.dvd_trans (Int.gcd_dvd_left ..) (Int.dvd_mul_right ..)
  obtain ⟨c, hc⟩ := h2
  rw [hc, Int.mul_ediv_cancel_left _ (by omega), Int.mul_comm d.sign, hc, Int.sign_mul, Int.sign_eq_one_of_pos hg, Int.one_mul]
theorem ptF_sign {ll : List (List Int)} {q : List Int} {s : Int} {k : Nat} (hk : k < ll.length) (hd : dtS ll s ≠ 0) : ((ptF ll q s).getD k (0, 0)).1.sign = ((solL ll q s).getD k 0).sign := by
  rw [ptF, getD_map _ _ _ 0 _ (by rw [ptL_len]; exact hk), red_sign hd, solL, ptL, rowOf_get hk, rowOf_get hk]
theorem ptF_b {ll : List (List Int)} {q : List Int} {s : Int} {k : Nat} (hk : k < ll.length) (hp : isProb ll q = true) (hd : dtS ll s ≠ 0) : in64 ((ptF ll q s).getD k (0, 0)).1 := by
  rw [ptF, getD_map _ _ _ 0 _ (by rw [ptL_len]; exact hk), ptL, rowOf_get hk]
  have h1 := dtK_b hp s k
  simp only [red]
  have h3 : -60000000000 ≤ dtK ll q s k * (dtS ll s).sign ∧ dtK ll q s k * (dtS ll s).sign ≤ 60000000000 := by rw [Int.mul_comm]; exact sign_mul_b h1
  have hg : 0 < (Int.gcd (dtK ll q s k) (dtS ll s) : Int) := by have := Int.gcd_pos_of_ne_zero_right (dtK ll q s k) hd; omega
  unfold in64
  constructor
  · have := Int.le_ediv_of_mul_le (a := -60000000000) hg (b := dtK ll q s k * (dtS ll s).sign) (by have := Int.mul_le_mul_of_nonneg_left (show (1 : Int) ≤ (Int.gcd (dtK ll q s k) (dtS ll s) : Int) by omega) (show (0 : Int) ≤ 60000000000 by omega); omega)
    omega
  · have := Int.ediv_le_self (a := 60000000000) (Int.gcd (dtK ll q s k) (dtS ll s) : Int) (by omega)
    have h5 := Int.ediv_le_ediv hg h3.2
    omega
def feasT (l : List Int) : Bool := !(List.range l.length).any fun k => decide (l.getD k 0 < 0)
theorem feasT_iff (l : List Int) : feasT l = true ↔ ∀ k, k < l.length → 0 ≤ l.getD k 0 := by
  simp only [feasT, Bool.not_eq_true', List.any_eq_false, List.mem_range, decide_eq_true_eq]
  exact ⟨fun h k hk => by have := h k hk; omega, fun h k hk => by have := h k hk; omega⟩
section
variable {w : Bool} {lo hi : Nat} {h : AH} {v u : AV} {vs : List AV} {ll : List (List Int)} {q : List Int} {l : List Int}
theorem impl_isFeasible_1 (x : Int) (h : AH) (n : Nat) : Q Tryz.prog 108 [.int .i64 x] h n (.bool (decide (x < 0))) := by
  refine q_intro Tryz.func108 k_impl_isFeasible_1 ?_
  simp (maxSteps := 2000000) -implicitDefEqProofs (disch := omega) only [c_impl_isFeasible_1, xsW, xsC, xsD, xsE, fillA, reduceCtorEq, Nat.reduceAdd, Nat.reduceSub, Nat.reduceLeDiff, Nat.reduceMul, Int.reduceLT, Int.reduceLE, Int.reduceEq, Int.reduceNe, Int.reduceAdd, Int.reduceSub, Int.reduceMul, Int.reduceNeg, Int.reduceToNat]
theorem impl_isFeasible (s : Ints w lo hi h v l) (hl : l.length ≤ 1048576) (n : Nat) : Q Tryz.prog 79 [v] h n (.bool (feasT l)) := by
  refine q_intro Tryz.func79 k_impl_isFeasible ?_
  simp (maxSteps := 2000000) -implicitDefEqProofs (disch := omega) only [c_impl_isFeasible, xsW, xsC, xsD, xsE, fillA, reduceCtorEq, Nat.reduceAdd, Nat.reduceSub, Nat.reduceLeDiff, Nat.reduceMul, Int.reduceLT, Int.reduceLE, Int.reduceEq, Int.reduceNe, Int.reduceAdd, Int.reduceSub, Int.reduceMul, Int.reduceNeg, Int.reduceToNat]
  have hsl := s.slen
  refine q_use (has_ints s (by omega) _ _ (fun k => decide (l.getD k 0 < 0)) _ fun k n' hk _ => ?_) fun n1 hn1 => ?_
  · rw [ints_getD l k (by omega)]
    exact impl_isFeasible_1 _ _ _
  · simp (maxSteps := 2000000) -implicitDefEqProofs (disch := omega) only [xsW, xsC, xsD, xsE, fillA, reduceCtorEq, Nat.reduceAdd, Nat.reduceSub, Nat.reduceLeDiff, Nat.reduceMul, Int.reduceLT, Int.reduceLE, Int.reduceEq, Int.reduceNe, Int.reduceAdd, Int.reduceSub, Int.reduceMul, Int.reduceNeg, Int.reduceToNat]
    rw [hsl]; rfl
theorem impl_FeasibleSets (s : Prob w lo hi h v u vs ll q) (hl : ll.length ≤ 1048576) (hll : ∀ l ∈ ll, l.length ≤ 1048576) (hq : q.length ≤ 1048576) (n : Nat) (hn : hi ≤ n) :
    FQ Tryz.prog 46 [.agg [v, u]] h n fun x h' n' => ∃ v', x = .tup [v', .int .i64 (setsV ll q feasT).2] ∧ Ints true n n' h' v' (setsV ll q feasT).1 := by
  refine fq_intro Tryz.func46 k_impl_FeasibleSets ?_
  have o1 := one_any (Sl.any s.M.out)
  have o2 := one_any (Sl.any s.Q)
  simp (maxSteps := 2000000) -implicitDefEqProofs (disch := omega) only [c_impl_FeasibleSets, o1, o2, xsW, xsC, xsD, xsE, fillA, reduceCtorEq, Nat.reduceAdd, Nat.reduceSub, Nat.reduceLeDiff, Nat.reduceMul, Int.reduceLT, Int.reduceLE, Int.reduceEq, Int.reduceNe, Int.reduceAdd, Int.reduceSub, Int.reduceMul, Int.reduceNeg, Int.reduceToNat]
  refine fq_use (impl_sets (s.keep (fun i _ hi9 => by simp (disch := omega) only [upd_other])) hl hll hq _ feasT (fun l v' _ _ h' n' sl hl _ => impl_isFeasible sl (by omega) n') _ (by omega)) fun x1 h1 n1 hn1 hs1 ⟨v1, hx1, hv1⟩ => ?_
  subst hx1
  simp (maxSteps := 2000000) -implicitDefEqProofs (disch := omega) only [xsW, xsC, xsD, xsE, fillA, reduceCtorEq, Nat.reduceAdd, Nat.reduceSub, Nat.reduceLeDiff, Nat.reduceMul, Int.reduceLT, Int.reduceLE, Int.reduceEq, Int.reduceNe, Int.reduceAdd, Int.reduceSub, Int.reduceMul, Int.reduceNeg, Int.reduceToNat]
  intro _ h2 hh
  exact ⟨v1, rfl, (hv1.keep fun i a b => hh i (by omega) b).wide (by omega) (Nat.le_refl _)⟩
theorem spec_l02Feasible (s : Prob w lo hi h v u vs ll q) (hp : isProb ll q = true) (a : Nat) (n : Nat) (hn : hi ≤ n) :
    Q Tryz.prog 71 [.agg [v, u], .int .i64 a] h n (.bool (setP ll q feasT a)) := by
  refine q_intro Tryz.func71 k_spec_l02Feasible ?_
  have o1 := one_any (Sl.any s.M.out)
  have o2 := one_any (Sl.any s.Q)
  have hN := ((isMat_iff ll).1 (isProb_facts hp).1).2.1
  have hlen := solL_len ll q a
  simp (maxSteps := 2000000) -implicitDefEqProofs (disch := omega) only [c_spec_l02Feasible, o1, o2, xsW, xsC, xsD, xsE, fillA, reduceCtorEq, Nat.reduceAdd, Nat.reduceSub, Nat.reduceLeDiff, Nat.reduceMul, Int.reduceLT, Int.reduceLE, Int.reduceEq, Int.reduceNe, Int.reduceAdd, Int.reduceSub, Int.reduceMul, Int.reduceNeg, Int.reduceToNat]
  refine fq_use (spec_l01Point (s.keep (fun i _ hi9 => by simp (disch := omega) only [upd_other])) hp a _ (by omega)) fun x1 h1 n1 hn1 hs1 hx1 => ?_
  rcases hx1 with ⟨d1, rfl⟩ | ⟨d1, v1, rfl, hv1⟩
  · simp (maxSteps := 2000000) -implicitDefEqProofs (disch := omega) only [xsW, xsC, xsD, xsE, fillA, reduceCtorEq, Nat.reduceAdd, Nat.reduceSub, Nat.reduceLeDiff, Nat.reduceMul, Int.reduceLT, Int.reduceLE, Int.reduceEq, Int.reduceNe, Int.reduceAdd, Int.reduceSub, Int.reduceMul, Int.reduceNeg, Int.reduceToNat]
    refine loop_for 0 0 (fun k (_ : Unit) => [.agg [v, u], .int .i64 a, .ptr n 0, .any, .bool false, .nilsl, .bool false, .int .i64 k, .any, .any, .any, .any, .any, .any, .any, .any, .any, .any, .any, .any, .any, .any, .any, .any, .any, .any, .any, .any, .any, .any]) (fun _ _ => h1) (fun _ _ _ => True) () (Nat.zero_le _) trivial (by simp [LeL, Le1]) (fun _ _ h => h) ?_
    rintro k - m - hk hm -
    simp (maxSteps := 2000000) -implicitDefEqProofs (disch := omega) only [xsW, xsC, xsD, xsE, fillA, reduceCtorEq, Nat.reduceAdd, Nat.reduceSub, Nat.reduceLeDiff, Nat.reduceMul, Int.reduceLT, Int.reduceLE, Int.reduceEq, Int.reduceNe, Int.reduceAdd, Int.reduceSub, Int.reduceMul, Int.reduceNeg, Int.reduceToNat]
    have e : k = 0 := by omega
    subst e
    simp [setP, d1]
  · have hpl := ptF_len ll q a
    simp (maxSteps := 2000000) -implicitDefEqProofs (disch := omega) only [xsW, xsC, xsD, xsE, fillA, reduceCtorEq, Nat.reduceAdd, Nat.reduceSub, Nat.reduceLeDiff, Nat.reduceMul, Int.reduceLT, Int.reduceLE, Int.reduceEq, Int.reduceNe, Int.reduceAdd, Int.reduceSub, Int.reduceMul, Int.reduceNeg, Int.reduceToNat]
    refine loop_for ll.length 0 (fun k b => [.agg [v, u], .int .i64 a, .ptr n 0, .any, .bool false, v1, .bool b, .int .i64 k, .any, .any, .any, .any, .any, .any, .any, .any, .any, .any, .any, .any, .any, .any, .any, .any, .any, .any, .any, .any, .any, .any]) (fun _ _ => h1)
      (fun k b _ => (b = true → ∀ j, j < k → 0 ≤ (solL ll q a).getD j 0) ∧ (b = false → feasT (solL ll q a) = false)) true (Nat.zero_le _) ⟨fun _ j hj => absurd hj (Nat.not_lt_zero _), fun hb => by cases hb⟩ (by simp [LeL, Le1]) (fun _ _ h => h) ?_
    rintro k b m - hk hm ⟨hb1, hb2⟩
    have hb64 := fun k (hk : k < ll.length) => ptF_b (s := (a : Int)) hk hp d1
    simp (maxSteps := 2000000) -implicitDefEqProofs (disch := omega) only [xsW, xsC, xsD, xsE, fillA, reduceCtorEq, Nat.reduceAdd, Nat.reduceSub, Nat.reduceLeDiff, Nat.reduceMul, Int.reduceLT, Int.reduceLE, Int.reduceEq, Int.reduceNe, Int.reduceAdd, Int.reduceSub, Int.reduceMul, Int.reduceNeg, Int.reduceToNat,  hv1.ln, hpl]
    (refine gd_dec (fun c1 => ?_) (fun c1 => ?_) <;> simp (maxSteps := 2000000) -implicitDefEqProofs (disch := omega) only [xsW, xsC, xsD, xsE, fillA, reduceCtorEq, Nat.reduceAdd, Nat.reduceSub, Nat.reduceLeDiff, Nat.reduceMul, Int.reduceLT, Int.reduceLE, Int.reduceEq, Int.reduceNe, Int.reduceAdd, Int.reduceSub, Int.reduceMul, Int.reduceNeg, Int.reduceToNat,  c1])
    · have hk2 : k < ll.length := by omega
      have hsg := ptF_sign (q := q) (s := (a : Int)) hk2 d1
      cases b
      · simp (maxSteps := 2000000) -implicitDefEqProofs (disch := omega) only [xsW, xsC, xsD, xsE, fillA, reduceCtorEq, Nat.reduceAdd, Nat.reduceSub, Nat.reduceLeDiff, Nat.reduceMul, Int.reduceLT, Int.reduceLE, Int.reduceEq, Int.reduceNe, Int.reduceAdd, Int.reduceSub, Int.reduceMul, Int.reduceNeg, Int.reduceToNat]
        simp [setP, hb2 rfl]
      · simp (maxSteps := 2000000) -implicitDefEqProofs (disch := omega) only [xsW, xsC, xsD, xsE, fillA, reduceCtorEq, Nat.reduceAdd, Nat.reduceSub, Nat.reduceLeDiff, Nat.reduceMul, Int.reduceLT, Int.reduceLE, Int.reduceEq, Int.reduceNe, Int.reduceAdd, Int.reduceSub, Int.reduceMul, Int.reduceNeg, Int.reduceToNat,  hv1.ia, hv1.ldn, hpl]
        refine ⟨decide (0 ≤ ((ptF ll q a).getD k (0, 0)).1), ⟨fun hb j hj => ?_, fun hb => ?_⟩, by omega, by omega, (by simp [LeL, Le1])⟩
        · rcases Nat.lt_succ_iff_lt_or_eq.1 hj with hj | rfl
          · exact hb1 rfl j hj
          · have h0 := of_decide_eq_true hb
            rcases Int.lt_or_le ((solL ll q a).getD j 0) 0 with h9 | h9
            · rw [Int.sign_eq_neg_one_of_neg h9] at hsg
              have := Int.neg_of_sign_eq_neg_one hsg
              omega
            · exact h9
        · have h0 := of_decide_eq_false hb
          have h8 : (solL ll q a).getD k 0 < 0 := by
            rw [Int.sign_eq_neg_one_of_neg (by omega)] at hsg
            exact Int.neg_of_sign_eq_neg_one hsg.symm
          cases hf : feasT (solL ll q a)
          · rfl
          · have := (feasT_iff _).1 hf k (by omega)
            omega
    · have e : k = ll.length := by omega
      subst e
      cases b
      · simp [setP, hb2 rfl]
      · have : feasT (solL ll q a) = true := (feasT_iff _).2 fun j hj => hb1 rfl j (by omega)
        simp [setP, this, d1]
theorem spec_FeasibleSets (s : Prob w lo hi h v u vs ll q) (hl : ll.length ≤ 1048576) (hll : ∀ l ∈ ll, l.length ≤ 1048576) (hq : q.length ≤ 1048576) (n : Nat) (hn : hi ≤ n) :
    FQ Tryz.prog 123 [.agg [v, u]] h n fun x h' n' => ∃ v', x = .tup [v', .int .i64 (setsV ll q feasT).2] ∧ Ints true n n' h' v' (setsV ll q feasT).1 := by
  refine fq_intro Tryz.func123 k_spec_FeasibleSets ?_
  have o1 := one_any (Sl.any s.M.out)
  have o2 := one_any (Sl.any s.Q)
  simp (maxSteps := 2000000) -implicitDefEqProofs (disch := omega) only [c_spec_FeasibleSets, o1, o2, xsW, xsC, xsD, xsE, fillA, reduceCtorEq, Nat.reduceAdd, Nat.reduceSub, Nat.reduceLeDiff, Nat.reduceMul, Int.reduceLT, Int.reduceLE, Int.reduceEq, Int.reduceNe, Int.reduceAdd, Int.reduceSub, Int.reduceMul, Int.reduceNeg, Int.reduceToNat]
  refine q_use (spec_l01Is (s.keep (fun i _ hi9 => by simp (disch := omega) only [upd_other])) hl hll hq _ (by omega)) fun n1 hn1 => ?_
  cases hp : isProb ll q
  · simp (maxSteps := 2000000) -implicitDefEqProofs (disch := omega) only [xsW, xsC, xsD, xsE, fillA, reduceCtorEq, Nat.reduceAdd, Nat.reduceSub, Nat.reduceLeDiff, Nat.reduceMul, Int.reduceLT, Int.reduceLE, Int.reduceEq, Int.reduceNe, Int.reduceAdd, Int.reduceSub, Int.reduceMul, Int.reduceNeg, Int.reduceToNat]
    intro _ h2 _
    exact ⟨.nilsl, by simp [setsV, hp], by simp [setsV, hp]; exact Sl.nil⟩
  · obtain ⟨hm, hql, _⟩ := isProb_facts hp
    have hN := ((isMat_iff ll).1 hm).2.1
    have hpw := pw_le hN
    simp (maxSteps := 2000000) -implicitDefEqProofs (disch := omega) only [xsW, xsC, xsD, xsE, fillA, reduceCtorEq, Nat.reduceAdd, Nat.reduceSub, Nat.reduceLeDiff, Nat.reduceMul, Int.reduceLT, Int.reduceLE, Int.reduceEq, Int.reduceNe, Int.reduceAdd, Int.reduceSub, Int.reduceMul, Int.reduceNeg, Int.reduceToNat]
    refine loop_for (pw ll.length) 0 (fun k p => [.agg [v, u], .ptr n 0, .nilsl, .int .i64 0, p.1, .int .i64 k, .any, .any, .any, .any, .any, .any, .any, .any, .any, .any, .any, .any, .any, .any, .any, .any, .any, .any, .any, .any, .any]) (fun _ (p : AV × AH) => p.2)
      (fun k p m => Acc n1 m p.2 2 1 p.1 (ints (selL (setP ll q feasT) k)) ∧ n1 ≤ m ∧ ∀ j, j < n1 → p.2 j = upd h n (some ⟨30, [v, u], true, 0⟩) j) (.sl n1 0 0 0, _) (Nat.zero_le _) ⟨Acc.empty (upd_same _ _ _) rfl (Nat.le_refl _) (by omega), by omega, fun j hj => upd_other (by omega)⟩ (by simp [LeL, Le1]) (fun _ _ h => h) ?_
    rintro k ⟨out, hp'⟩ m - hk hm1 ⟨acc, hle, hold⟩
    simp only at acc hold
    have hbox : hp' n = some ⟨30, [v, u], true, 0⟩ := by rw [hold n (by omega), upd_same]
    simp (maxSteps := 2000000) -implicitDefEqProofs (disch := omega) only [xsW, xsC, xsD, xsE, fillA, reduceCtorEq, Nat.reduceAdd, Nat.reduceSub, Nat.reduceLeDiff, Nat.reduceMul, Int.reduceLT, Int.reduceLE, Int.reduceEq, Int.reduceNe, Int.reduceAdd, Int.reduceSub, Int.reduceMul, Int.reduceNeg, Int.reduceToNat,  hbox, s.Q.ln, hql, shl1]
    (refine cd_dec (fun c1 => ?_) (fun c1 => ?_) <;> simp (maxSteps := 2000000) -implicitDefEqProofs (disch := omega) only [xsW, xsC, xsD, xsE, fillA, reduceCtorEq, Nat.reduceAdd, Nat.reduceSub, Nat.reduceLeDiff, Nat.reduceMul, Int.reduceLT, Int.reduceLE, Int.reduceEq, Int.reduceNe, Int.reduceAdd, Int.reduceSub, Int.reduceMul, Int.reduceNeg, Int.reduceToNat,  c1])
    · have hsl := selL_len (setP ll q feasT) k
      simp (maxSteps := 2000000) -implicitDefEqProofs (disch := omega) only [xsW, xsC, xsD, xsE, fillA, reduceCtorEq, Nat.reduceAdd, Nat.reduceSub, Nat.reduceLeDiff, Nat.reduceMul, Int.reduceLT, Int.reduceLE, Int.reduceEq, Int.reduceNe, Int.reduceAdd, Int.reduceSub, Int.reduceMul, Int.reduceNeg, Int.reduceToNat,  hbox]
      refine q_use (spec_l02Feasible (s.keep (h' := hp') (fun i _ hi9 => by simp (disch := omega) only [upd_other, hold])) hp k m (by omega)) fun n2 hn2 => ?_
      have acc1 := acc.wide (Nat.le_refl _) (show m ≤ n2 by omega)
      cases hf : setP ll q feasT k
      · simp (maxSteps := 2000000) -implicitDefEqProofs (disch := omega) only [xsW, xsC, xsD, xsE, fillA, reduceCtorEq, Nat.reduceAdd, Nat.reduceSub, Nat.reduceLeDiff, Nat.reduceMul, Int.reduceLT, Int.reduceLE, Int.reduceEq, Int.reduceNe, Int.reduceAdd, Int.reduceSub, Int.reduceMul, Int.reduceNeg, Int.reduceToNat]
        exact ⟨(out, hp'), ⟨by rw [selL_f hf]; exact acc1, by omega, hold⟩, by omega, by omega, (by simp [LeL, Le1]), fun _ _ h => h⟩
      · simp (maxSteps := 2000000) -implicitDefEqProofs (disch := omega) only [xsW, xsC, xsD, xsE, fillA, reduceCtorEq, Nat.reduceAdd, Nat.reduceSub, Nat.reduceLeDiff, Nat.reduceMul, Int.reduceLT, Int.reduceLE, Int.reduceEq, Int.reduceNe, Int.reduceAdd, Int.reduceSub, Int.reduceMul, Int.reduceNeg, Int.reduceToNat]
        refine app_int (y := (k : Int)) (acc1.keep (fun i _ hi9 => by simp (disch := omega) only [upd_other]) |>.wide (Nat.le_refl _) (by omega)) (by omega) (by omega) ⟨rfl, _, upd_same _ _ _, by simp, by simp [cutA]⟩ (by omega) fun v' h' n' q1 q2 q3 => ?_
        simp (maxSteps := 2000000) -implicitDefEqProofs (disch := omega) only [xsW, xsC, xsD, xsE, fillA, reduceCtorEq, Nat.reduceAdd, Nat.reduceSub, Nat.reduceLeDiff, Nat.reduceMul, Int.reduceLT, Int.reduceLE, Int.reduceEq, Int.reduceNe, Int.reduceAdd, Int.reduceSub, Int.reduceMul, Int.reduceNeg, Int.reduceToNat]
        exact ⟨(v', h'), ⟨by rw [selL_t hf]; exact q2, by omega, fun j hj => (q3 j hj).trans (by rw [upd_other (by omega), hold j hj])⟩, by omega, by omega, (by simp [LeL, Le1]), fun _ _ h => h⟩
    · have e : k = pw ll.length := by omega
      subst e
      intro _ h2 hh
      exact ⟨out, by simp [setsV, hp], by simp only [setsV, hp, if_true]; exact (Acc.sl (acc.keep fun i a b => hh i (by omega) b)).wide (by omega) (Nat.le_refl _)⟩
end
end Go.Proofs.YtkpibnhddhdooadGreat.L
