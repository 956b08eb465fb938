/- Contracts: the point of a set. -/
import Derived.Test.YtkpibnhddhdooabA2
import Derived.Test.YtkpibnhddhdooabA24
import Derived.Test.YtkpibnhddhdooabL20
namespace Go.Proofs.Ytkpibnhddhdooab.L
open Go
set_option linter.unusedSimpArgs false
set_option linter.unusedVariables false
def c_impl_Problem_solve : F := ⟨(.seq (.reg false [⟨(some 3), (.box 31 (.t 0)), none⟩, ⟨(some 6), (.mv (.c .nilsl)), none⟩, ⟨(some 7), (.mv (.c (.int .i64 0))), none⟩, ⟨(some 8), (.mv (.c (.bool false))), none⟩]) (.seq (.reg false [⟨(some 14), (.ld 2 (.t 3)), none⟩, ⟨(some 15), (.mv (.t 1)), none⟩, ⟨(some 16), (.call (.f 114) [(.t 14), (.t 15)]), none⟩, ⟨(some 9), (.mv (.t 16)), none⟩]) (.seq (.reg false [⟨(some 17), (.mv (.t 9)), none⟩, ⟨(some 18), (.call (.f 115) [(.t 17)]), none⟩, ⟨(some 10), (.mv (.t 18)), none⟩]) (.seq (.seq (.reg false [⟨(some 19), (.mv (.t 10)), none⟩, ⟨(some 20), (.bin .eql (.t 19) (.c (.int .i64 0))), none⟩]) (.cond (.t 20) (.seq (.reg false [⟨(some 6), (.mv (.c .nilsl)), none⟩, ⟨(some 7), (.mv (.c (.int .i64 0))), none⟩, ⟨(some 8), (.mv (.c (.bool false))), none⟩]) .ret) .skip)) (.seq (.reg false [⟨(some 21), (.mv (.t 2)), none⟩, ⟨(some 22), (.len (.t 21)), none⟩, ⟨(some 23), (.mks 2 1 [(.int .i64 0)] (.t 22) (.t 22)), none⟩, ⟨(some 11), (.mv (.t 23)), none⟩]) (.seq (.seq (.reg false [⟨(some 24), (.mv (.t 11)), none⟩, ⟨(some 25), (.len (.t 24)), none⟩, ⟨(some 26), (.mv (.c (.int .i64 0))), none⟩]) (.block 0 (.loop (.seq (.reg false [⟨(some 27), (.bin .lss (.t 26) (.t 25)), none⟩]) (.seq (.cond (.t 27) .skip (.exit 0)) (.seq (.block 1 (.seq (.reg false [⟨(some 28), (.mv (.t 26)), none⟩, ⟨(some 12), (.mv (.t 28)), none⟩]) (.seq (.reg false [⟨(some 29), (.mv (.t 9)), none⟩, ⟨(some 30), (.call (.f 116) [(.t 29)]), none⟩, ⟨(some 13), (.mv (.t 30)), none⟩]) (.seq (.reg false [⟨(some 31), (.mv (.t 13)), none⟩, ⟨(some 32), (.mv (.t 12)), none⟩, ⟨(some 33), (.mv (.t 2)), none⟩, ⟨(some 34), (.call (.f 117) [(.t 31), (.t 32), (.t 33)]), none⟩]) (.reg false [⟨(some 35), (.mv (.t 11)), none⟩, ⟨(some 36), (.mv (.t 12)), none⟩, ⟨(some 37), (.mv (.t 10)), none⟩, ⟨(some 38), (.call (.f 111) [(.t 37)]), none⟩, ⟨(some 39), (.mv (.t 13)), none⟩, ⟨(some 40), (.call (.f 115) [(.t 39)]), none⟩, ⟨(some 41), (.bin .mul (.t 38) (.t 40)), none⟩, ⟨(some 42), (.ia 1 (.t 35) (.t 36)), none⟩, ⟨none, (.st 1 (.t 42) (.t 41)), none⟩]))))) (.reg false [⟨(some 43), (.bin .add (.t 26) (.c (.int .i64 1))), none⟩, ⟨(some 26), (.mv (.t 43)), none⟩]))))))) (.seq (.reg false [⟨(some 44), (.mv (.t 11)), none⟩, ⟨(some 45), (.mv (.t 10)), none⟩, ⟨(some 46), (.call (.f 118) [(.t 45)]), none⟩, ⟨(some 6), (.mv (.t 44)), none⟩, ⟨(some 7), (.mv (.t 46)), none⟩, ⟨(some 8), (.mv (.c (.bool true))), none⟩]) .ret))))))), 47, [(.t 6), (.t 7), (.t 8)]⟩
theorem k_impl_Problem_solve : compF Try.prog Try.f80 = some c_impl_Problem_solve := by kernel_rfl
def c_impl_Problem_point : F := ⟨(.seq (.reg false [⟨(some 2), (.box 31 (.t 0)), none⟩, ⟨(some 4), (.mv (.c .nilsl)), none⟩, ⟨(some 5), (.mv (.c (.int .i64 0))), none⟩, ⟨(some 6), (.mv (.c (.bool false))), none⟩]) (.seq (.reg false [⟨(some 7), (.ld 2 (.t 2)), none⟩, ⟨(some 8), (.mv (.t 1)), none⟩, ⟨(some 9), (.fa 1 (.t 2)), none⟩, ⟨(some 10), (.ld1 (.t 9)), none⟩, ⟨(some 11), (.call (.f 80) [(.t 7), (.t 8), (.t 10)]), none⟩, ⟨(some 12), (.ext (.t 11) 0), none⟩, ⟨(some 13), (.ext (.t 11) 1), none⟩, ⟨(some 14), (.ext (.t 11) 2), none⟩, ⟨(some 4), (.mv (.t 12)), none⟩, ⟨(some 5), (.mv (.t 13)), none⟩, ⟨(some 6), (.mv (.t 14)), none⟩]) .ret)), 15, [(.t 4), (.t 5), (.t 6)]⟩
theorem k_impl_Problem_point : compF Try.prog Try.f66 = some c_impl_Problem_point := by kernel_rfl
def c_spec_l01Solve : F := ⟨(.seq (.reg false [⟨(some 4), (.mv (.c .nilsl)), none⟩, ⟨(some 5), (.mv (.c (.int .i64 0))), none⟩]) (.seq (.reg false [⟨(some 11), (.lit 2 1 0 [(.int .i64 0)] []), none⟩, ⟨(some 6), (.mv (.t 11)), none⟩]) (.seq (.seq (.reg false [⟨(some 7), (.mv (.c (.int .i64 0))), none⟩]) (.block 0 (.loop (.seq (.seq (.reg false [⟨(some 12), (.mv (.t 7)), none⟩, ⟨(some 13), (.mv (.t 0)), none⟩, ⟨(some 14), (.len (.t 13)), none⟩, ⟨(some 15), (.bin .lss (.t 12) (.t 14)), none⟩]) (.cond (.t 15) .skip (.exit 0))) (.seq (.block 1 (.seq (.reg false [⟨(some 18), (.lit 23 1 0 [.nilsl] []), none⟩, ⟨(some 8), (.mv (.t 18)), none⟩]) (.seq (.seq (.reg false [⟨(some 9), (.mv (.c (.int .i64 0))), none⟩]) (.block 2 (.loop (.seq (.seq (.reg false [⟨(some 19), (.mv (.t 9)), none⟩, ⟨(some 20), (.mv (.t 0)), none⟩, ⟨(some 21), (.len (.t 20)), none⟩, ⟨(some 22), (.bin .lss (.t 19) (.t 21)), none⟩]) (.cond (.t 22) .skip (.exit 2))) (.seq (.block 3 (.seq (.reg false [⟨(some 25), (.mv (.t 0)), none⟩, ⟨(some 26), (.mv (.t 9)), none⟩, ⟨(some 27), (.ia 1 (.t 25) (.t 26)), none⟩, ⟨(some 28), (.ld1 (.t 27)), none⟩, ⟨(some 29), (.call (.f 144) [(.t 28)]), none⟩, ⟨(some 10), (.mv (.t 29)), none⟩]) (.seq (.reg false [⟨(some 30), (.mv (.t 10)), none⟩, ⟨(some 31), (.mv (.t 7)), none⟩, ⟨(some 32), (.mv (.t 1)), none⟩, ⟨(some 33), (.mv (.t 9)), none⟩, ⟨(some 34), (.ia 1 (.t 32) (.t 33)), none⟩, ⟨(some 35), (.ld1 (.t 34)), none⟩, ⟨(some 36), (.ia 1 (.t 30) (.t 31)), none⟩, ⟨none, (.st 1 (.t 36) (.t 35)), none⟩]) (.reg false [⟨(some 37), (.mv (.t 8)), none⟩, ⟨(some 38), (.mv (.t 10)), none⟩, ⟨(some 39), (.lit 23 1 1 [.nilsl] [(0, (.t 38))]), none⟩, ⟨(some 40), (.app 23 1 24 [.nilsl] (.t 37) (.t 39)), none⟩, ⟨(some 8), (.mv (.t 40)), none⟩])))) (.reg false [⟨(some 23), (.mv (.t 9)), none⟩, ⟨(some 24), (.bin .add (.t 23) (.c (.int .i64 1))), none⟩, ⟨(some 9), (.mv (.t 24)), none⟩])))))) (.reg false [⟨(some 41), (.mv (.t 6)), none⟩, ⟨(some 42), (.mv (.t 8)), none⟩, ⟨(some 43), (.call (.f 109) [(.t 42)]), none⟩, ⟨(some 44), (.lit 2 1 1 [(.int .i64 0)] [(0, (.t 43))]), none⟩, ⟨(some 45), (.app 2 1 8 [(.int .i64 0)] (.t 41) (.t 44)), none⟩, ⟨(some 6), (.mv (.t 45)), none⟩])))) (.reg false [⟨(some 16), (.mv (.t 7)), none⟩, ⟨(some 17), (.bin .add (.t 16) (.c (.int .i64 1))), none⟩, ⟨(some 7), (.mv (.t 17)), none⟩])))))) (.seq (.reg false [⟨(some 46), (.mv (.t 6)), none⟩, ⟨(some 47), (.mv (.t 0)), none⟩, ⟨(some 48), (.call (.f 109) [(.t 47)]), none⟩, ⟨(some 4), (.mv (.t 46)), none⟩, ⟨(some 5), (.mv (.t 48)), none⟩]) .ret)))), 49, [(.t 4), (.t 5)]⟩
theorem k_spec_l01Solve : compF Try.prog Try.f112 = some c_spec_l01Solve := by kernel_rfl
def c_spec_l01Point : F := ⟨(.seq (.reg false [⟨(some 2), (.box 31 (.t 0)), none⟩, ⟨(some 4), (.mv (.c .nilsl)), none⟩, ⟨(some 5), (.mv (.c (.bool false))), none⟩]) (.seq (.reg true [⟨(some 11), (.fa 0 (.t 2)), none⟩, ⟨(some 12), (.ld1 (.t 11)), none⟩, ⟨(some 13), (.mv (.t 1)), none⟩, ⟨(some 15), (.fa 1 (.t 2)), none⟩, ⟨(some 16), (.ld1 (.t 15)), none⟩, ⟨(some 14), (.call (.f 110) [(.t 12), (.t 13)]), none⟩, ⟨(some 17), (.call (.f 112) [(.t 14), (.t 16)]), none⟩, ⟨(some 10), (.mv (.t 17)), none⟩, ⟨(some 18), (.ext (.t 10) 0), none⟩, ⟨(some 19), (.ext (.t 10) 1), none⟩, ⟨(some 6), (.mv (.t 18)), none⟩, ⟨(some 7), (.mv (.t 19)), none⟩]) (.seq (.seq (.reg false [⟨(some 20), (.mv (.t 7)), none⟩, ⟨(some 21), (.bin .eql (.t 20) (.c (.int .i64 0))), none⟩]) (.cond (.t 21) (.seq (.reg false [⟨(some 4), (.mv (.c .nilsl)), none⟩, ⟨(some 5), (.mv (.c (.bool false))), none⟩]) .ret) .skip)) (.seq (.reg false [⟨(some 22), (.lit 60 2 0 [(.int .i64 0), (.int .i64 0)] []), none⟩, ⟨(some 8), (.mv (.t 22)), none⟩]) (.seq (.seq (.reg false [⟨(some 9), (.mv (.c (.int .i64 0))), none⟩]) (.block 0 (.loop (.seq (.seq (.reg false [⟨(some 23), (.mv (.t 9)), none⟩, ⟨(some 24), (.mv (.t 6)), none⟩, ⟨(some 25), (.len (.t 24)), none⟩, ⟨(some 26), (.bin .lss (.t 23) (.t 25)), none⟩]) (.cond (.t 26) .skip (.exit 0))) (.seq (.block 1 (.reg false [⟨(some 29), (.mv (.t 8)), none⟩, ⟨(some 30), (.mv (.t 6)), none⟩, ⟨(some 31), (.mv (.t 9)), none⟩, ⟨(some 32), (.ia 1 (.t 30) (.t 31)), none⟩, ⟨(some 33), (.ld1 (.t 32)), none⟩, ⟨(some 34), (.mv (.t 7)), none⟩, ⟨(some 35), (.call (.f 88) [(.t 33), (.t 34)]), none⟩, ⟨(some 36), (.lit 60 2 1 [(.int .i64 0), (.int .i64 0)] [(0, (.t 35))]), none⟩, ⟨(some 37), (.app 60 2 16 [(.int .i64 0), (.int .i64 0)] (.t 29) (.t 36)), none⟩, ⟨(some 8), (.mv (.t 37)), none⟩])) (.reg false [⟨(some 27), (.mv (.t 9)), none⟩, ⟨(some 28), (.bin .add (.t 27) (.c (.int .i64 1))), none⟩, ⟨(some 9), (.mv (.t 28)), none⟩])))))) (.seq (.reg false [⟨(some 38), (.mv (.t 8)), none⟩, ⟨(some 4), (.mv (.t 38)), none⟩, ⟨(some 5), (.mv (.c (.bool true))), none⟩]) .ret)))))), 39, [(.t 4), (.t 5)]⟩
theorem k_spec_l01Point : compF Try.prog Try.f77 = some c_spec_l01Point := by kernel_rfl
def c_impl_allReduced : F := ⟨(.seq (.reg false [⟨(some 4), (.mv (.c .nilsl)), none⟩, ⟨(some 5), (.mv (.c (.int .i64 0))), none⟩]) (.seq (.reg false [⟨(some 6), (.mv (.c .nilsl)), none⟩]) (.seq (.seq (.reg false [⟨(some 11), (.mv (.t 0)), none⟩, ⟨(some 12), (.len (.t 11)), none⟩, ⟨(some 13), (.mv (.c (.int .i64 0))), none⟩]) (.block 0 (.loop (.seq (.reg false [⟨(some 14), (.bin .lss (.t 13) (.t 12)), none⟩]) (.seq (.cond (.t 14) .skip (.exit 0)) (.seq (.block 1 (.seq (.reg false [⟨(some 15), (.ia 1 (.t 11) (.t 13)), none⟩, ⟨(some 16), (.ld1 (.t 15)), none⟩, ⟨(some 8), (.mv (.t 16)), none⟩]) (.seq (.reg false [⟨(some 18), (.mv (.t 8)), none⟩, ⟨(some 19), (.mv (.t 1)), none⟩, ⟨(some 20), (.call (.f 105) [(.t 18), (.t 19)]), none⟩, ⟨(some 17), (.mv (.t 20)), none⟩, ⟨(some 21), (.ext (.t 17) 0), none⟩, ⟨(some 22), (.ext (.t 17) 1), none⟩, ⟨(some 9), (.alloc 60 [(.int .i64 0), (.int .i64 0)]), none⟩, ⟨none, (.st 2 (.t 9) (.t 21)), none⟩, ⟨(some 10), (.mv (.t 22)), none⟩]) (.seq (.seq (.reg false [⟨(some 23), (.mv (.t 10)), none⟩, ⟨(some 24), (.bin .neq (.t 23) (.c (.int .i64 0))), none⟩]) (.cond (.t 24) (.seq (.reg false [⟨(some 25), (.mv (.t 10)), none⟩, ⟨(some 4), (.mv (.c .nilsl)), none⟩, ⟨(some 5), (.mv (.t 25)), none⟩]) .ret) .skip)) (.reg false [⟨(some 26), (.mv (.t 6)), none⟩, ⟨(some 27), (.ld 2 (.t 9)), none⟩, ⟨(some 28), (.lit 60 2 1 [(.int .i64 0), (.int .i64 0)] [(0, (.t 27))]), none⟩, ⟨(some 29), (.app 60 2 16 [(.int .i64 0), (.int .i64 0)] (.t 26) (.t 28)), none⟩, ⟨(some 6), (.mv (.t 29)), none⟩]))))) (.reg false [⟨(some 30), (.bin .add (.t 13) (.c (.int .i64 1))), none⟩, ⟨(some 13), (.mv (.t 30)), none⟩]))))))) (.seq (.reg false [⟨(some 31), (.mv (.t 6)), none⟩, ⟨(some 4), (.mv (.t 31)), none⟩, ⟨(some 5), (.mv (.c (.int .i64 0))), none⟩]) .ret)))), 32, [(.t 4), (.t 5)]⟩
theorem k_impl_allReduced : compF Try.prog Try.f68 = some c_impl_allReduced := by kernel_rfl

theorem putL_at {ll : List (List Int)} {i : Nat} {c : List Int} {r k : Nat} (hr : r < ll.length) (hk : k < (ll.getD r []).length) : at2 (putL ll i c) r k = if i = k then c.getD r 0 else at2 ll r k := by
  unfold at2 putL
  rw [rowsOf_get hr, getD_set]
  by_cases e : i = k
  · rw [if_pos ⟨e, hk⟩, if_pos e]
  · rw [if_neg fun h => e h.1, if_neg e]
theorem putL_sq {n i : Nat} {ll : List (List Int)} {c : List Int} (h : Sq n ll) : Sq n (putL ll i c) := by
  refine ⟨by rw [putL, rowsOf_len, h.1], fun k hk => ?_⟩
  rw [putL, rowsOf_get (by rw [h.1]; exact hk), List.length_set, h.2 k hk]
/-- The determinant of the columns of a set, and with a column put in. -/
def dtS (ll : List (List Int)) (s : Int) : Int := det ll.length (mx (colsL ll s))
def dtK (ll : List (List Int)) (q : List Int) (s : Int) (k : Nat) : Int := det ll.length (mx (putL (colsL ll s) k q))
theorem putL_lim {ll : List (List Int)} {q : List Int} (hp : isProb ll q = true) (s : Int) (k : Nat) : Lim k ll.length (mx (putL (colsL ll s) k q)) := fun r c hr hc => by
  obtain ⟨hm, hq, hw⟩ := isProb_facts hp
  have h1 := colE_b hm s hr hc
  have h2 := (within_iff _ _).1 hw r (by omega)
  unfold mx
  rw [putL_at (by rw [(colsL_sq ll s).1]; exact hr) (by rw [(colsL_sq ll s).2 r hr]; exact hc), colsL_at hr hc]
  by_cases e : k = c
  · subst e; rw [if_pos rfl, if_pos rfl]; omega
  · rw [if_neg e, if_neg fun h => e h.symm]; omega
theorem dtS_b {ll : List (List Int)} {q : List Int} (hp : isProb ll q = true) (s : Int) : -60000000000 ≤ dtS ll s ∧ dtS ll s ≤ 60000000000 := by
  have hm := (isProb_facts hp).1
  exact det_small (colsL_lim hm s) ((isMat_iff ll).1 hm).2.1
theorem dtK_b {ll : List (List Int)} {q : List Int} (hp : isProb ll q = true) (s : Int) (k : Nat) : -60000000000 ≤ dtK ll q s k ∧ dtK ll q s k ≤ 60000000000 := by
  have hm := (isProb_facts hp).1
  exact det_small (putL_lim hp s k) ((isMat_iff ll).1 hm).2.1
def solL (ll : List (List Int)) (q : List Int) (s : Int) : List Int := rowOf ll.length fun k => (dtS ll s).sign * dtK ll q s k
def ptL (ll : List (List Int)) (q : List Int) (s : Int) : List Int := rowOf ll.length fun k => dtK ll q s k
def ptF (ll : List (List Int)) (q : List Int) (s : Int) : List (Int × Int) := (ptL ll q s).map fun x => red x (dtS ll s)
theorem solL_len (ll : List (List Int)) (q : List Int) (s : Int) : (solL ll q s).length = ll.length := rowOf_len _ _
theorem ptL_len (ll : List (List Int)) (q : List Int) (s : Int) : (ptL ll q s).length = ll.length := rowOf_len _ _
theorem ptF_len (ll : List (List Int)) (q : List Int) (s : Int) : (ptF ll q s).length = ll.length := by simp [ptF, ptL_len]
theorem sign_mul_b {a x B : Int} (h : -B ≤ x ∧ x ≤ B) : -B ≤ a.sign * x ∧ a.sign * x ≤ B := by
  rcases Int.lt_trichotomy a 0 with h' | h' | h'
  · rw [Int.sign_eq_neg_one_of_neg h']; omega
  · subst h'; simp; omega
  · rw [Int.sign_eq_one_of_pos h']; omega
theorem solL_b {ll : List (List Int)} {q : List Int} (hp : isProb ll q = true) (s : Int) {k : Nat} (hk : k < ll.length) : -60000000000 ≤ (solL ll q s).getD k 0 ∧ (solL ll q s).getD k 0 ≤ 60000000000 := by
  rw [solL, rowOf_get hk]
  exact sign_mul_b (dtK_b hp s k)
theorem red_sgn {x d : Int} (hd : d ≠ 0) : red (d.sign * x) d.natAbs = red x d := by
  have h1 : ((d.natAbs : Int)).sign = 1 := Int.sign_eq_one_of_pos (by omega)
  have h2 : (Int.gcd (d.sign * x) (d.natAbs : Int) : Nat) = Int.gcd x d := by
    rcases Int.lt_or_gt_of_ne hd with h | h
    · rw [Int.sign_eq_neg_one_of_neg h]; simp [Int.gcd]
    · rw [Int.sign_eq_one_of_pos h]; simp [Int.gcd]
  simp only [red, h1, h2, Int.mul_one, Int.natAbs_natCast]
  rw [Int.mul_comm]
section
variable {w : Bool} {lo hi : Nat} {h : AH} {v u : AV} {vs : List AV} {ll : List (List Int)} {q : List Int}
theorem impl_solve (s : Prob w lo hi h v u vs ll q) (hp : isProb ll q = true) (a : Int) (n : Nat) (hn : hi ≤ n) :
    FQ Try.prog 80 [.agg [v, u], .int .i64 a, u] h n fun x h' n' => (dtS ll a = 0 ∧ x = .tup [.nilsl, .int .i64 0, .bool false]) ∨ (dtS ll a ≠ 0 ∧ ∃ v', x = .tup [v', .int .i64 (dtS ll a).natAbs, .bool true] ∧ Ints true n n' h' v' (solL ll q a)) := by
  refine fq_intro Try.func80 k_impl_Problem_solve ?_
  obtain ⟨hm, hq, _⟩ := isProb_facts hp
  have hN := ((isMat_iff ll).1 hm).2.1
  have o1 := one_any (Sl.any s.M.out)
  have o2 := one_any (Sl.any s.Q)
  have hd := dtS_b hp a
  have hsq := colsL_sq ll a
  simp (maxSteps := 2000000) -implicitDefEqProofs (disch := omega) only [c_impl_Problem_solve, o1, o2, xsW, xsC, if_true, if_false, ite_true, ite_false, forall_const, ne_eq, beq_self_eq_true, bne_self_eq_false, imp_self, true_implies, false_implies, implies_true, evP, evE, ev, setD, Nat.reduceAdd, Nat.reduceSub, reduceCtorEq, fillA, cutA, Nat.reduceLeDiff, Nat.reduceMul, Int.reduceLT, Int.reduceLE, Int.reduceEq, Int.reduceNe, Int.reduceAdd, Int.reduceSub, Int.reduceMul, Int.reduceNeg, Int.reduceToNat]
  refine fq_use (impl_columns (s.keep (fun i _ hi9 => by simp (disch := omega) only [upd_other])) hp a _ (by omega)) fun v1 h1 n1 hn1 hs1 ⟨vs1, hv1⟩ => ?_
  simp (maxSteps := 2000000) -implicitDefEqProofs (disch := omega) only [xsW, xsC, if_true, if_false, ite_true, ite_false, forall_const, ne_eq, beq_self_eq_true, bne_self_eq_false, imp_self, true_implies, false_implies, implies_true, evP, evE, ev, setD, Nat.reduceAdd, Nat.reduceSub, reduceCtorEq, fillA, cutA, Nat.reduceLeDiff, Nat.reduceMul, Int.reduceLT, Int.reduceLE, Int.reduceEq, Int.reduceNe, Int.reduceAdd, Int.reduceSub, Int.reduceMul, Int.reduceNeg, Int.reduceToNat]
  refine q_use (impl_determinant _ hv1 hN hsq ⟨_, colsL_lim hm a⟩ n1 (Nat.le_refl _)) fun n2 hn2 => ?_
  rw [show det ll.length (mx (colsL ll a)) = dtS ll a from rfl]
  simp (maxSteps := 2000000) -implicitDefEqProofs (disch := omega) only [xsW, xsC, if_true, if_false, ite_true, ite_false, forall_const, ne_eq, beq_self_eq_true, bne_self_eq_false, imp_self, true_implies, false_implies, implies_true, evP, evE, ev, setD, Nat.reduceAdd, Nat.reduceSub, reduceCtorEq, fillA, cutA, Nat.reduceLeDiff, Nat.reduceMul, Int.reduceLT, Int.reduceLE, Int.reduceEq, Int.reduceNe, Int.reduceAdd, Int.reduceSub, Int.reduceMul, Int.reduceNeg, Int.reduceToNat]
  (refine cd_dec (fun c1 => ?_) (fun c1 => ?_) <;> simp (maxSteps := 2000000) -implicitDefEqProofs (disch := omega) only [xsW, xsC, if_true, if_false, ite_true, ite_false, forall_const, ne_eq, beq_self_eq_true, bne_self_eq_false, imp_self, true_implies, false_implies, implies_true, evP, evE, ev, setD, Nat.reduceAdd, Nat.reduceSub, reduceCtorEq, fillA, cutA, Nat.reduceLeDiff, Nat.reduceMul, Int.reduceLT, Int.reduceLE, Int.reduceEq, Int.reduceNe, Int.reduceAdd, Int.reduceSub, Int.reduceMul, Int.reduceNeg, Int.reduceToNat,  c1])
  · have s1 := s.keep (h' := h1) (fun i _ hi9 => by simp (disch := omega) only [upd_other, hs1])
    simp (maxSteps := 2000000) -implicitDefEqProofs (disch := omega) only [xsW, xsC, if_true, if_false, ite_true, ite_false, forall_const, ne_eq, beq_self_eq_true, bne_self_eq_false, imp_self, true_implies, false_implies, implies_true, evP, evE, ev, setD, Nat.reduceAdd, Nat.reduceSub, reduceCtorEq, fillA, cutA, Nat.reduceLeDiff, Nat.reduceMul, Int.reduceLT, Int.reduceLE, Int.reduceEq, Int.reduceNe, Int.reduceAdd, Int.reduceSub, Int.reduceMul, Int.reduceNeg, Int.reduceToNat,  s1.Q.ln, hq]
    have hlen := solL_len ll q a
    refine loop_for ll.length 0 (fun k _ => [.agg [v, u], .int .i64 a, u, .ptr n 0, .any, .any, .nilsl, .int .i64 0, .bool false, v1, .int .i64 (dtS ll a), .sl n2 0 ll.length ll.length, .any, .any, .any, .any, .any, .any, .any, .any, .any, .any, .any, .any, .sl n2 0 ll.length ll.length, .int .i64 ll.length, .int .i64 k, .any, .any, .any, .any, .any, .any, .any, .any, .any, .any, .any, .any, .any, .any, .any, .any, .any, .any, .any, .any]) (fun _ hp' => hp')
      (fun k hp' m => hp' n2 = some ⟨2, (ints (solL ll q a)).take k ++ List.replicate ((solL ll q a).length - k) (.int .i64 0), true, 0⟩ ∧ (∀ j, j < n2 → hp' j = h1 j)) (upd h1 n2 (some ⟨2, List.replicate ll.length (.int .i64 0), true, 0⟩)) (Nat.zero_le _) ⟨by rw [upd_same]; simp [hlen], fun j hj => upd_other (by omega)⟩ (by simp [LeL, Le1]) (fun _ _ h => h) ?_
    rintro k hp' m - hk hm1 ⟨g1, g2⟩
    simp (maxSteps := 2000000) -implicitDefEqProofs (disch := omega) only [xsW, xsC, if_true, if_false, ite_true, ite_false, forall_const, ne_eq, beq_self_eq_true, bne_self_eq_false, imp_self, true_implies, false_implies, implies_true, evP, evE, ev, setD, Nat.reduceAdd, Nat.reduceSub, reduceCtorEq, fillA, cutA, Nat.reduceLeDiff, Nat.reduceMul, Int.reduceLT, Int.reduceLE, Int.reduceEq, Int.reduceNe, Int.reduceAdd, Int.reduceSub, Int.reduceMul, Int.reduceNeg, Int.reduceToNat]
    (refine cd_dec (fun c2 => ?_) (fun c2 => ?_) <;> simp (maxSteps := 2000000) -implicitDefEqProofs (disch := omega) only [xsW, xsC, if_true, if_false, ite_true, ite_false, forall_const, ne_eq, beq_self_eq_true, bne_self_eq_false, imp_self, true_implies, false_implies, implies_true, evP, evE, ev, setD, Nat.reduceAdd, Nat.reduceSub, reduceCtorEq, fillA, cutA, Nat.reduceLeDiff, Nat.reduceMul, Int.reduceLT, Int.reduceLE, Int.reduceEq, Int.reduceNe, Int.reduceAdd, Int.reduceSub, Int.reduceMul, Int.reduceNeg, Int.reduceToNat,  c2])
    · have hk2 : k < ll.length := by omega
      refine fq_use (impl_copyRows (hv1.keep (h' := hp') (fun i _ hi9 => by simp (disch := omega) only [upd_other, g2])) (by rw [hsq.1]; omega) (fun l hl => by
        obtain ⟨j, hj, rfl⟩ := List.mem_iff_getElem.1 hl
        have := hsq.2 j (by rw [hsq.1] at hj; exact hj)
        simp [List.getD, hj] at this
        omega) m (by omega)) fun v3 h3 n3 hn3 hs3 ⟨vs3, hv3⟩ => ?_
      simp (maxSteps := 2000000) -implicitDefEqProofs (disch := omega) only [xsW, xsC, if_true, if_false, ite_true, ite_false, forall_const, ne_eq, beq_self_eq_true, bne_self_eq_false, imp_self, true_implies, false_implies, implies_true, evP, evE, ev, setD, Nat.reduceAdd, Nat.reduceSub, reduceCtorEq, fillA, cutA, Nat.reduceLeDiff, Nat.reduceMul, Int.reduceLT, Int.reduceLE, Int.reduceEq, Int.reduceNe, Int.reduceAdd, Int.reduceSub, Int.reduceMul, Int.reduceNeg, Int.reduceToNat]
      have sQ3 := s1.Q.keep (h' := h3) (fun i _ hi9 => by simp (disch := omega) only [upd_other, hs3, g2])
      refine mq_use (impl_put hv3 (by rw [hsq.1]; omega) sQ3 (by rw [hsq.1]; omega) (.inl (by omega)) k (fun r hr => by rw [hsq.1] at hr; rw [hsq.2 r hr]; exact hk2) n3 (by omega)) (fun i a b => .inl (by omega)) fun x4 h4 n4 hn4 ⟨hv4, hs4⟩ => ?_
      simp (maxSteps := 2000000) -implicitDefEqProofs (disch := omega) only [xsW, xsC, if_true, if_false, ite_true, ite_false, forall_const, ne_eq, beq_self_eq_true, bne_self_eq_false, imp_self, true_implies, false_implies, implies_true, evP, evE, ev, setD, Nat.reduceAdd, Nat.reduceSub, reduceCtorEq, fillA, cutA, Nat.reduceLeDiff, Nat.reduceMul, Int.reduceLT, Int.reduceLE, Int.reduceEq, Int.reduceNe, Int.reduceAdd, Int.reduceSub, Int.reduceMul, Int.reduceNeg, Int.reduceToNat]
      refine q_use (impl_sign _ _ _) fun n5 hn5 => ?_
      simp (maxSteps := 2000000) -implicitDefEqProofs (disch := omega) only [xsW, xsC, if_true, if_false, ite_true, ite_false, forall_const, ne_eq, beq_self_eq_true, bne_self_eq_false, imp_self, true_implies, false_implies, implies_true, evP, evE, ev, setD, Nat.reduceAdd, Nat.reduceSub, reduceCtorEq, fillA, cutA, Nat.reduceLeDiff, Nat.reduceMul, Int.reduceLT, Int.reduceLE, Int.reduceEq, Int.reduceNe, Int.reduceAdd, Int.reduceSub, Int.reduceMul, Int.reduceNeg, Int.reduceToNat]
      refine q_use (impl_determinant _ hv4 hN (putL_sq hsq) ⟨_, putL_lim hp a k⟩ n5 (by omega)) fun n6 hn6 => ?_
      have e : (dtS ll a).sign * det ll.length (mx (putL (colsL ll a) k q)) = (solL ll q a).getD k 0 := by rw [solL, rowOf_get hk2]; rfl
      have eb := solL_b hp a hk2
      have g4 : h4 n2 = some ⟨2, (ints (solL ll q a)).take k ++ List.replicate ((solL ll q a).length - k) (.int .i64 0), true, 0⟩ := by rw [hs4 n2 (.inl (by omega)), hs3 n2 (by omega), g1]
      rw [hlen] at g4
      have fi := fill_ints (solL ll q a) (.int .i64 0) k (by omega)
      rw [hlen] at fi
      simp (maxSteps := 2000000) -implicitDefEqProofs (disch := omega) only [xsW, xsC, if_true, if_false, ite_true, ite_false, forall_const, ne_eq, beq_self_eq_true, bne_self_eq_false, imp_self, true_implies, false_implies, implies_true, evP, evE, ev, setD, Nat.reduceAdd, Nat.reduceSub, reduceCtorEq, fillA, cutA, Nat.reduceLeDiff, Nat.reduceMul, Int.reduceLT, Int.reduceLE, Int.reduceEq, Int.reduceNe, Int.reduceAdd, Int.reduceSub, Int.reduceMul, Int.reduceNeg, Int.reduceToNat,  e, g4, fi]
      refine ⟨by omega, _, ⟨by rw [upd_same, hlen], fun j hj => (upd_other (by omega)).trans ((hs4 j (.inl (by omega))).trans ((hs3 j (by omega)).trans (g2 j hj)))⟩, by omega, by omega, (by simp [LeL, Le1]), fun _ _ h => h⟩
    · have e : k = ll.length := by omega
      subst e
      refine q_use (impl_size _ (by unfold in64; omega) _ _) fun n3 hn3 => ?_
      simp (maxSteps := 2000000) -implicitDefEqProofs (disch := omega) only [xsW, xsC, if_true, if_false, ite_true, ite_false, forall_const, ne_eq, beq_self_eq_true, bne_self_eq_false, imp_self, true_implies, false_implies, implies_true, evP, evE, ev, setD, Nat.reduceAdd, Nat.reduceSub, reduceCtorEq, fillA, cutA, Nat.reduceLeDiff, Nat.reduceMul, Int.reduceLT, Int.reduceLE, Int.reduceEq, Int.reduceNe, Int.reduceAdd, Int.reduceSub, Int.reduceMul, Int.reduceNeg, Int.reduceToNat]
      intro _ h2 hh
      refine .inr ⟨_, rfl, Sl.of_sl (ty := 2) (op := 0) (cs := ints (solL ll q a)) ?_ (by simp [ints, hlen]) (Nat.le_refl _) (by omega) (by omega)⟩
      rw [hh n2 (by omega) (by omega), g1]
      simp [hlen, ints, List.take_of_length_le]
theorem impl_point (s : Prob w lo hi h v u vs ll q) (hp : isProb ll q = true) (a : Int) (n : Nat) (hn : hi ≤ n) :
    FQ Try.prog 66 [.agg [v, u], .int .i64 a] h n fun x h' n' => (dtS ll a = 0 ∧ x = .tup [.nilsl, .int .i64 0, .bool false]) ∨ (dtS ll a ≠ 0 ∧ ∃ v', x = .tup [v', .int .i64 (dtS ll a).natAbs, .bool true] ∧ Ints true n n' h' v' (solL ll q a)) := by
  refine fq_intro Try.func66 k_impl_Problem_point ?_
  have o1 := one_any (Sl.any s.M.out)
  have o2 := one_any (Sl.any s.Q)
  simp (maxSteps := 2000000) -implicitDefEqProofs (disch := omega) only [c_impl_Problem_point, o1, o2, xsW, xsC, if_true, if_false, ite_true, ite_false, forall_const, ne_eq, beq_self_eq_true, bne_self_eq_false, imp_self, true_implies, false_implies, implies_true, evP, evE, ev, setD, Nat.reduceAdd, Nat.reduceSub, reduceCtorEq, fillA, cutA, Nat.reduceLeDiff, Nat.reduceMul, Int.reduceLT, Int.reduceLE, Int.reduceEq, Int.reduceNe, Int.reduceAdd, Int.reduceSub, Int.reduceMul, Int.reduceNeg, Int.reduceToNat]
  refine fq_use (impl_solve (s.keep (fun i _ hi9 => by simp (disch := omega) only [upd_other])) hp a _ (by omega)) fun x1 h1 n1 hn1 hs1 hx1 => ?_
  rcases hx1 with ⟨c1, rfl⟩ | ⟨c1, v1, rfl, hv1⟩
  · simp (maxSteps := 2000000) -implicitDefEqProofs (disch := omega) only [xsW, xsC, if_true, if_false, ite_true, ite_false, forall_const, ne_eq, beq_self_eq_true, bne_self_eq_false, imp_self, true_implies, false_implies, implies_true, evP, evE, ev, setD, Nat.reduceAdd, Nat.reduceSub, reduceCtorEq, fillA, cutA, Nat.reduceLeDiff, Nat.reduceMul, Int.reduceLT, Int.reduceLE, Int.reduceEq, Int.reduceNe, Int.reduceAdd, Int.reduceSub, Int.reduceMul, Int.reduceNeg, Int.reduceToNat]
    intro _ h2 _
    first | exact .inl c1 | exact .inl ⟨c1, rfl⟩
  · simp (maxSteps := 2000000) -implicitDefEqProofs (disch := omega) only [xsW, xsC, if_true, if_false, ite_true, ite_false, forall_const, ne_eq, beq_self_eq_true, bne_self_eq_false, imp_self, true_implies, false_implies, implies_true, evP, evE, ev, setD, Nat.reduceAdd, Nat.reduceSub, reduceCtorEq, fillA, cutA, Nat.reduceLeDiff, Nat.reduceMul, Int.reduceLT, Int.reduceLE, Int.reduceEq, Int.reduceNe, Int.reduceAdd, Int.reduceSub, Int.reduceMul, Int.reduceNeg, Int.reduceToNat]
    intro _ h2 hh
    first | exact .inr ⟨c1, v1, rfl, (hv1.keep fun i a b => hh i (by omega) b).wide (by omega) (Nat.le_refl _)⟩ | exact .inr ⟨c1, v1, ⟨rfl, rfl⟩, (hv1.keep fun i a b => hh i (by omega) b).wide (by omega) (Nat.le_refl _)⟩
end
section
variable {w w' : Bool} {lo hi lo' hi' : Nat} {h : AH} {v u : AV} {vs : List AV} {ll : List (List Int)} {q : List Int}
theorem spec_l01Solve (sR : Rows w lo hi h v vs ll) (hN : ll.length ≤ 5) (hs : Sq ll.length ll) (hl : ∃ q', Lim q' ll.length (mx ll)) (qc : Ints w' lo' hi' h u q) (hq : q.length = ll.length) (hk : ∀ k, k < ll.length → ∃ q', Lim q' ll.length (mx (putL ll k q))) (n : Nat) (hn : hi ≤ n) (hn' : hi' ≤ n) :
    FQ Try.prog 112 [v, u] h n fun x h' n' => ∃ v', x = .tup [v', .int .i64 (det ll.length (mx ll))] ∧ Ints true n n' h' v' (rowOf ll.length fun k => det ll.length (mx (putL ll k q))) := by
  refine fq_intro Try.func112 k_spec_l01Solve ?_
  simp (maxSteps := 2000000) -implicitDefEqProofs (disch := omega) only [c_spec_l01Solve, xsW, xsC, if_true, if_false, ite_true, ite_false, forall_const, ne_eq, beq_self_eq_true, bne_self_eq_false, imp_self, true_implies, false_implies, implies_true, evP, evE, ev, setD, Nat.reduceAdd, Nat.reduceSub, reduceCtorEq, fillA, cutA, Nat.reduceLeDiff, Nat.reduceMul, Int.reduceLT, Int.reduceLE, Int.reduceEq, Int.reduceNe, Int.reduceAdd, Int.reduceSub, Int.reduceMul, Int.reduceNeg, Int.reduceToNat]
  refine loop_for ll.length 0 (fun k p => [v, u, .any, .any, .nilsl, .int .i64 0, p.1, .int .i64 k, .any, .any, .any, .any, .any, .any, .any, .any, .any, .any, .any, .any, .any, .any, .any, .any, .any, .any, .any, .any, .any, .any, .any, .any, .any, .any, .any, .any, .any, .any, .any, .any, .any, .any, .any, .any, .any, .any, .any, .any, .any]) (fun _ (p : AV × AH) => p.2)
    (fun k p m => Acc n m p.2 2 1 p.1 (ints (rowOf k fun k => det ll.length (mx (putL ll k q)))) ∧ n ≤ m ∧ ∀ j, j < n → p.2 j = h j) (.sl n 0 0 0, _) (Nat.zero_le _) ⟨Acc.empty (upd_same _ _ _) rfl (Nat.le_refl _) (by omega), by omega, fun j hj => upd_other (by omega)⟩ (by simp [LeL, Le1]) (fun _ _ h => h) ?_
  rintro k ⟨out, hp⟩ m - hk1 hm ⟨acc, hle, hold⟩
  simp only at acc hold
  simp (maxSteps := 2000000) -implicitDefEqProofs (disch := omega) only [xsW, xsC, if_true, if_false, ite_true, ite_false, forall_const, ne_eq, beq_self_eq_true, bne_self_eq_false, imp_self, true_implies, false_implies, implies_true, evP, evE, ev, setD, Nat.reduceAdd, Nat.reduceSub, reduceCtorEq, fillA, cutA, Nat.reduceLeDiff, Nat.reduceMul, Int.reduceLT, Int.reduceLE, Int.reduceEq, Int.reduceNe, Int.reduceAdd, Int.reduceSub, Int.reduceMul, Int.reduceNeg, Int.reduceToNat,  sR.ln]
  (refine cd_dec (fun c1 => ?_) (fun c1 => ?_) <;> simp (maxSteps := 2000000) -implicitDefEqProofs (disch := omega) only [xsW, xsC, if_true, if_false, ite_true, ite_false, forall_const, ne_eq, beq_self_eq_true, bne_self_eq_false, imp_self, true_implies, false_implies, implies_true, evP, evE, ev, setD, Nat.reduceAdd, Nat.reduceSub, reduceCtorEq, fillA, cutA, Nat.reduceLeDiff, Nat.reduceMul, Int.reduceLT, Int.reduceLE, Int.reduceEq, Int.reduceNe, Int.reduceAdd, Int.reduceSub, Int.reduceMul, Int.reduceNeg, Int.reduceToNat,  c1])
  · have hk2 : k < ll.length := by omega
    refine loop_for ll.length 0 (fun i p => [v, u, .any, .any, .nilsl, .int .i64 0, out, .int .i64 k, p.1, .int .i64 i, .any, .any, .any, .any, .any, .any, .any, .any, .any, .any, .any, .any, .any, .any, .any, .any, .any, .any, .any, .any, .any, .any, .any, .any, .any, .any, .any, .any, .any, .any, .any, .any, .any, .any, .any, .any, .any, .any, .any]) (fun _ (p : AV × List AV × AH) => p.2.2)
      (fun i p m' => Grow m m' hp p.2.2 23 p.1 p.2.1 (rowsOf i fun r => (ll.getD r []).set k (q.getD r 0))) (.sl m 0 0 0, [], _) (Nat.zero_le _) (Grow.start0 rfl) (by simp [LeL, Le1]) (fun _ _ h => h) ?_
    rintro i ⟨own, ws, hr⟩ mB - hi1 hm2 g
    simp only at g
    have hold2 := g.old
    simp (maxSteps := 2000000) -implicitDefEqProofs (disch := omega) only [xsW, xsC, if_true, if_false, ite_true, ite_false, forall_const, ne_eq, beq_self_eq_true, bne_self_eq_false, imp_self, true_implies, false_implies, implies_true, evP, evE, ev, setD, Nat.reduceAdd, Nat.reduceSub, reduceCtorEq, fillA, cutA, Nat.reduceLeDiff, Nat.reduceMul, Int.reduceLT, Int.reduceLE, Int.reduceEq, Int.reduceNe, Int.reduceAdd, Int.reduceSub, Int.reduceMul, Int.reduceNeg, Int.reduceToNat,  sR.ln]
    (refine cd_dec (fun c2 => ?_) (fun c2 => ?_) <;> simp (maxSteps := 2000000) -implicitDefEqProofs (disch := omega) only [xsW, xsC, if_true, if_false, ite_true, ite_false, forall_const, ne_eq, beq_self_eq_true, bne_self_eq_false, imp_self, true_implies, false_implies, implies_true, evP, evE, ev, setD, Nat.reduceAdd, Nat.reduceSub, reduceCtorEq, fillA, cutA, Nat.reduceLeDiff, Nat.reduceMul, Int.reduceLT, Int.reduceLE, Int.reduceEq, Int.reduceNe, Int.reduceAdd, Int.reduceSub, Int.reduceMul, Int.reduceNeg, Int.reduceToNat,  c2])
    · have hi2 : i < ll.length := by omega
      have hbl := sR.out.below (by rw [sR.slen]; omega)
      have hbq := Sl.below qc (by rw [qc.slen]; omega)
      have hri := sR.row i hi2
      have li := hs.2 i hi2
      simp (maxSteps := 2000000) -implicitDefEqProofs (disch := omega) only [xsW, xsC, if_true, if_false, ite_true, ite_false, forall_const, ne_eq, beq_self_eq_true, bne_self_eq_false, imp_self, true_implies, false_implies, implies_true, evP, evE, ev, setD, Nat.reduceAdd, Nat.reduceSub, reduceCtorEq, fillA, cutA, Nat.reduceLeDiff, Nat.reduceMul, Int.reduceLT, Int.reduceLE, Int.reduceEq, Int.reduceNe, Int.reduceAdd, Int.reduceSub, Int.reduceMul, Int.reduceNeg, Int.reduceToNat,  hold2, hold, sR.ia, sR.ld]
      refine fq_use (spec_l01OwnA (hri.keep (h' := hr) (fun i _ hi9 => by simp (disch := omega) only [upd_other, hold2, hold])) (by omega) mB (by omega)) fun v3 h3 n3 hn3 hs3 a3 => ?_
      have sO : Ints true mB n3 h3 v3 (ll.getD i []) := a3.sl
      have e1 := fun K => Ints.st sO (k := k) (x := q.getD i 0) (n0 := n) (n := n3) (W := none') (by omega) (fun i a b => .inl (by omega)) (by omega) K
      have sO2 := sO.wr (k := k) (by omega) (q.getD i 0)
      have o1 := one_any (Sl.any sO)
      have o2 := sto_any (Sl.any sO)
      have o3 := cel_any (Sl.any sO)
      have hown := Sl.own sO (Sl.isReal sO (slen_ne sO (by omega)).2)
      have hs5 : ∀ j, j < mB → wr h3 (bid v3) (boff v3 + k) (.int .i64 (q.getD i 0)) j = hr j := fun j hj => (wr_other (by omega)).trans (hs3 j hj)
      simp (maxSteps := 2000000) -implicitDefEqProofs (disch := omega) only [xsW, xsC, if_true, if_false, ite_true, ite_false, forall_const, ne_eq, beq_self_eq_true, bne_self_eq_false, imp_self, true_implies, false_implies, implies_true, evP, evE, ev, setD, Nat.reduceAdd, Nat.reduceSub, reduceCtorEq, fillA, cutA, Nat.reduceLeDiff, Nat.reduceMul, Int.reduceLT, Int.reduceLE, Int.reduceEq, Int.reduceNe, Int.reduceAdd, Int.reduceSub, Int.reduceMul, Int.reduceNeg, Int.reduceToNat,  hs3, hold2, hold, qc.ia, qc.ld, hq, sO.ia, e1, o1, o2, o3]
      refine g.app (hB := upd (wr h3 (bid v3) (boff v3 + k) (.int .i64 (q.getD i 0))) n3 _) (v1 := v3) (l := (ll.getD i []).set k (q.getD i 0)) (sO2.keep (fun i _ hi9 => by simp (disch := omega) only [upd_other])) (fun i hi9 => by simp (disch := omega) only [upd_other, hs5]) hn3 (by omega) (by omega) ⟨rfl, _, upd_same _ _ _, by simp, by simp [cutA]⟩ (by rw [rowsOf_len]; omega) fun out' h' n' q1 q2 => ?_
      simp (maxSteps := 2000000) -implicitDefEqProofs (disch := omega) only [xsW, xsC, if_true, if_false, ite_true, ite_false, forall_const, ne_eq, beq_self_eq_true, bne_self_eq_false, imp_self, true_implies, false_implies, implies_true, evP, evE, ev, setD, Nat.reduceAdd, Nat.reduceSub, reduceCtorEq, fillA, cutA, Nat.reduceLeDiff, Nat.reduceMul, Int.reduceLT, Int.reduceLE, Int.reduceEq, Int.reduceNe, Int.reduceAdd, Int.reduceSub, Int.reduceMul, Int.reduceNeg, Int.reduceToNat]
      exact ⟨(out', ws ++ [v3], h'), by rw [rowsOf_succ]; exact q2, by omega, by omega, (by simp [LeL, Le1]), fun _ _ h => h⟩
    · have e : i = ll.length := by omega
      subst e
      have hR := g.rowsOf (h2 := hr) fun _ _ _ => rfl
      refine q_use (spec_l01Det _ hR hN (putL_sq hs) (hk k hk2) mB (Nat.le_refl _)) fun n5 hn5 => ?_
      rw [show det ll.length (mx (rowsOf ll.length fun r => (ll.getD r []).set k (q.getD r 0))) = det ll.length (mx (putL ll k q)) from rfl]
      simp (maxSteps := 2000000) -implicitDefEqProofs (disch := omega) only [xsW, xsC, if_true, if_false, ite_true, ite_false, forall_const, ne_eq, beq_self_eq_true, bne_self_eq_false, imp_self, true_implies, false_implies, implies_true, evP, evE, ev, setD, Nat.reduceAdd, Nat.reduceSub, reduceCtorEq, fillA, cutA, Nat.reduceLeDiff, Nat.reduceMul, Int.reduceLT, Int.reduceLE, Int.reduceEq, Int.reduceNe, Int.reduceAdd, Int.reduceSub, Int.reduceMul, Int.reduceNeg, Int.reduceToNat]
      refine app_int (y := det ll.length (mx (putL ll k q))) ((acc.keep (h' := hr) (fun i _ hi9 => by simp (disch := omega) only [upd_other, hold2])).keep (fun i _ hi9 => by simp (disch := omega) only [upd_other]) |>.wide (Nat.le_refl _) (by omega)) (by omega) (by omega) ⟨rfl, _, upd_same _ _ _, by simp, by simp [cutA]⟩ (by rw [rowOf_len]; omega) fun v' h' n' q1 q2 q3 => ?_
      simp (maxSteps := 2000000) -implicitDefEqProofs (disch := omega) only [xsW, xsC, if_true, if_false, ite_true, ite_false, forall_const, ne_eq, beq_self_eq_true, bne_self_eq_false, imp_self, true_implies, false_implies, implies_true, evP, evE, ev, setD, Nat.reduceAdd, Nat.reduceSub, reduceCtorEq, fillA, cutA, Nat.reduceLeDiff, Nat.reduceMul, Int.reduceLT, Int.reduceLE, Int.reduceEq, Int.reduceNe, Int.reduceAdd, Int.reduceSub, Int.reduceMul, Int.reduceNeg, Int.reduceToNat]
      exact ⟨(v', h'), ⟨by rw [rowOf_succ]; exact q2, by omega, fun j hj => (q3 j hj).trans (by rw [upd_other (by omega), hold2 j (by omega), hold j hj])⟩, by omega, by omega, (by simp [LeL, Le1]), fun _ _ h => h⟩
  · have e : k = ll.length := by omega
    subst e
    refine q_use (spec_l01Det _ (sR.keep (h' := hp) (fun i _ hi9 => by simp (disch := omega) only [upd_other, hold])) hN hs hl m (by omega)) fun n5 hn5 => ?_
    simp (maxSteps := 2000000) -implicitDefEqProofs (disch := omega) only [xsW, xsC, if_true, if_false, ite_true, ite_false, forall_const, ne_eq, beq_self_eq_true, bne_self_eq_false, imp_self, true_implies, false_implies, implies_true, evP, evE, ev, setD, Nat.reduceAdd, Nat.reduceSub, reduceCtorEq, fillA, cutA, Nat.reduceLeDiff, Nat.reduceMul, Int.reduceLT, Int.reduceLE, Int.reduceEq, Int.reduceNe, Int.reduceAdd, Int.reduceSub, Int.reduceMul, Int.reduceNeg, Int.reduceToNat]
    intro _ h2 hh
    exact ⟨out, rfl, (acc.keep fun i a b => hh i a (by omega)).sl.wide (Nat.le_refl _) (by omega)⟩
theorem spec_l01Point (s : Prob w lo hi h v u vs ll q) (hp : isProb ll q = true) (a : Int) (n : Nat) (hn : hi ≤ n) :
    FQ Try.prog 77 [.agg [v, u], .int .i64 a] h n fun x h' n' => (dtS ll a = 0 ∧ x = .tup [.nilsl, .bool false]) ∨ (dtS ll a ≠ 0 ∧ ∃ v', x = .tup [v', .bool true] ∧ Fracs true n n' h' v' (ptF ll q a)) := by
  refine fq_intro Try.func77 k_spec_l01Point ?_
  obtain ⟨hm, hq, _⟩ := isProb_facts hp
  have hN := ((isMat_iff ll).1 hm).2.1
  have o1 := one_any (Sl.any s.M.out)
  have o2 := one_any (Sl.any s.Q)
  have hd := dtS_b hp a
  have hsq := colsL_sq ll a
  have hcl := hsq.1
  simp (maxSteps := 2000000) -implicitDefEqProofs (disch := omega) only [c_spec_l01Point, o1, o2, xsW, xsC, if_true, if_false, ite_true, ite_false, forall_const, ne_eq, beq_self_eq_true, bne_self_eq_false, imp_self, true_implies, false_implies, implies_true, evP, evE, ev, setD, Nat.reduceAdd, Nat.reduceSub, reduceCtorEq, fillA, cutA, Nat.reduceLeDiff, Nat.reduceMul, Int.reduceLT, Int.reduceLE, Int.reduceEq, Int.reduceNe, Int.reduceAdd, Int.reduceSub, Int.reduceMul, Int.reduceNeg, Int.reduceToNat]
  refine fq_use (spec_l01Columns (s.M.keep (fun i _ hi9 => by simp (disch := omega) only [upd_other])) hm a _ (by omega)) fun v1 h1 n1 hn1 hs1 ⟨vs1, hv1⟩ => ?_
  simp (maxSteps := 2000000) -implicitDefEqProofs (disch := omega) only [xsW, xsC, if_true, if_false, ite_true, ite_false, forall_const, ne_eq, beq_self_eq_true, bne_self_eq_false, imp_self, true_implies, false_implies, implies_true, evP, evE, ev, setD, Nat.reduceAdd, Nat.reduceSub, reduceCtorEq, fillA, cutA, Nat.reduceLeDiff, Nat.reduceMul, Int.reduceLT, Int.reduceLE, Int.reduceEq, Int.reduceNe, Int.reduceAdd, Int.reduceSub, Int.reduceMul, Int.reduceNeg, Int.reduceToNat]
  refine fq_use (spec_l01Solve hv1 (by omega) (by rw [hcl]; exact hsq) ⟨_, by rw [hcl]; exact colsL_lim hm a⟩ (s.Q.keep (h' := h1) (fun i _ hi9 => by simp (disch := omega) only [upd_other, hs1])) (by omega) (fun k hk => ⟨_, by rw [hcl]; exact putL_lim hp a k⟩) n1 (by omega) (by omega)) fun x2 h2 n2 hn2 hs2 ⟨v2, hx2, hv2⟩ => ?_
  subst hx2
  rw [hcl] at hv2 ⊢
  rw [show det ll.length (mx (colsL ll a)) = dtS ll a from rfl]
  have hv2 : Ints true n1 n2 h2 v2 (ptL ll q a) := hv2
  simp (maxSteps := 2000000) -implicitDefEqProofs (disch := omega) only [xsW, xsC, if_true, if_false, ite_true, ite_false, forall_const, ne_eq, beq_self_eq_true, bne_self_eq_false, imp_self, true_implies, false_implies, implies_true, evP, evE, ev, setD, Nat.reduceAdd, Nat.reduceSub, reduceCtorEq, fillA, cutA, Nat.reduceLeDiff, Nat.reduceMul, Int.reduceLT, Int.reduceLE, Int.reduceEq, Int.reduceNe, Int.reduceAdd, Int.reduceSub, Int.reduceMul, Int.reduceNeg, Int.reduceToNat]
  (refine cd_dec (fun c1 => ?_) (fun c1 => ?_) <;> simp (maxSteps := 2000000) -implicitDefEqProofs (disch := omega) only [xsW, xsC, if_true, if_false, ite_true, ite_false, forall_const, ne_eq, beq_self_eq_true, bne_self_eq_false, imp_self, true_implies, false_implies, implies_true, evP, evE, ev, setD, Nat.reduceAdd, Nat.reduceSub, reduceCtorEq, fillA, cutA, Nat.reduceLeDiff, Nat.reduceMul, Int.reduceLT, Int.reduceLE, Int.reduceEq, Int.reduceNe, Int.reduceAdd, Int.reduceSub, Int.reduceMul, Int.reduceNeg, Int.reduceToNat,  c1])
  · have hpl := ptL_len ll q a
    refine loop_for ll.length 0 (fun k p => [.agg [v, u], .int .i64 a, .ptr n 0, .any, .nilsl, .bool false, v2, .int .i64 (dtS ll a), p.1, .int .i64 k, .any, .any, .any, .any, .any, .any, .any, .any, .any, .any, .any, .any, .any, .any, .any, .any, .any, .any, .any, .any, .any, .any, .any, .any, .any, .any, .any, .any, .any]) (fun _ (p : AV × AH) => p.2)
      (fun k p m => Acc n2 m p.2 60 2 p.1 (fracs ((ptF ll q a).take k)) ∧ n2 ≤ m ∧ ∀ j, j < n2 → p.2 j = h2 j) (.sl n2 0 0 0, _) (Nat.zero_le _) ⟨Acc.empty (upd_same _ _ _) rfl (Nat.le_refl _) (by omega), by omega, fun j hj => upd_other (by omega)⟩ (by simp [LeL, Le1]) (fun _ _ h => h) ?_
    rintro k ⟨out, hp'⟩ m - hk1 hm1 ⟨acc, hle, hold⟩
    simp only at acc hold
    simp (maxSteps := 2000000) -implicitDefEqProofs (disch := omega) only [xsW, xsC, if_true, if_false, ite_true, ite_false, forall_const, ne_eq, beq_self_eq_true, bne_self_eq_false, imp_self, true_implies, false_implies, implies_true, evP, evE, ev, setD, Nat.reduceAdd, Nat.reduceSub, reduceCtorEq, fillA, cutA, Nat.reduceLeDiff, Nat.reduceMul, Int.reduceLT, Int.reduceLE, Int.reduceEq, Int.reduceNe, Int.reduceAdd, Int.reduceSub, Int.reduceMul, Int.reduceNeg, Int.reduceToNat,  hv2.ln, hpl]
    (refine cd_dec (fun c2 => ?_) (fun c2 => ?_) <;> simp (maxSteps := 2000000) -implicitDefEqProofs (disch := omega) only [xsW, xsC, if_true, if_false, ite_true, ite_false, forall_const, ne_eq, beq_self_eq_true, bne_self_eq_false, imp_self, true_implies, false_implies, implies_true, evP, evE, ev, setD, Nat.reduceAdd, Nat.reduceSub, reduceCtorEq, fillA, cutA, Nat.reduceLeDiff, Nat.reduceMul, Int.reduceLT, Int.reduceLE, Int.reduceEq, Int.reduceNe, Int.reduceAdd, Int.reduceSub, Int.reduceMul, Int.reduceNeg, Int.reduceToNat,  c2])
    · have hk2 : k < ll.length := by omega
      have hb2 := Sl.below hv2 (by rw [hv2.slen]; omega)
      have eb : (ptL ll q a).getD k 0 = dtK ll q a k := rowOf_get hk2
      have ebb := dtK_b hp a k
      have ef : (ptF ll q a).getD k (0, 0) = red (dtK ll q a k) (dtS ll a) := by
        rw [ptF, getD_map _ _ _ 0 _ (by omega), eb]
      simp (maxSteps := 2000000) -implicitDefEqProofs (disch := omega) only [xsW, xsC, if_true, if_false, ite_true, ite_false, forall_const, ne_eq, beq_self_eq_true, bne_self_eq_false, imp_self, true_implies, false_implies, implies_true, evP, evE, ev, setD, Nat.reduceAdd, Nat.reduceSub, reduceCtorEq, fillA, cutA, Nat.reduceLeDiff, Nat.reduceMul, Int.reduceLT, Int.reduceLE, Int.reduceEq, Int.reduceNe, Int.reduceAdd, Int.reduceSub, Int.reduceMul, Int.reduceNeg, Int.reduceToNat,  hold, hv2.ia, hv2.ld, hpl, eb]
      refine q_use (spec_l01Frac _ _ (by unfold in64; omega) (by unfold in64; omega) c1 _ _) fun n3 hn3 => ?_
      simp (maxSteps := 2000000) -implicitDefEqProofs (disch := omega) only [xsW, xsC, if_true, if_false, ite_true, ite_false, forall_const, ne_eq, beq_self_eq_true, bne_self_eq_false, imp_self, true_implies, false_implies, implies_true, evP, evE, ev, setD, Nat.reduceAdd, Nat.reduceSub, reduceCtorEq, fillA, cutA, Nat.reduceLeDiff, Nat.reduceMul, Int.reduceLT, Int.reduceLE, Int.reduceEq, Int.reduceNe, Int.reduceAdd, Int.reduceSub, Int.reduceMul, Int.reduceNeg, Int.reduceToNat,  fr]
      refine app_frac (p := (ptF ll q a).getD k (0, 0)) (acc.keep (fun i _ hi9 => by simp (disch := omega) only [upd_other]) |>.wide (Nat.le_refl _) (by omega)) (by omega) (by omega) ⟨rfl, _, upd_same _ _ _, by simp, by rw [ef]; simp [cutA]⟩ (by simp; omega) fun v' h' n' q1 q2 q3 => ?_
      simp (maxSteps := 2000000) -implicitDefEqProofs (disch := omega) only [xsW, xsC, if_true, if_false, ite_true, ite_false, forall_const, ne_eq, beq_self_eq_true, bne_self_eq_false, imp_self, true_implies, false_implies, implies_true, evP, evE, ev, setD, Nat.reduceAdd, Nat.reduceSub, reduceCtorEq, fillA, cutA, Nat.reduceLeDiff, Nat.reduceMul, Int.reduceLT, Int.reduceLE, Int.reduceEq, Int.reduceNe, Int.reduceAdd, Int.reduceSub, Int.reduceMul, Int.reduceNeg, Int.reduceToNat]
      exact ⟨(v', h'), ⟨by rw [take_succ_getD (d := (0, 0)) (by rw [ptF_len]; exact hk2)]; exact q2, by omega, fun j hj => (q3 j hj).trans (by rw [upd_other (by omega), hold j hj])⟩, by omega, by omega, (by simp [LeL, Le1]), fun _ _ h => h⟩
    · have e : k = ll.length := by omega
      rw [List.take_of_length_le (by rw [ptF_len]; omega)] at acc
      intro _ h3 hh
      exact .inr ⟨out, rfl, (Acc.sl (acc.keep fun i a b => hh i (by omega) b)).wide (by omega) (Nat.le_refl _)⟩
theorem impl_allReduced (sI : Ints w lo hi h v q) (hl : q.length ≤ 1048576) (hb : ∀ k, k < q.length → -1000000000000000000 ≤ q.getD k 0 ∧ q.getD k 0 ≤ 1000000000000000000) (d : Int) (hd : in64 d ∧ in64 (-d)) (h0 : d ≠ 0) (n : Nat) (hn : hi ≤ n) :
    FQ Try.prog 68 [v, .int .i64 d] h n fun x h' n' => ∃ v', x = .tup [v', .int .i64 (if ((q.map fun y => red y d).all fun p => isFr 1000000000 p.1 p.2) = true then 0 else 3)] ∧ Fracs true n n' h' v' (if ((q.map fun y => red y d).all fun p => isFr 1000000000 p.1 p.2) = true then q.map fun y => red y d else []) := by
  refine fq_intro Try.func68 k_impl_allReduced ?_
  simp (maxSteps := 2000000) -implicitDefEqProofs (disch := omega) only [c_impl_allReduced, sI.ln, xsW, xsC, if_true, if_false, ite_true, ite_false, forall_const, ne_eq, beq_self_eq_true, bne_self_eq_false, imp_self, true_implies, false_implies, implies_true, evP, evE, ev, setD, Nat.reduceAdd, Nat.reduceSub, reduceCtorEq, fillA, cutA, Nat.reduceLeDiff, Nat.reduceMul, Int.reduceLT, Int.reduceLE, Int.reduceEq, Int.reduceNe, Int.reduceAdd, Int.reduceSub, Int.reduceMul, Int.reduceNeg, Int.reduceToNat]
  refine loop_for q.length 0 (fun k p => [v, .int .i64 d, .any, .any, .nilsl, .int .i64 0, p.1, .any, .any, .any, .any, v, .int .i64 q.length, .int .i64 k, .any, .any, .any, .any, .any, .any, .any, .any, .any, .any, .any, .any, .any, .any, .any, .any, .any, .any]) (fun _ (p : AV × AH) => p.2)
    (fun k p m => Acc n m p.2 60 2 p.1 (fracs ((q.map fun y => red y d).take k)) ∧ n ≤ m ∧ (∀ j, j < n → p.2 j = h j) ∧ ∀ j, j < k → isFr 1000000000 (red (q.getD j 0) d).1 (red (q.getD j 0) d).2 = true) (.nilsl, h) (Nat.zero_le _) ⟨Acc.nil, by omega, fun _ _ => rfl, fun j hj => absurd hj (Nat.not_lt_zero _)⟩ (by simp [LeL, Le1]) (fun _ _ h => h) ?_
  rintro k ⟨out, hp'⟩ m - hk1 hm1 ⟨acc, hle, hold, hall⟩
  simp only at acc hold
  simp (maxSteps := 2000000) -implicitDefEqProofs (disch := omega) only [xsW, xsC, if_true, if_false, ite_true, ite_false, forall_const, ne_eq, beq_self_eq_true, bne_self_eq_false, imp_self, true_implies, false_implies, implies_true, evP, evE, ev, setD, Nat.reduceAdd, Nat.reduceSub, reduceCtorEq, fillA, cutA, Nat.reduceLeDiff, Nat.reduceMul, Int.reduceLT, Int.reduceLE, Int.reduceEq, Int.reduceNe, Int.reduceAdd, Int.reduceSub, Int.reduceMul, Int.reduceNeg, Int.reduceToNat]
  (refine cd_dec (fun c1 => ?_) (fun c1 => ?_) <;> simp (maxSteps := 2000000) -implicitDefEqProofs (disch := omega) only [xsW, xsC, if_true, if_false, ite_true, ite_false, forall_const, ne_eq, beq_self_eq_true, bne_self_eq_false, imp_self, true_implies, false_implies, implies_true, evP, evE, ev, setD, Nat.reduceAdd, Nat.reduceSub, reduceCtorEq, fillA, cutA, Nat.reduceLeDiff, Nat.reduceMul, Int.reduceLT, Int.reduceLE, Int.reduceEq, Int.reduceNe, Int.reduceAdd, Int.reduceSub, Int.reduceMul, Int.reduceNeg, Int.reduceToNat,  c1])
  · have hk2 : k < q.length := by omega
    have hb2 := Sl.below sI (by rw [sI.slen]; omega)
    have hbk := hb k hk2
    have ef : (q.map fun y => red y d).getD k (0, 0) = red (q.getD k 0) d := getD_map _ _ _ 0 _ hk2
    simp (maxSteps := 2000000) -implicitDefEqProofs (disch := omega) only [xsW, xsC, if_true, if_false, ite_true, ite_false, forall_const, ne_eq, beq_self_eq_true, bne_self_eq_false, imp_self, true_implies, false_implies, implies_true, evP, evE, ev, setD, Nat.reduceAdd, Nat.reduceSub, reduceCtorEq, fillA, cutA, Nat.reduceLeDiff, Nat.reduceMul, Int.reduceLT, Int.reduceLE, Int.reduceEq, Int.reduceNe, Int.reduceAdd, Int.reduceSub, Int.reduceMul, Int.reduceNeg, Int.reduceToNat,  hold, sI.ia, sI.ld]
    refine q_use (impl_reduced _ _ (by unfold in64; omega) hd h0 _ _) fun n3 hn3 => ?_
    cases hf : isFr 1000000000 (red (q.getD k 0) d).1 (red (q.getD k 0) d).2
    · rw [if_neg (show ¬ (false = true) by simp)]
      simp (maxSteps := 2000000) -implicitDefEqProofs (disch := omega) only [xsW, xsC, if_true, if_false, ite_true, ite_false, forall_const, ne_eq, beq_self_eq_true, bne_self_eq_false, imp_self, true_implies, false_implies, implies_true, evP, evE, ev, setD, Nat.reduceAdd, Nat.reduceSub, reduceCtorEq, fillA, cutA, Nat.reduceLeDiff, Nat.reduceMul, Int.reduceLT, Int.reduceLE, Int.reduceEq, Int.reduceNe, Int.reduceAdd, Int.reduceSub, Int.reduceMul, Int.reduceNeg, Int.reduceToNat,  fr]
      intro _ h2 _
      have hno : ¬ ((q.map fun y => red y d).all fun p => isFr 1000000000 p.1 p.2) = true := fun hx => by
        have := List.all_eq_true.1 hx _ (getD_mem (d := (0, 0)) (show k < (q.map fun y => red y d).length by simpa using hk2))
        rw [ef, hf] at this; cases this
      rw [if_neg hno, if_neg hno]
      exact ⟨.nilsl, by simp, Sl.nil⟩
    · rw [if_pos (show true = true from rfl)]
      simp (maxSteps := 2000000) -implicitDefEqProofs (disch := omega) only [xsW, xsC, if_true, if_false, ite_true, ite_false, forall_const, ne_eq, beq_self_eq_true, bne_self_eq_false, imp_self, true_implies, false_implies, implies_true, evP, evE, ev, setD, Nat.reduceAdd, Nat.reduceSub, reduceCtorEq, fillA, cutA, Nat.reduceLeDiff, Nat.reduceMul, Int.reduceLT, Int.reduceLE, Int.reduceEq, Int.reduceNe, Int.reduceAdd, Int.reduceSub, Int.reduceMul, Int.reduceNeg, Int.reduceToNat,  fr]
      refine app_frac (p := (q.map fun y => red y d).getD k (0, 0)) (acc.keep (fun i _ hi9 => by simp (disch := omega) only [upd_other]) |>.wide (Nat.le_refl _) (by omega)) (by omega) (by omega) ⟨rfl, _, upd_same _ _ _, by simp, by rw [ef]; simp [cutA]⟩ (by simp; omega) fun v' h' n' q1 q2 q3 => ?_
      simp (maxSteps := 2000000) -implicitDefEqProofs (disch := omega) only [xsW, xsC, if_true, if_false, ite_true, ite_false, forall_const, ne_eq, beq_self_eq_true, bne_self_eq_false, imp_self, true_implies, false_implies, implies_true, evP, evE, ev, setD, Nat.reduceAdd, Nat.reduceSub, reduceCtorEq, fillA, cutA, Nat.reduceLeDiff, Nat.reduceMul, Int.reduceLT, Int.reduceLE, Int.reduceEq, Int.reduceNe, Int.reduceAdd, Int.reduceSub, Int.reduceMul, Int.reduceNeg, Int.reduceToNat]
      exact ⟨(v', h'), ⟨by rw [take_succ_getD (d := (0, 0)) (by simpa using hk2)]; exact q2, by omega, fun j hj => (q3 j hj).trans (by rw [upd_other (by omega), upd_other (by omega), hold j hj]), fun j hj => (Nat.lt_succ_iff_lt_or_eq.1 hj).elim (hall j) (fun e => by rw [e]; exact hf)⟩, by omega, by omega, (by simp [LeL, Le1]), fun _ _ h => h⟩
  · have e : k = q.length := by omega
    rw [List.take_of_length_le (by simp; omega)] at acc
    have hyes : ((q.map fun y => red y d).all fun p => isFr 1000000000 p.1 p.2) = true := by
      rw [List.all_eq_true]
      intro p hp
      obtain ⟨j, hj, rfl⟩ := List.mem_iff_getElem.1 hp
      simp only [List.length_map] at hj
      have := hall j (by omega)
      simpa [List.getD, hj] using this
    intro _ h3 hh
    rw [if_pos hyes, if_pos hyes]
    exact ⟨out, by simp, Acc.sl (acc.keep fun i a b => hh i a b)⟩
end
end Go.Proofs.Ytkpibnhddhdooab.L
