/- Contracts: remainders; IsSolution, RemainderOf. -/
import Derived.Test.YtkpibnhddhdooabA9
import Derived.Test.YtkpibnhddhdooabA27
import Derived.Test.YtkpibnhddhdooabA34
namespace Go.Proofs.Ytkpibnhddhdooab.L
open Go
set_option linter.unusedSimpArgs false
set_option linter.unusedVariables false
def c_impl_Problem_rest : F := ⟨(.seq (.reg false [⟨(some 3), (.box 31 (.t 0)), none⟩, ⟨(some 6), (.mv (.c .nilsl)), none⟩]) (.seq (.reg false [⟨(some 10), (.mv (.t 1)), none⟩, ⟨(some 11), (.len (.t 10)), none⟩, ⟨(some 12), (.mks 2 1 [(.int .i64 0)] (.t 11) (.t 11)), none⟩, ⟨(some 7), (.mv (.t 12)), none⟩]) (.seq (.seq (.reg false [⟨(some 13), (.fa 0 (.t 3)), none⟩, ⟨(some 14), (.ld1 (.t 13)), none⟩, ⟨(some 15), (.len (.t 14)), none⟩, ⟨(some 16), (.mv (.c (.int .i64 0))), none⟩]) (.block 0 (.loop (.seq (.reg false [⟨(some 17), (.bin .lss (.t 16) (.t 15)), none⟩]) (.seq (.cond (.t 17) .skip (.exit 0)) (.seq (.block 1 (.seq (.reg false [⟨(some 18), (.mv (.t 16)), none⟩, ⟨(some 19), (.ia 1 (.t 14) (.t 16)), none⟩, ⟨(some 20), (.ld1 (.t 19)), none⟩, ⟨(some 8), (.mv (.t 18)), none⟩, ⟨(some 9), (.mv (.t 20)), none⟩]) (.reg true [⟨(some 21), (.mv (.t 7)), none⟩, ⟨(some 22), (.mv (.t 8)), none⟩, ⟨(some 23), (.fa 1 (.t 3)), none⟩, ⟨(some 24), (.ld1 (.t 23)), none⟩, ⟨(some 25), (.mv (.t 8)), none⟩, ⟨(some 26), (.ia 1 (.t 24) (.t 25)), none⟩, ⟨(some 27), (.ld1 (.t 26)), none⟩, ⟨(some 28), (.mv (.t 2)), none⟩, ⟨(some 29), (.bin .mul (.t 27) (.t 28)), none⟩, ⟨(some 30), (.mv (.t 9)), none⟩, ⟨(some 31), (.mv (.t 1)), none⟩, ⟨(some 32), (.call (.f 122) [(.t 30), (.t 31)]), none⟩, ⟨(some 33), (.bin .add (.t 29) (.t 32)), none⟩, ⟨(some 34), (.ia 1 (.t 21) (.t 22)), none⟩, ⟨none, (.st 1 (.t 34) (.t 33)), none⟩]))) (.reg false [⟨(some 35), (.bin .add (.t 16) (.c (.int .i64 1))), none⟩, ⟨(some 16), (.mv (.t 35)), none⟩]))))))) (.seq (.reg false [⟨(some 36), (.mv (.t 7)), none⟩, ⟨(some 6), (.mv (.t 36)), none⟩]) .ret)))), 37, [(.t 6)]⟩
theorem k_impl_Problem_rest : compF Try.prog Try.f83 = some c_impl_Problem_rest := by kernel_rfl
def c_spec_l01Remainder : F := ⟨(.seq (.reg false [⟨(some 3), (.box 31 (.t 0)), none⟩, ⟨(some 6), (.mv (.c .nilsl)), none⟩]) (.seq (.reg false [⟨(some 11), (.lit 2 1 0 [(.int .i64 0)] []), none⟩, ⟨(some 7), (.mv (.t 11)), none⟩]) (.seq (.seq (.reg false [⟨(some 8), (.mv (.c (.int .i64 0))), none⟩]) (.block 0 (.loop (.seq (.seq (.reg false [⟨(some 12), (.mv (.t 8)), none⟩, ⟨(some 13), (.fa 1 (.t 3)), none⟩, ⟨(some 14), (.ld1 (.t 13)), none⟩, ⟨(some 15), (.len (.t 14)), none⟩, ⟨(some 16), (.bin .lss (.t 12) (.t 15)), none⟩]) (.cond (.t 16) .skip (.exit 0))) (.seq (.block 1 (.seq (.reg false [⟨(some 19), (.fa 1 (.t 3)), none⟩, ⟨(some 20), (.ld1 (.t 19)), none⟩, ⟨(some 21), (.mv (.t 8)), none⟩, ⟨(some 22), (.ia 1 (.t 20) (.t 21)), none⟩, ⟨(some 23), (.ld1 (.t 22)), none⟩, ⟨(some 24), (.mv (.t 2)), none⟩, ⟨(some 25), (.bin .mul (.t 23) (.t 24)), none⟩, ⟨(some 9), (.mv (.t 25)), none⟩]) (.seq (.seq (.reg false [⟨(some 10), (.mv (.c (.int .i64 0))), none⟩]) (.block 2 (.loop (.seq (.seq (.reg false [⟨(some 26), (.mv (.t 10)), none⟩, ⟨(some 27), (.mv (.t 1)), none⟩, ⟨(some 28), (.len (.t 27)), none⟩, ⟨(some 29), (.bin .lss (.t 26) (.t 28)), none⟩]) (.cond (.t 29) .skip (.exit 2))) (.seq (.block 3 (.reg true [⟨(some 32), (.mv (.t 9)), none⟩, ⟨(some 33), (.fa 0 (.t 3)), none⟩, ⟨(some 34), (.ld1 (.t 33)), none⟩, ⟨(some 35), (.mv (.t 8)), none⟩, ⟨(some 36), (.ia 1 (.t 34) (.t 35)), none⟩, ⟨(some 37), (.ld1 (.t 36)), none⟩, ⟨(some 38), (.mv (.t 10)), none⟩, ⟨(some 39), (.ia 1 (.t 37) (.t 38)), none⟩, ⟨(some 40), (.ld1 (.t 39)), none⟩, ⟨(some 41), (.mv (.t 1)), none⟩, ⟨(some 42), (.mv (.t 10)), none⟩, ⟨(some 43), (.ia 1 (.t 41) (.t 42)), none⟩, ⟨(some 44), (.ld1 (.t 43)), none⟩, ⟨(some 45), (.bin .mul (.t 40) (.t 44)), none⟩, ⟨(some 46), (.bin .add (.t 32) (.t 45)), none⟩, ⟨(some 9), (.mv (.t 46)), none⟩])) (.reg false [⟨(some 30), (.mv (.t 10)), none⟩, ⟨(some 31), (.bin .add (.t 30) (.c (.int .i64 1))), none⟩, ⟨(some 10), (.mv (.t 31)), none⟩])))))) (.reg false [⟨(some 47), (.mv (.t 7)), none⟩, ⟨(some 48), (.mv (.t 9)), none⟩, ⟨(some 49), (.lit 2 1 1 [(.int .i64 0)] [(0, (.t 48))]), none⟩, ⟨(some 50), (.app 2 1 8 [(.int .i64 0)] (.t 47) (.t 49)), none⟩, ⟨(some 7), (.mv (.t 50)), none⟩])))) (.reg false [⟨(some 17), (.mv (.t 8)), none⟩, ⟨(some 18), (.bin .add (.t 17) (.c (.int .i64 1))), none⟩, ⟨(some 8), (.mv (.t 18)), none⟩])))))) (.seq (.reg false [⟨(some 51), (.mv (.t 7)), none⟩, ⟨(some 6), (.mv (.t 51)), none⟩]) .ret)))), 52, [(.t 6)]⟩
theorem k_spec_l01Remainder : compF Try.prog Try.f86 = some c_spec_l01Remainder := by kernel_rfl
def c_impl_IsSolution : F := ⟨(.seq (.reg false [⟨(some 2), (.box 31 (.t 0)), none⟩, ⟨(some 4), (.mv (.c (.bool false))), none⟩, ⟨(some 5), (.mv (.c (.int .i64 0))), none⟩]) (.seq (.seq (.reg false [⟨(some 12), (.ld 2 (.t 2)), none⟩, ⟨(some 13), (.mv (.t 1)), none⟩, ⟨(some 14), (.call (.f 81) [(.t 12), (.t 13)]), none⟩, ⟨(some 6), (.mv (.t 14)), none⟩]) (.seq (.reg false [⟨(some 15), (.mv (.t 6)), none⟩, ⟨(some 16), (.bin .neq (.t 15) (.c (.int .i64 0))), none⟩]) (.cond (.t 16) (.seq (.reg false [⟨(some 17), (.mv (.t 6)), none⟩, ⟨(some 4), (.mv (.c (.bool false))), none⟩, ⟨(some 5), (.mv (.t 17)), none⟩]) .ret) .skip))) (.seq (.reg false [⟨(some 19), (.mv (.t 1)), none⟩, ⟨(some 20), (.call (.f 82) [(.t 19), (.c (.int .i64 1000000000)), (.c (.int .i64 1000000000000))]), none⟩, ⟨(some 18), (.mv (.t 20)), none⟩, ⟨(some 21), (.ext (.t 18) 0), none⟩, ⟨(some 22), (.ext (.t 18) 1), none⟩, ⟨(some 23), (.ext (.t 18) 2), none⟩, ⟨(some 7), (.mv (.t 21)), none⟩, ⟨(some 8), (.mv (.t 22)), none⟩, ⟨(some 9), (.mv (.t 23)), none⟩]) (.seq (.seq (.reg false [⟨(some 24), (.mv (.t 9)), none⟩, ⟨(some 25), (.un .not (.t 24)), none⟩]) (.cond (.t 25) (.seq (.reg false [⟨(some 4), (.mv (.c (.bool false))), none⟩, ⟨(some 5), (.mv (.c (.int .i64 3))), none⟩]) .ret) .skip)) (.seq (.seq (.reg false [⟨(some 26), (.ld 2 (.t 2)), none⟩, ⟨(some 27), (.mv (.t 7)), none⟩, ⟨(some 28), (.mv (.t 8)), none⟩, ⟨(some 29), (.call (.f 83) [(.t 26), (.t 27), (.t 28)]), none⟩, ⟨(some 30), (.len (.t 29)), none⟩, ⟨(some 31), (.mv (.c (.int .i64 0))), none⟩]) (.block 0 (.loop (.seq (.reg false [⟨(some 32), (.bin .lss (.t 31) (.t 30)), none⟩]) (.seq (.cond (.t 32) .skip (.exit 0)) (.seq (.block 1 (.seq (.reg false [⟨(some 33), (.mv (.t 31)), none⟩, ⟨(some 34), (.ia 1 (.t 29) (.t 31)), none⟩, ⟨(some 35), (.ld1 (.t 34)), none⟩, ⟨(some 10), (.mv (.t 33)), none⟩, ⟨(some 11), (.mv (.t 35)), none⟩]) (.seq (.reg false [⟨(some 36), (.mv (.t 11)), none⟩, ⟨(some 37), (.bin .lss (.t 36) (.c (.int .i64 0))), none⟩, ⟨(some 38), (.mv (.t 37)), none⟩, ⟨(some 39), (.mv (.t 7)), (some (38, false))⟩, ⟨(some 40), (.mv (.t 10)), (some (38, false))⟩, ⟨(some 41), (.ia 1 (.t 39) (.t 40)), (some (38, false))⟩, ⟨(some 42), (.ld1 (.t 41)), (some (38, false))⟩, ⟨(some 43), (.bin .lss (.t 42) (.c (.int .i64 0))), (some (38, false))⟩, ⟨(some 44), (.pick (.t 38) (.c (.bool true)) (.t 43)), none⟩, ⟨(some 45), (.mv (.t 44)), none⟩, ⟨(some 46), (.mv (.t 11)), (some (45, false))⟩, ⟨(some 47), (.bin .gtr (.t 46) (.c (.int .i64 0))), (some (45, false))⟩, ⟨(some 48), (.mv (.t 47)), (some (45, false))⟩, ⟨(some 49), (.mv (.t 7)), (some (48, true))⟩, ⟨(some 50), (.mv (.t 10)), (some (48, true))⟩, ⟨(some 51), (.ia 1 (.t 49) (.t 50)), (some (48, true))⟩, ⟨(some 52), (.ld1 (.t 51)), (some (48, true))⟩, ⟨(some 53), (.bin .gtr (.t 52) (.c (.int .i64 0))), (some (48, true))⟩, ⟨(some 54), (.pick (.t 48) (.t 53) (.c (.bool false))), (some (45, false))⟩, ⟨(some 55), (.pick (.t 45) (.c (.bool true)) (.t 54)), none⟩]) (.cond (.t 55) (.seq (.reg false [⟨(some 4), (.mv (.c (.bool false))), none⟩, ⟨(some 5), (.mv (.c (.int .i64 0))), none⟩]) .ret) .skip)))) (.reg false [⟨(some 56), (.bin .add (.t 31) (.c (.int .i64 1))), none⟩, ⟨(some 31), (.mv (.t 56)), none⟩]))))))) (.seq (.reg false [⟨(some 4), (.mv (.c (.bool true))), none⟩, ⟨(some 5), (.mv (.c (.int .i64 0))), none⟩]) .ret)))))), 57, [(.t 4), (.t 5)]⟩
theorem k_impl_IsSolution : compF Try.prog Try.f39 = some c_impl_IsSolution := by kernel_rfl

/-- What a problem leaves of a point, times the common denominator. -/
def remT (ll : List (List Int)) (xs : List Int) (i j : Nat) : Int := (ll.getD i []).getD j 0 * xs.getD j 0
def remX (ll : List (List Int)) (q xs : List Int) (d : Int) (i : Nat) : Int := q.getD i 0 * d + sumTo ll.length (remT ll xs i)
def remL (ll : List (List Int)) (q xs : List Int) (d : Int) : List Int := rowOf ll.length (remX ll q xs d)
theorem remL_len (ll : List (List Int)) (q xs : List Int) (d : Int) : (remL ll q xs d).length = ll.length := rowOf_len _ _
theorem remT_b {ll : List (List Int)} {q xs : List Int} (hp : isProb ll q = true) (hx : xs.length = ll.length) (hb : ∀ k, k < xs.length → -1000000000000 ≤ xs.getD k 0 ∧ xs.getD k 0 ≤ 1000000000000) {i : Nat} (hi : i < ll.length) :
    ∀ j, j < ll.length → -20000000000000 ≤ remT ll xs i j ∧ remT ll xs i j ≤ 20000000000000 := fun j hj => by
  obtain ⟨hm, hq, hw⟩ := isProb_facts hp
  have h1 := ((isMat_iff ll).1 hm).2.2 i hi
  rw [within_iff] at h1
  exact mul_bound (A := 20) (B := 1000000000000) (h1.2 j (by rw [h1.1]; exact hj)) (hb j (by omega))
theorem remS_b {ll : List (List Int)} {q xs : List Int} (hp : isProb ll q = true) (hx : xs.length = ll.length) (hb : ∀ k, k < xs.length → -1000000000000 ≤ xs.getD k 0 ∧ xs.getD k 0 ≤ 1000000000000) {i : Nat} (hi : i < ll.length) {k : Nat} (hk : k ≤ ll.length) :
    -100000000000000 ≤ sumTo k (remT ll xs i) ∧ sumTo k (remT ll xs i) ≤ 100000000000000 := by
  have hN := ((isMat_iff ll).1 (isProb_facts hp).1).2.1
  exact sumTo_small (n := ll.length) (B := 20000000000000) (remT_b hp hx hb hi) hk (by omega) (by omega)
theorem qd_b {ll : List (List Int)} {q : List Int} (hp : isProb ll q = true) {d : Int} (hd : 0 ≤ d ∧ d ≤ 1000000000) {i : Nat} (hi : i < ll.length) : -100000000000 ≤ q.getD i 0 * d ∧ q.getD i 0 * d ≤ 100000000000 := by
  obtain ⟨hm, hq, hw⟩ := isProb_facts hp
  exact mul_bound (A := 100) (B := 1000000000) ((within_iff _ _).1 hw i (by omega)) (by omega)
theorem remX_b {ll : List (List Int)} {q xs : List Int} (hp : isProb ll q = true) (hx : xs.length = ll.length) (hb : ∀ k, k < xs.length → -1000000000000 ≤ xs.getD k 0 ∧ xs.getD k 0 ≤ 1000000000000) {d : Int} (hd : 0 ≤ d ∧ d ≤ 1000000000) {i : Nat} (hi : i < ll.length) :
    -200000000000000 ≤ remX ll q xs d i ∧ remX ll q xs d i ≤ 200000000000000 := by
  have h1 := remS_b hp hx hb hi (Nat.le_refl _)
  have h2 := qd_b hp hd hi
  unfold remX; omega
section
variable {w w' : Bool} {lo hi lo' hi' : Nat} {h : AH} {v u v' : AV} {vs : List AV} {ll : List (List Int)} {q xs : List Int} {f : List (Int × Int)}
theorem impl_rest (s : Prob w lo hi h v u vs ll q) (hp : isProb ll q = true) (sx : Ints w' lo' hi' h v' xs) (hx : xs.length = ll.length) (hb : ∀ k, k < xs.length → -1000000000000 ≤ xs.getD k 0 ∧ xs.getD k 0 ≤ 1000000000000) (d : Int) (hd : 0 ≤ d ∧ d ≤ 1000000000) (n : Nat) (hn : hi ≤ n) (hn' : hi' ≤ n) :
    FQ Try.prog 83 [.agg [v, u], v', .int .i64 d] h n fun y h' n' => Ints true n n' h' y (remL ll q xs d) := by
  refine fq_intro Try.func83 k_impl_Problem_rest ?_
  have o1 := one_any (Sl.any s.M.out)
  have o2 := one_any (Sl.any s.Q)
  obtain ⟨hm, hql, hw⟩ := isProb_facts hp
  have hN := ((isMat_iff ll).1 hm).2.1
  have hrl := remL_len ll q xs d
  simp (maxSteps := 2000000) -implicitDefEqProofs (disch := omega) only [c_impl_Problem_rest, o1, o2, sx.ln, hx, xsW, xsC, if_true, if_false, ite_true, ite_false, forall_const, ne_eq, beq_self_eq_true, bne_self_eq_false, imp_self, true_implies, false_implies, implies_true, evP, evE, ev, setD, Nat.reduceAdd, Nat.reduceSub, reduceCtorEq, fillA, cutA, Nat.reduceLeDiff, Nat.reduceMul, Int.reduceLT, Int.reduceLE, Int.reduceEq, Int.reduceNe, Int.reduceAdd, Int.reduceSub, Int.reduceMul, Int.reduceNeg, Int.reduceToNat]
  simp (maxSteps := 2000000) -implicitDefEqProofs (disch := omega) only [xsW, xsC, if_true, if_false, ite_true, ite_false, forall_const, ne_eq, beq_self_eq_true, bne_self_eq_false, imp_self, true_implies, false_implies, implies_true, evP, evE, ev, setD, Nat.reduceAdd, Nat.reduceSub, reduceCtorEq, fillA, cutA, Nat.reduceLeDiff, Nat.reduceMul, Int.reduceLT, Int.reduceLE, Int.reduceEq, Int.reduceNe, Int.reduceAdd, Int.reduceSub, Int.reduceMul, Int.reduceNeg, Int.reduceToNat,  s.M.ln]
  refine loop_for ll.length 0 (fun k (_ : Unit) => [.agg [v, u], v', .int .i64 d, .ptr n 0, .any, .any, .nilsl, .sl (n + 1) 0 ll.length ll.length, .any, .any, .any, .any, .any, .any, v, .int .i64 ll.length, .int .i64 k, .any, .any, .any, .any, .any, .any, .any, .any, .any, .any, .any, .any, .any, .any, .any, .any, .any, .any, .any, .any]) (fun k _ => upd (upd h n (some ⟨31, [v, u], true, 0⟩)) (n + 1) (some ⟨2, (ints (remL ll q xs d)).take k ++ List.replicate ((remL ll q xs d).length - k) (.int .i64 0), true, 0⟩))
    (fun _ _ _ => True) () (Nat.zero_le _) trivial (by simp [LeL, Le1]) (by simp [hrl]) ?_
  rintro k - m - hk hm1 -
  simp (maxSteps := 2000000) -implicitDefEqProofs (disch := omega) only [xsW, xsC, if_true, if_false, ite_true, ite_false, forall_const, ne_eq, beq_self_eq_true, bne_self_eq_false, imp_self, true_implies, false_implies, implies_true, evP, evE, ev, setD, Nat.reduceAdd, Nat.reduceSub, reduceCtorEq, fillA, cutA, Nat.reduceLeDiff, Nat.reduceMul, Int.reduceLT, Int.reduceLE, Int.reduceEq, Int.reduceNe, Int.reduceAdd, Int.reduceSub, Int.reduceMul, Int.reduceNeg, Int.reduceToNat]
  (refine cd_dec (fun c1 => ?_) (fun c1 => ?_) <;> simp (maxSteps := 2000000) -implicitDefEqProofs (disch := omega) only [xsW, xsC, if_true, if_false, ite_true, ite_false, forall_const, ne_eq, beq_self_eq_true, bne_self_eq_false, imp_self, true_implies, false_implies, implies_true, evP, evE, ev, setD, Nat.reduceAdd, Nat.reduceSub, reduceCtorEq, fillA, cutA, Nat.reduceLeDiff, Nat.reduceMul, Int.reduceLT, Int.reduceLE, Int.reduceEq, Int.reduceNe, Int.reduceAdd, Int.reduceSub, Int.reduceMul, Int.reduceNeg, Int.reduceToNat,  c1])
  · have hk2 : k < ll.length := by omega
    have hbl := s.M.out.below (by rw [s.M.slen]; omega)
    have hbq := Sl.below s.Q (by rw [s.Q.slen]; omega)
    have hri := s.M.row k hk2
    have li := (((isMat_iff ll).1 hm).2.2 k hk2).1
    have hqd := qd_b hp hd hk2
    have hrx := remX_b hp hx hb hd hk2
    have hrs := remS_b hp hx hb hk2 (Nat.le_refl _)
    simp (maxSteps := 2000000) -implicitDefEqProofs (disch := omega) only [xsW, xsC, if_true, if_false, ite_true, ite_false, forall_const, ne_eq, beq_self_eq_true, bne_self_eq_false, imp_self, true_implies, false_implies, implies_true, evP, evE, ev, setD, Nat.reduceAdd, Nat.reduceSub, reduceCtorEq, fillA, cutA, Nat.reduceLeDiff, Nat.reduceMul, Int.reduceLT, Int.reduceLE, Int.reduceEq, Int.reduceNe, Int.reduceAdd, Int.reduceSub, Int.reduceMul, Int.reduceNeg, Int.reduceToNat,  s.M.ia, s.M.ld, s.Q.ia, s.Q.ld, hql]
    refine q_use (impl_sum (hri.keep (fun i _ hi9 => by simp (disch := omega) only [upd_other])) (sx.keep (fun i _ hi9 => by simp (disch := omega) only [upd_other])) (by omega) 20000000000000 (by omega) (by omega) (by omega) (fun j hj => remT_b hp hx hb hk2 j (by omega)) m) fun n2 hn2 => ?_
    have e : q.getD k 0 * d + (sumTo (ll.getD k []).length fun j => (ll.getD k []).getD j 0 * xs.getD j 0) = (remL ll q xs d).getD k 0 := by rw [remL, rowOf_get hk2, li]; rfl
    have e2 : (sumTo (ll.getD k []).length fun j => (ll.getD k []).getD j 0 * xs.getD j 0) = sumTo ll.length (remT ll xs k) := by rw [li]; rfl
    have e3 : (remL ll q xs d).getD k 0 = remX ll q xs d k := by rw [remL, rowOf_get hk2]
    rw [e2] at e ⊢
    have hfi := fill_ints (remL ll q xs d) (.int .i64 0) k (by omega)
    rw [hrl] at hfi
    simp (maxSteps := 2000000) -implicitDefEqProofs (disch := omega) only [xsW, xsC, if_true, if_false, ite_true, ite_false, forall_const, ne_eq, beq_self_eq_true, bne_self_eq_false, imp_self, true_implies, false_implies, implies_true, evP, evE, ev, setD, Nat.reduceAdd, Nat.reduceSub, reduceCtorEq, fillA, cutA, Nat.reduceLeDiff, Nat.reduceMul, Int.reduceLT, Int.reduceLE, Int.reduceEq, Int.reduceNe, Int.reduceAdd, Int.reduceSub, Int.reduceMul, Int.reduceNeg, Int.reduceToNat,  e, hfi, hrl]
    exact ⟨by omega, (), by omega, by omega, (by simp [LeL, Le1])⟩
  · have e : k = ll.length := by omega
    subst e
    intro _ h2 hh
    refine Sl.of_sl (ty := 2) (op := 0) ?_ (by simp [ints, hrl]) (Nat.le_refl _) (by omega) (by omega)
    rw [hh (n + 1) (by omega) (by omega), upd_same]
    simp [hrl, List.take_of_length_le, ints]
theorem spec_l01Remainder (s : Prob w lo hi h v u vs ll q) (hp : isProb ll q = true) (sx : Ints w' lo' hi' h v' xs) (hx : xs.length = ll.length) (hb : ∀ k, k < xs.length → -1000000000000 ≤ xs.getD k 0 ∧ xs.getD k 0 ≤ 1000000000000) (d : Int) (hd : 0 ≤ d ∧ d ≤ 1000000000) (n : Nat) (hn : hi ≤ n) (hn' : hi' ≤ n) :
    FQ Try.prog 86 [.agg [v, u], v', .int .i64 d] h n fun y h' n' => Ints true n n' h' y (remL ll q xs d) := by
  refine fq_intro Try.func86 k_spec_l01Remainder ?_
  have o1 := one_any (Sl.any s.M.out)
  have o2 := one_any (Sl.any s.Q)
  obtain ⟨hm, hql, hw⟩ := isProb_facts hp
  have hN := ((isMat_iff ll).1 hm).2.1
  simp (maxSteps := 2000000) -implicitDefEqProofs (disch := omega) only [c_spec_l01Remainder, o1, o2, xsW, xsC, if_true, if_false, ite_true, ite_false, forall_const, ne_eq, beq_self_eq_true, bne_self_eq_false, imp_self, true_implies, false_implies, implies_true, evP, evE, ev, setD, Nat.reduceAdd, Nat.reduceSub, reduceCtorEq, fillA, cutA, Nat.reduceLeDiff, Nat.reduceMul, Int.reduceLT, Int.reduceLE, Int.reduceEq, Int.reduceNe, Int.reduceAdd, Int.reduceSub, Int.reduceMul, Int.reduceNeg, Int.reduceToNat]
  refine loop_for ll.length 0 (fun k p => [.agg [v, u], v', .int .i64 d, .ptr n 0, .any, .any, .nilsl, p.1, .int .i64 k, .any, .any, .any, .any, .any, .any, .any, .any, .any, .any, .any, .any, .any, .any, .any, .any, .any, .any, .any, .any, .any, .any, .any, .any, .any, .any, .any, .any, .any, .any, .any, .any, .any, .any, .any, .any, .any, .any, .any, .any, .any, .any, .any]) (fun _ (p : AV × AH) => p.2)
    (fun k p m => Acc (n + 1) m p.2 2 1 p.1 (ints (rowOf k (remX ll q xs d))) ∧ n + 1 ≤ m ∧ ∀ j, j < n + 1 → p.2 j = upd h n (some ⟨31, [v, u], true, 0⟩) j) (.sl (n + 1) 0 0 0, _) (Nat.zero_le _) ⟨Acc.empty (upd_same _ _ _) rfl (Nat.le_refl _) (by omega), by omega, fun j hj => upd_other (by omega)⟩ (by simp [LeL, Le1]) (fun _ _ h => h) ?_
  rintro k ⟨out, hp'⟩ m - hk hm1 ⟨acc, hle, hold⟩
  simp only at acc hold
  have hbox : hp' n = some ⟨31, [v, u], true, 0⟩ := by rw [hold n (by omega), upd_same]
  simp (maxSteps := 2000000) -implicitDefEqProofs (disch := omega) only [xsW, xsC, if_true, if_false, ite_true, ite_false, forall_const, ne_eq, beq_self_eq_true, bne_self_eq_false, imp_self, true_implies, false_implies, implies_true, evP, evE, ev, setD, Nat.reduceAdd, Nat.reduceSub, reduceCtorEq, fillA, cutA, Nat.reduceLeDiff, Nat.reduceMul, Int.reduceLT, Int.reduceLE, Int.reduceEq, Int.reduceNe, Int.reduceAdd, Int.reduceSub, Int.reduceMul, Int.reduceNeg, Int.reduceToNat,  hbox, s.Q.ln, hql]
  (refine cd_dec (fun c1 => ?_) (fun c1 => ?_) <;> simp (maxSteps := 2000000) -implicitDefEqProofs (disch := omega) only [xsW, xsC, if_true, if_false, ite_true, ite_false, forall_const, ne_eq, beq_self_eq_true, bne_self_eq_false, imp_self, true_implies, false_implies, implies_true, evP, evE, ev, setD, Nat.reduceAdd, Nat.reduceSub, reduceCtorEq, fillA, cutA, Nat.reduceLeDiff, Nat.reduceMul, Int.reduceLT, Int.reduceLE, Int.reduceEq, Int.reduceNe, Int.reduceAdd, Int.reduceSub, Int.reduceMul, Int.reduceNeg, Int.reduceToNat,  c1])
  · have hk2 : k < ll.length := by omega
    have hbl := s.M.out.below (by rw [s.M.slen]; omega)
    have hbq := Sl.below s.Q (by rw [s.Q.slen]; omega)
    have hri := s.M.row k hk2
    have li := (((isMat_iff ll).1 hm).2.2 k hk2).1
    have hqd := qd_b hp hd hk2
    simp (maxSteps := 2000000) -implicitDefEqProofs (disch := omega) only [xsW, xsC, if_true, if_false, ite_true, ite_false, forall_const, ne_eq, beq_self_eq_true, bne_self_eq_false, imp_self, true_implies, false_implies, implies_true, evP, evE, ev, setD, Nat.reduceAdd, Nat.reduceSub, reduceCtorEq, fillA, cutA, Nat.reduceLeDiff, Nat.reduceMul, Int.reduceLT, Int.reduceLE, Int.reduceEq, Int.reduceNe, Int.reduceAdd, Int.reduceSub, Int.reduceMul, Int.reduceNeg, Int.reduceToNat,  hbox, hold, s.Q.ia, s.Q.ld, hql]
    refine loop_for ll.length 0 (fun j (_ : Unit) => [.agg [v, u], v', .int .i64 d, .ptr n 0, .any, .any, .nilsl, out, .int .i64 k, .int .i64 (q.getD k 0 * d + sumTo j (remT ll xs k)), .int .i64 j, .any, .any, .any, .any, .any, .any, .any, .any, .any, .any, .any, .any, .any, .any, .any, .any, .any, .any, .any, .any, .any, .any, .any, .any, .any, .any, .any, .any, .any, .any, .any, .any, .any, .any, .any, .any, .any, .any, .any, .any, .any]) (fun _ _ => hp')
      (fun _ _ _ => True) () (Nat.zero_le _) trivial (by simp [LeL, Le1, sumTo]) (fun _ _ h => h) ?_
    rintro j - m2 - hj hm2 -
    simp (maxSteps := 2000000) -implicitDefEqProofs (disch := omega) only [xsW, xsC, if_true, if_false, ite_true, ite_false, forall_const, ne_eq, beq_self_eq_true, bne_self_eq_false, imp_self, true_implies, false_implies, implies_true, evP, evE, ev, setD, Nat.reduceAdd, Nat.reduceSub, reduceCtorEq, fillA, cutA, Nat.reduceLeDiff, Nat.reduceMul, Int.reduceLT, Int.reduceLE, Int.reduceEq, Int.reduceNe, Int.reduceAdd, Int.reduceSub, Int.reduceMul, Int.reduceNeg, Int.reduceToNat,  sx.ln, hx]
    (refine cd_dec (fun c2 => ?_) (fun c2 => ?_) <;> simp (maxSteps := 2000000) -implicitDefEqProofs (disch := omega) only [xsW, xsC, if_true, if_false, ite_true, ite_false, forall_const, ne_eq, beq_self_eq_true, bne_self_eq_false, imp_self, true_implies, false_implies, implies_true, evP, evE, ev, setD, Nat.reduceAdd, Nat.reduceSub, reduceCtorEq, fillA, cutA, Nat.reduceLeDiff, Nat.reduceMul, Int.reduceLT, Int.reduceLE, Int.reduceEq, Int.reduceNe, Int.reduceAdd, Int.reduceSub, Int.reduceMul, Int.reduceNeg, Int.reduceToNat,  c2])
    · have hj2 : j < ll.length := by omega
      have hbx := Sl.below sx (by rw [sx.slen]; omega)
      have hbr := Sl.below hri (by rw [hri.slen]; omega)
      have b1 := remT_b hp hx hb hk2 j hj2
      have b2 := remS_b hp hx hb hk2 (k := j) (by omega)
      have b3 := remS_b hp hx hb hk2 (k := j + 1) (by omega)
      rw [sumTo_succ] at b3
      have et : (ll.getD k []).getD j 0 * xs.getD j 0 = remT ll xs k j := rfl
      simp (maxSteps := 2000000) -implicitDefEqProofs (disch := omega) only [xsW, xsC, if_true, if_false, ite_true, ite_false, forall_const, ne_eq, beq_self_eq_true, bne_self_eq_false, imp_self, true_implies, false_implies, implies_true, evP, evE, ev, setD, Nat.reduceAdd, Nat.reduceSub, reduceCtorEq, fillA, cutA, Nat.reduceLeDiff, Nat.reduceMul, Int.reduceLT, Int.reduceLE, Int.reduceEq, Int.reduceNe, Int.reduceAdd, Int.reduceSub, Int.reduceMul, Int.reduceNeg, Int.reduceToNat,  hbox, hold, s.M.ia, s.M.ld, hri.ia, hri.ld, li, sx.ia, sx.ld, hx]
      rw [et]
      exact ⟨(), by omega, by omega, by simp [LeL, Le1, sumTo, Int.add_assoc]⟩
    · have e : j = ll.length := by omega
      subst e
      have e2 : q.getD k 0 * d + sumTo ll.length (remT ll xs k) = remX ll q xs d k := rfl
      rw [e2]
      refine app_int (y := remX ll q xs d k) (acc.keep (fun i _ hi9 => by simp (disch := omega) only [upd_other]) |>.wide (Nat.le_refl _) (by omega)) (by omega) (by omega) ⟨rfl, _, upd_same _ _ _, by simp, by simp [cutA]⟩ (by rw [rowOf_len]; omega) fun v' h' n' q1 q2 q3 => ?_
      simp (maxSteps := 2000000) -implicitDefEqProofs (disch := omega) only [xsW, xsC, if_true, if_false, ite_true, ite_false, forall_const, ne_eq, beq_self_eq_true, bne_self_eq_false, imp_self, true_implies, false_implies, implies_true, evP, evE, ev, setD, Nat.reduceAdd, Nat.reduceSub, reduceCtorEq, fillA, cutA, Nat.reduceLeDiff, Nat.reduceMul, Int.reduceLT, Int.reduceLE, Int.reduceEq, Int.reduceNe, Int.reduceAdd, Int.reduceSub, Int.reduceMul, Int.reduceNeg, Int.reduceToNat]
      exact ⟨(v', h'), ⟨by rw [rowOf_succ]; exact q2, by omega, fun j hj => (q3 j hj).trans (by rw [upd_other (by omega), hold j hj])⟩, by omega, by omega, (by simp [LeL, Le1]), fun _ _ h => h⟩
  · have e : k = ll.length := by omega
    subst e
    intro _ h2 hh
    exact (Acc.sl (acc.keep fun i a b => hh i (by omega) b)).wide (by omega) (Nat.le_refl _)
end
/-- Neither falls below nothing, and one of the two is nothing. -/
def okYX (y x : Int) : Bool := decide (0 ≤ y ∧ 0 ≤ x ∧ (y = 0 ∨ x = 0))
def solvB (ys xs : List Int) : Bool := (List.range ys.length).all fun k => okYX (ys.getD k 0) (xs.getD k 0)
theorem solvB_iff (ys xs : List Int) : solvB ys xs = true ↔ ∀ k, k < ys.length → okYX (ys.getD k 0) (xs.getD k 0) = true := by simp only [solvB, List.all_eq_true, List.mem_range]
theorem solvB_no {ys xs : List Int} {k : Nat} (hk : k < ys.length) (h : ¬ (0 ≤ ys.getD k 0 ∧ 0 ≤ xs.getD k 0 ∧ (ys.getD k 0 = 0 ∨ xs.getD k 0 = 0))) : solvB ys xs = false := by
  cases hx : solvB ys xs
  · rfl
  · have := (solvB_iff ys xs).1 hx k hk
    simp only [okYX, decide_eq_true_eq] at this
    exact absurd this h
def isSolV (ll : List (List Int)) (q : List Int) (f : List (Int × Int)) : Bool × Int :=
  if frcV ll q f = 0 then (if cmnB f = true then (solvB (remL ll q (cmnN f) (cmnD f)) (cmnN f), 0) else (false, 3)) else (false, frcV ll q f)
theorem cmn_facts {ll : List (List Int)} {q : List Int} {f : List (Int × Int)} (hz : frcV ll q f = 0) (hB : cmnB f = true) :
    (cmnN f).length = ll.length ∧ (∀ k, k < (cmnN f).length → -1000000000000 ≤ (cmnN f).getD k 0 ∧ (cmnN f).getD k 0 ≤ 1000000000000) ∧ 1 ≤ cmnD f ∧ cmnD f ≤ 1000000000 := by
  obtain ⟨hp, ha, hl⟩ := frcV_zero hz
  simp only [cmnB, Bool.and_eq_true] at hB
  refine ⟨by rw [cmnN_len, hl], fun k hk => ?_, dkF_pos ha _ (Nat.le_refl _), ?_⟩
  · rw [cmnN_len] at hk
    rw [cmnN, rowOf_get hk]
    exact (okN_iff f).1 hB.2 k hk
  · unfold cmnD
    rcases Nat.eq_zero_or_pos f.length with h0 | h0
    · rw [h0]; simp [dkF]
    · have := (okD_iff f).1 hB.1 (f.length - 1) (by omega)
      rwa [show f.length - 1 + 1 = f.length by omega] at this
section
variable {w w' : Bool} {lo hi lo' hi' : Nat} {h : AH} {v u v' : AV} {vs : List AV} {ll : List (List Int)} {q xs : List Int} {f : List (Int × Int)}
theorem impl_IsSolution (s : Prob w lo hi h v u vs ll q) (hl : ll.length ≤ 1048576) (hll : ∀ l ∈ ll, l.length ≤ 1048576) (hq : q.length ≤ 1048576) (sf : Fracs w' lo' hi' h v' f) (hf : f.length ≤ 1048576) (n : Nat) (hn : hi ≤ n) (hn' : hi' ≤ n) :
    Q Try.prog 39 [.agg [v, u], v'] h n (.tup [.bool (isSolV ll q f).1, .int .i64 (isSolV ll q f).2]) := by
  refine q_intro Try.func39 k_impl_IsSolution ?_
  have o1 := one_any (Sl.any s.M.out)
  have o2 := one_any (Sl.any s.Q)
  simp (maxSteps := 2000000) -implicitDefEqProofs (disch := omega) only [c_impl_IsSolution, o1, o2, xsW, xsC, if_true, if_false, ite_true, ite_false, forall_const, ne_eq, beq_self_eq_true, bne_self_eq_false, imp_self, true_implies, false_implies, implies_true, evP, evE, ev, setD, Nat.reduceAdd, Nat.reduceSub, reduceCtorEq, fillA, cutA, Nat.reduceLeDiff, Nat.reduceMul, Int.reduceLT, Int.reduceLE, Int.reduceEq, Int.reduceNe, Int.reduceAdd, Int.reduceSub, Int.reduceMul, Int.reduceNeg, Int.reduceToNat]
  refine q_use (impl_fracsCode (s.keep (fun i _ hi9 => by simp (disch := omega) only [upd_other])) hl hll hq (Fracs.keep sf (fun i _ hi9 => by simp (disch := omega) only [upd_other])) hf _ (by omega) (by omega)) fun n1 hn1 => ?_
  simp (maxSteps := 2000000) -implicitDefEqProofs (disch := omega) only [xsW, xsC, if_true, if_false, ite_true, ite_false, forall_const, ne_eq, beq_self_eq_true, bne_self_eq_false, imp_self, true_implies, false_implies, implies_true, evP, evE, ev, setD, Nat.reduceAdd, Nat.reduceSub, reduceCtorEq, fillA, cutA, Nat.reduceLeDiff, Nat.reduceMul, Int.reduceLT, Int.reduceLE, Int.reduceEq, Int.reduceNe, Int.reduceAdd, Int.reduceSub, Int.reduceMul, Int.reduceNeg, Int.reduceToNat]
  (refine cd_dec (fun c1 => ?_) (fun c1 => ?_) <;> simp (maxSteps := 2000000) -implicitDefEqProofs (disch := omega) only [xsW, xsC, if_true, if_false, ite_true, ite_false, forall_const, ne_eq, beq_self_eq_true, bne_self_eq_false, imp_self, true_implies, false_implies, implies_true, evP, evE, ev, setD, Nat.reduceAdd, Nat.reduceSub, reduceCtorEq, fillA, cutA, Nat.reduceLeDiff, Nat.reduceMul, Int.reduceLT, Int.reduceLE, Int.reduceEq, Int.reduceNe, Int.reduceAdd, Int.reduceSub, Int.reduceMul, Int.reduceNeg, Int.reduceToNat,  c1])
  · simp [isSolV, c1]
  · have c2 : frcV ll q f = 0 := Decidable.not_not.1 c1
    obtain ⟨hp, ha, hfl⟩ := frcV_zero c2
    refine fq_use (impl_together (Fracs.keep (h' := upd h n (some ⟨31, [v, u], true, 0⟩)) sf (fun i _ hi9 => by simp (disch := omega) only [upd_other])) hf ha n1 (by omega)) fun x1 h1 n2 hn2 hs1 hx1 => ?_
    rcases hx1 with ⟨d1, rfl⟩ | ⟨d1, v1, rfl, hv1⟩
    · simp (maxSteps := 2000000) -implicitDefEqProofs (disch := omega) only [xsW, xsC, if_true, if_false, ite_true, ite_false, forall_const, ne_eq, beq_self_eq_true, bne_self_eq_false, imp_self, true_implies, false_implies, implies_true, evP, evE, ev, setD, Nat.reduceAdd, Nat.reduceSub, reduceCtorEq, fillA, cutA, Nat.reduceLeDiff, Nat.reduceMul, Int.reduceLT, Int.reduceLE, Int.reduceEq, Int.reduceNe, Int.reduceAdd, Int.reduceSub, Int.reduceMul, Int.reduceNeg, Int.reduceToNat]
      simp [isSolV, c2, d1]
    · obtain ⟨e1, e2, e3, e4⟩ := cmn_facts c2 d1
      have hrl := remL_len ll q (cmnN f) (cmnD f)
      have hN := ((isMat_iff ll).1 (isProb_facts hp).1).2.1
      have hbox : h1 n = some ⟨31, [v, u], true, 0⟩ := by rw [hs1 n (by omega), upd_same]
      simp (maxSteps := 2000000) -implicitDefEqProofs (disch := omega) only [xsW, xsC, if_true, if_false, ite_true, ite_false, forall_const, ne_eq, beq_self_eq_true, bne_self_eq_false, imp_self, true_implies, false_implies, implies_true, evP, evE, ev, setD, Nat.reduceAdd, Nat.reduceSub, reduceCtorEq, fillA, cutA, Nat.reduceLeDiff, Nat.reduceMul, Int.reduceLT, Int.reduceLE, Int.reduceEq, Int.reduceNe, Int.reduceAdd, Int.reduceSub, Int.reduceMul, Int.reduceNeg, Int.reduceToNat,  hbox]
      refine fq_use (impl_rest (s.keep (h' := h1) (fun i _ hi9 => by simp (disch := omega) only [upd_other, hs1])) hp hv1 e1 e2 (cmnD f) (by omega) n2 (by omega) (by omega)) fun v2 h2 n3 hn3 hs2 hv2 => ?_
      simp (maxSteps := 2000000) -implicitDefEqProofs (disch := omega) only [xsW, xsC, if_true, if_false, ite_true, ite_false, forall_const, ne_eq, beq_self_eq_true, bne_self_eq_false, imp_self, true_implies, false_implies, implies_true, evP, evE, ev, setD, Nat.reduceAdd, Nat.reduceSub, reduceCtorEq, fillA, cutA, Nat.reduceLeDiff, Nat.reduceMul, Int.reduceLT, Int.reduceLE, Int.reduceEq, Int.reduceNe, Int.reduceAdd, Int.reduceSub, Int.reduceMul, Int.reduceNeg, Int.reduceToNat,  hv2.ln, hrl]
      refine loop_for ll.length 0 (fun k (_ : Unit) => [.agg [v, u], v', .ptr n 0, .any, .bool false, .int .i64 0, .int .i64 (frcV ll q f), v1, .int .i64 (cmnD f), .bool true, .any, .any, .any, .any, .any, .any, .any, .any, .any, .any, .any, .any, .any, .any, .any, .any, .any, .any, .any, v2, .int .i64 ll.length, .int .i64 k, .any, .any, .any, .any, .any, .any, .any, .any, .any, .any, .any, .any, .any, .any, .any, .any, .any, .any, .any, .any, .any, .any, .any, .any, .any]) (fun _ _ => h2)
        (fun k _ _ => ∀ j, j < k → okYX ((remL ll q (cmnN f) (cmnD f)).getD j 0) ((cmnN f).getD j 0) = true) () (Nat.zero_le _) (fun j hj => absurd hj (Nat.not_lt_zero _)) (by simp [LeL, Le1]) (fun _ _ h => h) ?_
      rintro k - m - hk hm hall
      simp (maxSteps := 2000000) -implicitDefEqProofs (disch := omega) only [xsW, xsC, if_true, if_false, ite_true, ite_false, forall_const, ne_eq, beq_self_eq_true, bne_self_eq_false, imp_self, true_implies, false_implies, implies_true, evP, evE, ev, setD, Nat.reduceAdd, Nat.reduceSub, reduceCtorEq, fillA, cutA, Nat.reduceLeDiff, Nat.reduceMul, Int.reduceLT, Int.reduceLE, Int.reduceEq, Int.reduceNe, Int.reduceAdd, Int.reduceSub, Int.reduceMul, Int.reduceNeg, Int.reduceToNat]
      (refine cd_dec (fun c3 => ?_) (fun c3 => ?_) <;> simp (maxSteps := 2000000) -implicitDefEqProofs (disch := omega) only [xsW, xsC, if_true, if_false, ite_true, ite_false, forall_const, ne_eq, beq_self_eq_true, bne_self_eq_false, imp_self, true_implies, false_implies, implies_true, evP, evE, ev, setD, Nat.reduceAdd, Nat.reduceSub, reduceCtorEq, fillA, cutA, Nat.reduceLeDiff, Nat.reduceMul, Int.reduceLT, Int.reduceLE, Int.reduceEq, Int.reduceNe, Int.reduceAdd, Int.reduceSub, Int.reduceMul, Int.reduceNeg, Int.reduceToNat,  c3])
      · have hk2 : k < ll.length := by omega
        have hkr : k < (remL ll q (cmnN f) (cmnD f)).length := by omega
        have hbx := Sl.below hv1 (by rw [hv1.slen]; omega)
        have more : 0 ≤ (remL ll q (cmnN f) (cmnD f)).getD k 0 ∧ 0 ≤ (cmnN f).getD k 0 ∧ ((remL ll q (cmnN f) (cmnD f)).getD k 0 = 0 ∨ (cmnN f).getD k 0 = 0) → ∀ j, j < k + 1 → okYX ((remL ll q (cmnN f) (cmnD f)).getD j 0) ((cmnN f).getD j 0) = true := fun hy j hj =>
          (Nat.lt_succ_iff_lt_or_eq.1 hj).elim (hall j) (fun e => by rw [e]; exact decide_eq_true hy)
        simp (maxSteps := 2000000) -implicitDefEqProofs (disch := omega) only [xsW, xsC, if_true, if_false, ite_true, ite_false, forall_const, ne_eq, beq_self_eq_true, bne_self_eq_false, imp_self, true_implies, false_implies, implies_true, evP, evE, ev, setD, Nat.reduceAdd, Nat.reduceSub, reduceCtorEq, fillA, cutA, Nat.reduceLeDiff, Nat.reduceMul, Int.reduceLT, Int.reduceLE, Int.reduceEq, Int.reduceNe, Int.reduceAdd, Int.reduceSub, Int.reduceMul, Int.reduceNeg, Int.reduceToNat,  hs2, hv2.ia, hv2.ld, hrl]
        (refine gd_dec (fun c4 => ?_) (fun c4 => ?_) <;> simp (maxSteps := 2000000) -implicitDefEqProofs (disch := omega) only [xsW, xsC, if_true, if_false, ite_true, ite_false, forall_const, ne_eq, beq_self_eq_true, bne_self_eq_false, imp_self, true_implies, false_implies, implies_true, evP, evE, ev, setD, Nat.reduceAdd, Nat.reduceSub, reduceCtorEq, fillA, cutA, Nat.reduceLeDiff, Nat.reduceMul, Int.reduceLT, Int.reduceLE, Int.reduceEq, Int.reduceNe, Int.reduceAdd, Int.reduceSub, Int.reduceMul, Int.reduceNeg, Int.reduceToNat,  c4])
        · simp [isSolV, c2, d1, solvB_no (xs := cmnN f) hkr (by omega)]
        · simp (maxSteps := 2000000) -implicitDefEqProofs (disch := omega) only [xsW, xsC, if_true, if_false, ite_true, ite_false, forall_const, ne_eq, beq_self_eq_true, bne_self_eq_false, imp_self, true_implies, false_implies, implies_true, evP, evE, ev, setD, Nat.reduceAdd, Nat.reduceSub, reduceCtorEq, fillA, cutA, Nat.reduceLeDiff, Nat.reduceMul, Int.reduceLT, Int.reduceLE, Int.reduceEq, Int.reduceNe, Int.reduceAdd, Int.reduceSub, Int.reduceMul, Int.reduceNeg, Int.reduceToNat,  hs2, hv1.ia, hv1.ld, e1]
          (refine gd_dec (fun c5 => ?_) (fun c5 => ?_) <;> simp (maxSteps := 2000000) -implicitDefEqProofs (disch := omega) only [xsW, xsC, if_true, if_false, ite_true, ite_false, forall_const, ne_eq, beq_self_eq_true, bne_self_eq_false, imp_self, true_implies, false_implies, implies_true, evP, evE, ev, setD, Nat.reduceAdd, Nat.reduceSub, reduceCtorEq, fillA, cutA, Nat.reduceLeDiff, Nat.reduceMul, Int.reduceLT, Int.reduceLE, Int.reduceEq, Int.reduceNe, Int.reduceAdd, Int.reduceSub, Int.reduceMul, Int.reduceNeg, Int.reduceToNat,  c5])
          · simp [isSolV, c2, d1, solvB_no (xs := cmnN f) hkr (by omega)]
          · (refine gd_dec (fun c6 => ?_) (fun c6 => ?_) <;> simp (maxSteps := 2000000) -implicitDefEqProofs (disch := omega) only [xsW, xsC, if_true, if_false, ite_true, ite_false, forall_const, ne_eq, beq_self_eq_true, bne_self_eq_false, imp_self, true_implies, false_implies, implies_true, evP, evE, ev, setD, Nat.reduceAdd, Nat.reduceSub, reduceCtorEq, fillA, cutA, Nat.reduceLeDiff, Nat.reduceMul, Int.reduceLT, Int.reduceLE, Int.reduceEq, Int.reduceNe, Int.reduceAdd, Int.reduceSub, Int.reduceMul, Int.reduceNeg, Int.reduceToNat,  c6])
            · simp (maxSteps := 2000000) -implicitDefEqProofs (disch := omega) only [xsW, xsC, if_true, if_false, ite_true, ite_false, forall_const, ne_eq, beq_self_eq_true, bne_self_eq_false, imp_self, true_implies, false_implies, implies_true, evP, evE, ev, setD, Nat.reduceAdd, Nat.reduceSub, reduceCtorEq, fillA, cutA, Nat.reduceLeDiff, Nat.reduceMul, Int.reduceLT, Int.reduceLE, Int.reduceEq, Int.reduceNe, Int.reduceAdd, Int.reduceSub, Int.reduceMul, Int.reduceNeg, Int.reduceToNat,  hs2, hv1.ia, hv1.ld, e1]
              (refine cd_dec (fun c7 => ?_) (fun c7 => ?_) <;> simp (maxSteps := 2000000) -implicitDefEqProofs (disch := omega) only [xsW, xsC, if_true, if_false, ite_true, ite_false, forall_const, ne_eq, beq_self_eq_true, bne_self_eq_false, imp_self, true_implies, false_implies, implies_true, evP, evE, ev, setD, Nat.reduceAdd, Nat.reduceSub, reduceCtorEq, fillA, cutA, Nat.reduceLeDiff, Nat.reduceMul, Int.reduceLT, Int.reduceLE, Int.reduceEq, Int.reduceNe, Int.reduceAdd, Int.reduceSub, Int.reduceMul, Int.reduceNeg, Int.reduceToNat,  c7])
              · simp [isSolV, c2, d1, solvB_no (xs := cmnN f) hkr (by omega)]
              · exact ⟨(), more (by omega), by omega, by omega, (by simp [LeL, Le1])⟩
            · exact ⟨(), more (by omega), by omega, by omega, (by simp [LeL, Le1])⟩
      · have : solvB (remL ll q (cmnN f) (cmnD f)) (cmnN f) = true := (solvB_iff _ _).2 fun j hj => hall j (by omega)
        simp [isSolV, c2, d1, this]
end
end Go.Proofs.Ytkpibnhddhdooab.L
