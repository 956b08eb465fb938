/- Contracts: FeasibleSets. -/
import Derived.Test.YtmjfekgbbjojdacA4
import Derived.Test.YtmjfekgbbjojdacA30
namespace Go.Proofs.Ytmjfekgbbjojdac.L
open Go
set_option linter.unusedSimpArgs false
set_option linter.unusedVariables false
def c_impl_isFeasible_1 : F := ⟨(.seq (.reg false [⟨(some 2), (.mv (.c (.bool false))), none⟩]) (.seq (.reg false [⟨(some 3), (.mv (.t 0)), none⟩, ⟨(some 4), (.bin .lss (.t 3) (.c (.int .i64 0))), none⟩, ⟨(some 2), (.mv (.t 4)), none⟩]) .ret)), 5, [(.t 2)]⟩
theorem k_impl_isFeasible_1 : compF Try.prog Try.f124 = some c_impl_isFeasible_1 := by kernel_rfl
def c_impl_isFeasible : F := ⟨(.seq (.reg false [⟨(some 2), (.mv (.c (.bool false))), none⟩]) (.seq (.reg false [⟨(some 3), (.mv (.t 0)), none⟩, ⟨(some 4), (.call (.f 123) [(.t 3), (.f 124)]), none⟩, ⟨(some 5), (.un .not (.t 4)), none⟩, ⟨(some 2), (.mv (.t 5)), none⟩]) .ret)), 6, [(.t 2)]⟩
theorem k_impl_isFeasible : compF Try.prog Try.f94 = some c_impl_isFeasible := by kernel_rfl
def c_impl_FeasibleSets : F := ⟨(.seq (.reg false [⟨(some 1), (.box 29 (.t 0)), none⟩, ⟨(some 2), (.mv (.c .nilsl)), none⟩, ⟨(some 3), (.mv (.c (.int .i64 0))), none⟩]) (.seq (.reg false [⟨(some 4), (.ld 2 (.t 1)), none⟩, ⟨(some 5), (.call (.f 79) [(.t 4), (.f 94)]), none⟩, ⟨(some 6), (.ext (.t 5) 0), none⟩, ⟨(some 7), (.ext (.t 5) 1), none⟩, ⟨(some 2), (.mv (.t 6)), none⟩, ⟨(some 3), (.mv (.t 7)), none⟩]) .ret)), 8, [(.t 2), (.t 3)]⟩
theorem k_impl_FeasibleSets : compF Try.prog Try.f44 = some c_impl_FeasibleSets := by kernel_rfl
def c_spec_l02Feasible : F := ⟨(.seq (.reg false [⟨(some 2), (.box 29 (.t 0)), none⟩, ⟨(some 4), (.mv (.c (.bool false))), none⟩]) (.seq (.reg false [⟨(some 9), (.ld 2 (.t 2)), none⟩, ⟨(some 10), (.mv (.t 1)), none⟩, ⟨(some 11), (.call (.f 90) [(.t 9), (.t 10)]), none⟩, ⟨(some 8), (.mv (.t 11)), none⟩, ⟨(some 12), (.ext (.t 8) 0), none⟩, ⟨(some 13), (.ext (.t 8) 1), none⟩, ⟨(some 5), (.mv (.t 12)), none⟩, ⟨(some 6), (.mv (.t 13)), none⟩]) (.seq (.seq (.reg false [⟨(some 7), (.mv (.c (.int .i64 0))), none⟩]) (.block 0 (.loop (.seq (.seq (.reg false [⟨(some 14), (.mv (.t 7)), none⟩, ⟨(some 15), (.mv (.t 5)), none⟩, ⟨(some 16), (.len (.t 15)), none⟩, ⟨(some 17), (.bin .lss (.t 14) (.t 16)), none⟩, ⟨(some 18), (.mv (.t 17)), none⟩, ⟨(some 19), (.mv (.t 6)), (some (18, true))⟩, ⟨(some 20), (.pick (.t 18) (.t 19) (.c (.bool false))), none⟩]) (.cond (.t 20) .skip (.exit 0))) (.seq (.block 1 (.reg false [⟨(some 23), (.mv (.t 5)), none⟩, ⟨(some 24), (.mv (.t 7)), none⟩, ⟨(some 25), (.ia 2 (.t 23) (.t 24)), none⟩, ⟨(some 26), (.fa 0 (.t 25)), none⟩, ⟨(some 27), (.ld1 (.t 26)), none⟩, ⟨(some 28), (.bin .geq (.t 27) (.c (.int .i64 0))), none⟩, ⟨(some 6), (.mv (.t 28)), none⟩])) (.reg false [⟨(some 21), (.mv (.t 7)), none⟩, ⟨(some 22), (.bin .add (.t 21) (.c (.int .i64 1))), none⟩, ⟨(some 7), (.mv (.t 22)), none⟩])))))) (.seq (.reg false [⟨(some 29), (.mv (.t 6)), none⟩, ⟨(some 4), (.mv (.t 29)), none⟩]) .ret)))), 30, [(.t 4)]⟩
theorem k_spec_l02Feasible : compF Try.prog Try.f93 = some c_spec_l02Feasible := by kernel_rfl
def c_spec_FeasibleSets : F := ⟨(.seq (.reg false [⟨(some 1), (.box 29 (.t 0)), none⟩, ⟨(some 2), (.mv (.c .nilsl)), none⟩, ⟨(some 3), (.mv (.c (.int .i64 0))), none⟩]) (.seq (.seq (.reg false [⟨(some 6), (.ld 2 (.t 1)), none⟩, ⟨(some 7), (.call (.f 77) [(.t 6)]), none⟩, ⟨(some 8), (.un .not (.t 7)), none⟩]) (.cond (.t 8) (.seq (.reg false [⟨(some 2), (.mv (.c .nilsl)), none⟩, ⟨(some 3), (.mv (.c (.int .i64 1))), none⟩]) .ret) .skip)) (.seq (.reg false [⟨(some 9), (.lit 2 1 0 [(.int .i64 0)] []), none⟩, ⟨(some 4), (.mv (.t 9)), none⟩]) (.seq (.seq (.reg false [⟨(some 5), (.mv (.c (.int .i64 0))), none⟩]) (.block 0 (.loop (.seq (.seq (.reg false [⟨(some 10), (.mv (.t 5)), none⟩, ⟨(some 11), (.fa 1 (.t 1)), none⟩, ⟨(some 12), (.ld1 (.t 11)), none⟩, ⟨(some 13), (.len (.t 12)), none⟩, ⟨(some 14), (.cvi .u64 (.t 13)), none⟩, ⟨(some 15), (.bin .shl (.c (.int .i64 1)) (.t 14)), none⟩, ⟨(some 16), (.bin .lss (.t 10) (.t 15)), none⟩]) (.cond (.t 16) .skip (.exit 0))) (.seq (.block 1 (.seq (.reg false [⟨(some 19), (.ld 2 (.t 1)), none⟩, ⟨(some 20), (.mv (.t 5)), none⟩, ⟨(some 21), (.call (.f 93) [(.t 19), (.t 20)]), none⟩]) (.cond (.t 21) (.reg false [⟨(some 22), (.mv (.t 4)), none⟩, ⟨(some 23), (.mv (.t 5)), none⟩, ⟨(some 24), (.lit 2 1 1 [(.int .i64 0)] [(0, (.t 23))]), none⟩, ⟨(some 25), (.app 2 1 8 [(.int .i64 0)] (.t 22) (.t 24)), none⟩, ⟨(some 4), (.mv (.t 25)), none⟩]) .skip))) (.reg false [⟨(some 17), (.mv (.t 5)), none⟩, ⟨(some 18), (.bin .add (.t 17) (.c (.int .i64 1))), none⟩, ⟨(some 5), (.mv (.t 18)), none⟩])))))) (.seq (.reg false [⟨(some 26), (.mv (.t 4)), none⟩, ⟨(some 2), (.mv (.t 26)), none⟩, ⟨(some 3), (.mv (.c (.int .i64 0))), none⟩]) .ret))))), 27, [(.t 2), (.t 3)]⟩
theorem k_spec_FeasibleSets : compF Try.prog Try.f43 = some c_spec_FeasibleSets := by kernel_rfl
def c_laws_FnExactFeasibleSets : F := ⟨(.seq (.reg false [⟨(some 1), (.box 25 (.t 0)), none⟩, ⟨(some 2), (.mv (.c (.bool false))), none⟩]) (.seq (.reg false [⟨(some 3), (.mv (.c (.int .i64 1048576))), none⟩]) (.seq (.reg false [⟨(some 14), (.ld 2 (.t 1)), none⟩, ⟨(some 15), (.mv (.t 3)), none⟩, ⟨(some 16), (.call (.f 15) [(.t 14), (.t 15)]), none⟩, ⟨(some 3), (.mv (.t 16)), none⟩]) (.seq (.seq (.reg false [⟨(some 17), (.mv (.t 3)), none⟩, ⟨(some 18), (.bin .lss (.t 17) (.c (.int .i64 0))), none⟩]) (.cond (.t 18) (.seq (.reg false [⟨(some 2), (.mv (.c (.bool true))), none⟩]) .ret) .skip)) (.seq (.reg false [⟨(some 20), (.ld 2 (.t 1)), none⟩, ⟨(some 21), (.call (.f 17) [(.t 20)]), none⟩, ⟨(some 22), (.call (.f 43) [(.t 21)]), none⟩, ⟨(some 19), (.mv (.t 22)), none⟩, ⟨(some 23), (.ext (.t 19) 0), none⟩, ⟨(some 24), (.ext (.t 19) 1), none⟩, ⟨(some 4), (.mv (.t 23)), none⟩, ⟨(some 5), (.mv (.t 24)), none⟩]) (.seq (.reg false [⟨(some 25), (.ld 2 (.t 1)), none⟩, ⟨(some 26), (.call (.f 17) [(.t 25)]), none⟩, ⟨(some 6), (.alloc 29 [.nilsl, .nilsl]), none⟩, ⟨none, (.st 2 (.t 6) (.t 26)), none⟩]) (.seq (.reg false [⟨(some 28), (.ld 2 (.t 6)), none⟩, ⟨(some 29), (.call (.f 44) [(.t 28)]), none⟩, ⟨(some 27), (.mv (.t 29)), none⟩, ⟨(some 30), (.ext (.t 27) 0), none⟩, ⟨(some 31), (.ext (.t 27) 1), none⟩, ⟨(some 7), (.mv (.t 30)), none⟩, ⟨(some 8), (.mv (.t 31)), none⟩]) (.seq (.seq (.reg false [⟨(some 32), (.mv (.t 7)), none⟩, ⟨(some 33), (.mv (.t 4)), none⟩, ⟨(some 34), (.call (.f 35) [(.t 32), (.t 33)]), none⟩, ⟨(some 35), (.un .not (.t 34)), none⟩, ⟨(some 36), (.mv (.t 35)), none⟩, ⟨(some 37), (.mv (.t 8)), (some (36, false))⟩, ⟨(some 38), (.mv (.t 5)), (some (36, false))⟩, ⟨(some 39), (.bin .neq (.t 37) (.t 38)), (some (36, false))⟩, ⟨(some 40), (.pick (.t 36) (.c (.bool true)) (.t 39)), none⟩]) (.cond (.t 40) (.seq (.reg false [⟨(some 2), (.mv (.c (.bool false))), none⟩]) .ret) .skip)) (.seq (.seq (.reg true [⟨(some 41), (.ld 2 (.t 6)), none⟩, ⟨(some 42), (.ld 2 (.t 1)), none⟩, ⟨(some 43), (.call (.f 17) [(.t 42)]), none⟩, ⟨(some 44), (.call (.f 20) [(.t 41), (.t 43)]), none⟩, ⟨(some 45), (.un .not (.t 44)), none⟩]) (.cond (.t 45) (.seq (.reg false [⟨(some 2), (.mv (.c (.bool false))), none⟩]) .ret) .skip)) (.seq (.reg false [⟨(some 9), (.mv (.c (.int .i64 1))), none⟩]) (.seq (.reg false [⟨(some 46), (.ld 2 (.t 6)), none⟩, ⟨(some 47), (.mv (.t 9)), none⟩, ⟨(some 48), (.call (.f 21) [(.t 46), (.t 47)]), none⟩, ⟨(some 9), (.mv (.t 48)), none⟩]) (.seq (.seq (.reg false [⟨(some 49), (.mv (.t 9)), none⟩, ⟨(some 50), (.bin .lss (.t 49) (.c (.int .i64 0))), none⟩, ⟨(some 51), (.mv (.t 50)), none⟩, ⟨(some 52), (.mv (.t 7)), (some (51, false))⟩, ⟨(some 53), (.mv (.t 4)), (some (51, false))⟩, ⟨(some 54), (.call (.f 35) [(.t 52), (.t 53)]), (some (51, false))⟩, ⟨(some 55), (.un .not (.t 54)), (some (51, false))⟩, ⟨(some 56), (.pick (.t 51) (.c (.bool true)) (.t 55)), none⟩, ⟨(some 57), (.mv (.t 56)), none⟩, ⟨(some 58), (.mv (.t 8)), (some (57, false))⟩, ⟨(some 59), (.mv (.t 5)), (some (57, false))⟩, ⟨(some 60), (.bin .neq (.t 58) (.t 59)), (some (57, false))⟩, ⟨(some 61), (.pick (.t 57) (.c (.bool true)) (.t 60)), none⟩]) (.cond (.t 61) (.seq (.reg false [⟨(some 2), (.mv (.c (.bool false))), none⟩]) .ret) .skip)) (.seq (.reg false [⟨(some 10), (.mv (.c (.int .i64 1))), none⟩]) (.seq (.reg false [⟨(some 62), (.mv (.t 7)), none⟩, ⟨(some 63), (.mv (.t 10)), none⟩, ⟨(some 64), (.call (.f 36) [(.t 62), (.t 63)]), none⟩, ⟨(some 10), (.mv (.t 64)), none⟩]) (.seq (.reg false [⟨(some 11), (.mv (.c (.int .i64 1))), none⟩]) (.seq (.reg false [⟨(some 65), (.mv (.t 7)), none⟩, ⟨(some 66), (.mv (.t 11)), none⟩, ⟨(some 67), (.call (.f 37) [(.t 65), (.t 66)]), none⟩, ⟨(some 11), (.mv (.t 67)), none⟩]) (.seq (.seq (.reg false [⟨(some 68), (.mv (.t 11)), none⟩, ⟨(some 69), (.bin .lss (.t 68) (.c (.int .i64 0))), none⟩]) (.cond (.t 69) (.seq (.reg false [⟨(some 2), (.mv (.c (.bool false))), none⟩]) .ret) .skip)) (.seq (.seq (.reg false [⟨(some 70), (.mv (.t 11)), none⟩, ⟨(some 71), (.mv (.t 10)), none⟩, ⟨(some 72), (.bin .neq (.t 70) (.t 71)), none⟩]) (.cond (.t 72) (.seq (.reg false [⟨(some 2), (.mv (.c (.bool false))), none⟩]) .ret) .skip)) (.seq (.reg false [⟨(some 74), (.ld 2 (.t 1)), none⟩, ⟨(some 75), (.call (.f 17) [(.t 74)]), none⟩, ⟨(some 76), (.call (.f 44) [(.t 75)]), none⟩, ⟨(some 73), (.mv (.t 76)), none⟩, ⟨(some 77), (.ext (.t 73) 0), none⟩, ⟨(some 78), (.ext (.t 73) 1), none⟩, ⟨(some 12), (.mv (.t 77)), none⟩, ⟨(some 13), (.mv (.t 78)), none⟩]) (.seq (.seq (.reg false [⟨(some 79), (.mv (.t 12)), none⟩, ⟨(some 80), (.mv (.t 4)), none⟩, ⟨(some 81), (.call (.f 35) [(.t 79), (.t 80)]), none⟩, ⟨(some 82), (.un .not (.t 81)), none⟩, ⟨(some 83), (.mv (.t 82)), none⟩, ⟨(some 84), (.mv (.t 13)), (some (83, false))⟩, ⟨(some 85), (.mv (.t 5)), (some (83, false))⟩, ⟨(some 86), (.bin .neq (.t 84) (.t 85)), (some (83, false))⟩, ⟨(some 87), (.pick (.t 83) (.c (.bool true)) (.t 86)), none⟩]) (.cond (.t 87) (.seq (.reg false [⟨(some 2), (.mv (.c (.bool false))), none⟩]) .ret) .skip)) (.seq (.reg false [⟨(some 11), (.mv (.c (.int .i64 1))), none⟩]) (.seq (.reg false [⟨(some 88), (.mv (.t 7)), none⟩, ⟨(some 89), (.mv (.t 11)), none⟩, ⟨(some 90), (.call (.f 37) [(.t 88), (.t 89)]), none⟩, ⟨(some 11), (.mv (.t 90)), none⟩]) (.seq (.seq (.reg false [⟨(some 91), (.mv (.t 11)), none⟩, ⟨(some 92), (.bin .lss (.t 91) (.c (.int .i64 0))), none⟩]) (.cond (.t 92) (.seq (.reg false [⟨(some 2), (.mv (.c (.bool false))), none⟩]) .ret) .skip)) (.seq (.seq (.reg false [⟨(some 93), (.mv (.t 11)), none⟩, ⟨(some 94), (.mv (.t 10)), none⟩, ⟨(some 95), (.bin .neq (.t 93) (.t 94)), none⟩]) (.cond (.t 95) (.seq (.reg false [⟨(some 2), (.mv (.c (.bool false))), none⟩]) .ret) .skip)) (.seq (.reg false [⟨(some 2), (.mv (.c (.bool true))), none⟩]) .ret))))))))))))))))))))))))), 96, [(.t 2)]⟩
theorem k_laws_FnExactFeasibleSets : compF Try.prog Try.f10 = some c_laws_FnExactFeasibleSets := by kernel_rfl

theorem red_sign {x d : Int} (hd : d ≠ 0) : (red x d).1.sign = (d.sign * x).sign := by
  simp only [red]
  have hg : 0 < (Int.gcd x d : Int) := by have := Int.gcd_pos_of_ne_zero_right x hd; omega
  have h2 : (Int.gcd x d : Int) ∣ x * d.sign := Int.dvd_trans (Int.gcd_dvd_left ..) (Int.dvd_mul_right ..)
  obtain ⟨c, hc⟩ := h2
  rw [hc, Int.mul_ediv_cancel_left _ (by omega), Int.mul_comm d.sign, hc, Int.sign_mul, Int.sign_eq_one_of_pos hg, Int.one_mul]
theorem ptF_sign {ll : List (List Int)} {q : List Int} {s : Int} {k : Nat} (hk : k < ll.length) (hd : dtS ll s ≠ 0) : ((ptF ll q s).getD k (0, 0)).1.sign = ((solL ll q s).getD k 0).sign := by
  rw [ptF, getD_map _ _ _ 0 _ (by rw [ptL_len]; exact hk), red_sign hd, solL, ptL, rowOf_get hk, rowOf_get hk]
theorem ptF_b {ll : List (List Int)} {q : List Int} {s : Int} {k : Nat} (hk : k < ll.length) (hp : isProb ll q = true) (hd : dtS ll s ≠ 0) : in64 ((ptF ll q s).getD k (0, 0)).1 := by
  rw [ptF, getD_map _ _ _ 0 _ (by rw [ptL_len]; exact hk), ptL, rowOf_get hk]
  have h1 := dtK_b hp s k
  simp only [red]
  have h3 : -60000000000 ≤ dtK ll q s k * (dtS ll s).sign ∧ dtK ll q s k * (dtS ll s).sign ≤ 60000000000 := by rw [Int.mul_comm]; exact sign_mul_b h1
  have hg : 0 < (Int.gcd (dtK ll q s k) (dtS ll s) : Int) := by have := Int.gcd_pos_of_ne_zero_right (dtK ll q s k) hd; omega
  unfold in64
  constructor
  · have := Int.le_ediv_of_mul_le (a := -60000000000) hg (b := dtK ll q s k * (dtS ll s).sign) (by have := Int.mul_le_mul_of_nonneg_left (show (1 : Int) ≤ (Int.gcd (dtK ll q s k) (dtS ll s) : Int) by omega) (show (0 : Int) ≤ 60000000000 by omega); omega)
    omega
  · have := Int.ediv_le_self (a := 60000000000) (Int.gcd (dtK ll q s k) (dtS ll s) : Int) (by omega)
    have h5 := Int.ediv_le_ediv hg h3.2
    omega
def feasT (l : List Int) : Bool := !(List.range l.length).any fun k => decide (l.getD k 0 < 0)
def degT (l : List Int) : Bool := (List.range l.length).any fun k => decide (l.getD k 0 = 0)
theorem feasT_iff (l : List Int) : feasT l = true ↔ ∀ k, k < l.length → 0 ≤ l.getD k 0 := by
  simp only [feasT, Bool.not_eq_true', List.any_eq_false, List.mem_range, decide_eq_true_eq]
  exact ⟨fun h k hk => by have := h k hk; omega, fun h k hk => by have := h k hk; omega⟩
theorem degT_iff (l : List Int) : degT l = true ↔ ∃ k, k < l.length ∧ l.getD k 0 = 0 := by
  simp only [degT, List.any_eq_true, List.mem_range, decide_eq_true_eq]
theorem selL_pos {p : Nat → Bool} {K k : Nat} (hk : k < K) (h : p k = true) : 0 < (selL p K).length := by
  have : (k : Int) ∈ selL p K := by
    simp only [selL, List.mem_map, List.mem_filter, List.mem_range]
    exact ⟨k, ⟨hk, h⟩, rfl⟩
  exact List.length_pos_of_mem this
theorem selL_nil {p : Nat → Bool} {K : Nat} (h : ∀ k, k < K → p k = false) : selL p K = [] := by
  simp only [selL, List.map_eq_nil_iff, List.filter_eq_nil_iff, List.mem_range]
  intro a ha; simp [h a ha]
def degV (ll : List (List Int)) (q : List Int) : Bool × Int := (decide (0 < (setsV ll q degT).1.length), (setsV ll q degT).2)
def sgnV (ll : List (List Int)) (q : List Int) (a : Int) : List Int × Int :=
  if codeP ll q a = 0 then (if dtS ll a = 0 then ([], 5) else ((solL ll q a).map Int.sign, 0)) else ([], codeP ll q a)
theorem sgnV_small (ll : List (List Int)) (q : List Int) (a : Int) : (sgnV ll q a).1.length ≤ 1048576 := by
  unfold sgnV
  split
  · rename_i hc
    have := ((isMat_iff ll).1 (isProb_facts (codeP_zero.1 hc).1).1).2.1
    split
    · simp
    · simp [solL_len]; omega
  · simp
section
variable {w : Bool} {lo hi : Nat} {h : AH} {v u : AV} {vs : List AV} {ll : List (List Int)} {q : List Int} {l : List Int}
theorem impl_isFeasible_1 (x : Int) (h : AH) (n : Nat) : Q Try.prog 124 [.int .i64 x] h n (.bool (decide (x < 0))) := by
  refine q_intro Try.func124 k_impl_isFeasible_1 ?_
  simp (maxSteps := 2000000) -implicitDefEqProofs (disch := omega) only [c_impl_isFeasible_1, xsW, xsC, if_true, if_false, ite_true, ite_false, forall_const, ne_eq, beq_self_eq_true, bne_self_eq_false, imp_self, true_implies, false_implies, implies_true, evP, evE, ev, setD, Nat.reduceAdd, Nat.reduceSub, reduceCtorEq, fillA, cutA, Nat.reduceLeDiff, Nat.reduceMul, Int.reduceLT, Int.reduceLE, Int.reduceEq, Int.reduceNe, Int.reduceAdd, Int.reduceSub, Int.reduceMul, Int.reduceNeg, Int.reduceToNat]
theorem impl_isFeasible (s : Ints w lo hi h v l) (hl : l.length ≤ 1048576) (n : Nat) : Q Try.prog 94 [v] h n (.bool (feasT l)) := by
  refine q_intro Try.func94 k_impl_isFeasible ?_
  simp (maxSteps := 2000000) -implicitDefEqProofs (disch := omega) only [c_impl_isFeasible, xsW, xsC, if_true, if_false, ite_true, ite_false, forall_const, ne_eq, beq_self_eq_true, bne_self_eq_false, imp_self, true_implies, false_implies, implies_true, evP, evE, ev, setD, Nat.reduceAdd, Nat.reduceSub, reduceCtorEq, fillA, cutA, Nat.reduceLeDiff, Nat.reduceMul, Int.reduceLT, Int.reduceLE, Int.reduceEq, Int.reduceNe, Int.reduceAdd, Int.reduceSub, Int.reduceMul, Int.reduceNeg, Int.reduceToNat]
  have hsl := s.slen
  refine q_use (has_ints s (by omega) _ _ (fun k => decide (l.getD k 0 < 0)) _ fun k n' hk _ => ?_) fun n1 hn1 => ?_
  · rw [ints_getD l k (by omega)]
    exact impl_isFeasible_1 _ _ _
  · simp (maxSteps := 2000000) -implicitDefEqProofs (disch := omega) only [xsW, xsC, if_true, if_false, ite_true, ite_false, forall_const, ne_eq, beq_self_eq_true, bne_self_eq_false, imp_self, true_implies, false_implies, implies_true, evP, evE, ev, setD, Nat.reduceAdd, Nat.reduceSub, reduceCtorEq, fillA, cutA, Nat.reduceLeDiff, Nat.reduceMul, Int.reduceLT, Int.reduceLE, Int.reduceEq, Int.reduceNe, Int.reduceAdd, Int.reduceSub, Int.reduceMul, Int.reduceNeg, Int.reduceToNat]
    rw [hsl]; rfl
theorem impl_FeasibleSets (s : Prob w lo hi h v u vs ll q) (hl : ll.length ≤ 1048576) (hll : ∀ l ∈ ll, l.length ≤ 1048576) (hq : q.length ≤ 1048576) (n : Nat) (hn : hi ≤ n) :
    FQ Try.prog 44 [.agg [v, u]] h n fun x h' n' => ∃ v', x = .tup [v', .int .i64 (setsV ll q feasT).2] ∧ Ints true n n' h' v' (setsV ll q feasT).1 := by
  refine fq_intro Try.func44 k_impl_FeasibleSets ?_
  have o1 := one_any (Sl.any s.M.out)
  have o2 := one_any (Sl.any s.Q)
  simp (maxSteps := 2000000) -implicitDefEqProofs (disch := omega) only [c_impl_FeasibleSets, o1, o2, xsW, xsC, if_true, if_false, ite_true, ite_false, forall_const, ne_eq, beq_self_eq_true, bne_self_eq_false, imp_self, true_implies, false_implies, implies_true, evP, evE, ev, setD, Nat.reduceAdd, Nat.reduceSub, reduceCtorEq, fillA, cutA, Nat.reduceLeDiff, Nat.reduceMul, Int.reduceLT, Int.reduceLE, Int.reduceEq, Int.reduceNe, Int.reduceAdd, Int.reduceSub, Int.reduceMul, Int.reduceNeg, Int.reduceToNat]
  refine fq_use (impl_sets (s.keep (fun i _ hi9 => by simp (disch := omega) only [upd_other])) hl hll hq _ feasT (fun l v' _ _ h' n' sl hl _ => impl_isFeasible sl (by omega) n') _ (by omega)) fun x1 h1 n1 hn1 hs1 ⟨v1, hx1, hv1⟩ => ?_
  subst hx1
  simp (maxSteps := 2000000) -implicitDefEqProofs (disch := omega) only [xsW, xsC, if_true, if_false, ite_true, ite_false, forall_const, ne_eq, beq_self_eq_true, bne_self_eq_false, imp_self, true_implies, false_implies, implies_true, evP, evE, ev, setD, Nat.reduceAdd, Nat.reduceSub, reduceCtorEq, fillA, cutA, Nat.reduceLeDiff, Nat.reduceMul, Int.reduceLT, Int.reduceLE, Int.reduceEq, Int.reduceNe, Int.reduceAdd, Int.reduceSub, Int.reduceMul, Int.reduceNeg, Int.reduceToNat]
  intro _ h2 hh
  exact ⟨v1, rfl, (hv1.keep fun i a b => hh i (by omega) b).wide (by omega) (Nat.le_refl _)⟩
theorem spec_l02Feasible (s : Prob w lo hi h v u vs ll q) (hp : isProb ll q = true) (a : Nat) (n : Nat) (hn : hi ≤ n) :
    Q Try.prog 93 [.agg [v, u], .int .i64 a] h n (.bool (setP ll q feasT a)) := by
  refine q_intro Try.func93 k_spec_l02Feasible ?_
  have o1 := one_any (Sl.any s.M.out)
  have o2 := one_any (Sl.any s.Q)
  have hN := ((isMat_iff ll).1 (isProb_facts hp).1).2.1
  have hlen := solL_len ll q a
  simp (maxSteps := 2000000) -implicitDefEqProofs (disch := omega) only [c_spec_l02Feasible, o1, o2, xsW, xsC, if_true, if_false, ite_true, ite_false, forall_const, ne_eq, beq_self_eq_true, bne_self_eq_false, imp_self, true_implies, false_implies, implies_true, evP, evE, ev, setD, Nat.reduceAdd, Nat.reduceSub, reduceCtorEq, fillA, cutA, Nat.reduceLeDiff, Nat.reduceMul, Int.reduceLT, Int.reduceLE, Int.reduceEq, Int.reduceNe, Int.reduceAdd, Int.reduceSub, Int.reduceMul, Int.reduceNeg, Int.reduceToNat]
  refine fq_use (spec_l01Point (s.keep (fun i _ hi9 => by simp (disch := omega) only [upd_other])) hp a _ (by omega)) fun x1 h1 n1 hn1 hs1 hx1 => ?_
  rcases hx1 with ⟨d1, rfl⟩ | ⟨d1, v1, rfl, hv1⟩
  · simp (maxSteps := 2000000) -implicitDefEqProofs (disch := omega) only [xsW, xsC, if_true, if_false, ite_true, ite_false, forall_const, ne_eq, beq_self_eq_true, bne_self_eq_false, imp_self, true_implies, false_implies, implies_true, evP, evE, ev, setD, Nat.reduceAdd, Nat.reduceSub, reduceCtorEq, fillA, cutA, Nat.reduceLeDiff, Nat.reduceMul, Int.reduceLT, Int.reduceLE, Int.reduceEq, Int.reduceNe, Int.reduceAdd, Int.reduceSub, Int.reduceMul, Int.reduceNeg, Int.reduceToNat]
    refine loop_for 0 0 (fun k (_ : Unit) => [.agg [v, u], .int .i64 a, .ptr n 0, .any, .bool false, .nilsl, .bool false, .int .i64 k, .any, .any, .any, .any, .any, .any, .any, .any, .any, .any, .any, .any, .any, .any, .any, .any, .any, .any, .any, .any, .any, .any]) (fun _ _ => h1) (fun _ _ _ => True) () (Nat.zero_le _) trivial (by simp [LeL, Le1]) (fun _ _ h => h) ?_
    rintro k - m - hk hm -
    simp (maxSteps := 2000000) -implicitDefEqProofs (disch := omega) only [xsW, xsC, if_true, if_false, ite_true, ite_false, forall_const, ne_eq, beq_self_eq_true, bne_self_eq_false, imp_self, true_implies, false_implies, implies_true, evP, evE, ev, setD, Nat.reduceAdd, Nat.reduceSub, reduceCtorEq, fillA, cutA, Nat.reduceLeDiff, Nat.reduceMul, Int.reduceLT, Int.reduceLE, Int.reduceEq, Int.reduceNe, Int.reduceAdd, Int.reduceSub, Int.reduceMul, Int.reduceNeg, Int.reduceToNat]
    have e : k = 0 := by omega
    subst e
    simp [setP, d1]
  · have hpl := ptF_len ll q a
    simp (maxSteps := 2000000) -implicitDefEqProofs (disch := omega) only [xsW, xsC, if_true, if_false, ite_true, ite_false, forall_const, ne_eq, beq_self_eq_true, bne_self_eq_false, imp_self, true_implies, false_implies, implies_true, evP, evE, ev, setD, Nat.reduceAdd, Nat.reduceSub, reduceCtorEq, fillA, cutA, Nat.reduceLeDiff, Nat.reduceMul, Int.reduceLT, Int.reduceLE, Int.reduceEq, Int.reduceNe, Int.reduceAdd, Int.reduceSub, Int.reduceMul, Int.reduceNeg, Int.reduceToNat]
    refine loop_for ll.length 0 (fun k b => [.agg [v, u], .int .i64 a, .ptr n 0, .any, .bool false, v1, .bool b, .int .i64 k, .any, .any, .any, .any, .any, .any, .any, .any, .any, .any, .any, .any, .any, .any, .any, .any, .any, .any, .any, .any, .any, .any]) (fun _ _ => h1)
      (fun k b _ => (b = true → ∀ j, j < k → 0 ≤ (solL ll q a).getD j 0) ∧ (b = false → feasT (solL ll q a) = false)) true (Nat.zero_le _) ⟨fun _ j hj => absurd hj (Nat.not_lt_zero _), fun hb => by cases hb⟩ (by simp [LeL, Le1]) (fun _ _ h => h) ?_
    rintro k b m - hk hm ⟨hb1, hb2⟩
    have hb64 := fun k (hk : k < ll.length) => ptF_b (s := (a : Int)) hk hp d1
    simp (maxSteps := 2000000) -implicitDefEqProofs (disch := omega) only [xsW, xsC, if_true, if_false, ite_true, ite_false, forall_const, ne_eq, beq_self_eq_true, bne_self_eq_false, imp_self, true_implies, false_implies, implies_true, evP, evE, ev, setD, Nat.reduceAdd, Nat.reduceSub, reduceCtorEq, fillA, cutA, Nat.reduceLeDiff, Nat.reduceMul, Int.reduceLT, Int.reduceLE, Int.reduceEq, Int.reduceNe, Int.reduceAdd, Int.reduceSub, Int.reduceMul, Int.reduceNeg, Int.reduceToNat,  hv1.ln, hpl]
    (refine gd_dec (fun c1 => ?_) (fun c1 => ?_) <;> simp (maxSteps := 2000000) -implicitDefEqProofs (disch := omega) only [xsW, xsC, if_true, if_false, ite_true, ite_false, forall_const, ne_eq, beq_self_eq_true, bne_self_eq_false, imp_self, true_implies, false_implies, implies_true, evP, evE, ev, setD, Nat.reduceAdd, Nat.reduceSub, reduceCtorEq, fillA, cutA, Nat.reduceLeDiff, Nat.reduceMul, Int.reduceLT, Int.reduceLE, Int.reduceEq, Int.reduceNe, Int.reduceAdd, Int.reduceSub, Int.reduceMul, Int.reduceNeg, Int.reduceToNat,  c1])
    · have hk2 : k < ll.length := by omega
      have hsg := ptF_sign (q := q) (s := (a : Int)) hk2 d1
      cases b
      · simp (maxSteps := 2000000) -implicitDefEqProofs (disch := omega) only [xsW, xsC, if_true, if_false, ite_true, ite_false, forall_const, ne_eq, beq_self_eq_true, bne_self_eq_false, imp_self, true_implies, false_implies, implies_true, evP, evE, ev, setD, Nat.reduceAdd, Nat.reduceSub, reduceCtorEq, fillA, cutA, Nat.reduceLeDiff, Nat.reduceMul, Int.reduceLT, Int.reduceLE, Int.reduceEq, Int.reduceNe, Int.reduceAdd, Int.reduceSub, Int.reduceMul, Int.reduceNeg, Int.reduceToNat]
        simp [setP, hb2 rfl]
      · simp (maxSteps := 2000000) -implicitDefEqProofs (disch := omega) only [xsW, xsC, if_true, if_false, ite_true, ite_false, forall_const, ne_eq, beq_self_eq_true, bne_self_eq_false, imp_self, true_implies, false_implies, implies_true, evP, evE, ev, setD, Nat.reduceAdd, Nat.reduceSub, reduceCtorEq, fillA, cutA, Nat.reduceLeDiff, Nat.reduceMul, Int.reduceLT, Int.reduceLE, Int.reduceEq, Int.reduceNe, Int.reduceAdd, Int.reduceSub, Int.reduceMul, Int.reduceNeg, Int.reduceToNat,  hv1.ia, hv1.ldn, hpl]
        refine ⟨decide (0 ≤ ((ptF ll q a).getD k (0, 0)).1), ⟨fun hb j hj => ?_, fun hb => ?_⟩, by omega, by omega, (by simp [LeL, Le1])⟩
        · rcases Nat.lt_succ_iff_lt_or_eq.1 hj with hj | rfl
          · exact hb1 rfl j hj
          · have h0 := of_decide_eq_true hb
            rcases Int.lt_or_le ((solL ll q a).getD j 0) 0 with h9 | h9
            · rw [Int.sign_eq_neg_one_of_neg h9] at hsg
              have := Int.neg_of_sign_eq_neg_one hsg
              omega
            · exact h9
        · have h0 := of_decide_eq_false hb
          have h8 : (solL ll q a).getD k 0 < 0 := by
            rw [Int.sign_eq_neg_one_of_neg (by omega)] at hsg
            exact Int.neg_of_sign_eq_neg_one hsg.symm
          cases hf : feasT (solL ll q a)
          · rfl
          · have := (feasT_iff _).1 hf k (by omega)
            omega
    · have e : k = ll.length := by omega
      subst e
      cases b
      · simp [setP, hb2 rfl]
      · have : feasT (solL ll q a) = true := (feasT_iff _).2 fun j hj => hb1 rfl j (by omega)
        simp [setP, this, d1]
theorem spec_FeasibleSets (s : Prob w lo hi h v u vs ll q) (hl : ll.length ≤ 1048576) (hll : ∀ l ∈ ll, l.length ≤ 1048576) (hq : q.length ≤ 1048576) (n : Nat) (hn : hi ≤ n) :
    FQ Try.prog 43 [.agg [v, u]] h n fun x h' n' => ∃ v', x = .tup [v', .int .i64 (setsV ll q feasT).2] ∧ Ints true n n' h' v' (setsV ll q feasT).1 := by
  refine fq_intro Try.func43 k_spec_FeasibleSets ?_
  have o1 := one_any (Sl.any s.M.out)
  have o2 := one_any (Sl.any s.Q)
  simp (maxSteps := 2000000) -implicitDefEqProofs (disch := omega) only [c_spec_FeasibleSets, o1, o2, xsW, xsC, if_true, if_false, ite_true, ite_false, forall_const, ne_eq, beq_self_eq_true, bne_self_eq_false, imp_self, true_implies, false_implies, implies_true, evP, evE, ev, setD, Nat.reduceAdd, Nat.reduceSub, reduceCtorEq, fillA, cutA, Nat.reduceLeDiff, Nat.reduceMul, Int.reduceLT, Int.reduceLE, Int.reduceEq, Int.reduceNe, Int.reduceAdd, Int.reduceSub, Int.reduceMul, Int.reduceNeg, Int.reduceToNat]
  refine q_use (spec_l01Is (s.keep (fun i _ hi9 => by simp (disch := omega) only [upd_other])) hl hll hq _ (by omega)) fun n1 hn1 => ?_
  cases hp : isProb ll q
  · simp (maxSteps := 2000000) -implicitDefEqProofs (disch := omega) only [xsW, xsC, if_true, if_false, ite_true, ite_false, forall_const, ne_eq, beq_self_eq_true, bne_self_eq_false, imp_self, true_implies, false_implies, implies_true, evP, evE, ev, setD, Nat.reduceAdd, Nat.reduceSub, reduceCtorEq, fillA, cutA, Nat.reduceLeDiff, Nat.reduceMul, Int.reduceLT, Int.reduceLE, Int.reduceEq, Int.reduceNe, Int.reduceAdd, Int.reduceSub, Int.reduceMul, Int.reduceNeg, Int.reduceToNat]
    intro _ h2 _
    exact ⟨.nilsl, by simp [setsV, hp], by simp [setsV, hp]; exact Sl.nil⟩
  · obtain ⟨hm, hql, _⟩ := isProb_facts hp
    have hN := ((isMat_iff ll).1 hm).2.1
    have hpw := pw_le hN
    simp (maxSteps := 2000000) -implicitDefEqProofs (disch := omega) only [xsW, xsC, if_true, if_false, ite_true, ite_false, forall_const, ne_eq, beq_self_eq_true, bne_self_eq_false, imp_self, true_implies, false_implies, implies_true, evP, evE, ev, setD, Nat.reduceAdd, Nat.reduceSub, reduceCtorEq, fillA, cutA, Nat.reduceLeDiff, Nat.reduceMul, Int.reduceLT, Int.reduceLE, Int.reduceEq, Int.reduceNe, Int.reduceAdd, Int.reduceSub, Int.reduceMul, Int.reduceNeg, Int.reduceToNat]
    refine loop_for (pw ll.length) 0 (fun k p => [.agg [v, u], .ptr n 0, .nilsl, .int .i64 0, p.1, .int .i64 k, .any, .any, .any, .any, .any, .any, .any, .any, .any, .any, .any, .any, .any, .any, .any, .any, .any, .any, .any, .any, .any]) (fun _ (p : AV × AH) => p.2)
      (fun k p m => Acc n1 m p.2 2 1 p.1 (ints (selL (setP ll q feasT) k)) ∧ n1 ≤ m ∧ ∀ j, j < n1 → p.2 j = upd h n (some ⟨29, [v, u], true, 0⟩) j) (.sl n1 0 0 0, _) (Nat.zero_le _) ⟨Acc.empty (upd_same _ _ _) rfl (Nat.le_refl _) (by omega), by omega, fun j hj => upd_other (by omega)⟩ (by simp [LeL, Le1]) (fun _ _ h => h) ?_
    rintro k ⟨out, hp'⟩ m - hk hm1 ⟨acc, hle, hold⟩
    simp only at acc hold
    have hbox : hp' n = some ⟨29, [v, u], true, 0⟩ := by rw [hold n (by omega), upd_same]
    simp (maxSteps := 2000000) -implicitDefEqProofs (disch := omega) only [xsW, xsC, if_true, if_false, ite_true, ite_false, forall_const, ne_eq, beq_self_eq_true, bne_self_eq_false, imp_self, true_implies, false_implies, implies_true, evP, evE, ev, setD, Nat.reduceAdd, Nat.reduceSub, reduceCtorEq, fillA, cutA, Nat.reduceLeDiff, Nat.reduceMul, Int.reduceLT, Int.reduceLE, Int.reduceEq, Int.reduceNe, Int.reduceAdd, Int.reduceSub, Int.reduceMul, Int.reduceNeg, Int.reduceToNat,  hbox, s.Q.ln, hql, shl1]
    (refine cd_dec (fun c1 => ?_) (fun c1 => ?_) <;> simp (maxSteps := 2000000) -implicitDefEqProofs (disch := omega) only [xsW, xsC, if_true, if_false, ite_true, ite_false, forall_const, ne_eq, beq_self_eq_true, bne_self_eq_false, imp_self, true_implies, false_implies, implies_true, evP, evE, ev, setD, Nat.reduceAdd, Nat.reduceSub, reduceCtorEq, fillA, cutA, Nat.reduceLeDiff, Nat.reduceMul, Int.reduceLT, Int.reduceLE, Int.reduceEq, Int.reduceNe, Int.reduceAdd, Int.reduceSub, Int.reduceMul, Int.reduceNeg, Int.reduceToNat,  c1])
    · have hsl := selL_len (setP ll q feasT) k
      simp (maxSteps := 2000000) -implicitDefEqProofs (disch := omega) only [xsW, xsC, if_true, if_false, ite_true, ite_false, forall_const, ne_eq, beq_self_eq_true, bne_self_eq_false, imp_self, true_implies, false_implies, implies_true, evP, evE, ev, setD, Nat.reduceAdd, Nat.reduceSub, reduceCtorEq, fillA, cutA, Nat.reduceLeDiff, Nat.reduceMul, Int.reduceLT, Int.reduceLE, Int.reduceEq, Int.reduceNe, Int.reduceAdd, Int.reduceSub, Int.reduceMul, Int.reduceNeg, Int.reduceToNat,  hbox]
      refine q_use (spec_l02Feasible (s.keep (h' := hp') (fun i _ hi9 => by simp (disch := omega) only [upd_other, hold])) hp k m (by omega)) fun n2 hn2 => ?_
      have acc1 := acc.wide (Nat.le_refl _) (show m ≤ n2 by omega)
      cases hf : setP ll q feasT k
      · simp (maxSteps := 2000000) -implicitDefEqProofs (disch := omega) only [xsW, xsC, if_true, if_false, ite_true, ite_false, forall_const, ne_eq, beq_self_eq_true, bne_self_eq_false, imp_self, true_implies, false_implies, implies_true, evP, evE, ev, setD, Nat.reduceAdd, Nat.reduceSub, reduceCtorEq, fillA, cutA, Nat.reduceLeDiff, Nat.reduceMul, Int.reduceLT, Int.reduceLE, Int.reduceEq, Int.reduceNe, Int.reduceAdd, Int.reduceSub, Int.reduceMul, Int.reduceNeg, Int.reduceToNat]
        exact ⟨(out, hp'), ⟨by rw [selL_f hf]; exact acc1, by omega, hold⟩, by omega, by omega, (by simp [LeL, Le1]), fun _ _ h => h⟩
      · simp (maxSteps := 2000000) -implicitDefEqProofs (disch := omega) only [xsW, xsC, if_true, if_false, ite_true, ite_false, forall_const, ne_eq, beq_self_eq_true, bne_self_eq_false, imp_self, true_implies, false_implies, implies_true, evP, evE, ev, setD, Nat.reduceAdd, Nat.reduceSub, reduceCtorEq, fillA, cutA, Nat.reduceLeDiff, Nat.reduceMul, Int.reduceLT, Int.reduceLE, Int.reduceEq, Int.reduceNe, Int.reduceAdd, Int.reduceSub, Int.reduceMul, Int.reduceNeg, Int.reduceToNat]
        refine app_int (y := (k : Int)) (acc1.keep (fun i _ hi9 => by simp (disch := omega) only [upd_other]) |>.wide (Nat.le_refl _) (by omega)) (by omega) (by omega) ⟨rfl, _, upd_same _ _ _, by simp, by simp [cutA]⟩ (by omega) fun v' h' n' q1 q2 q3 => ?_
        simp (maxSteps := 2000000) -implicitDefEqProofs (disch := omega) only [xsW, xsC, if_true, if_false, ite_true, ite_false, forall_const, ne_eq, beq_self_eq_true, bne_self_eq_false, imp_self, true_implies, false_implies, implies_true, evP, evE, ev, setD, Nat.reduceAdd, Nat.reduceSub, reduceCtorEq, fillA, cutA, Nat.reduceLeDiff, Nat.reduceMul, Int.reduceLT, Int.reduceLE, Int.reduceEq, Int.reduceNe, Int.reduceAdd, Int.reduceSub, Int.reduceMul, Int.reduceNeg, Int.reduceToNat]
        exact ⟨(v', h'), ⟨by rw [selL_t hf]; exact q2, by omega, fun j hj => (q3 j hj).trans (by rw [upd_other (by omega), hold j hj])⟩, by omega, by omega, (by simp [LeL, Le1]), fun _ _ h => h⟩
    · have e : k = pw ll.length := by omega
      subst e
      intro _ h2 hh
      exact ⟨out, by simp [setsV, hp], by simp only [setsV, hp, if_true]; exact (Acc.sl (acc.keep fun i a b => hh i (by omega) b)).wide (by omega) (Nat.le_refl _)⟩
theorem feas_small {ll : List (List Int)} {q : List Int} : (setsV ll q feasT).1.length ≤ 1048576 := setsV_small _ _ _
end
set_option maxHeartbeats 2000000 in
theorem laws_FeasibleSets {h : AH} {w_p : Bool} {lo_p hi_p : Nat} {v_p u_p : AV} {vs_p : List AV} {p : List (List Int)} {q_p : List Int} (s_p : Prob w_p lo_p hi_p h v_p u_p vs_p p q_p) (hl_p : p.length ≤ 9223372036854775807) (hll_p : ∀ l ∈ p, l.length ≤ 9223372036854775807) (hlq_p : q_p.length ≤ 9223372036854775807) (n : Nat) (hn_p : hi_p ≤ n) :
    Q Try.prog 10 [.agg [v_p, u_p]] h n (.bool true) := by
  refine q_intro Try.func10 k_laws_FnExactFeasibleSets ?_
  have o1 := one_any (Sl.any s_p.M.out)
  have oq1 := sto_any (Sl.any s_p.M.out)
  have oc1 := cel_any (Sl.any s_p.M.out)
  have o2 := one_any (Sl.any s_p.Q)
  have oq2 := sto_any (Sl.any s_p.Q)
  have oc2 := cel_any (Sl.any s_p.Q)
  simp (maxSteps := 2000000) -implicitDefEqProofs (disch := omega) only [c_laws_FnExactFeasibleSets, o1, oq1, oc1, o2, oq2, oc2, xsW, xsC, if_true, if_false, ite_true, ite_false, forall_const, ne_eq, beq_self_eq_true, bne_self_eq_false, imp_self, true_implies, false_implies, implies_true, evP, evE, ev, setD, Nat.reduceAdd, Nat.reduceSub, reduceCtorEq, fillA, cutA, Nat.reduceLeDiff, Nat.reduceMul, Int.reduceLT, Int.reduceLE, Int.reduceEq, Int.reduceNe, Int.reduceAdd, Int.reduceSub, Int.reduceMul, Int.reduceNeg, Int.reduceToNat]
  refine q_use_ex (laws_szProblem (s_p.keep (fun i _ hi9 => by simp (disch := omega) only [upd_other])) hl_p hll_p hlq_p 1048576 (by omega) (by omega) _ (by omega)) fun rz3 n3 hn3 ⟨hr3a, hr3b, hr3c⟩ => ?_
  simp (maxSteps := 2000000) -implicitDefEqProofs (disch := omega) only [xsW, xsC, if_true, if_false, ite_true, ite_false, forall_const, ne_eq, beq_self_eq_true, bne_self_eq_false, imp_self, true_implies, false_implies, implies_true, evP, evE, ev, setD, Nat.reduceAdd, Nat.reduceSub, reduceCtorEq, fillA, cutA, Nat.reduceLeDiff, Nat.reduceMul, Int.reduceLT, Int.reduceLE, Int.reduceEq, Int.reduceNe, Int.reduceAdd, Int.reduceSub, Int.reduceMul, Int.reduceNeg, Int.reduceToNat,  o1, oq1, oc1, o2, oq2, oc2]
  (refine cd_dec (fun cz3 => ?_) (fun cz3 => ?_) <;> simp (maxSteps := 2000000) -implicitDefEqProofs (disch := omega) only [xsW, xsC, if_true, if_false, ite_true, ite_false, forall_const, ne_eq, beq_self_eq_true, bne_self_eq_false, imp_self, true_implies, false_implies, implies_true, evP, evE, ev, setD, Nat.reduceAdd, Nat.reduceSub, reduceCtorEq, fillA, cutA, Nat.reduceLeDiff, Nat.reduceMul, Int.reduceLT, Int.reduceLE, Int.reduceEq, Int.reduceNe, Int.reduceAdd, Int.reduceSub, Int.reduceMul, Int.reduceNeg, Int.reduceToNat,  cz3])
  obtain ⟨hb_p, hbb_p⟩ := sz_len2 (by omega) (fun h0 => (hr3c h0).1) cz3
  have hbq_p : q_p.length ≤ 1048576 := by have := (hr3c (by omega)).2; omega
  refine fq_use (laws_toProblem (s_p.keep (fun i _ hi9 => by simp (disch := omega) only [upd_other])) hb_p hbb_p hbq_p _ (by omega)) fun x4 h4 n4 hn4 hs4 ⟨v4, u4, vs4, hx4, hv4⟩ => ?_
  subst hx4
  have o5 := one_any (Sl.any hv4.M.out)
  have oq5 := sto_any (Sl.any hv4.M.out)
  have oc5 := cel_any (Sl.any hv4.M.out)
  have o6 := one_any (Sl.any hv4.Q)
  have oq6 := sto_any (Sl.any hv4.Q)
  have oc6 := cel_any (Sl.any hv4.Q)
  simp (maxSteps := 2000000) -implicitDefEqProofs (disch := omega) only [xsW, xsC, if_true, if_false, ite_true, ite_false, forall_const, ne_eq, beq_self_eq_true, bne_self_eq_false, imp_self, true_implies, false_implies, implies_true, evP, evE, ev, setD, Nat.reduceAdd, Nat.reduceSub, reduceCtorEq, fillA, cutA, Nat.reduceLeDiff, Nat.reduceMul, Int.reduceLT, Int.reduceLE, Int.reduceEq, Int.reduceNe, Int.reduceAdd, Int.reduceSub, Int.reduceMul, Int.reduceNeg, Int.reduceToNat,  o1, oq1, oc1, o2, oq2, oc2, o5, oq5, oc5, o6, oq6, oc6, hs4]
  refine fq_use (spec_FeasibleSets (hv4.keep (fun i _ hi9 => by simp (disch := omega) only [upd_other, hs4])) hb_p hbb_p hbq_p _ (by omega)) fun x7 h7 n7 hn7 hs7 ⟨v7, hx7, hv7⟩ => ?_
  subst hx7
  simp (maxSteps := 2000000) -implicitDefEqProofs (disch := omega) only [xsW, xsC, if_true, if_false, ite_true, ite_false, forall_const, ne_eq, beq_self_eq_true, bne_self_eq_false, imp_self, true_implies, false_implies, implies_true, evP, evE, ev, setD, Nat.reduceAdd, Nat.reduceSub, reduceCtorEq, fillA, cutA, Nat.reduceLeDiff, Nat.reduceMul, Int.reduceLT, Int.reduceLE, Int.reduceEq, Int.reduceNe, Int.reduceAdd, Int.reduceSub, Int.reduceMul, Int.reduceNeg, Int.reduceToNat,  o1, oq1, oc1, o2, oq2, oc2, o5, oq5, oc5, o6, oq6, oc6, hs7, hs4]
  refine fq_use (laws_toProblem (s_p.keep (fun i _ hi9 => by simp (disch := omega) only [upd_other, hs7, hs4])) hb_p hbb_p hbq_p _ (by omega)) fun x8 h8 n8 hn8 hs8 ⟨v8, u8, vs8, hx8, hv8⟩ => ?_
  subst hx8
  have o9 := one_any (Sl.any hv8.M.out)
  have oq9 := sto_any (Sl.any hv8.M.out)
  have oc9 := cel_any (Sl.any hv8.M.out)
  have o10 := one_any (Sl.any hv8.Q)
  have oq10 := sto_any (Sl.any hv8.Q)
  have oc10 := cel_any (Sl.any hv8.Q)
  simp (maxSteps := 2000000) -implicitDefEqProofs (disch := omega) only [xsW, xsC, if_true, if_false, ite_true, ite_false, forall_const, ne_eq, beq_self_eq_true, bne_self_eq_false, imp_self, true_implies, false_implies, implies_true, evP, evE, ev, setD, Nat.reduceAdd, Nat.reduceSub, reduceCtorEq, fillA, cutA, Nat.reduceLeDiff, Nat.reduceMul, Int.reduceLT, Int.reduceLE, Int.reduceEq, Int.reduceNe, Int.reduceAdd, Int.reduceSub, Int.reduceMul, Int.reduceNeg, Int.reduceToNat,  o1, oq1, oc1, o2, oq2, oc2, o5, oq5, oc5, o6, oq6, oc6, o9, oq9, oc9, o10, oq10, oc10, hs8, hs7, hs4]
  refine fq_use (impl_FeasibleSets (hv8.keep (fun i _ hi9 => by simp (disch := omega) only [upd_other, hs8, hs7, hs4])) hb_p hbb_p hbq_p _ (by omega)) fun x11 h11 n11 hn11 hs11 ⟨v11, hx11, hv11⟩ => ?_
  subst hx11
  have hBR := feas_small (ll := p) (q := q_p)
  simp (maxSteps := 2000000) -implicitDefEqProofs (disch := omega) only [xsW, xsC, if_true, if_false, ite_true, ite_false, forall_const, ne_eq, beq_self_eq_true, bne_self_eq_false, imp_self, true_implies, false_implies, implies_true, evP, evE, ev, setD, Nat.reduceAdd, Nat.reduceSub, reduceCtorEq, fillA, cutA, Nat.reduceLeDiff, Nat.reduceMul, Int.reduceLT, Int.reduceLE, Int.reduceEq, Int.reduceNe, Int.reduceAdd, Int.reduceSub, Int.reduceMul, Int.reduceNeg, Int.reduceToNat,  o1, oq1, oc1, o2, oq2, oc2, o5, oq5, oc5, o6, oq6, oc6, o9, oq9, oc9, o10, oq10, oc10, hs11, hs8, hs7, hs4]
  refine q_use (laws_eqInt64S (hv11.keep (fun i _ hi9 => by simp (disch := omega) only [upd_other, hs11, hs8, hs7, hs4])) (hv7.keep (fun i _ hi9 => by simp (disch := omega) only [upd_other, hs11, hs8, hs7, hs4])) hBR _) fun n12 hn12 => ?_
  simp (maxSteps := 2000000) -implicitDefEqProofs (disch := omega) only [xsW, xsC, if_true, if_false, ite_true, ite_false, forall_const, ne_eq, beq_self_eq_true, bne_self_eq_false, imp_self, true_implies, false_implies, implies_true, evP, evE, ev, setD, Nat.reduceAdd, Nat.reduceSub, reduceCtorEq, fillA, cutA, Nat.reduceLeDiff, Nat.reduceMul, Int.reduceLT, Int.reduceLE, Int.reduceEq, Int.reduceNe, Int.reduceAdd, Int.reduceSub, Int.reduceMul, Int.reduceNeg, Int.reduceToNat,  o1, oq1, oc1, o2, oq2, oc2, o5, oq5, oc5, o6, oq6, oc6, o9, oq9, oc9, o10, oq10, oc10, hs11, hs8, hs7, hs4]
  refine fq_use (laws_toProblem (s_p.keep (fun i _ hi9 => by simp (disch := omega) only [upd_other, hs11, hs8, hs7, hs4])) hb_p hbb_p hbq_p _ (by omega)) fun x13 h13 n13 hn13 hs13 ⟨v13, u13, vs13, hx13, hv13⟩ => ?_
  subst hx13
  have o14 := one_any (Sl.any hv13.M.out)
  have oq14 := sto_any (Sl.any hv13.M.out)
  have oc14 := cel_any (Sl.any hv13.M.out)
  have o15 := one_any (Sl.any hv13.Q)
  have oq15 := sto_any (Sl.any hv13.Q)
  have oc15 := cel_any (Sl.any hv13.Q)
  simp (maxSteps := 2000000) -implicitDefEqProofs (disch := omega) only [xsW, xsC, if_true, if_false, ite_true, ite_false, forall_const, ne_eq, beq_self_eq_true, bne_self_eq_false, imp_self, true_implies, false_implies, implies_true, evP, evE, ev, setD, Nat.reduceAdd, Nat.reduceSub, reduceCtorEq, fillA, cutA, Nat.reduceLeDiff, Nat.reduceMul, Int.reduceLT, Int.reduceLE, Int.reduceEq, Int.reduceNe, Int.reduceAdd, Int.reduceSub, Int.reduceMul, Int.reduceNeg, Int.reduceToNat,  o1, oq1, oc1, o2, oq2, oc2, o5, oq5, oc5, o6, oq6, oc6, o9, oq9, oc9, o10, oq10, oc10, o14, oq14, oc14, o15, oq15, oc15, hs13, hs11, hs8, hs7, hs4]
  refine q_use (laws_eqProblem (hv8.keep (fun i _ hi9 => by simp (disch := omega) only [upd_other, hs13, hs11, hs8, hs7, hs4])) (hv13.keep (fun i _ hi9 => by simp (disch := omega) only [upd_other, hs13, hs11, hs8, hs7, hs4])) hb_p hbb_p hbq_p _ (by omega) (by omega)) fun n16 hn16 => ?_
  simp (maxSteps := 2000000) -implicitDefEqProofs (disch := omega) only [xsW, xsC, if_true, if_false, ite_true, ite_false, forall_const, ne_eq, beq_self_eq_true, bne_self_eq_false, imp_self, true_implies, false_implies, implies_true, evP, evE, ev, setD, Nat.reduceAdd, Nat.reduceSub, reduceCtorEq, fillA, cutA, Nat.reduceLeDiff, Nat.reduceMul, Int.reduceLT, Int.reduceLE, Int.reduceEq, Int.reduceNe, Int.reduceAdd, Int.reduceSub, Int.reduceMul, Int.reduceNeg, Int.reduceToNat,  o1, oq1, oc1, o2, oq2, oc2, o5, oq5, oc5, o6, oq6, oc6, o9, oq9, oc9, o10, oq10, oc10, o14, oq14, oc14, o15, oq15, oc15, hs13, hs11, hs8, hs7, hs4]
  have ht_p := tot_bound p 1048576 hbb_p
  have hu_p : p.length * 1048576 ≤ 1048576 * 1048576 := Nat.mul_le_mul hb_p (Nat.le_refl _)
  refine mq_use (laws_markProblem (hv8.keep (fun i _ hi9 => by simp (disch := omega) only [upd_other, hs13, hs11, hs8, hs7, hs4])) _ (by omega) (by omega) hb_p _ (by omega)) (fun i a b => .inl (by omega)) fun x17 h17 n17 hn17 ⟨he17, hs17⟩ => ?_
  subst he17
  simp (maxSteps := 2000000) -implicitDefEqProofs (disch := omega) only [xsW, xsC, if_true, if_false, ite_true, ite_false, forall_const, ne_eq, beq_self_eq_true, bne_self_eq_false, imp_self, true_implies, false_implies, implies_true, evP, evE, ev, setD, Nat.reduceAdd, Nat.reduceSub, reduceCtorEq, fillA, cutA, Nat.reduceLeDiff, Nat.reduceMul, Int.reduceLT, Int.reduceLE, Int.reduceEq, Int.reduceNe, Int.reduceAdd, Int.reduceSub, Int.reduceMul, Int.reduceNeg, Int.reduceToNat,  o1, oq1, oc1, o2, oq2, oc2, o5, oq5, oc5, o6, oq6, oc6, o9, oq9, oc9, o10, oq10, oc10, o14, oq14, oc14, o15, oq15, oc15, hs17, hs13, hs11, hs8, hs7, hs4]
  refine q_use (laws_eqInt64S (hv11.keep (fun i _ hi9 => by simp (disch := omega) only [upd_other, hs17, hs13, hs11, hs8, hs7, hs4])) (hv7.keep (fun i _ hi9 => by simp (disch := omega) only [upd_other, hs17, hs13, hs11, hs8, hs7, hs4])) hBR _) fun n18 hn18 => ?_
  simp (maxSteps := 2000000) -implicitDefEqProofs (disch := omega) only [xsW, xsC, if_true, if_false, ite_true, ite_false, forall_const, ne_eq, beq_self_eq_true, bne_self_eq_false, imp_self, true_implies, false_implies, implies_true, evP, evE, ev, setD, Nat.reduceAdd, Nat.reduceSub, reduceCtorEq, fillA, cutA, Nat.reduceLeDiff, Nat.reduceMul, Int.reduceLT, Int.reduceLE, Int.reduceEq, Int.reduceNe, Int.reduceAdd, Int.reduceSub, Int.reduceMul, Int.reduceNeg, Int.reduceToNat,  o1, oq1, oc1, o2, oq2, oc2, o5, oq5, oc5, o6, oq6, oc6, o9, oq9, oc9, o10, oq10, oc10, o14, oq14, oc14, o15, oq15, oc15, hs17, hs13, hs11, hs8, hs7, hs4]
  refine mq_use (laws_markInt64S2 (hv11.keep (fun i _ hi9 => by simp (disch := omega) only [upd_other, hs17, hs13, hs11, hs8, hs7, hs4])) 1 (by omega) (by omega) _ (by omega)) (fun i a b => .inl (by omega)) fun x19 h19 n19 hn19 ⟨he19, hv19, hs19⟩ => ?_
  subst he19
  simp (maxSteps := 2000000) -implicitDefEqProofs (disch := omega) only [xsW, xsC, if_true, if_false, ite_true, ite_false, forall_const, ne_eq, beq_self_eq_true, bne_self_eq_false, imp_self, true_implies, false_implies, implies_true, evP, evE, ev, setD, Nat.reduceAdd, Nat.reduceSub, reduceCtorEq, fillA, cutA, Nat.reduceLeDiff, Nat.reduceMul, Int.reduceLT, Int.reduceLE, Int.reduceEq, Int.reduceNe, Int.reduceAdd, Int.reduceSub, Int.reduceMul, Int.reduceNeg, Int.reduceToNat,  o1, oq1, oc1, o2, oq2, oc2, o5, oq5, oc5, o6, oq6, oc6, o9, oq9, oc9, o10, oq10, oc10, o14, oq14, oc14, o15, oq15, oc15, hs19, hs17, hs13, hs11, hs8, hs7, hs4]
  refine q_use (laws_heldInt64S (hv19.keep (fun i _ hi9 => by simp (disch := omega) only [upd_other, hs19, hs17, hs13, hs11, hs8, hs7, hs4])) (by omega) (by omega) _) fun n20 hn20 => ?_
  simp (maxSteps := 2000000) -implicitDefEqProofs (disch := omega) only [xsW, xsC, if_true, if_false, ite_true, ite_false, forall_const, ne_eq, beq_self_eq_true, bne_self_eq_false, imp_self, true_implies, false_implies, implies_true, evP, evE, ev, setD, Nat.reduceAdd, Nat.reduceSub, reduceCtorEq, fillA, cutA, Nat.reduceLeDiff, Nat.reduceMul, Int.reduceLT, Int.reduceLE, Int.reduceEq, Int.reduceNe, Int.reduceAdd, Int.reduceSub, Int.reduceMul, Int.reduceNeg, Int.reduceToNat,  o1, oq1, oc1, o2, oq2, oc2, o5, oq5, oc5, o6, oq6, oc6, o9, oq9, oc9, o10, oq10, oc10, o14, oq14, oc14, o15, oq15, oc15, hs19, hs17, hs13, hs11, hs8, hs7, hs4]
  refine fq_use (laws_toProblem (s_p.keep (fun i _ hi9 => by simp (disch := omega) only [upd_other, hs19, hs17, hs13, hs11, hs8, hs7, hs4])) hb_p hbb_p hbq_p _ (by omega)) fun x21 h21 n21 hn21 hs21 ⟨v21, u21, vs21, hx21, hv21⟩ => ?_
  subst hx21
  have o22 := one_any (Sl.any hv21.M.out)
  have oq22 := sto_any (Sl.any hv21.M.out)
  have oc22 := cel_any (Sl.any hv21.M.out)
  have o23 := one_any (Sl.any hv21.Q)
  have oq23 := sto_any (Sl.any hv21.Q)
  have oc23 := cel_any (Sl.any hv21.Q)
  simp (maxSteps := 2000000) -implicitDefEqProofs (disch := omega) only [xsW, xsC, if_true, if_false, ite_true, ite_false, forall_const, ne_eq, beq_self_eq_true, bne_self_eq_false, imp_self, true_implies, false_implies, implies_true, evP, evE, ev, setD, Nat.reduceAdd, Nat.reduceSub, reduceCtorEq, fillA, cutA, Nat.reduceLeDiff, Nat.reduceMul, Int.reduceLT, Int.reduceLE, Int.reduceEq, Int.reduceNe, Int.reduceAdd, Int.reduceSub, Int.reduceMul, Int.reduceNeg, Int.reduceToNat,  o1, oq1, oc1, o2, oq2, oc2, o5, oq5, oc5, o6, oq6, oc6, o9, oq9, oc9, o10, oq10, oc10, o14, oq14, oc14, o15, oq15, oc15, o22, oq22, oc22, o23, oq23, oc23, hs21, hs19, hs17, hs13, hs11, hs8, hs7, hs4]
  refine fq_use (impl_FeasibleSets (hv21.keep (fun i _ hi9 => by simp (disch := omega) only [upd_other, hs21, hs19, hs17, hs13, hs11, hs8, hs7, hs4])) hb_p hbb_p hbq_p _ (by omega)) fun x24 h24 n24 hn24 hs24 ⟨v24, hx24, hv24⟩ => ?_
  subst hx24
  simp (maxSteps := 2000000) -implicitDefEqProofs (disch := omega) only [xsW, xsC, if_true, if_false, ite_true, ite_false, forall_const, ne_eq, beq_self_eq_true, bne_self_eq_false, imp_self, true_implies, false_implies, implies_true, evP, evE, ev, setD, Nat.reduceAdd, Nat.reduceSub, reduceCtorEq, fillA, cutA, Nat.reduceLeDiff, Nat.reduceMul, Int.reduceLT, Int.reduceLE, Int.reduceEq, Int.reduceNe, Int.reduceAdd, Int.reduceSub, Int.reduceMul, Int.reduceNeg, Int.reduceToNat,  o1, oq1, oc1, o2, oq2, oc2, o5, oq5, oc5, o6, oq6, oc6, o9, oq9, oc9, o10, oq10, oc10, o14, oq14, oc14, o15, oq15, oc15, o22, oq22, oc22, o23, oq23, oc23, hs24, hs21, hs19, hs17, hs13, hs11, hs8, hs7, hs4]
  refine q_use (laws_eqInt64S (hv24.keep (fun i _ hi9 => by simp (disch := omega) only [upd_other, hs24, hs21, hs19, hs17, hs13, hs11, hs8, hs7, hs4])) (hv7.keep (fun i _ hi9 => by simp (disch := omega) only [upd_other, hs24, hs21, hs19, hs17, hs13, hs11, hs8, hs7, hs4])) hBR _) fun n25 hn25 => ?_
  simp (maxSteps := 2000000) -implicitDefEqProofs (disch := omega) only [xsW, xsC, if_true, if_false, ite_true, ite_false, forall_const, ne_eq, beq_self_eq_true, bne_self_eq_false, imp_self, true_implies, false_implies, implies_true, evP, evE, ev, setD, Nat.reduceAdd, Nat.reduceSub, reduceCtorEq, fillA, cutA, Nat.reduceLeDiff, Nat.reduceMul, Int.reduceLT, Int.reduceLE, Int.reduceEq, Int.reduceNe, Int.reduceAdd, Int.reduceSub, Int.reduceMul, Int.reduceNeg, Int.reduceToNat,  o1, oq1, oc1, o2, oq2, oc2, o5, oq5, oc5, o6, oq6, oc6, o9, oq9, oc9, o10, oq10, oc10, o14, oq14, oc14, o15, oq15, oc15, o22, oq22, oc22, o23, oq23, oc23, hs24, hs21, hs19, hs17, hs13, hs11, hs8, hs7, hs4]
  refine q_use (laws_heldInt64S (hv19.keep (fun i _ hi9 => by simp (disch := omega) only [upd_other, hs24, hs21, hs19, hs17, hs13, hs11, hs8, hs7, hs4])) (by omega) (by omega) _) fun n26 hn26 => ?_
  simp (maxSteps := 2000000) -implicitDefEqProofs (disch := omega) only [xsW, xsC, if_true, if_false, ite_true, ite_false, forall_const, ne_eq, beq_self_eq_true, bne_self_eq_false, imp_self, true_implies, false_implies, implies_true, evP, evE, ev, setD, Nat.reduceAdd, Nat.reduceSub, reduceCtorEq, fillA, cutA, Nat.reduceLeDiff, Nat.reduceMul, Int.reduceLT, Int.reduceLE, Int.reduceEq, Int.reduceNe, Int.reduceAdd, Int.reduceSub, Int.reduceMul, Int.reduceNeg, Int.reduceToNat,  o1, oq1, oc1, o2, oq2, oc2, o5, oq5, oc5, o6, oq6, oc6, o9, oq9, oc9, o10, oq10, oc10, o14, oq14, oc14, o15, oq15, oc15, o22, oq22, oc22, o23, oq23, oc23, hs24, hs21, hs19, hs17, hs13, hs11, hs8, hs7, hs4]
end Go.Proofs.Ytmjfekgbbjojdac.L
