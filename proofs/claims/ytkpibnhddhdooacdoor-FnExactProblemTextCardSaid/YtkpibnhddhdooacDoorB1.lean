/- Contracts of small functions on numbers and fractions. -/
import Derived.Test.YtkpibnhddhdooacDoorJ4
import Derived.Test.YtkpibnhddhdooacDoorProg
set_option linter.unusedSimpArgs false
set_option linter.unusedVariables false
namespace Go.Proofs.YtkpibnhddhdooacDoor.L
open Go
def c_impl_within : F := ⟨(.seq (.reg false [⟨some 6, .mv (.c (.bool false)), none⟩]) (.seq (.reg false [⟨some 7, .mv (.t 0), none⟩, ⟨some 8, .mv (.t 1), none⟩, ⟨some 9, .bin .geq (.t 7) (.t 8), none⟩, ⟨some 10, .mv (.t 9), none⟩, ⟨some 11, .mv (.t 0), some (10, true)⟩, ⟨some 12, .mv (.t 2), some (10, true)⟩, ⟨some 13, .bin .leq (.t 11) (.t 12), some (10, true)⟩, ⟨some 14, .pick (.t 10) (.t 13) (.c (.bool false)), none⟩, ⟨some 6, .mv (.t 14), none⟩]) .ret)), 15, [(.t 6)]⟩
theorem k_impl_within : compF Tryd.prog Tryd.f47 = some c_impl_within := by kernel_rfl
def c_impl_upTo : F := ⟨(.seq (.reg false [⟨some 4, .mv (.c (.bool false)), none⟩]) (.seq (.reg false [⟨some 5, .mv (.t 0), none⟩, ⟨some 6, .mv (.t 1), none⟩, ⟨some 7, .un .neg (.t 6), none⟩, ⟨some 8, .mv (.t 1), none⟩, ⟨some 9, .call (.f 47) [(.t 5), (.t 7), (.t 8)], none⟩, ⟨some 4, .mv (.t 9), none⟩]) .ret)), 10, [(.t 4)]⟩
theorem k_impl_upTo : compF Tryd.prog Tryd.f48 = some c_impl_upTo := by kernel_rfl
def c_spec_l01In : F := ⟨(.seq (.reg false [⟨some 6, .mv (.c (.bool false)), none⟩]) (.seq (.reg false [⟨some 7, .mv (.t 0), none⟩, ⟨some 8, .mv (.t 1), none⟩, ⟨some 9, .bin .geq (.t 7) (.t 8), none⟩, ⟨some 10, .mv (.t 9), none⟩, ⟨some 11, .mv (.t 0), some (10, true)⟩, ⟨some 12, .mv (.t 2), some (10, true)⟩, ⟨some 13, .bin .leq (.t 11) (.t 12), some (10, true)⟩, ⟨some 14, .pick (.t 10) (.t 13) (.c (.bool false)), none⟩, ⟨some 6, .mv (.t 14), none⟩]) .ret)), 15, [(.t 6)]⟩
theorem k_spec_l01In : compF Tryd.prog Tryd.f54 = some c_spec_l01In := by kernel_rfl
theorem impl_within (a b c : Int) (h : AH) (n : Nat) : Q Tryd.prog 47 [.int .i64 a, .int .i64 b, .int .i64 c] h n (.bool (decide (b ≤ a ∧ a ≤ c))) := by
  refine q_intro Tryd.func47 k_impl_within ?_
  simp (maxSteps := 2000000) -implicitDefEqProofs (disch := omega) only [c_impl_within, xsW, xsC, xsD, xsE, fillA, reduceCtorEq, Nat.reduceAdd, Nat.reduceSub, Nat.reduceLeDiff, Nat.reduceMul, Int.reduceLT, Int.reduceLE, Int.reduceEq, Int.reduceNe, Int.reduceAdd, Int.reduceSub, Int.reduceMul, Int.reduceNeg, Int.reduceToNat]
  (refine gd_dec (fun h1 => ?_) (fun h1 => ?_) <;> simp (maxSteps := 2000000) -implicitDefEqProofs (disch := omega) only [xsW, xsC, xsD, xsE, fillA, reduceCtorEq, Nat.reduceAdd, Nat.reduceSub, Nat.reduceLeDiff, Nat.reduceMul, Int.reduceLT, Int.reduceLE, Int.reduceEq, Int.reduceNe, Int.reduceAdd, Int.reduceSub, Int.reduceMul, Int.reduceNeg, Int.reduceToNat,  h1]) <;> (first | rfl | omega | (rw [Bool.eq_iff_iff]; simp only [decide_eq_true_eq, Bool.false_eq_true, iff_true, true_iff, false_iff, iff_false, ne_eq, isFr]; omega))
theorem spec_l01In (a b c : Int) (h : AH) (n : Nat) : Q Tryd.prog 54 [.int .i64 a, .int .i64 b, .int .i64 c] h n (.bool (decide (b ≤ a ∧ a ≤ c))) := by
  refine q_intro Tryd.func54 k_spec_l01In ?_
  simp (maxSteps := 2000000) -implicitDefEqProofs (disch := omega) only [c_spec_l01In, xsW, xsC, xsD, xsE, fillA, reduceCtorEq, Nat.reduceAdd, Nat.reduceSub, Nat.reduceLeDiff, Nat.reduceMul, Int.reduceLT, Int.reduceLE, Int.reduceEq, Int.reduceNe, Int.reduceAdd, Int.reduceSub, Int.reduceMul, Int.reduceNeg, Int.reduceToNat]
  (refine gd_dec (fun h1 => ?_) (fun h1 => ?_) <;> simp (maxSteps := 2000000) -implicitDefEqProofs (disch := omega) only [xsW, xsC, xsD, xsE, fillA, reduceCtorEq, Nat.reduceAdd, Nat.reduceSub, Nat.reduceLeDiff, Nat.reduceMul, Int.reduceLT, Int.reduceLE, Int.reduceEq, Int.reduceNe, Int.reduceAdd, Int.reduceSub, Int.reduceMul, Int.reduceNeg, Int.reduceToNat,  h1]) <;> (first | rfl | omega | (rw [Bool.eq_iff_iff]; simp only [decide_eq_true_eq, Bool.false_eq_true, iff_true, true_iff, false_iff, iff_false, ne_eq, isFr]; omega))
theorem impl_upTo (a c : Int) (hc : in64 (-c)) (h : AH) (n : Nat) : Q Tryd.prog 48 [.int .i64 a, .int .i64 c] h n (.bool (decide (-c ≤ a ∧ a ≤ c))) := by
  refine q_intro Tryd.func48 k_impl_upTo ?_
  simp (maxSteps := 2000000) -implicitDefEqProofs (disch := omega) only [c_impl_upTo, xsW, xsC, xsD, xsE, fillA, reduceCtorEq, Nat.reduceAdd, Nat.reduceSub, Nat.reduceLeDiff, Nat.reduceMul, Int.reduceLT, Int.reduceLE, Int.reduceEq, Int.reduceNe, Int.reduceAdd, Int.reduceSub, Int.reduceMul, Int.reduceNeg, Int.reduceToNat]
  refine ⟨hc, q_use (impl_within _ _ _ _ _) fun n' hn => ?_⟩
  simp (maxSteps := 2000000) -implicitDefEqProofs (disch := omega) only [xsW, xsC, xsD, xsE, fillA, reduceCtorEq, Nat.reduceAdd, Nat.reduceSub, Nat.reduceLeDiff, Nat.reduceMul, Int.reduceLT, Int.reduceLE, Int.reduceEq, Int.reduceNe, Int.reduceAdd, Int.reduceSub, Int.reduceMul, Int.reduceNeg, Int.reduceToNat]
def c_laws_szInt64S : F := ⟨(.seq (.reg false [⟨some 4, .mv (.c (.int .i64 0)), none⟩]) (.seq (.reg false [⟨some 5, .mv (.t 1), none⟩, ⟨some 6, .mv (.t 0), none⟩, ⟨some 7, .len (.t 6), none⟩, ⟨some 8, .bin .sub (.t 5) (.t 7), none⟩, ⟨some 1, .mv (.t 8), none⟩]) (.seq (.seq (.reg false [⟨some 9, .mv (.t 1), none⟩, ⟨some 10, .bin .lss (.t 9) (.c (.int .i64 0)), none⟩]) (.cond (.t 10) (.seq (.reg false [⟨some 4, .mv (.c (.int .i64 (-1))), none⟩]) .ret) .skip)) (.seq (.reg false [⟨some 11, .mv (.t 1), none⟩, ⟨some 4, .mv (.t 11), none⟩]) .ret)))), 12, [(.t 4)]⟩
theorem k_laws_szInt64S : compF Tryd.prog Tryd.f56 = some c_laws_szInt64S := by kernel_rfl
def c_laws_szInt64SS : F := ⟨(.seq (.reg false [⟨some 4, .mv (.c (.int .i64 0)), none⟩]) (.seq (.reg false [⟨some 6, .mv (.t 1), none⟩, ⟨some 7, .mv (.t 0), none⟩, ⟨some 8, .len (.t 7), none⟩, ⟨some 9, .bin .sub (.t 6) (.t 8), none⟩, ⟨some 1, .mv (.t 9), none⟩]) (.seq (.seq (.reg false [⟨some 10, .mv (.t 1), none⟩, ⟨some 11, .bin .lss (.t 10) (.c (.int .i64 0)), none⟩]) (.cond (.t 11) (.seq (.reg false [⟨some 4, .mv (.c (.int .i64 (-1))), none⟩]) .ret) .skip)) (.seq (.seq (.reg false [⟨some 5, .mv (.c (.int .i64 0)), none⟩]) (.block 0 (.loop (.seq (.seq (.reg false [⟨some 12, .mv (.t 5), none⟩, ⟨some 13, .mv (.t 0), none⟩, ⟨some 14, .len (.t 13), none⟩, ⟨some 15, .bin .lss (.t 12) (.t 14), none⟩]) (.cond (.t 15) .skip (.exit 0))) (.seq (.block 1 (.seq (.reg false [⟨some 18, .mv (.t 0), none⟩, ⟨some 19, .mv (.t 5), none⟩, ⟨some 20, .ia 1 (.t 18) (.t 19), none⟩, ⟨some 21, .ld1 (.t 20), none⟩, ⟨some 22, .mv (.t 1), none⟩, ⟨some 23, .call (.f 56) [(.t 21), (.t 22)], none⟩, ⟨some 1, .mv (.t 23), none⟩]) (.seq (.reg false [⟨some 24, .mv (.t 1), none⟩, ⟨some 25, .bin .lss (.t 24) (.c (.int .i64 0)), none⟩]) (.cond (.t 25) (.seq (.reg false [⟨some 4, .mv (.c (.int .i64 (-1))), none⟩]) .ret) .skip)))) (.reg false [⟨some 16, .mv (.t 5), none⟩, ⟨some 17, .bin .add (.t 16) (.c (.int .i64 1)), none⟩, ⟨some 5, .mv (.t 17), none⟩])))))) (.seq (.reg false [⟨some 26, .mv (.t 1), none⟩, ⟨some 4, .mv (.t 26), none⟩]) .ret))))), 27, [(.t 4)]⟩
theorem k_laws_szInt64SS : compF Tryd.prog Tryd.f55 = some c_laws_szInt64SS := by kernel_rfl
def c_laws_toInt64S : F := ⟨(.seq (.reg false [⟨some 2, .mv (.c .nilsl), none⟩]) (.seq (.reg false [⟨some 5, .mv (.t 0), none⟩, ⟨some 6, .len (.t 5), none⟩, ⟨some 7, .mks 2 1 [(.int .i64 0)] (.t 6) (.t 6), none⟩, ⟨some 3, .mv (.t 7), none⟩]) (.seq (.seq (.reg false [⟨some 4, .mv (.c (.int .i64 0)), none⟩]) (.block 0 (.loop (.seq (.seq (.reg false [⟨some 8, .mv (.t 4), none⟩, ⟨some 9, .mv (.t 0), none⟩, ⟨some 10, .len (.t 9), none⟩, ⟨some 11, .bin .lss (.t 8) (.t 10), none⟩]) (.cond (.t 11) .skip (.exit 0))) (.seq (.block 1 (.reg false [⟨some 14, .mv (.t 3), none⟩, ⟨some 15, .mv (.t 4), none⟩, ⟨some 16, .mv (.t 0), none⟩, ⟨some 17, .mv (.t 4), none⟩, ⟨some 18, .ia 1 (.t 16) (.t 17), none⟩, ⟨some 19, .ld1 (.t 18), none⟩, ⟨some 20, .ia 1 (.t 14) (.t 15), none⟩, ⟨none, .st 1 (.t 20) (.t 19), none⟩])) (.reg false [⟨some 12, .mv (.t 4), none⟩, ⟨some 13, .bin .add (.t 12) (.c (.int .i64 1)), none⟩, ⟨some 4, .mv (.t 13), none⟩])))))) (.seq (.reg false [⟨some 21, .mv (.t 3), none⟩, ⟨some 2, .mv (.t 21), none⟩]) .ret)))), 22, [(.t 2)]⟩
theorem k_laws_toInt64S : compF Tryd.prog Tryd.f60 = some c_laws_toInt64S := by kernel_rfl
def c_laws_toInt64SS : F := ⟨(.seq (.reg false [⟨some 2, .mv (.c .nilsl), none⟩]) (.seq (.reg false [⟨some 5, .mv (.t 0), none⟩, ⟨some 6, .len (.t 5), none⟩, ⟨some 7, .mks 45 1 [.nilsl] (.t 6) (.t 6), none⟩, ⟨some 3, .mv (.t 7), none⟩]) (.seq (.seq (.reg false [⟨some 4, .mv (.c (.int .i64 0)), none⟩]) (.block 0 (.loop (.seq (.seq (.reg false [⟨some 8, .mv (.t 4), none⟩, ⟨some 9, .mv (.t 0), none⟩, ⟨some 10, .len (.t 9), none⟩, ⟨some 11, .bin .lss (.t 8) (.t 10), none⟩]) (.cond (.t 11) .skip (.exit 0))) (.seq (.block 1 (.reg false [⟨some 14, .mv (.t 3), none⟩, ⟨some 15, .mv (.t 4), none⟩, ⟨some 16, .mv (.t 0), none⟩, ⟨some 17, .mv (.t 4), none⟩, ⟨some 18, .ia 1 (.t 16) (.t 17), none⟩, ⟨some 19, .ld1 (.t 18), none⟩, ⟨some 20, .call (.f 60) [(.t 19)], none⟩, ⟨some 21, .ia 1 (.t 14) (.t 15), none⟩, ⟨none, .st 1 (.t 21) (.t 20), none⟩])) (.reg false [⟨some 12, .mv (.t 4), none⟩, ⟨some 13, .bin .add (.t 12) (.c (.int .i64 1)), none⟩, ⟨some 4, .mv (.t 13), none⟩])))))) (.seq (.reg false [⟨some 22, .mv (.t 3), none⟩, ⟨some 2, .mv (.t 22), none⟩]) .ret)))), 23, [(.t 2)]⟩
theorem k_laws_toInt64SS : compF Tryd.prog Tryd.f59 = some c_laws_toInt64SS := by kernel_rfl
def c_laws_eqInt64S : F := ⟨(.seq (.reg false [⟨some 4, .mv (.c (.bool false)), none⟩]) (.seq (.seq (.reg false [⟨some 6, .mv (.t 0), none⟩, ⟨some 7, .len (.t 6), none⟩, ⟨some 8, .mv (.t 1), none⟩, ⟨some 9, .len (.t 8), none⟩, ⟨some 10, .bin .neq (.t 7) (.t 9), none⟩]) (.cond (.t 10) (.seq (.reg false [⟨some 4, .mv (.c (.bool false)), none⟩]) .ret) .skip)) (.seq (.seq (.reg false [⟨some 5, .mv (.c (.int .i64 0)), none⟩]) (.block 0 (.loop (.seq (.seq (.reg false [⟨some 11, .mv (.t 5), none⟩, ⟨some 12, .mv (.t 0), none⟩, ⟨some 13, .len (.t 12), none⟩, ⟨some 14, .bin .lss (.t 11) (.t 13), none⟩]) (.cond (.t 14) .skip (.exit 0))) (.seq (.block 1 (.seq (.reg true [⟨some 17, .mv (.t 0), none⟩, ⟨some 18, .mv (.t 5), none⟩, ⟨some 19, .ia 1 (.t 17) (.t 18), none⟩, ⟨some 20, .ld1 (.t 19), none⟩, ⟨some 21, .mv (.t 1), none⟩, ⟨some 22, .mv (.t 5), none⟩, ⟨some 23, .ia 1 (.t 21) (.t 22), none⟩, ⟨some 24, .ld1 (.t 23), none⟩, ⟨some 25, .bin .neq (.t 20) (.t 24), none⟩]) (.cond (.t 25) (.seq (.reg false [⟨some 4, .mv (.c (.bool false)), none⟩]) .ret) .skip))) (.reg false [⟨some 15, .mv (.t 5), none⟩, ⟨some 16, .bin .add (.t 15) (.c (.int .i64 1)), none⟩, ⟨some 5, .mv (.t 16), none⟩])))))) (.seq (.reg false [⟨some 4, .mv (.c (.bool true)), none⟩]) .ret)))), 26, [(.t 4)]⟩
theorem k_laws_eqInt64S : compF Tryd.prog Tryd.f65 = some c_laws_eqInt64S := by kernel_rfl

theorem laws_szInt64S {w : Bool} {lo hi : Nat} {h : AH} {v : AV} {l : List Int} (s : Ints w lo hi h v l) (hl : l.length ≤ 9223372036854775807) (left : Int) (h0 : 0 ≤ left) (h1 : left ≤ 1048576) (n : Nat) :
    Q Tryd.prog 56 [v, .int .i64 left] h n (.int .i64 (if (l.length : Int) ≤ left then left - l.length else -1)) := by
  refine q_intro Tryd.func56 k_laws_szInt64S ?_
  simp (maxSteps := 2000000) -implicitDefEqProofs (disch := omega) only [c_laws_szInt64S, s.ln, xsW, xsC, xsD, xsE, fillA, reduceCtorEq, Nat.reduceAdd, Nat.reduceSub, Nat.reduceLeDiff, Nat.reduceMul, Int.reduceLT, Int.reduceLE, Int.reduceEq, Int.reduceNe, Int.reduceAdd, Int.reduceSub, Int.reduceMul, Int.reduceNeg, Int.reduceToNat]
  (refine cd_dec (fun h2 => ?_) (fun h2 => ?_) <;> simp (maxSteps := 2000000) -implicitDefEqProofs (disch := omega) only [xsW, xsC, xsD, xsE, fillA, reduceCtorEq, Nat.reduceAdd, Nat.reduceSub, Nat.reduceLeDiff, Nat.reduceMul, Int.reduceLT, Int.reduceLE, Int.reduceEq, Int.reduceNe, Int.reduceAdd, Int.reduceSub, Int.reduceMul, Int.reduceNeg, Int.reduceToNat,  h2])
  · rw [if_neg (by omega)]
  · rw [if_pos (by omega)]
theorem laws_szInt64SS {w : Bool} {lo hi : Nat} {h : AH} {v : AV} {vs : List AV} {ll : List (List Int)} (s : Rows w lo hi h v vs ll) (hl : ll.length ≤ 9223372036854775807) (hll : ∀ l ∈ ll, l.length ≤ 9223372036854775807) (left : Int) (h0 : 0 ≤ left) (h1 : left ≤ 1048576) (n : Nat) :
    ∃ r : Int, (-1 ≤ r ∧ r ≤ left ∧ (0 ≤ r → (ll.length : Int) ≤ left ∧ ∀ k, k < ll.length → ((ll.getD k []).length : Int) ≤ left)) ∧ Q Tryd.prog 55 [v, .int .i64 left] h n (.int .i64 r) := by
  suffices hx : ∃ x, (∃ r : Int, x = .int .i64 r ∧ (-1 ≤ r ∧ r ≤ left ∧ (0 ≤ r → (ll.length : Int) ≤ left ∧ ∀ k, k < ll.length → ((ll.getD k []).length : Int) ≤ left))) ∧ Q Tryd.prog 55 [v, .int .i64 left] h n x by
    obtain ⟨_, ⟨r, rfl, hr⟩, hq⟩ := hx
    exact ⟨r, hr, hq⟩
  refine eq_intro Tryd.func55 k_laws_szInt64SS ?_
  simp (maxSteps := 2000000) -implicitDefEqProofs (disch := omega) only [c_laws_szInt64SS, s.ln, xsW, xsC, xsD, xsE, fillA, reduceCtorEq, Nat.reduceAdd, Nat.reduceSub, Nat.reduceLeDiff, Nat.reduceMul, Int.reduceLT, Int.reduceLE, Int.reduceEq, Int.reduceNe, Int.reduceAdd, Int.reduceSub, Int.reduceMul, Int.reduceNeg, Int.reduceToNat]
  (refine cd_dec (fun h2 => ?_) (fun h2 => ?_) <;> simp (maxSteps := 2000000) -implicitDefEqProofs (disch := omega) only [xsW, xsC, xsD, xsE, fillA, reduceCtorEq, Nat.reduceAdd, Nat.reduceSub, Nat.reduceLeDiff, Nat.reduceMul, Int.reduceLT, Int.reduceLE, Int.reduceEq, Int.reduceNe, Int.reduceAdd, Int.reduceSub, Int.reduceMul, Int.reduceNeg, Int.reduceToNat,  h2])
  · exact ⟨-1, rfl, by omega⟩
  · refine loop_for ll.length 0 (fun k r => [v, .int .i64 r, .any, .any, .int .i64 0, .int .i64 k, .any, .any, .any, .any, .any, .any, .any, .any, .any, .any, .any, .any, .any, .any, .any, .any, .any, .any, .any, .any, .any]) (fun _ _ => h)
      (fun k r _ => 0 ≤ r ∧ r ≤ left ∧ ∀ j, j < k → ((ll.getD j []).length : Int) ≤ left) (left - ll.length) (Nat.zero_le _) ⟨by omega, by omega, fun k hk => by simp at hk⟩ (by simp [LeL, Le1]) (fun _ _ h => h) ?_
    rintro k r n1 - hk hn1 ⟨hr0, hr1, hp⟩
    simp (maxSteps := 2000000) -implicitDefEqProofs (disch := omega) only [xsW, xsC, xsD, xsE, fillA, reduceCtorEq, Nat.reduceAdd, Nat.reduceSub, Nat.reduceLeDiff, Nat.reduceMul, Int.reduceLT, Int.reduceLE, Int.reduceEq, Int.reduceNe, Int.reduceAdd, Int.reduceSub, Int.reduceMul, Int.reduceNeg, Int.reduceToNat,  s.ln]
    (refine cd_dec (fun h3 => ?_) (fun h3 => ?_) <;> simp (maxSteps := 2000000) -implicitDefEqProofs (disch := omega) only [xsW, xsC, xsD, xsE, fillA, reduceCtorEq, Nat.reduceAdd, Nat.reduceSub, Nat.reduceLeDiff, Nat.reduceMul, Int.reduceLT, Int.reduceLE, Int.reduceEq, Int.reduceNe, Int.reduceAdd, Int.reduceSub, Int.reduceMul, Int.reduceNeg, Int.reduceToNat,  h3])
    · have hk' : k < ll.length := by omega
      simp (maxSteps := 2000000) -implicitDefEqProofs (disch := omega) only [xsW, xsC, xsD, xsE, fillA, reduceCtorEq, Nat.reduceAdd, Nat.reduceSub, Nat.reduceLeDiff, Nat.reduceMul, Int.reduceLT, Int.reduceLE, Int.reduceEq, Int.reduceNe, Int.reduceAdd, Int.reduceSub, Int.reduceMul, Int.reduceNeg, Int.reduceToNat,  s.ia, s.ld]
      by_cases hc : ((ll.getD k []).length : Int) ≤ r
      all_goals refine q_use (laws_szInt64S (s.row k hk') (hll _ (getD_mem hk')) r hr0 (by omega) _) fun n1 hn1 => ?_
      · rw [if_pos hc]
        simp (maxSteps := 2000000) -implicitDefEqProofs (disch := omega) only [xsW, xsC, xsD, xsE, fillA, reduceCtorEq, Nat.reduceAdd, Nat.reduceSub, Nat.reduceLeDiff, Nat.reduceMul, Int.reduceLT, Int.reduceLE, Int.reduceEq, Int.reduceNe, Int.reduceAdd, Int.reduceSub, Int.reduceMul, Int.reduceNeg, Int.reduceToNat]
        refine ⟨r - (ll.getD k []).length, ⟨by omega, by omega, fun j hj => ?_⟩, by omega, by omega, (by simp [LeL, Le1])⟩
        rcases Nat.lt_succ_iff_lt_or_eq.1 hj with hj | rfl
        · exact hp j hj
        · omega
      · rw [if_neg hc]
        simp (maxSteps := 2000000) -implicitDefEqProofs (disch := omega) only [xsW, xsC, xsD, xsE, fillA, reduceCtorEq, Nat.reduceAdd, Nat.reduceSub, Nat.reduceLeDiff, Nat.reduceMul, Int.reduceLT, Int.reduceLE, Int.reduceEq, Int.reduceNe, Int.reduceAdd, Int.reduceSub, Int.reduceMul, Int.reduceNeg, Int.reduceToNat]
        exact ⟨-1, rfl, by omega⟩
    · exact ⟨r, rfl, by omega, hr1, fun _ => ⟨by omega, fun j hj => hp j (by omega)⟩⟩
theorem laws_toInt64S {w : Bool} {lo hi : Nat} {h : AH} {v : AV} {l : List Int} (s : Ints w lo hi h v l) (hl : l.length ≤ 1048576) (n : Nat) (hn : hi ≤ n) :
    FQ Tryd.prog 60 [v] h n fun v' h' n' => Ints true n n' h' v' l := by
  refine fq_intro Tryd.func60 k_laws_toInt64S ?_
  simp (maxSteps := 2000000) -implicitDefEqProofs (disch := omega) only [c_laws_toInt64S, s.ln, xsW, xsC, xsD, xsE, fillA, reduceCtorEq, Nat.reduceAdd, Nat.reduceSub, Nat.reduceLeDiff, Nat.reduceMul, Int.reduceLT, Int.reduceLE, Int.reduceEq, Int.reduceNe, Int.reduceAdd, Int.reduceSub, Int.reduceMul, Int.reduceNeg, Int.reduceToNat]
  refine loop_for l.length 0 (fun k (_ : Unit) => [v, .any, .nilsl, .sl n 0 l.length l.length, .int .i64 k, .any, .any, .any, .any, .any, .any, .any, .any, .any, .any, .any, .any, .any, .any, .any, .any, .any]) (fun k _ => upd h n (some ⟨2, (ints l).take k ++ List.replicate (l.length - k) (.int .i64 0), true, 0⟩))
    (fun _ _ _ => True) () (Nat.zero_le _) trivial (by simp [LeL, Le1]) (by simp [ints]) ?_
  rintro k - n1 - hk hn1 -
  simp (maxSteps := 2000000) -implicitDefEqProofs (disch := omega) only [xsW, xsC, xsD, xsE, fillA, reduceCtorEq, Nat.reduceAdd, Nat.reduceSub, Nat.reduceLeDiff, Nat.reduceMul, Int.reduceLT, Int.reduceLE, Int.reduceEq, Int.reduceNe, Int.reduceAdd, Int.reduceSub, Int.reduceMul, Int.reduceNeg, Int.reduceToNat,  s.ln]
  (refine cd_dec (fun h1 => ?_) (fun h1 => ?_) <;> simp (maxSteps := 2000000) -implicitDefEqProofs (disch := omega) only [xsW, xsC, xsD, xsE, fillA, reduceCtorEq, Nat.reduceAdd, Nat.reduceSub, Nat.reduceLeDiff, Nat.reduceMul, Int.reduceLT, Int.reduceLE, Int.reduceEq, Int.reduceNe, Int.reduceAdd, Int.reduceSub, Int.reduceMul, Int.reduceNeg, Int.reduceToNat,  h1])
  · have hk' : k < l.length := by omega
    have hb := Sl.below s (by rw [s.slen]; omega)
    have hne : bid v ≠ n := by omega
    simp (maxSteps := 2000000) -implicitDefEqProofs (disch := omega) only [xsW, xsC, xsD, xsE, fillA, reduceCtorEq, Nat.reduceAdd, Nat.reduceSub, Nat.reduceLeDiff, Nat.reduceMul, Int.reduceLT, Int.reduceLE, Int.reduceEq, Int.reduceNe, Int.reduceAdd, Int.reduceSub, Int.reduceMul, Int.reduceNeg, Int.reduceToNat,  s.ia, s.ld, fill_ints]
    exact ⟨by omega, (), by omega, by omega, (by simp [LeL, Le1])⟩
  · have e : k = l.length := by omega
    subst e
    intro _ h2 hh
    exact Sl.of_sl (ty := 2) (op := 0) (by rw [hh n (Nat.le_refl _) (by omega)]; simp [upd, ints, List.take_of_length_le]) (by simp [ints]) (Nat.le_refl _) (Nat.le_refl _) (by omega)
theorem laws_eqInt64S {w w' : Bool} {lo hi lo' hi' : Nat} {h : AH} {v v' : AV} {l l' : List Int} (s : Ints w lo hi h v l) (s' : Ints w' lo' hi' h v' l') (hl : l.length ≤ 1048576) (n : Nat) :
    Q Tryd.prog 65 [v, v'] h n (.bool (decide (l = l'))) := by
  refine q_intro Tryd.func65 k_laws_eqInt64S ?_
  simp (maxSteps := 2000000) -implicitDefEqProofs (disch := omega) only [c_laws_eqInt64S, s.ln, s'.ln, xsW, xsC, xsD, xsE, fillA, reduceCtorEq, Nat.reduceAdd, Nat.reduceSub, Nat.reduceLeDiff, Nat.reduceMul, Int.reduceLT, Int.reduceLE, Int.reduceEq, Int.reduceNe, Int.reduceAdd, Int.reduceSub, Int.reduceMul, Int.reduceNeg, Int.reduceToNat]
  (refine cd_dec (fun h1 => ?_) (fun h1 => ?_) <;> simp (maxSteps := 2000000) -implicitDefEqProofs (disch := omega) only [xsW, xsC, xsD, xsE, fillA, reduceCtorEq, Nat.reduceAdd, Nat.reduceSub, Nat.reduceLeDiff, Nat.reduceMul, Int.reduceLT, Int.reduceLE, Int.reduceEq, Int.reduceNe, Int.reduceAdd, Int.reduceSub, Int.reduceMul, Int.reduceNeg, Int.reduceToNat,  h1])
  · rw [decide_eq_false fun e => h1 (by rw [e])]
  refine loop_for l.length 0 (fun k (_ : Unit) => [v, v', .any, .any, .bool false, .int .i64 k, .any, .any, .any, .any, .any, .any, .any, .any, .any, .any, .any, .any, .any, .any, .any, .any, .any, .any, .any, .any]) (fun k _ => h)
    (fun k _ _ => ∀ j, j < k → l.getD j 0 = l'.getD j 0) () (Nat.zero_le _) (fun j hj => absurd hj (Nat.not_lt_zero _)) (by simp [LeL, Le1]) (fun _ _ h => h) ?_
  rintro k - n1 - hk hn1 he
  simp (maxSteps := 2000000) -implicitDefEqProofs (disch := omega) only [xsW, xsC, xsD, xsE, fillA, reduceCtorEq, Nat.reduceAdd, Nat.reduceSub, Nat.reduceLeDiff, Nat.reduceMul, Int.reduceLT, Int.reduceLE, Int.reduceEq, Int.reduceNe, Int.reduceAdd, Int.reduceSub, Int.reduceMul, Int.reduceNeg, Int.reduceToNat,  s.ln, s'.ln]
  (refine cd_dec (fun h2 => ?_) (fun h2 => ?_) <;> simp (maxSteps := 2000000) -implicitDefEqProofs (disch := omega) only [xsW, xsC, xsD, xsE, fillA, reduceCtorEq, Nat.reduceAdd, Nat.reduceSub, Nat.reduceLeDiff, Nat.reduceMul, Int.reduceLT, Int.reduceLE, Int.reduceEq, Int.reduceNe, Int.reduceAdd, Int.reduceSub, Int.reduceMul, Int.reduceNeg, Int.reduceToNat,  h2])
  · have hk' : k < l.length := by omega
    have hk2 : k < l'.length := by omega
    simp (maxSteps := 2000000) -implicitDefEqProofs (disch := omega) only [xsW, xsC, xsD, xsE, fillA, reduceCtorEq, Nat.reduceAdd, Nat.reduceSub, Nat.reduceLeDiff, Nat.reduceMul, Int.reduceLT, Int.reduceLE, Int.reduceEq, Int.reduceNe, Int.reduceAdd, Int.reduceSub, Int.reduceMul, Int.reduceNeg, Int.reduceToNat,  s.ia, s.ld, s'.ia, s'.ld]
    (refine cd_dec (fun h3 => ?_) (fun h3 => ?_) <;> simp (maxSteps := 2000000) -implicitDefEqProofs (disch := omega) only [xsW, xsC, xsD, xsE, fillA, reduceCtorEq, Nat.reduceAdd, Nat.reduceSub, Nat.reduceLeDiff, Nat.reduceMul, Int.reduceLT, Int.reduceLE, Int.reduceEq, Int.reduceNe, Int.reduceAdd, Int.reduceSub, Int.reduceMul, Int.reduceNeg, Int.reduceToNat,  h3])
    · rw [decide_eq_false fun e => h3 (by rw [e])]
    · exact ⟨(), fun j hj => (Nat.lt_succ_iff_lt_or_eq.1 hj).elim (he j) (fun e => by rw [e]; omega), by omega, by omega, (by simp [LeL, Le1])⟩
  · rw [decide_eq_true (getD_ext (d := 0) (by omega) fun j hj => he j (by omega))]
theorem laws_toInt64SS {w : Bool} {lo hi : Nat} {h : AH} {v : AV} {vs : List AV} {ll : List (List Int)} (s : Rows w lo hi h v vs ll) (hl : ll.length ≤ 1048576) (hll : ∀ l ∈ ll, l.length ≤ 1048576) (n : Nat) (hn : hi ≤ n) :
    FQ Tryd.prog 59 [v] h n fun v' h' n' => ∃ vs', Rows true n n' h' v' vs' ll := by
  refine fq_intro Tryd.func59 k_laws_toInt64SS ?_
  simp (maxSteps := 2000000) -implicitDefEqProofs (disch := omega) only [c_laws_toInt64SS, s.ln, xsW, xsC, xsD, xsE, fillA, reduceCtorEq, Nat.reduceAdd, Nat.reduceSub, Nat.reduceLeDiff, Nat.reduceMul, Int.reduceLT, Int.reduceLE, Int.reduceEq, Int.reduceNe, Int.reduceAdd, Int.reduceSub, Int.reduceMul, Int.reduceNeg, Int.reduceToNat]
  refine loop_for ll.length 0 (fun k _ => [v, .any, .nilsl, .sl n 0 ll.length ll.length, .int .i64 k, .any, .any, .any, .any, .any, .any, .any, .any, .any, .any, .any, .any, .any, .any, .any, .any, .any, .any]) (fun k (p : List AV × AH) => p.2)
    (fun k p m => p.1.length = k ∧ p.2 n = some ⟨45, p.1 ++ List.replicate (ll.length - k) .nilsl, true, 0⟩ ∧ (∀ i, i < n → p.2 i = h i) ∧ n + 1 ≤ m ∧ RowsV true (n + 1) m p.2 p.1 (ll.take k))
    ([], upd h n (some ⟨45, List.replicate ll.length .nilsl, true, 0⟩)) (Nat.zero_le _) ⟨rfl, by simp [upd], fun i hi => by simp [upd]; omega, by omega, RowsV.nil⟩ (by simp [LeL, Le1]) (fun _ _ h => h) ?_
  rintro k ⟨ws, hp⟩ n1 - hk hn1 ⟨g1, g2, g3, g4, g5⟩
  simp only at g1 g2 g3 g4 g5
  simp (maxSteps := 2000000) -implicitDefEqProofs (disch := omega) only [xsW, xsC, xsD, xsE, fillA, reduceCtorEq, Nat.reduceAdd, Nat.reduceSub, Nat.reduceLeDiff, Nat.reduceMul, Int.reduceLT, Int.reduceLE, Int.reduceEq, Int.reduceNe, Int.reduceAdd, Int.reduceSub, Int.reduceMul, Int.reduceNeg, Int.reduceToNat,  s.ln]
  (refine cd_dec (fun h1 => ?_) (fun h1 => ?_) <;> simp (maxSteps := 2000000) -implicitDefEqProofs (disch := omega) only [xsW, xsC, xsD, xsE, fillA, reduceCtorEq, Nat.reduceAdd, Nat.reduceSub, Nat.reduceLeDiff, Nat.reduceMul, Int.reduceLT, Int.reduceLE, Int.reduceEq, Int.reduceNe, Int.reduceAdd, Int.reduceSub, Int.reduceMul, Int.reduceNeg, Int.reduceToNat,  h1])
  · have hk' : k < ll.length := by omega
    have hb := s.out.below (by rw [s.slen]; omega)
    simp (maxSteps := 2000000) -implicitDefEqProofs (disch := omega) only [xsW, xsC, xsD, xsE, fillA, reduceCtorEq, Nat.reduceAdd, Nat.reduceSub, Nat.reduceLeDiff, Nat.reduceMul, Int.reduceLT, Int.reduceLE, Int.reduceEq, Int.reduceNe, Int.reduceAdd, Int.reduceSub, Int.reduceMul, Int.reduceNeg, Int.reduceToNat,  s.ia, g3, s.ld]
    refine fq_use (laws_toInt64S ((s.row k hk').keep (fun i _ hi' => g3 i (by omega))) (hll _ (getD_mem hk')) n1 (by omega)) fun v1 h1' n2 hn2 hs1 hv1 => ?_
    simp (maxSteps := 2000000) -implicitDefEqProofs (disch := omega) only [xsW, xsC, xsD, xsE, fillA, reduceCtorEq, Nat.reduceAdd, Nat.reduceSub, Nat.reduceLeDiff, Nat.reduceMul, Int.reduceLT, Int.reduceLE, Int.reduceEq, Int.reduceNe, Int.reduceAdd, Int.reduceSub, Int.reduceMul, Int.reduceNeg, Int.reduceToNat,  hs1, g2, sto_any (Sl.any hv1), cel_any (Sl.any hv1), fill_avs]
    refine ⟨by omega, (ws ++ [v1], upd h1' n (some ⟨45, (ws ++ [v1]) ++ List.replicate (ll.length - (k + 1)) .nilsl, true, 0⟩)), ⟨by simp [g1], by simp [upd], ?_, by omega, ?_⟩, by omega, by omega, (by simp [LeL, Le1]), fun _ _ h => h⟩
    · intro i hi
      simp only [upd_other (show i ≠ n by omega)]
      rw [hs1 i (by omega), g3 i hi]
    · simp only
      rw [take_succ_getD hk']
      exact g5.snoc (fun i h1 h2 => by rw [upd_other (by omega), hs1 i h2]) (hv1.keep fun i h1 _ => by rw [upd_other (by omega)]) g4 hn2
  · have e : k = ll.length := by omega
    subst e
    intro _ h2 hh
    refine ⟨ws, ?_, ?_, ?_⟩
    · exact Sl.of_sl (ty := 45) (op := 0) (by rw [hh n (Nat.le_refl _) (by omega)]; simp [g2]) (by omega) (Nat.le_refl _) (Nat.le_refl _) (by omega)
    · rw [List.take_of_length_le (Nat.le_refl _)] at g5
      exact (g5.keep fun i h1 h3 => hh i (by omega) h3).wide (by omega) (Nat.le_refl _)
    · intro _ j hj hn0
      rw [List.take_of_length_le (Nat.le_refl _)] at g5
      have := Sl.own (g5.row j hj) hn0
      change bid (ws.getD j .any) ≠ n
      omega

def c_slices_IndexFunc_Sint64_int64 : F := ⟨(.seq (.reg false [⟨some 4, .mv (.c (.int .i64 0)), none⟩]) (.seq (.seq (.reg false [⟨some 6, .mv (.t 0), none⟩, ⟨some 7, .len (.t 6), none⟩, ⟨some 8, .mv (.c (.int .i64 0)), none⟩]) (.block 0 (.loop (.seq (.reg false [⟨some 9, .bin .lss (.t 8) (.t 7), none⟩]) (.seq (.cond (.t 9) .skip (.exit 0)) (.seq (.block 1 (.seq (.reg false [⟨some 10, .mv (.t 8), none⟩, ⟨some 5, .mv (.t 10), none⟩]) (.seq (.reg false [⟨some 11, .mv (.t 1), none⟩, ⟨some 12, .mv (.t 0), none⟩, ⟨some 13, .mv (.t 5), none⟩, ⟨some 14, .ia 1 (.t 12) (.t 13), none⟩, ⟨some 15, .ld1 (.t 14), none⟩, ⟨some 16, .call (.t 11) [(.t 15)], none⟩]) (.cond (.t 16) (.seq (.reg false [⟨some 17, .mv (.t 5), none⟩, ⟨some 4, .mv (.t 17), none⟩]) .ret) .skip)))) (.reg false [⟨some 18, .bin .add (.t 8) (.c (.int .i64 1)), none⟩, ⟨some 8, .mv (.t 18), none⟩]))))))) (.seq (.reg false [⟨some 4, .mv (.c (.int .i64 (-1))), none⟩]) .ret))), 19, [(.t 4)]⟩
theorem k_slices_IndexFunc_Sint64_int64 : compF Tryd.prog Tryd.f110 = some c_slices_IndexFunc_Sint64_int64 := by kernel_rfl
def c_slices_ContainsFunc_Sint64_int64 : F := ⟨(.seq (.reg false [⟨some 4, .mv (.c (.bool false)), none⟩]) (.seq (.reg false [⟨some 5, .mv (.t 0), none⟩, ⟨some 6, .mv (.t 1), none⟩, ⟨some 7, .call (.f 110) [(.t 5), (.t 6)], none⟩, ⟨some 8, .bin .geq (.t 7) (.c (.int .i64 0)), none⟩, ⟨some 4, .mv (.t 8), none⟩]) .ret)), 9, [(.t 4)]⟩
theorem k_slices_ContainsFunc_Sint64_int64 : compF Tryd.prog Tryd.f96 = some c_slices_ContainsFunc_Sint64_int64 := by kernel_rfl
theorem idx_ints {w : Bool} {lo hi : Nat} {h : AH} {v : AV} {cs : List AV} (s : Sl w lo hi h 1 v cs) (hl : slen v ≤ 4611686018427387904) (g : Nat) (ds : List AV) (p : Nat → Bool) (n : Nat)
    (hp : ∀ k n', k < slen v → n ≤ n' → Q Tryd.prog g (cs.getD k .any :: ds) h n' (.bool (p k))) :
    ∃ r : Int, (r = -1 ∧ (∀ k, k < slen v → p k = false) ∨ ∃ k : Nat, r = k ∧ k < slen v ∧ p k = true ∧ ∀ j, j < k → p j = false) ∧ Q Tryd.prog 110 [v, .fn g ds] h n (.int .i64 r) := by
  suffices hx : ∃ x, (∃ r : Int, x = .int .i64 r ∧ (r = -1 ∧ (∀ k, k < slen v → p k = false) ∨ ∃ k : Nat, r = k ∧ k < slen v ∧ p k = true ∧ ∀ j, j < k → p j = false)) ∧ Q Tryd.prog 110 [v, .fn g ds] h n x by
    obtain ⟨_, ⟨r, rfl, hr⟩, hq⟩ := hx
    exact ⟨r, hr, hq⟩
  refine eq_intro Tryd.func110 k_slices_IndexFunc_Sint64_int64 ?_
  have hlen := s.len
  simp (maxSteps := 2000000) -implicitDefEqProofs (disch := omega) only [c_slices_IndexFunc_Sint64_int64, s.ln, xsW, xsC, xsD, xsE, fillA, reduceCtorEq, Nat.reduceAdd, Nat.reduceSub, Nat.reduceLeDiff, Nat.reduceMul, Int.reduceLT, Int.reduceLE, Int.reduceEq, Int.reduceNe, Int.reduceAdd, Int.reduceSub, Int.reduceMul, Int.reduceNeg, Int.reduceToNat]
  refine loop_for (slen v) 0 (fun k (_ : Unit) => [v, .fn g ds, .any, .any, .int .i64 0, .any, .any, .int .i64 (slen v), .int .i64 k, .any, .any, .any, .any, .any, .any, .any, .any, .any, .any]) (fun k _ => h)
    (fun k _ _ => ∀ j, j < k → p j = false) () (Nat.zero_le _) (fun j hj => absurd hj (Nat.not_lt_zero _)) (by simp [LeL, Le1]) (fun _ _ h => h) ?_
  rintro k - n1 - hk hn1 he
  simp (maxSteps := 2000000) -implicitDefEqProofs (disch := omega) only [xsW, xsC, xsD, xsE, fillA, reduceCtorEq, Nat.reduceAdd, Nat.reduceSub, Nat.reduceLeDiff, Nat.reduceMul, Int.reduceLT, Int.reduceLE, Int.reduceEq, Int.reduceNe, Int.reduceAdd, Int.reduceSub, Int.reduceMul, Int.reduceNeg, Int.reduceToNat]
  (refine cd_dec (fun h1 => ?_) (fun h1 => ?_) <;> simp (maxSteps := 2000000) -implicitDefEqProofs (disch := omega) only [xsW, xsC, xsD, xsE, fillA, reduceCtorEq, Nat.reduceAdd, Nat.reduceSub, Nat.reduceLeDiff, Nat.reduceMul, Int.reduceLT, Int.reduceLE, Int.reduceEq, Int.reduceNe, Int.reduceAdd, Int.reduceSub, Int.reduceMul, Int.reduceNeg, Int.reduceToNat,  h1])
  · have hk' : k < slen v := by omega
    simp (maxSteps := 2000000) -implicitDefEqProofs (disch := omega) only [xsW, xsC, xsD, xsE, fillA, reduceCtorEq, Nat.reduceAdd, Nat.reduceSub, Nat.reduceLeDiff, Nat.reduceMul, Int.reduceLT, Int.reduceLE, Int.reduceEq, Int.reduceNe, Int.reduceAdd, Int.reduceSub, Int.reduceMul, Int.reduceNeg, Int.reduceToNat,  s.ia, s.ld]
    refine q_use (hp k n1 hk' hn1) fun n2 hn2 => ?_
    simp (maxSteps := 2000000) -implicitDefEqProofs (disch := omega) only [xsW, xsC, xsD, xsE, fillA, reduceCtorEq, Nat.reduceAdd, Nat.reduceSub, Nat.reduceLeDiff, Nat.reduceMul, Int.reduceLT, Int.reduceLE, Int.reduceEq, Int.reduceNe, Int.reduceAdd, Int.reduceSub, Int.reduceMul, Int.reduceNeg, Int.reduceToNat]
    cases hpk : p k
    · simp (maxSteps := 2000000) -implicitDefEqProofs (disch := omega) only [xsW, xsC, xsD, xsE, fillA, reduceCtorEq, Nat.reduceAdd, Nat.reduceSub, Nat.reduceLeDiff, Nat.reduceMul, Int.reduceLT, Int.reduceLE, Int.reduceEq, Int.reduceNe, Int.reduceAdd, Int.reduceSub, Int.reduceMul, Int.reduceNeg, Int.reduceToNat]
      exact ⟨(), fun j hj => (Nat.lt_succ_iff_lt_or_eq.1 hj).elim (he j) (fun e => by rw [e, hpk]), by omega, by omega, (by simp [LeL, Le1])⟩
    · simp (maxSteps := 2000000) -implicitDefEqProofs (disch := omega) only [xsW, xsC, xsD, xsE, fillA, reduceCtorEq, Nat.reduceAdd, Nat.reduceSub, Nat.reduceLeDiff, Nat.reduceMul, Int.reduceLT, Int.reduceLE, Int.reduceEq, Int.reduceNe, Int.reduceAdd, Int.reduceSub, Int.reduceMul, Int.reduceNeg, Int.reduceToNat]
      exact ⟨k, rfl, .inr ⟨k, rfl, hk', hpk, he⟩⟩
  · exact ⟨-1, rfl, .inl ⟨rfl, fun j hj => he j (by omega)⟩⟩
theorem has_ints {w : Bool} {lo hi : Nat} {h : AH} {v : AV} {cs : List AV} (s : Sl w lo hi h 1 v cs) (hl : slen v ≤ 4611686018427387904) (g : Nat) (ds : List AV) (p : Nat → Bool) (n : Nat)
    (hp : ∀ k n', k < slen v → n ≤ n' → Q Tryd.prog g (cs.getD k .any :: ds) h n' (.bool (p k))) :
    Q Tryd.prog 96 [v, .fn g ds] h n (.bool ((List.range (slen v)).any p)) := by
  obtain ⟨r, hr, hq⟩ := idx_ints s hl g ds p n hp
  refine q_intro Tryd.func96 k_slices_ContainsFunc_Sint64_int64 ?_
  simp (maxSteps := 2000000) -implicitDefEqProofs (disch := omega) only [c_slices_ContainsFunc_Sint64_int64, xsW, xsC, xsD, xsE, fillA, reduceCtorEq, Nat.reduceAdd, Nat.reduceSub, Nat.reduceLeDiff, Nat.reduceMul, Int.reduceLT, Int.reduceLE, Int.reduceEq, Int.reduceNe, Int.reduceAdd, Int.reduceSub, Int.reduceMul, Int.reduceNeg, Int.reduceToNat]
  refine q_use hq fun n1 hn1 => ?_
  simp (maxSteps := 2000000) -implicitDefEqProofs (disch := omega) only [xsW, xsC, xsD, xsE, fillA, reduceCtorEq, Nat.reduceAdd, Nat.reduceSub, Nat.reduceLeDiff, Nat.reduceMul, Int.reduceLT, Int.reduceLE, Int.reduceEq, Int.reduceNe, Int.reduceAdd, Int.reduceSub, Int.reduceMul, Int.reduceNeg, Int.reduceToNat]
  rcases hr with ⟨rfl, hr⟩ | ⟨k, rfl, hk, hpk, _⟩
  · rw [Bool.eq_iff_iff]; simp; exact hr
  · rw [Bool.eq_iff_iff]; simp; exact ⟨k, hk, hpk⟩
def c_slices_IndexFunc_SSint64_Sint64 : F := ⟨(.seq (.reg false [⟨some 4, .mv (.c (.int .i64 0)), none⟩]) (.seq (.seq (.reg false [⟨some 6, .mv (.t 0), none⟩, ⟨some 7, .len (.t 6), none⟩, ⟨some 8, .mv (.c (.int .i64 0)), none⟩]) (.block 0 (.loop (.seq (.reg false [⟨some 9, .bin .lss (.t 8) (.t 7), none⟩]) (.seq (.cond (.t 9) .skip (.exit 0)) (.seq (.block 1 (.seq (.reg false [⟨some 10, .mv (.t 8), none⟩, ⟨some 5, .mv (.t 10), none⟩]) (.seq (.reg false [⟨some 11, .mv (.t 1), none⟩, ⟨some 12, .mv (.t 0), none⟩, ⟨some 13, .mv (.t 5), none⟩, ⟨some 14, .ia 1 (.t 12) (.t 13), none⟩, ⟨some 15, .ld1 (.t 14), none⟩, ⟨some 16, .call (.t 11) [(.t 15)], none⟩]) (.cond (.t 16) (.seq (.reg false [⟨some 17, .mv (.t 5), none⟩, ⟨some 4, .mv (.t 17), none⟩]) .ret) .skip)))) (.reg false [⟨some 18, .bin .add (.t 8) (.c (.int .i64 1)), none⟩, ⟨some 8, .mv (.t 18), none⟩]))))))) (.seq (.reg false [⟨some 4, .mv (.c (.int .i64 (-1))), none⟩]) .ret))), 19, [(.t 4)]⟩
theorem k_slices_IndexFunc_SSint64_Sint64 : compF Tryd.prog Tryd.f109 = some c_slices_IndexFunc_SSint64_Sint64 := by kernel_rfl
def c_slices_ContainsFunc_SSint64_Sint64 : F := ⟨(.seq (.reg false [⟨some 4, .mv (.c (.bool false)), none⟩]) (.seq (.reg false [⟨some 5, .mv (.t 0), none⟩, ⟨some 6, .mv (.t 1), none⟩, ⟨some 7, .call (.f 109) [(.t 5), (.t 6)], none⟩, ⟨some 8, .bin .geq (.t 7) (.c (.int .i64 0)), none⟩, ⟨some 4, .mv (.t 8), none⟩]) .ret)), 9, [(.t 4)]⟩
theorem k_slices_ContainsFunc_SSint64_Sint64 : compF Tryd.prog Tryd.f94 = some c_slices_ContainsFunc_SSint64_Sint64 := by kernel_rfl
theorem idx_rows {w : Bool} {lo hi : Nat} {h : AH} {v : AV} {cs : List AV} (s : Sl w lo hi h 1 v cs) (hl : slen v ≤ 4611686018427387904) (g : Nat) (ds : List AV) (p : Nat → Bool) (n : Nat)
    (hp : ∀ k n', k < slen v → n ≤ n' → Q Tryd.prog g (cs.getD k .any :: ds) h n' (.bool (p k))) :
    ∃ r : Int, (r = -1 ∧ (∀ k, k < slen v → p k = false) ∨ ∃ k : Nat, r = k ∧ k < slen v ∧ p k = true ∧ ∀ j, j < k → p j = false) ∧ Q Tryd.prog 109 [v, .fn g ds] h n (.int .i64 r) := by
  suffices hx : ∃ x, (∃ r : Int, x = .int .i64 r ∧ (r = -1 ∧ (∀ k, k < slen v → p k = false) ∨ ∃ k : Nat, r = k ∧ k < slen v ∧ p k = true ∧ ∀ j, j < k → p j = false)) ∧ Q Tryd.prog 109 [v, .fn g ds] h n x by
    obtain ⟨_, ⟨r, rfl, hr⟩, hq⟩ := hx
    exact ⟨r, hr, hq⟩
  refine eq_intro Tryd.func109 k_slices_IndexFunc_SSint64_Sint64 ?_
  have hlen := s.len
  simp (maxSteps := 2000000) -implicitDefEqProofs (disch := omega) only [c_slices_IndexFunc_SSint64_Sint64, s.ln, xsW, xsC, xsD, xsE, fillA, reduceCtorEq, Nat.reduceAdd, Nat.reduceSub, Nat.reduceLeDiff, Nat.reduceMul, Int.reduceLT, Int.reduceLE, Int.reduceEq, Int.reduceNe, Int.reduceAdd, Int.reduceSub, Int.reduceMul, Int.reduceNeg, Int.reduceToNat]
  refine loop_for (slen v) 0 (fun k (_ : Unit) => [v, .fn g ds, .any, .any, .int .i64 0, .any, .any, .int .i64 (slen v), .int .i64 k, .any, .any, .any, .any, .any, .any, .any, .any, .any, .any]) (fun k _ => h)
    (fun k _ _ => ∀ j, j < k → p j = false) () (Nat.zero_le _) (fun j hj => absurd hj (Nat.not_lt_zero _)) (by simp [LeL, Le1]) (fun _ _ h => h) ?_
  rintro k - n1 - hk hn1 he
  simp (maxSteps := 2000000) -implicitDefEqProofs (disch := omega) only [xsW, xsC, xsD, xsE, fillA, reduceCtorEq, Nat.reduceAdd, Nat.reduceSub, Nat.reduceLeDiff, Nat.reduceMul, Int.reduceLT, Int.reduceLE, Int.reduceEq, Int.reduceNe, Int.reduceAdd, Int.reduceSub, Int.reduceMul, Int.reduceNeg, Int.reduceToNat]
  (refine cd_dec (fun h1 => ?_) (fun h1 => ?_) <;> simp (maxSteps := 2000000) -implicitDefEqProofs (disch := omega) only [xsW, xsC, xsD, xsE, fillA, reduceCtorEq, Nat.reduceAdd, Nat.reduceSub, Nat.reduceLeDiff, Nat.reduceMul, Int.reduceLT, Int.reduceLE, Int.reduceEq, Int.reduceNe, Int.reduceAdd, Int.reduceSub, Int.reduceMul, Int.reduceNeg, Int.reduceToNat,  h1])
  · have hk' : k < slen v := by omega
    simp (maxSteps := 2000000) -implicitDefEqProofs (disch := omega) only [xsW, xsC, xsD, xsE, fillA, reduceCtorEq, Nat.reduceAdd, Nat.reduceSub, Nat.reduceLeDiff, Nat.reduceMul, Int.reduceLT, Int.reduceLE, Int.reduceEq, Int.reduceNe, Int.reduceAdd, Int.reduceSub, Int.reduceMul, Int.reduceNeg, Int.reduceToNat,  s.ia, s.ld]
    refine q_use (hp k n1 hk' hn1) fun n2 hn2 => ?_
    simp (maxSteps := 2000000) -implicitDefEqProofs (disch := omega) only [xsW, xsC, xsD, xsE, fillA, reduceCtorEq, Nat.reduceAdd, Nat.reduceSub, Nat.reduceLeDiff, Nat.reduceMul, Int.reduceLT, Int.reduceLE, Int.reduceEq, Int.reduceNe, Int.reduceAdd, Int.reduceSub, Int.reduceMul, Int.reduceNeg, Int.reduceToNat]
    cases hpk : p k
    · simp (maxSteps := 2000000) -implicitDefEqProofs (disch := omega) only [xsW, xsC, xsD, xsE, fillA, reduceCtorEq, Nat.reduceAdd, Nat.reduceSub, Nat.reduceLeDiff, Nat.reduceMul, Int.reduceLT, Int.reduceLE, Int.reduceEq, Int.reduceNe, Int.reduceAdd, Int.reduceSub, Int.reduceMul, Int.reduceNeg, Int.reduceToNat]
      exact ⟨(), fun j hj => (Nat.lt_succ_iff_lt_or_eq.1 hj).elim (he j) (fun e => by rw [e, hpk]), by omega, by omega, (by simp [LeL, Le1])⟩
    · simp (maxSteps := 2000000) -implicitDefEqProofs (disch := omega) only [xsW, xsC, xsD, xsE, fillA, reduceCtorEq, Nat.reduceAdd, Nat.reduceSub, Nat.reduceLeDiff, Nat.reduceMul, Int.reduceLT, Int.reduceLE, Int.reduceEq, Int.reduceNe, Int.reduceAdd, Int.reduceSub, Int.reduceMul, Int.reduceNeg, Int.reduceToNat]
      exact ⟨k, rfl, .inr ⟨k, rfl, hk', hpk, he⟩⟩
  · exact ⟨-1, rfl, .inl ⟨rfl, fun j hj => he j (by omega)⟩⟩
theorem has_rows {w : Bool} {lo hi : Nat} {h : AH} {v : AV} {cs : List AV} (s : Sl w lo hi h 1 v cs) (hl : slen v ≤ 4611686018427387904) (g : Nat) (ds : List AV) (p : Nat → Bool) (n : Nat)
    (hp : ∀ k n', k < slen v → n ≤ n' → Q Tryd.prog g (cs.getD k .any :: ds) h n' (.bool (p k))) :
    Q Tryd.prog 94 [v, .fn g ds] h n (.bool ((List.range (slen v)).any p)) := by
  obtain ⟨r, hr, hq⟩ := idx_rows s hl g ds p n hp
  refine q_intro Tryd.func94 k_slices_ContainsFunc_SSint64_Sint64 ?_
  simp (maxSteps := 2000000) -implicitDefEqProofs (disch := omega) only [c_slices_ContainsFunc_SSint64_Sint64, xsW, xsC, xsD, xsE, fillA, reduceCtorEq, Nat.reduceAdd, Nat.reduceSub, Nat.reduceLeDiff, Nat.reduceMul, Int.reduceLT, Int.reduceLE, Int.reduceEq, Int.reduceNe, Int.reduceAdd, Int.reduceSub, Int.reduceMul, Int.reduceNeg, Int.reduceToNat]
  refine q_use hq fun n1 hn1 => ?_
  simp (maxSteps := 2000000) -implicitDefEqProofs (disch := omega) only [xsW, xsC, xsD, xsE, fillA, reduceCtorEq, Nat.reduceAdd, Nat.reduceSub, Nat.reduceLeDiff, Nat.reduceMul, Int.reduceLT, Int.reduceLE, Int.reduceEq, Int.reduceNe, Int.reduceAdd, Int.reduceSub, Int.reduceMul, Int.reduceNeg, Int.reduceToNat]
  rcases hr with ⟨rfl, hr⟩ | ⟨k, rfl, hk, hpk, _⟩
  · rw [Bool.eq_iff_iff]; simp; exact hr
  · rw [Bool.eq_iff_iff]; simp; exact ⟨k, hk, hpk⟩
def c_laws_eqInt64SS : F := ⟨(.seq (.reg false [⟨some 4, .mv (.c (.bool false)), none⟩]) (.seq (.seq (.reg false [⟨some 6, .mv (.t 0), none⟩, ⟨some 7, .len (.t 6), none⟩, ⟨some 8, .mv (.t 1), none⟩, ⟨some 9, .len (.t 8), none⟩, ⟨some 10, .bin .neq (.t 7) (.t 9), none⟩]) (.cond (.t 10) (.seq (.reg false [⟨some 4, .mv (.c (.bool false)), none⟩]) .ret) .skip)) (.seq (.seq (.reg false [⟨some 5, .mv (.c (.int .i64 0)), none⟩]) (.block 0 (.loop (.seq (.seq (.reg false [⟨some 11, .mv (.t 5), none⟩, ⟨some 12, .mv (.t 0), none⟩, ⟨some 13, .len (.t 12), none⟩, ⟨some 14, .bin .lss (.t 11) (.t 13), none⟩]) (.cond (.t 14) .skip (.exit 0))) (.seq (.block 1 (.seq (.reg true [⟨some 17, .mv (.t 0), none⟩, ⟨some 18, .mv (.t 5), none⟩, ⟨some 19, .ia 1 (.t 17) (.t 18), none⟩, ⟨some 20, .ld1 (.t 19), none⟩, ⟨some 21, .mv (.t 1), none⟩, ⟨some 22, .mv (.t 5), none⟩, ⟨some 23, .ia 1 (.t 21) (.t 22), none⟩, ⟨some 24, .ld1 (.t 23), none⟩, ⟨some 25, .call (.f 65) [(.t 20), (.t 24)], none⟩, ⟨some 26, .un .not (.t 25), none⟩]) (.cond (.t 26) (.seq (.reg false [⟨some 4, .mv (.c (.bool false)), none⟩]) .ret) .skip))) (.reg false [⟨some 15, .mv (.t 5), none⟩, ⟨some 16, .bin .add (.t 15) (.c (.int .i64 1)), none⟩, ⟨some 5, .mv (.t 16), none⟩])))))) (.seq (.reg false [⟨some 4, .mv (.c (.bool true)), none⟩]) .ret)))), 27, [(.t 4)]⟩
theorem k_laws_eqInt64SS : compF Tryd.prog Tryd.f64 = some c_laws_eqInt64SS := by kernel_rfl
def c_spec_l01Matrix : F := ⟨(.seq (.reg false [⟨some 2, .mv (.c (.bool false)), none⟩]) (.seq (.reg false [⟨some 6, .mv (.t 0), none⟩, ⟨some 7, .len (.t 6), none⟩, ⟨some 3, .mv (.t 7), none⟩]) (.seq (.seq (.reg false [⟨some 8, .mv (.t 3), none⟩, ⟨some 9, .bin .lss (.t 8) (.c (.int .i64 1)), none⟩, ⟨some 10, .mv (.t 9), none⟩, ⟨some 11, .mv (.t 3), some (10, false)⟩, ⟨some 12, .bin .gtr (.t 11) (.c (.int .i64 5)), some (10, false)⟩, ⟨some 13, .pick (.t 10) (.c (.bool true)) (.t 12), none⟩]) (.cond (.t 13) (.seq (.reg false [⟨some 2, .mv (.c (.bool false)), none⟩]) .ret) .skip)) (.seq (.seq (.reg false [⟨some 4, .mv (.c (.int .i64 0)), none⟩]) (.block 0 (.loop (.seq (.seq (.reg false [⟨some 14, .mv (.t 4), none⟩, ⟨some 15, .mv (.t 3), none⟩, ⟨some 16, .bin .lss (.t 14) (.t 15), none⟩]) (.cond (.t 16) .skip (.exit 0))) (.seq (.block 1 (.seq (.seq (.reg false [⟨some 19, .mv (.t 0), none⟩, ⟨some 20, .mv (.t 4), none⟩, ⟨some 21, .ia 1 (.t 19) (.t 20), none⟩, ⟨some 22, .ld1 (.t 21), none⟩, ⟨some 23, .len (.t 22), none⟩, ⟨some 24, .mv (.t 3), none⟩, ⟨some 25, .bin .neq (.t 23) (.t 24), none⟩]) (.cond (.t 25) (.seq (.reg false [⟨some 2, .mv (.c (.bool false)), none⟩]) .ret) .skip)) (.seq (.reg false [⟨some 5, .mv (.c (.int .i64 0)), none⟩]) (.block 2 (.loop (.seq (.seq (.reg false [⟨some 26, .mv (.t 5), none⟩, ⟨some 27, .mv (.t 3), none⟩, ⟨some 28, .bin .lss (.t 26) (.t 27), none⟩]) (.cond (.t 28) .skip (.exit 2))) (.seq (.block 3 (.seq (.reg false [⟨some 31, .mv (.t 0), none⟩, ⟨some 32, .mv (.t 4), none⟩, ⟨some 33, .ia 1 (.t 31) (.t 32), none⟩, ⟨some 34, .ld1 (.t 33), none⟩, ⟨some 35, .mv (.t 5), none⟩, ⟨some 36, .ia 1 (.t 34) (.t 35), none⟩, ⟨some 37, .ld1 (.t 36), none⟩, ⟨some 38, .call (.f 54) [(.t 37), (.c (.int .i64 (-20))), (.c (.int .i64 20))], none⟩, ⟨some 39, .un .not (.t 38), none⟩]) (.cond (.t 39) (.seq (.reg false [⟨some 2, .mv (.c (.bool false)), none⟩]) .ret) .skip))) (.reg false [⟨some 29, .mv (.t 5), none⟩, ⟨some 30, .bin .add (.t 29) (.c (.int .i64 1)), none⟩, ⟨some 5, .mv (.t 30), none⟩])))))))) (.reg false [⟨some 17, .mv (.t 4), none⟩, ⟨some 18, .bin .add (.t 17) (.c (.int .i64 1)), none⟩, ⟨some 4, .mv (.t 18), none⟩])))))) (.seq (.reg false [⟨some 2, .mv (.c (.bool true)), none⟩]) .ret))))), 40, [(.t 2)]⟩
theorem k_spec_l01Matrix : compF Tryd.prog Tryd.f81 = some c_spec_l01Matrix := by kernel_rfl
def c_impl_IsMatrix : F := ⟨(.seq (.reg false [⟨some 2, .mv (.c (.bool false)), none⟩]) (.seq (.reg false [⟨some 3, .mv (.t 0), none⟩, ⟨some 4, .len (.t 3), none⟩, ⟨some 5, .call (.f 47) [(.t 4), (.c (.int .i64 1)), (.c (.int .i64 5))], none⟩, ⟨some 6, .mv (.t 5), none⟩, ⟨some 7, .mv (.t 0), some (6, true)⟩, ⟨some 8, .mv (.t 0), some (6, true)⟩, ⟨some 9, .len (.t 8), some (6, true)⟩, ⟨some 10, .call (.f 93) [(.t 7), (.t 9)], some (6, true)⟩, ⟨some 11, .pick (.t 6) (.t 10) (.c (.bool false)), none⟩, ⟨some 12, .mv (.t 11), none⟩, ⟨some 13, .mv (.t 0), some (12, true)⟩, ⟨some 14, .call (.f 94) [(.t 13), (.f 95)], some (12, true)⟩, ⟨some 15, .un .not (.t 14), some (12, true)⟩, ⟨some 16, .pick (.t 12) (.t 15) (.c (.bool false)), none⟩, ⟨some 2, .mv (.t 16), none⟩]) .ret)), 17, [(.t 2)]⟩
theorem k_impl_IsMatrix : compF Tryd.prog Tryd.f83 = some c_impl_IsMatrix := by kernel_rfl
def c_impl_isSquare : F := ⟨(.seq (.reg false [⟨some 3, .box 3 (.t 1), none⟩, ⟨some 4, .mv (.c (.bool false)), none⟩]) (.seq (.reg false [⟨some 5, .mv (.t 0), none⟩, ⟨some 6, .len (.t 5), none⟩, ⟨some 7, .ld1 (.t 3), none⟩, ⟨some 8, .bin .eql (.t 6) (.t 7), none⟩, ⟨some 9, .mv (.t 8), none⟩, ⟨some 10, .mv (.t 0), some (9, true)⟩, ⟨some 11, .mkf 108 [(.t 3)], some (9, true)⟩, ⟨some 12, .call (.f 94) [(.t 10), (.t 11)], some (9, true)⟩, ⟨some 13, .un .not (.t 12), some (9, true)⟩, ⟨some 14, .pick (.t 9) (.t 13) (.c (.bool false)), none⟩, ⟨some 4, .mv (.t 14), none⟩]) .ret)), 15, [(.t 4)]⟩
theorem k_impl_isSquare : compF Tryd.prog Tryd.f93 = some c_impl_isSquare := by kernel_rfl
def c_impl_isSquare_1 : F := ⟨(.seq (.reg false [⟨some 3, .mv (.c (.bool false)), none⟩]) (.seq (.reg false [⟨some 4, .mv (.t 0), none⟩, ⟨some 5, .len (.t 4), none⟩, ⟨some 6, .ld1 (.t 1), none⟩, ⟨some 7, .bin .neq (.t 5) (.t 6), none⟩, ⟨some 3, .mv (.t 7), none⟩]) .ret)), 8, [(.t 3)]⟩
theorem k_impl_isSquare_1 : compF Tryd.prog Tryd.f108 = some c_impl_isSquare_1 := by kernel_rfl
def c_impl_IsMatrix_1 : F := ⟨(.seq (.reg false [⟨some 2, .mv (.c (.bool false)), none⟩]) (.seq (.reg false [⟨some 3, .mv (.t 0), none⟩, ⟨some 4, .call (.f 84) [(.t 3), (.c (.int .i64 20))], none⟩, ⟨some 5, .un .not (.t 4), none⟩, ⟨some 2, .mv (.t 5), none⟩]) .ret)), 6, [(.t 2)]⟩
theorem k_impl_IsMatrix_1 : compF Tryd.prog Tryd.f95 = some c_impl_IsMatrix_1 := by kernel_rfl
def c_impl_allUpTo : F := ⟨(.seq (.reg false [⟨some 3, .box 2 (.t 1), none⟩, ⟨some 4, .mv (.c (.bool false)), none⟩]) (.seq (.reg false [⟨some 5, .mv (.t 0), none⟩, ⟨some 6, .mkf 97 [(.t 3)], none⟩, ⟨some 7, .call (.f 96) [(.t 5), (.t 6)], none⟩, ⟨some 8, .un .not (.t 7), none⟩, ⟨some 4, .mv (.t 8), none⟩]) .ret)), 9, [(.t 4)]⟩
theorem k_impl_allUpTo : compF Tryd.prog Tryd.f84 = some c_impl_allUpTo := by kernel_rfl
def c_impl_allUpTo_1 : F := ⟨(.seq (.reg false [⟨some 3, .mv (.c (.bool false)), none⟩]) (.seq (.reg false [⟨some 4, .mv (.t 0), none⟩, ⟨some 5, .ld1 (.t 1), none⟩, ⟨some 6, .call (.f 48) [(.t 4), (.t 5)], none⟩, ⟨some 7, .un .not (.t 6), none⟩, ⟨some 3, .mv (.t 7), none⟩]) .ret)), 8, [(.t 3)]⟩
theorem k_impl_allUpTo_1 : compF Tryd.prog Tryd.f97 = some c_impl_allUpTo_1 := by kernel_rfl

def within (m : Int) (l : List Int) : Bool := l.all fun x => decide (-m ≤ x ∧ x ≤ m)
def isMat (ll : List (List Int)) : Bool := decide (1 ≤ ll.length ∧ ll.length ≤ 5) && ll.all fun l => decide (l.length = ll.length) && within 20 l
theorem any_range {α : Type} (l : List α) (d : α) (p : α → Bool) : ((List.range l.length).any fun k => p (l.getD k d)) = l.any p := by
  rw [Bool.eq_iff_iff]
  simp only [List.any_eq_true, List.mem_range]
  constructor
  · rintro ⟨k, hk, h⟩
    exact ⟨_, getD_mem hk, h⟩
  · rintro ⟨x, hx, h⟩
    obtain ⟨k, hk, rfl⟩ := List.mem_iff_getElem.1 hx
    exact ⟨k, hk, by simpa [List.getD, hk] using h⟩
theorem impl_allUpTo1 (a c : Int) (hc : in64 (-c)) {h : AH} {i n : Nat} {op : Nat} {wr : Bool} {ty : Nat} (hb : h i = some ⟨ty, [.int .i64 c], wr, op⟩) :
    Q Tryd.prog 97 [.int .i64 a, .ptr i 0] h n (.bool (!decide (-c ≤ a ∧ a ≤ c))) := by
  refine q_intro Tryd.func97 k_impl_allUpTo_1 ?_
  simp (maxSteps := 2000000) -implicitDefEqProofs (disch := omega) only [c_impl_allUpTo_1, hb, xsW, xsC, xsD, xsE, fillA, reduceCtorEq, Nat.reduceAdd, Nat.reduceSub, Nat.reduceLeDiff, Nat.reduceMul, Int.reduceLT, Int.reduceLE, Int.reduceEq, Int.reduceNe, Int.reduceAdd, Int.reduceSub, Int.reduceMul, Int.reduceNeg, Int.reduceToNat]
  refine q_use (impl_upTo _ _ hc _ _) fun n1 hn1 => ?_
  simp (maxSteps := 2000000) -implicitDefEqProofs (disch := omega) only [xsW, xsC, xsD, xsE, fillA, reduceCtorEq, Nat.reduceAdd, Nat.reduceSub, Nat.reduceLeDiff, Nat.reduceMul, Int.reduceLT, Int.reduceLE, Int.reduceEq, Int.reduceNe, Int.reduceAdd, Int.reduceSub, Int.reduceMul, Int.reduceNeg, Int.reduceToNat]
theorem impl_allUpTo {w : Bool} {lo hi : Nat} {h : AH} {v : AV} {l : List Int} (s : Ints w lo hi h v l) (hl : l.length ≤ 4611686018427387904) (c : Int) (hc : in64 (-c)) (n : Nat) (hn : hi ≤ n) :
    Q Tryd.prog 84 [v, .int .i64 c] h n (.bool (within c l)) := by
  refine q_intro Tryd.func84 k_impl_allUpTo ?_
  have hs := s.slen
  simp (maxSteps := 2000000) -implicitDefEqProofs (disch := omega) only [c_impl_allUpTo, xsW, xsC, xsD, xsE, fillA, reduceCtorEq, Nat.reduceAdd, Nat.reduceSub, Nat.reduceLeDiff, Nat.reduceMul, Int.reduceLT, Int.reduceLE, Int.reduceEq, Int.reduceNe, Int.reduceAdd, Int.reduceSub, Int.reduceMul, Int.reduceNeg, Int.reduceToNat]
  refine q_use (has_ints (Ints.keep s fun i _ hi' => by rw [upd_other (by omega)]) (by omega) _ _ (fun k => !decide (-c ≤ l.getD k 0 ∧ l.getD k 0 ≤ c)) _ fun k n' hk _ => ?_) fun n1 hn1 => ?_
  · rw [ints_getD l k (by omega)]
    exact impl_allUpTo1 _ _ hc (upd_same _ _ _)
  · rw [hs, any_range l 0 (fun x => !decide (-c ≤ x ∧ x ≤ c))]
    simp (maxSteps := 2000000) -implicitDefEqProofs (disch := omega) only [xsW, xsC, xsD, xsE, fillA, reduceCtorEq, Nat.reduceAdd, Nat.reduceSub, Nat.reduceLeDiff, Nat.reduceMul, Int.reduceLT, Int.reduceLE, Int.reduceEq, Int.reduceNe, Int.reduceAdd, Int.reduceSub, Int.reduceMul, Int.reduceNeg, Int.reduceToNat]
    rw [within, Bool.eq_iff_iff]; simp
theorem impl_isSquare1 {w : Bool} {lo hi : Nat} {h : AH} {v : AV} {l : List Int} (s : Ints w lo hi h v l) (c : Int) {i n : Nat} {op : Nat} {wr : Bool} {ty : Nat} (hb : h i = some ⟨ty, [.int .i64 c], wr, op⟩) :
    Q Tryd.prog 108 [v, .ptr i 0] h n (.bool (decide (¬ (l.length : Int) = c))) := by
  refine q_intro Tryd.func108 k_impl_isSquare_1 ?_
  simp (maxSteps := 2000000) -implicitDefEqProofs (disch := omega) only [c_impl_isSquare_1, hb, s.ln, xsW, xsC, xsD, xsE, fillA, reduceCtorEq, Nat.reduceAdd, Nat.reduceSub, Nat.reduceLeDiff, Nat.reduceMul, Int.reduceLT, Int.reduceLE, Int.reduceEq, Int.reduceNe, Int.reduceAdd, Int.reduceSub, Int.reduceMul, Int.reduceNeg, Int.reduceToNat]
theorem impl_isSquare {w : Bool} {lo hi : Nat} {h : AH} {v : AV} {vs : List AV} {ll : List (List Int)} (s : Rows w lo hi h v vs ll) (hl : ll.length ≤ 4611686018427387904) (c : Int) (n : Nat) (hn : hi ≤ n) :
    Q Tryd.prog 93 [v, .int .i64 c] h n (.bool (decide ((ll.length : Int) = c) && ll.all fun l => decide ((l.length : Int) = c))) := by
  refine q_intro Tryd.func93 k_impl_isSquare ?_
  have hs := s.slen
  simp (maxSteps := 2000000) -implicitDefEqProofs (disch := omega) only [c_impl_isSquare, s.ln, xsW, xsC, xsD, xsE, fillA, reduceCtorEq, Nat.reduceAdd, Nat.reduceSub, Nat.reduceLeDiff, Nat.reduceMul, Int.reduceLT, Int.reduceLE, Int.reduceEq, Int.reduceNe, Int.reduceAdd, Int.reduceSub, Int.reduceMul, Int.reduceNeg, Int.reduceToNat]
  (refine gd_dec (fun hc => ?_) (fun hc => ?_) <;> simp (maxSteps := 2000000) -implicitDefEqProofs (disch := omega) only [xsW, xsC, xsD, xsE, fillA, reduceCtorEq, Nat.reduceAdd, Nat.reduceSub, Nat.reduceLeDiff, Nat.reduceMul, Int.reduceLT, Int.reduceLE, Int.reduceEq, Int.reduceNe, Int.reduceAdd, Int.reduceSub, Int.reduceMul, Int.reduceNeg, Int.reduceToNat,  hc])
  have s' := s.keep (h' := upd h n (some ⟨3, [.int .i64 c], true, 0⟩)) fun i _ hi' => by rw [upd_other (by omega)]
  refine q_use (has_rows s'.out (by omega) _ _ (fun k => decide (¬ ((ll.getD k []).length : Int) = c)) _ fun k n' hk _ => impl_isSquare1 (s'.row k (by omega)) c (upd_same _ _ _)) fun n1 hn1 => ?_
  rw [hs, any_range ll [] (fun x => decide (¬ (x.length : Int) = c))]
  simp (maxSteps := 2000000) -implicitDefEqProofs (disch := omega) only [xsW, xsC, xsD, xsE, fillA, reduceCtorEq, Nat.reduceAdd, Nat.reduceSub, Nat.reduceLeDiff, Nat.reduceMul, Int.reduceLT, Int.reduceLE, Int.reduceEq, Int.reduceNe, Int.reduceAdd, Int.reduceSub, Int.reduceMul, Int.reduceNeg, Int.reduceToNat]
  rw [Bool.eq_iff_iff]; simp
theorem impl_IsMatrix1 {w : Bool} {lo hi : Nat} {h : AH} {v : AV} {l : List Int} (s : Ints w lo hi h v l) (hl : l.length ≤ 4611686018427387904) (n : Nat) (hn : hi ≤ n) :
    Q Tryd.prog 95 [v] h n (.bool (!within 20 l)) := by
  refine q_intro Tryd.func95 k_impl_IsMatrix_1 ?_
  simp (maxSteps := 2000000) -implicitDefEqProofs (disch := omega) only [c_impl_IsMatrix_1, xsW, xsC, xsD, xsE, fillA, reduceCtorEq, Nat.reduceAdd, Nat.reduceSub, Nat.reduceLeDiff, Nat.reduceMul, Int.reduceLT, Int.reduceLE, Int.reduceEq, Int.reduceNe, Int.reduceAdd, Int.reduceSub, Int.reduceMul, Int.reduceNeg, Int.reduceToNat]
  refine q_use (impl_allUpTo s hl _ (by unfold in64; omega) _ hn) fun n1 hn1 => ?_
  simp (maxSteps := 2000000) -implicitDefEqProofs (disch := omega) only [xsW, xsC, xsD, xsE, fillA, reduceCtorEq, Nat.reduceAdd, Nat.reduceSub, Nat.reduceLeDiff, Nat.reduceMul, Int.reduceLT, Int.reduceLE, Int.reduceEq, Int.reduceNe, Int.reduceAdd, Int.reduceSub, Int.reduceMul, Int.reduceNeg, Int.reduceToNat]
theorem impl_IsMatrix {w : Bool} {lo hi : Nat} {h : AH} {v : AV} {vs : List AV} {ll : List (List Int)} (s : Rows w lo hi h v vs ll) (hl : ll.length ≤ 1048576) (hll : ∀ l ∈ ll, l.length ≤ 1048576) (n : Nat) (hn : hi ≤ n) :
    Q Tryd.prog 83 [v] h n (.bool (isMat ll)) := by
  refine q_intro Tryd.func83 k_impl_IsMatrix ?_
  have hs := s.slen
  simp (maxSteps := 2000000) -implicitDefEqProofs (disch := omega) only [c_impl_IsMatrix, s.ln, xsW, xsC, xsD, xsE, fillA, reduceCtorEq, Nat.reduceAdd, Nat.reduceSub, Nat.reduceLeDiff, Nat.reduceMul, Int.reduceLT, Int.reduceLE, Int.reduceEq, Int.reduceNe, Int.reduceAdd, Int.reduceSub, Int.reduceMul, Int.reduceNeg, Int.reduceToNat]
  refine q_use (impl_within _ _ _ _ _) fun n1 hn1 => ?_
  simp (maxSteps := 2000000) -implicitDefEqProofs (disch := omega) only [xsW, xsC, xsD, xsE, fillA, reduceCtorEq, Nat.reduceAdd, Nat.reduceSub, Nat.reduceLeDiff, Nat.reduceMul, Int.reduceLT, Int.reduceLE, Int.reduceEq, Int.reduceNe, Int.reduceAdd, Int.reduceSub, Int.reduceMul, Int.reduceNeg, Int.reduceToNat]
  (refine gd_dec (fun h1 => ?_) (fun h1 => ?_) <;> simp (maxSteps := 2000000) -implicitDefEqProofs (disch := omega) only [xsW, xsC, xsD, xsE, fillA, reduceCtorEq, Nat.reduceAdd, Nat.reduceSub, Nat.reduceLeDiff, Nat.reduceMul, Int.reduceLT, Int.reduceLE, Int.reduceEq, Int.reduceNe, Int.reduceAdd, Int.reduceSub, Int.reduceMul, Int.reduceNeg, Int.reduceToNat,  h1])
  · simp (maxSteps := 2000000) -implicitDefEqProofs (disch := omega) only [xsW, xsC, xsD, xsE, fillA, reduceCtorEq, Nat.reduceAdd, Nat.reduceSub, Nat.reduceLeDiff, Nat.reduceMul, Int.reduceLT, Int.reduceLE, Int.reduceEq, Int.reduceNe, Int.reduceAdd, Int.reduceSub, Int.reduceMul, Int.reduceNeg, Int.reduceToNat,  s.ln]
    refine q_use (impl_isSquare s (by omega) _ _ (by omega)) fun n2 hn2 => ?_
    cases hq : (ll.all fun l => decide ((l.length : Int) = ll.length))
    · simp (maxSteps := 2000000) -implicitDefEqProofs (disch := omega) only [xsW, xsC, xsD, xsE, fillA, reduceCtorEq, Nat.reduceAdd, Nat.reduceSub, Nat.reduceLeDiff, Nat.reduceMul, Int.reduceLT, Int.reduceLE, Int.reduceEq, Int.reduceNe, Int.reduceAdd, Int.reduceSub, Int.reduceMul, Int.reduceNeg, Int.reduceToNat]
      rw [Bool.eq_iff_iff]
      simp only [Bool.false_eq_true, false_iff, isMat, Bool.and_eq_true, not_and, List.all_eq_true]
      intro _ hx
      rw [List.all_eq_false] at hq
      obtain ⟨l, hm, hh⟩ := hq
      have := (hx l hm).1
      simp at this hh
      omega
    · simp (maxSteps := 2000000) -implicitDefEqProofs (disch := omega) only [xsW, xsC, xsD, xsE, fillA, reduceCtorEq, Nat.reduceAdd, Nat.reduceSub, Nat.reduceLeDiff, Nat.reduceMul, Int.reduceLT, Int.reduceLE, Int.reduceEq, Int.reduceNe, Int.reduceAdd, Int.reduceSub, Int.reduceMul, Int.reduceNeg, Int.reduceToNat]
      refine q_use (has_rows s.out (by omega) _ _ (fun k => !within 20 (ll.getD k [])) _ fun k n' hk _ => impl_IsMatrix1 (s.row k (by omega)) (by have := hll _ (getD_mem (d := []) (show k < ll.length by omega)); omega) _ (by omega)) fun n3 hn3 => ?_
      rw [hs, any_range ll [] (fun x => !within 20 x)]
      simp (maxSteps := 2000000) -implicitDefEqProofs (disch := omega) only [xsW, xsC, xsD, xsE, fillA, reduceCtorEq, Nat.reduceAdd, Nat.reduceSub, Nat.reduceLeDiff, Nat.reduceMul, Int.reduceLT, Int.reduceLE, Int.reduceEq, Int.reduceNe, Int.reduceAdd, Int.reduceSub, Int.reduceMul, Int.reduceNeg, Int.reduceToNat]
      rw [Bool.eq_iff_iff]
      rw [List.all_eq_true] at hq
      simp only [isMat, Bool.and_eq_true, List.all_eq_true, Bool.not_eq_true', List.any_eq_false, decide_eq_true_eq]
      constructor
      · intro hx
        exact ⟨by omega, fun l hm => ⟨by have := hq l hm; simp at this; omega, by simpa using hx l hm⟩⟩
      · intro hx l hm
        simpa using (hx.2 l hm).2
  · rw [Bool.eq_iff_iff]; simp only [isMat, Bool.false_eq_true, false_iff, Bool.and_eq_true, decide_eq_true_eq, not_and]; intro hx; omega
theorem within_iff (m : Int) (l : List Int) : within m l = true ↔ ∀ j, j < l.length → -m ≤ l.getD j 0 ∧ l.getD j 0 ≤ m := by
  simp only [within, List.all_eq_true, decide_eq_true_eq]
  constructor
  · intro h j hj
    exact h _ (getD_mem hj)
  · intro h x hx
    obtain ⟨k, hk, rfl⟩ := List.mem_iff_getElem.1 hx
    have := h k hk
    simpa [List.getD, hk] using this
theorem isMat_iff (ll : List (List Int)) : isMat ll = true ↔ 1 ≤ ll.length ∧ ll.length ≤ 5 ∧ ∀ k, k < ll.length → (ll.getD k []).length = ll.length ∧ within 20 (ll.getD k []) = true := by
  simp only [isMat, Bool.and_eq_true, decide_eq_true_eq, List.all_eq_true, and_assoc]
  constructor
  · rintro ⟨h1, h2, h⟩
    exact ⟨h1, h2, fun k hk => h _ (getD_mem hk)⟩
  · rintro ⟨h1, h2, h⟩
    refine ⟨h1, h2, fun x hx => ?_⟩
    obtain ⟨k, hk, rfl⟩ := List.mem_iff_getElem.1 hx
    have := h k hk
    simpa [List.getD, hk] using this
theorem isMat_f {ll : List (List Int)} (h : ¬ (1 ≤ ll.length ∧ ll.length ≤ 5 ∧ ∀ k, k < ll.length → (ll.getD k []).length = ll.length ∧ within 20 (ll.getD k []) = true)) : false = isMat ll := by
  cases hm : isMat ll
  · rfl
  · exact absurd ((isMat_iff ll).1 hm) h
theorem spec_l01Matrix {w : Bool} {lo hi : Nat} {h : AH} {v : AV} {vs : List AV} {ll : List (List Int)} (s : Rows w lo hi h v vs ll) (hl : ll.length ≤ 1048576) (n : Nat) :
    Q Tryd.prog 81 [v] h n (.bool (isMat ll)) := by
  refine q_intro Tryd.func81 k_spec_l01Matrix ?_
  simp (maxSteps := 2000000) -implicitDefEqProofs (disch := omega) only [c_spec_l01Matrix, s.ln, xsW, xsC, xsD, xsE, fillA, reduceCtorEq, Nat.reduceAdd, Nat.reduceSub, Nat.reduceLeDiff, Nat.reduceMul, Int.reduceLT, Int.reduceLE, Int.reduceEq, Int.reduceNe, Int.reduceAdd, Int.reduceSub, Int.reduceMul, Int.reduceNeg, Int.reduceToNat]
  (refine gd_dec (fun h1 => ?_) (fun h1 => ?_) <;> simp (maxSteps := 2000000) -implicitDefEqProofs (disch := omega) only [xsW, xsC, xsD, xsE, fillA, reduceCtorEq, Nat.reduceAdd, Nat.reduceSub, Nat.reduceLeDiff, Nat.reduceMul, Int.reduceLT, Int.reduceLE, Int.reduceEq, Int.reduceNe, Int.reduceAdd, Int.reduceSub, Int.reduceMul, Int.reduceNeg, Int.reduceToNat,  h1])
  · exact isMat_f fun hx => by omega
  (refine cd_dec (fun h2 => ?_) (fun h2 => ?_) <;> simp (maxSteps := 2000000) -implicitDefEqProofs (disch := omega) only [xsW, xsC, xsD, xsE, fillA, reduceCtorEq, Nat.reduceAdd, Nat.reduceSub, Nat.reduceLeDiff, Nat.reduceMul, Int.reduceLT, Int.reduceLE, Int.reduceEq, Int.reduceNe, Int.reduceAdd, Int.reduceSub, Int.reduceMul, Int.reduceNeg, Int.reduceToNat,  h2])
  · exact isMat_f fun hx => by omega
  refine loop_for ll.length 0 (fun k (_ : Unit) => [v, .any, .bool false, .int .i64 ll.length, .int .i64 k, .any, .any, .any, .any, .any, .any, .any, .any, .any, .any, .any, .any, .any, .any, .any, .any, .any, .any, .any, .any, .any, .any, .any, .any, .any, .any, .any, .any, .any, .any, .any, .any, .any, .any, .any]) (fun k _ => h)
    (fun k _ _ => ∀ j, j < k → (ll.getD j []).length = ll.length ∧ within 20 (ll.getD j []) = true) () (Nat.zero_le _) (fun j hj => absurd hj (Nat.not_lt_zero _)) (by simp [LeL, Le1]) (fun _ _ h => h) ?_
  rintro k - n1 - hk hn1 he
  simp (maxSteps := 2000000) -implicitDefEqProofs (disch := omega) only [xsW, xsC, xsD, xsE, fillA, reduceCtorEq, Nat.reduceAdd, Nat.reduceSub, Nat.reduceLeDiff, Nat.reduceMul, Int.reduceLT, Int.reduceLE, Int.reduceEq, Int.reduceNe, Int.reduceAdd, Int.reduceSub, Int.reduceMul, Int.reduceNeg, Int.reduceToNat,  s.ln]
  (refine cd_dec (fun h3 => ?_) (fun h3 => ?_) <;> simp (maxSteps := 2000000) -implicitDefEqProofs (disch := omega) only [xsW, xsC, xsD, xsE, fillA, reduceCtorEq, Nat.reduceAdd, Nat.reduceSub, Nat.reduceLeDiff, Nat.reduceMul, Int.reduceLT, Int.reduceLE, Int.reduceEq, Int.reduceNe, Int.reduceAdd, Int.reduceSub, Int.reduceMul, Int.reduceNeg, Int.reduceToNat,  h3])
  · have hk' : k < ll.length := by omega
    have hr := s.row k hk'
    simp (maxSteps := 2000000) -implicitDefEqProofs (disch := omega) only [xsW, xsC, xsD, xsE, fillA, reduceCtorEq, Nat.reduceAdd, Nat.reduceSub, Nat.reduceLeDiff, Nat.reduceMul, Int.reduceLT, Int.reduceLE, Int.reduceEq, Int.reduceNe, Int.reduceAdd, Int.reduceSub, Int.reduceMul, Int.reduceNeg, Int.reduceToNat,  s.ia, s.ld, hr.ln]
    (refine cd_dec (fun h4 => ?_) (fun h4 => ?_) <;> simp (maxSteps := 2000000) -implicitDefEqProofs (disch := omega) only [xsW, xsC, xsD, xsE, fillA, reduceCtorEq, Nat.reduceAdd, Nat.reduceSub, Nat.reduceLeDiff, Nat.reduceMul, Int.reduceLT, Int.reduceLE, Int.reduceEq, Int.reduceNe, Int.reduceAdd, Int.reduceSub, Int.reduceMul, Int.reduceNeg, Int.reduceToNat,  h4])
    · exact isMat_f fun hx => by have := hx.2.2 k hk'; omega
    · refine loop_for ll.length 0 (fun j (_ : Unit) => [v, .any, .bool false, .int .i64 ll.length, .int .i64 k, .int .i64 j, .any, .any, .any, .any, .any, .any, .any, .any, .any, .any, .any, .any, .any, .any, .any, .any, .any, .any, .any, .any, .any, .any, .any, .any, .any, .any, .any, .any, .any, .any, .any, .any, .any, .any]) (fun k _ => h)
        (fun j _ _ => ∀ i, i < j → -20 ≤ (ll.getD k []).getD i 0 ∧ (ll.getD k []).getD i 0 ≤ 20) () (Nat.zero_le _) (fun j hj => absurd hj (Nat.not_lt_zero _)) (by simp [LeL, Le1]) (fun _ _ h => h) ?_
      rintro j - n2 - hj hn2 hi
      simp (maxSteps := 2000000) -implicitDefEqProofs (disch := omega) only [xsW, xsC, xsD, xsE, fillA, reduceCtorEq, Nat.reduceAdd, Nat.reduceSub, Nat.reduceLeDiff, Nat.reduceMul, Int.reduceLT, Int.reduceLE, Int.reduceEq, Int.reduceNe, Int.reduceAdd, Int.reduceSub, Int.reduceMul, Int.reduceNeg, Int.reduceToNat]
      (refine cd_dec (fun h5 => ?_) (fun h5 => ?_) <;> simp (maxSteps := 2000000) -implicitDefEqProofs (disch := omega) only [xsW, xsC, xsD, xsE, fillA, reduceCtorEq, Nat.reduceAdd, Nat.reduceSub, Nat.reduceLeDiff, Nat.reduceMul, Int.reduceLT, Int.reduceLE, Int.reduceEq, Int.reduceNe, Int.reduceAdd, Int.reduceSub, Int.reduceMul, Int.reduceNeg, Int.reduceToNat,  h5])
      · simp (maxSteps := 2000000) -implicitDefEqProofs (disch := omega) only [xsW, xsC, xsD, xsE, fillA, reduceCtorEq, Nat.reduceAdd, Nat.reduceSub, Nat.reduceLeDiff, Nat.reduceMul, Int.reduceLT, Int.reduceLE, Int.reduceEq, Int.reduceNe, Int.reduceAdd, Int.reduceSub, Int.reduceMul, Int.reduceNeg, Int.reduceToNat,  s.ia, s.ld, hr.ia, hr.ld]
        refine q_use (spec_l01In _ _ _ _ _) fun n3 hn3 => ?_
        simp (maxSteps := 2000000) -implicitDefEqProofs (disch := omega) only [xsW, xsC, xsD, xsE, fillA, reduceCtorEq, Nat.reduceAdd, Nat.reduceSub, Nat.reduceLeDiff, Nat.reduceMul, Int.reduceLT, Int.reduceLE, Int.reduceEq, Int.reduceNe, Int.reduceAdd, Int.reduceSub, Int.reduceMul, Int.reduceNeg, Int.reduceToNat]
        (refine cd_dec (fun h6 => ?_) (fun h6 => ?_) <;> simp (maxSteps := 2000000) -implicitDefEqProofs (disch := omega) only [xsW, xsC, xsD, xsE, fillA, reduceCtorEq, Nat.reduceAdd, Nat.reduceSub, Nat.reduceLeDiff, Nat.reduceMul, Int.reduceLT, Int.reduceLE, Int.reduceEq, Int.reduceNe, Int.reduceAdd, Int.reduceSub, Int.reduceMul, Int.reduceNeg, Int.reduceToNat,  h6])
        · refine isMat_f fun hx => ?_
          have hw := (hx.2.2 k hk').2
          rw [within_iff] at hw
          have := hw j (by omega)
          omega
        · exact ⟨(), fun i hi' => (Nat.lt_succ_iff_lt_or_eq.1 hi').elim (hi i) (fun e => by rw [e]; omega), by omega, by omega, (by simp [LeL, Le1])⟩
      · refine ⟨(), fun i hi' => (Nat.lt_succ_iff_lt_or_eq.1 hi').elim (he i) (fun e => ?_), by omega, by omega, (by simp [LeL, Le1])⟩
        rw [e, within_iff]
        exact ⟨by omega, fun i hi' => hi i (by omega)⟩
  · symm; rw [isMat_iff]
    exact ⟨by omega, by omega, fun j hj => he j (by omega)⟩
theorem laws_eqInt64SS {w w' : Bool} {lo hi lo' hi' : Nat} {h : AH} {v v' : AV} {vs vs' : List AV} {ll ll' : List (List Int)} (s : Rows w lo hi h v vs ll) (s' : Rows w' lo' hi' h v' vs' ll') (hl : ll.length ≤ 1048576) (hll : ∀ l ∈ ll, l.length ≤ 1048576) (n : Nat) :
    Q Tryd.prog 64 [v, v'] h n (.bool (decide (ll = ll'))) := by
  refine q_intro Tryd.func64 k_laws_eqInt64SS ?_
  simp (maxSteps := 2000000) -implicitDefEqProofs (disch := omega) only [c_laws_eqInt64SS, s.ln, s'.ln, xsW, xsC, xsD, xsE, fillA, reduceCtorEq, Nat.reduceAdd, Nat.reduceSub, Nat.reduceLeDiff, Nat.reduceMul, Int.reduceLT, Int.reduceLE, Int.reduceEq, Int.reduceNe, Int.reduceAdd, Int.reduceSub, Int.reduceMul, Int.reduceNeg, Int.reduceToNat]
  (refine cd_dec (fun h1 => ?_) (fun h1 => ?_) <;> simp (maxSteps := 2000000) -implicitDefEqProofs (disch := omega) only [xsW, xsC, xsD, xsE, fillA, reduceCtorEq, Nat.reduceAdd, Nat.reduceSub, Nat.reduceLeDiff, Nat.reduceMul, Int.reduceLT, Int.reduceLE, Int.reduceEq, Int.reduceNe, Int.reduceAdd, Int.reduceSub, Int.reduceMul, Int.reduceNeg, Int.reduceToNat,  h1])
  · rw [decide_eq_false fun e => h1 (by rw [e])]
  refine loop_for ll.length 0 (fun k (_ : Unit) => [v, v', .any, .any, .bool false, .int .i64 k, .any, .any, .any, .any, .any, .any, .any, .any, .any, .any, .any, .any, .any, .any, .any, .any, .any, .any, .any, .any, .any]) (fun k _ => h)
    (fun k _ _ => ∀ j, j < k → ll.getD j [] = ll'.getD j []) () (Nat.zero_le _) (fun j hj => absurd hj (Nat.not_lt_zero _)) (by simp [LeL, Le1]) (fun _ _ h => h) ?_
  rintro k - n1 - hk hn1 he
  simp (maxSteps := 2000000) -implicitDefEqProofs (disch := omega) only [xsW, xsC, xsD, xsE, fillA, reduceCtorEq, Nat.reduceAdd, Nat.reduceSub, Nat.reduceLeDiff, Nat.reduceMul, Int.reduceLT, Int.reduceLE, Int.reduceEq, Int.reduceNe, Int.reduceAdd, Int.reduceSub, Int.reduceMul, Int.reduceNeg, Int.reduceToNat,  s.ln, s'.ln]
  (refine cd_dec (fun h2 => ?_) (fun h2 => ?_) <;> simp (maxSteps := 2000000) -implicitDefEqProofs (disch := omega) only [xsW, xsC, xsD, xsE, fillA, reduceCtorEq, Nat.reduceAdd, Nat.reduceSub, Nat.reduceLeDiff, Nat.reduceMul, Int.reduceLT, Int.reduceLE, Int.reduceEq, Int.reduceNe, Int.reduceAdd, Int.reduceSub, Int.reduceMul, Int.reduceNeg, Int.reduceToNat,  h2])
  · have hk' : k < ll.length := by omega
    have hk2 : k < ll'.length := by omega
    simp (maxSteps := 2000000) -implicitDefEqProofs (disch := omega) only [xsW, xsC, xsD, xsE, fillA, reduceCtorEq, Nat.reduceAdd, Nat.reduceSub, Nat.reduceLeDiff, Nat.reduceMul, Int.reduceLT, Int.reduceLE, Int.reduceEq, Int.reduceNe, Int.reduceAdd, Int.reduceSub, Int.reduceMul, Int.reduceNeg, Int.reduceToNat,  s.ia, s.ld, s'.ia, s'.ld]
    refine q_use (laws_eqInt64S (s.row k hk') (s'.row k hk2) (hll _ (getD_mem hk')) _) fun n2 hn2 => ?_
    simp (maxSteps := 2000000) -implicitDefEqProofs (disch := omega) only [xsW, xsC, xsD, xsE, fillA, reduceCtorEq, Nat.reduceAdd, Nat.reduceSub, Nat.reduceLeDiff, Nat.reduceMul, Int.reduceLT, Int.reduceLE, Int.reduceEq, Int.reduceNe, Int.reduceAdd, Int.reduceSub, Int.reduceMul, Int.reduceNeg, Int.reduceToNat]
    (refine cd_dec (fun h3 => ?_) (fun h3 => ?_) <;> simp (maxSteps := 2000000) -implicitDefEqProofs (disch := omega) only [xsW, xsC, xsD, xsE, fillA, reduceCtorEq, Nat.reduceAdd, Nat.reduceSub, Nat.reduceLeDiff, Nat.reduceMul, Int.reduceLT, Int.reduceLE, Int.reduceEq, Int.reduceNe, Int.reduceAdd, Int.reduceSub, Int.reduceMul, Int.reduceNeg, Int.reduceToNat,  h3])
    · rw [decide_eq_false fun e => h3 (by rw [e])]
    · exact ⟨(), fun j hj => (Nat.lt_succ_iff_lt_or_eq.1 hj).elim (he j) (fun e => by rw [e]; exact Decidable.not_not.1 h3), by omega, by omega, (by simp [LeL, Le1])⟩
  · rw [decide_eq_true (getD_ext (d := []) (by omega) fun j hj => he j (by omega))]


theorem sz_len {ll : List (List Int)} {r : Int} (hr : 0 ≤ r → (ll.length : Int) ≤ 1048576 ∧ ∀ k, k < ll.length → ((ll.getD k []).length : Int) ≤ 1048576) (h0 : ¬ r < 0) : ll.length ≤ 1048576 ∧ ∀ l ∈ ll, l.length ≤ 1048576 := by
  obtain ⟨h1, h2⟩ := hr (by omega)
  refine ⟨by omega, fun l hl => ?_⟩
  obtain ⟨k, hk, rfl⟩ := List.mem_iff_getElem.1 hl
  have := h2 k hk
  simp [List.getD, hk] at this
  omega
def c_laws_szProblem : F := ⟨(.seq (.reg false [⟨some 2, .box 47 (.t 0), none⟩, ⟨some 4, .mv (.c (.int .i64 0)), none⟩]) (.seq (.reg false [⟨some 5, .fa 0 (.t 2), none⟩, ⟨some 6, .ld1 (.t 5), none⟩, ⟨some 7, .mv (.t 1), none⟩, ⟨some 8, .call (.f 55) [(.t 6), (.t 7)], none⟩, ⟨some 1, .mv (.t 8), none⟩]) (.seq (.seq (.reg false [⟨some 9, .mv (.t 1), none⟩, ⟨some 10, .bin .lss (.t 9) (.c (.int .i64 0)), none⟩]) (.cond (.t 10) (.seq (.reg false [⟨some 4, .mv (.c (.int .i64 (-1))), none⟩]) .ret) .skip)) (.seq (.reg false [⟨some 11, .fa 1 (.t 2), none⟩, ⟨some 12, .ld1 (.t 11), none⟩, ⟨some 13, .mv (.t 1), none⟩, ⟨some 14, .call (.f 56) [(.t 12), (.t 13)], none⟩, ⟨some 1, .mv (.t 14), none⟩]) (.seq (.seq (.reg false [⟨some 15, .mv (.t 1), none⟩, ⟨some 16, .bin .lss (.t 15) (.c (.int .i64 0)), none⟩]) (.cond (.t 16) (.seq (.reg false [⟨some 4, .mv (.c (.int .i64 (-1))), none⟩]) .ret) .skip)) (.seq (.reg false [⟨some 17, .mv (.t 1), none⟩, ⟨some 4, .mv (.t 17), none⟩]) .ret)))))), 18, [(.t 4)]⟩
theorem k_laws_szProblem : compF Tryd.prog Tryd.f26 = some c_laws_szProblem := by kernel_rfl
def c_laws_toProblem : F := ⟨(.seq (.reg false [⟨some 1, .box 47 (.t 0), none⟩, ⟨some 2, .alloc 50 [.nilsl, .nilsl], none⟩]) (.seq (.reg false [⟨some 3, .alloc 50 [.nilsl, .nilsl], none⟩]) (.seq (.reg false [⟨some 4, .fa 0 (.t 1), none⟩, ⟨some 5, .ld1 (.t 4), none⟩, ⟨some 6, .call (.f 59) [(.t 5)], none⟩, ⟨some 7, .fa 0 (.t 3), none⟩, ⟨none, .st 1 (.t 7) (.t 6), none⟩]) (.seq (.reg false [⟨some 8, .fa 1 (.t 1), none⟩, ⟨some 9, .ld1 (.t 8), none⟩, ⟨some 10, .call (.f 60) [(.t 9)], none⟩, ⟨some 11, .fa 1 (.t 3), none⟩, ⟨none, .st 1 (.t 11) (.t 10), none⟩]) (.seq (.reg false [⟨some 12, .ld 2 (.t 3), none⟩, ⟨none, .st 2 (.t 2) (.t 12), none⟩]) .ret))))), 13, [(.ca 2 2)]⟩
theorem k_laws_toProblem : compF Tryd.prog Tryd.f28 = some c_laws_toProblem := by kernel_rfl
def c_laws_eqProblem : F := ⟨(.seq (.reg false [⟨some 2, .box 50 (.t 0), none⟩, ⟨some 3, .box 50 (.t 1), none⟩, ⟨some 4, .mv (.c (.bool false)), none⟩]) (.seq (.seq (.reg false [⟨some 5, .fa 0 (.t 2), none⟩, ⟨some 6, .ld1 (.t 5), none⟩, ⟨some 7, .fa 0 (.t 3), none⟩, ⟨some 8, .ld1 (.t 7), none⟩, ⟨some 9, .call (.f 64) [(.t 6), (.t 8)], none⟩, ⟨some 10, .un .not (.t 9), none⟩]) (.cond (.t 10) (.seq (.reg false [⟨some 4, .mv (.c (.bool false)), none⟩]) .ret) .skip)) (.seq (.seq (.reg false [⟨some 11, .fa 1 (.t 2), none⟩, ⟨some 12, .ld1 (.t 11), none⟩, ⟨some 13, .fa 1 (.t 3), none⟩, ⟨some 14, .ld1 (.t 13), none⟩, ⟨some 15, .call (.f 65) [(.t 12), (.t 14)], none⟩, ⟨some 16, .un .not (.t 15), none⟩]) (.cond (.t 16) (.seq (.reg false [⟨some 4, .mv (.c (.bool false)), none⟩]) .ret) .skip)) (.seq (.reg false [⟨some 4, .mv (.c (.bool true)), none⟩]) .ret)))), 17, [(.t 4)]⟩
theorem k_laws_eqProblem : compF Tryd.prog Tryd.f30 = some c_laws_eqProblem := by kernel_rfl
def c_spec_l01Is : F := ⟨(.seq (.reg false [⟨some 1, .box 50 (.t 0), none⟩, ⟨some 2, .mv (.c (.bool false)), none⟩]) (.seq (.seq (.reg false [⟨some 4, .fa 0 (.t 1), none⟩, ⟨some 5, .ld1 (.t 4), none⟩, ⟨some 6, .call (.f 81) [(.t 5)], none⟩, ⟨some 7, .un .not (.t 6), none⟩, ⟨some 8, .mv (.t 7), none⟩, ⟨some 9, .fa 1 (.t 1), some (8, false)⟩, ⟨some 10, .ld1 (.t 9), some (8, false)⟩, ⟨some 11, .len (.t 10), some (8, false)⟩, ⟨some 12, .fa 0 (.t 1), some (8, false)⟩, ⟨some 13, .ld1 (.t 12), some (8, false)⟩, ⟨some 14, .len (.t 13), some (8, false)⟩, ⟨some 15, .bin .neq (.t 11) (.t 14), some (8, false)⟩, ⟨some 16, .pick (.t 8) (.c (.bool true)) (.t 15), none⟩]) (.cond (.t 16) (.seq (.reg false [⟨some 2, .mv (.c (.bool false)), none⟩]) .ret) .skip)) (.seq (.seq (.reg false [⟨some 3, .mv (.c (.int .i64 0)), none⟩]) (.block 0 (.loop (.seq (.seq (.reg false [⟨some 17, .mv (.t 3), none⟩, ⟨some 18, .fa 1 (.t 1), none⟩, ⟨some 19, .ld1 (.t 18), none⟩, ⟨some 20, .len (.t 19), none⟩, ⟨some 21, .bin .lss (.t 17) (.t 20), none⟩]) (.cond (.t 21) .skip (.exit 0))) (.seq (.block 1 (.seq (.reg false [⟨some 24, .fa 1 (.t 1), none⟩, ⟨some 25, .ld1 (.t 24), none⟩, ⟨some 26, .mv (.t 3), none⟩, ⟨some 27, .ia 1 (.t 25) (.t 26), none⟩, ⟨some 28, .ld1 (.t 27), none⟩, ⟨some 29, .call (.f 54) [(.t 28), (.c (.int .i64 (-100))), (.c (.int .i64 100))], none⟩, ⟨some 30, .un .not (.t 29), none⟩]) (.cond (.t 30) (.seq (.reg false [⟨some 2, .mv (.c (.bool false)), none⟩]) .ret) .skip))) (.reg false [⟨some 22, .mv (.t 3), none⟩, ⟨some 23, .bin .add (.t 22) (.c (.int .i64 1)), none⟩, ⟨some 3, .mv (.t 23), none⟩])))))) (.seq (.reg false [⟨some 2, .mv (.c (.bool true)), none⟩]) .ret)))), 31, [(.t 2)]⟩
theorem k_spec_l01Is : compF Tryd.prog Tryd.f57 = some c_spec_l01Is := by kernel_rfl
def c_impl_IsProblem : F := ⟨(.seq (.reg false [⟨some 1, .box 50 (.t 0), none⟩, ⟨some 2, .mv (.c (.bool false)), none⟩]) (.seq (.reg false [⟨some 3, .fa 0 (.t 1), none⟩, ⟨some 4, .ld1 (.t 3), none⟩, ⟨some 5, .call (.f 83) [(.t 4)], none⟩, ⟨some 6, .mv (.t 5), none⟩, ⟨some 7, .fa 1 (.t 1), some (6, true)⟩, ⟨some 8, .ld1 (.t 7), some (6, true)⟩, ⟨some 9, .len (.t 8), some (6, true)⟩, ⟨some 10, .fa 0 (.t 1), some (6, true)⟩, ⟨some 11, .ld1 (.t 10), some (6, true)⟩, ⟨some 12, .len (.t 11), some (6, true)⟩, ⟨some 13, .bin .eql (.t 9) (.t 12), some (6, true)⟩, ⟨some 14, .pick (.t 6) (.t 13) (.c (.bool false)), none⟩, ⟨some 15, .mv (.t 14), none⟩, ⟨some 16, .fa 1 (.t 1), some (15, true)⟩, ⟨some 17, .ld1 (.t 16), some (15, true)⟩, ⟨some 18, .call (.f 84) [(.t 17), (.c (.int .i64 100))], some (15, true)⟩, ⟨some 19, .pick (.t 15) (.t 18) (.c (.bool false)), none⟩, ⟨some 2, .mv (.t 19), none⟩]) .ret)), 20, [(.t 2)]⟩
theorem k_impl_IsProblem : compF Tryd.prog Tryd.f61 = some c_impl_IsProblem := by kernel_rfl

structure Prob (w : Bool) (lo hi : Nat) (h : AH) (v u : AV) (vs : List AV) (ll : List (List Int)) (l : List Int) : Prop where
  M : Rows w lo hi h v vs ll
  Q : Ints w lo hi h u l
  apart : w = true → isSl u = true → (isSl v = true → bid u ≠ bid v) ∧ ∀ k, k < ll.length → isSl (vs.getD k .any) = true → bid (vs.getD k .any) ≠ bid u
theorem Prob.keep {w : Bool} {lo hi : Nat} {h h' : AH} {v u : AV} {vs : List AV} {ll : List (List Int)} {l : List Int} (s : Prob w lo hi h v u vs ll l) (k : ∀ i, lo ≤ i → i < hi → h' i = h i) : Prob w lo hi h' v u vs ll l := ⟨s.M.keep k, s.Q.keep k, s.apart⟩
theorem Prob.wide {w : Bool} {lo hi lo' hi' : Nat} {h : AH} {v u : AV} {vs : List AV} {ll : List (List Int)} {l : List Int} (s : Prob w lo hi h v u vs ll l) (h1 : lo' ≤ lo) (h2 : hi ≤ hi') : Prob w lo' hi' h v u vs ll l := ⟨s.M.wide h1 h2, s.Q.wide h1 h2, s.apart⟩
theorem Prob.of_args {lo hi : Nat} {h : AH} {v u : AV} {vs : List AV} {ll : List (List Int)} {l : List Int} (s : Rows false lo hi h v vs ll) (q : Ints false lo hi h u l) : Prob false lo hi h v u vs ll l := ⟨s, q, fun h => (by cases h)⟩
def isProb (ll : List (List Int)) (l : List Int) : Bool := isMat ll && decide (l.length = ll.length) && within 100 l

section
variable {w : Bool} {lo hi : Nat} {h : AH} {v u : AV} {vs : List AV} {ll : List (List Int)} {l : List Int}
theorem laws_szProblem (s : Prob w lo hi h v u vs ll l) (hl : ll.length ≤ 9223372036854775807) (hll : ∀ l ∈ ll, l.length ≤ 9223372036854775807) (hq : l.length ≤ 9223372036854775807) (left : Int) (h0 : 0 ≤ left) (h1 : left ≤ 1048576) (n : Nat) (hn : hi ≤ n) :
    ∃ r : Int, (-1 ≤ r ∧ r ≤ left ∧ (0 ≤ r → ((ll.length : Int) ≤ left ∧ ∀ k, k < ll.length → ((ll.getD k []).length : Int) ≤ left) ∧ (l.length : Int) ≤ left)) ∧ Q Tryd.prog 26 [.agg [v, u], .int .i64 left] h n (.int .i64 r) := by
  suffices hx : ∃ x, (∃ r : Int, x = .int .i64 r ∧ (-1 ≤ r ∧ r ≤ left ∧ (0 ≤ r → ((ll.length : Int) ≤ left ∧ ∀ k, k < ll.length → ((ll.getD k []).length : Int) ≤ left) ∧ (l.length : Int) ≤ left))) ∧ Q Tryd.prog 26 [.agg [v, u], .int .i64 left] h n x by
    obtain ⟨_, ⟨r, rfl, hr⟩, hq⟩ := hx
    exact ⟨r, hr, hq⟩
  refine eq_intro Tryd.func26 k_laws_szProblem ?_
  have o1 := one_any (Sl.any s.M.out)
  have o2 := one_any (Sl.any s.Q)
  have s' := s.keep (h' := upd h n (some ⟨47, [v, u], true, 0⟩)) fun i _ hi' => upd_other (by omega)
  obtain ⟨r, ⟨hr0, hr1, hr2⟩, hqr⟩ := laws_szInt64SS s'.M hl hll left h0 h1 (n + 1)
  simp (maxSteps := 2000000) -implicitDefEqProofs (disch := omega) only [c_laws_szProblem, o1, o2, xsW, xsC, xsD, xsE, fillA, reduceCtorEq, Nat.reduceAdd, Nat.reduceSub, Nat.reduceLeDiff, Nat.reduceMul, Int.reduceLT, Int.reduceLE, Int.reduceEq, Int.reduceNe, Int.reduceAdd, Int.reduceSub, Int.reduceMul, Int.reduceNeg, Int.reduceToNat]
  refine q_use hqr fun n1 hn1 => ?_
  simp (maxSteps := 2000000) -implicitDefEqProofs (disch := omega) only [xsW, xsC, xsD, xsE, fillA, reduceCtorEq, Nat.reduceAdd, Nat.reduceSub, Nat.reduceLeDiff, Nat.reduceMul, Int.reduceLT, Int.reduceLE, Int.reduceEq, Int.reduceNe, Int.reduceAdd, Int.reduceSub, Int.reduceMul, Int.reduceNeg, Int.reduceToNat]
  (refine cd_dec (fun h2 => ?_) (fun h2 => ?_) <;> simp (maxSteps := 2000000) -implicitDefEqProofs (disch := omega) only [xsW, xsC, xsD, xsE, fillA, reduceCtorEq, Nat.reduceAdd, Nat.reduceSub, Nat.reduceLeDiff, Nat.reduceMul, Int.reduceLT, Int.reduceLE, Int.reduceEq, Int.reduceNe, Int.reduceAdd, Int.reduceSub, Int.reduceMul, Int.reduceNeg, Int.reduceToNat,  h2])
  · exact ⟨-1, rfl, by omega⟩
  · by_cases hc : (l.length : Int) ≤ r
    all_goals refine q_use (laws_szInt64S s'.Q hq r (by omega) (by omega) _) fun n2 hn2 => ?_
    · rw [if_pos hc]
      simp (maxSteps := 2000000) -implicitDefEqProofs (disch := omega) only [xsW, xsC, xsD, xsE, fillA, reduceCtorEq, Nat.reduceAdd, Nat.reduceSub, Nat.reduceLeDiff, Nat.reduceMul, Int.reduceLT, Int.reduceLE, Int.reduceEq, Int.reduceNe, Int.reduceAdd, Int.reduceSub, Int.reduceMul, Int.reduceNeg, Int.reduceToNat]
      exact ⟨_, rfl, by omega, by omega, fun _ => ⟨hr2 (by omega), by omega⟩⟩
    · rw [if_neg hc]
      simp (maxSteps := 2000000) -implicitDefEqProofs (disch := omega) only [xsW, xsC, xsD, xsE, fillA, reduceCtorEq, Nat.reduceAdd, Nat.reduceSub, Nat.reduceLeDiff, Nat.reduceMul, Int.reduceLT, Int.reduceLE, Int.reduceEq, Int.reduceNe, Int.reduceAdd, Int.reduceSub, Int.reduceMul, Int.reduceNeg, Int.reduceToNat]
      exact ⟨-1, rfl, by omega⟩
theorem laws_toProblem (s : Prob w lo hi h v u vs ll l) (hl : ll.length ≤ 1048576) (hll : ∀ l ∈ ll, l.length ≤ 1048576) (hq : l.length ≤ 1048576) (n : Nat) (hn : hi ≤ n) :
    FQ Tryd.prog 28 [.agg [v, u]] h n fun x h' n' => ∃ v' u' vs', x = .agg [v', u'] ∧ Prob true n n' h' v' u' vs' ll l := by
  refine fq_intro Tryd.func28 k_laws_toProblem ?_
  have o1 := one_any (Sl.any s.M.out)
  have o2 := one_any (Sl.any s.Q)
  simp (maxSteps := 2000000) -implicitDefEqProofs (disch := omega) only [c_laws_toProblem, o1, o2, xsW, xsC, xsD, xsE, fillA, reduceCtorEq, Nat.reduceAdd, Nat.reduceSub, Nat.reduceLeDiff, Nat.reduceMul, Int.reduceLT, Int.reduceLE, Int.reduceEq, Int.reduceNe, Int.reduceAdd, Int.reduceSub, Int.reduceMul, Int.reduceNeg, Int.reduceToNat]
  refine fq_use (laws_toInt64SS (s.M.keep (fun i _ hi9 => by simp (disch := omega) only [upd_other])) hl hll _ (by omega)) fun v1 g1 n1 hn1 hs1 ⟨vs1, hv1⟩ => ?_
  have o3 := sto_any (Sl.any hv1.out)
  have o4 := cel_any (Sl.any hv1.out)
  have o5 := one_any (Sl.any hv1.out)
  simp (maxSteps := 2000000) -implicitDefEqProofs (disch := omega) only [xsW, xsC, xsD, xsE, fillA, reduceCtorEq, Nat.reduceAdd, Nat.reduceSub, Nat.reduceLeDiff, Nat.reduceMul, Int.reduceLT, Int.reduceLE, Int.reduceEq, Int.reduceNe, Int.reduceAdd, Int.reduceSub, Int.reduceMul, Int.reduceNeg, Int.reduceToNat,  hs1, o3, o4]
  refine fq_use (laws_toInt64S (s.Q.keep (fun i _ hi9 => by simp (disch := omega) only [upd_other, hs1])) hq _ (by omega)) fun v2 g2 n2 hn2 hs2 hv2 => ?_
  have o6 := sto_any (Sl.any hv2)
  have o7 := cel_any (Sl.any hv2)
  have o8 := one_any (Sl.any hv2)
  simp (maxSteps := 2000000) -implicitDefEqProofs (disch := omega) only [xsW, xsC, xsD, xsE, fillA, reduceCtorEq, Nat.reduceAdd, Nat.reduceSub, Nat.reduceLeDiff, Nat.reduceMul, Int.reduceLT, Int.reduceLE, Int.reduceEq, Int.reduceNe, Int.reduceAdd, Int.reduceSub, Int.reduceMul, Int.reduceNeg, Int.reduceToNat,  hs2, hs1, o3, o4, o5, o6, o7, o8]
  intro _ g3 hg3
  have k1 := (hv1.keep (h' := g3) (fun i _ hi9 => by simp (disch := omega) only [upd_other, hg3, hs2]))
  have k2 := (hv2.keep (h' := g3) (fun i _ hi9 => by simp (disch := omega) only [upd_other, hg3]))
  refine ⟨v1, v2, vs1, ⟨rfl, rfl⟩, k1.wide (by omega) hn2, k2.wide (by omega) (Nat.le_refl _), fun _ h0 => ?_⟩
  have b2 := Sl.own k2 h0
  refine ⟨fun h1 => ?_, fun k hk h1 => ?_⟩
  · have b1 := k1.out.own h1
    omega
  · have b1 := Sl.own (k1.row k hk) h1
    omega
theorem laws_eqProblem {w' : Bool} {lo' hi' : Nat} {v' u' : AV} {vs' : List AV} {ll' : List (List Int)} {l' : List Int} (s : Prob w lo hi h v u vs ll l) (s' : Prob w' lo' hi' h v' u' vs' ll' l') (hl : ll.length ≤ 1048576) (hll : ∀ l ∈ ll, l.length ≤ 1048576) (hq : l.length ≤ 1048576) (n : Nat) (hn : hi ≤ n) (hn' : hi' ≤ n) :
    Q Tryd.prog 30 [.agg [v, u], .agg [v', u']] h n (.bool (decide (ll = ll' ∧ l = l'))) := by
  refine q_intro Tryd.func30 k_laws_eqProblem ?_
  have o1 := one_any (Sl.any s.M.out)
  have o2 := one_any (Sl.any s.Q)
  have o3 := one_any (Sl.any s'.M.out)
  have o4 := one_any (Sl.any s'.Q)
  simp (maxSteps := 2000000) -implicitDefEqProofs (disch := omega) only [c_laws_eqProblem, o1, o2, o3, o4, xsW, xsC, xsD, xsE, fillA, reduceCtorEq, Nat.reduceAdd, Nat.reduceSub, Nat.reduceLeDiff, Nat.reduceMul, Int.reduceLT, Int.reduceLE, Int.reduceEq, Int.reduceNe, Int.reduceAdd, Int.reduceSub, Int.reduceMul, Int.reduceNeg, Int.reduceToNat]
  refine q_use (laws_eqInt64SS (s.M.keep (fun i _ hi9 => by simp (disch := omega) only [upd_other])) (s'.M.keep (fun i _ hi9 => by simp (disch := omega) only [upd_other])) hl hll _) fun n1 hn1 => ?_
  simp (maxSteps := 2000000) -implicitDefEqProofs (disch := omega) only [xsW, xsC, xsD, xsE, fillA, reduceCtorEq, Nat.reduceAdd, Nat.reduceSub, Nat.reduceLeDiff, Nat.reduceMul, Int.reduceLT, Int.reduceLE, Int.reduceEq, Int.reduceNe, Int.reduceAdd, Int.reduceSub, Int.reduceMul, Int.reduceNeg, Int.reduceToNat]
  (refine cd_dec (fun h1 => ?_) (fun h1 => ?_) <;> simp (maxSteps := 2000000) -implicitDefEqProofs (disch := omega) only [xsW, xsC, xsD, xsE, fillA, reduceCtorEq, Nat.reduceAdd, Nat.reduceSub, Nat.reduceLeDiff, Nat.reduceMul, Int.reduceLT, Int.reduceLE, Int.reduceEq, Int.reduceNe, Int.reduceAdd, Int.reduceSub, Int.reduceMul, Int.reduceNeg, Int.reduceToNat,  h1])
  refine q_use (laws_eqInt64S (s.Q.keep (fun i _ hi9 => by simp (disch := omega) only [upd_other])) (s'.Q.keep (fun i _ hi9 => by simp (disch := omega) only [upd_other])) hq _) fun n2 hn2 => ?_
  simp (maxSteps := 2000000) -implicitDefEqProofs (disch := omega) only [xsW, xsC, xsD, xsE, fillA, reduceCtorEq, Nat.reduceAdd, Nat.reduceSub, Nat.reduceLeDiff, Nat.reduceMul, Int.reduceLT, Int.reduceLE, Int.reduceEq, Int.reduceNe, Int.reduceAdd, Int.reduceSub, Int.reduceMul, Int.reduceNeg, Int.reduceToNat]
  (refine cd_dec (fun h2 => ?_) (fun h2 => ?_) <;> simp (maxSteps := 2000000) -implicitDefEqProofs (disch := omega) only [xsW, xsC, xsD, xsE, fillA, reduceCtorEq, Nat.reduceAdd, Nat.reduceSub, Nat.reduceLeDiff, Nat.reduceMul, Int.reduceLT, Int.reduceLE, Int.reduceEq, Int.reduceNe, Int.reduceAdd, Int.reduceSub, Int.reduceMul, Int.reduceNeg, Int.reduceToNat,  h2])
  rw [decide_eq_true ⟨Decidable.not_not.1 h1, Decidable.not_not.1 h2⟩]
theorem impl_IsProblem (s : Prob w lo hi h v u vs ll l) (hl : ll.length ≤ 1048576) (hll : ∀ l ∈ ll, l.length ≤ 1048576) (hq : l.length ≤ 1048576) (n : Nat) (hn : hi ≤ n) :
    Q Tryd.prog 61 [.agg [v, u]] h n (.bool (isProb ll l)) := by
  refine q_intro Tryd.func61 k_impl_IsProblem ?_
  have o1 := one_any (Sl.any s.M.out)
  have o2 := one_any (Sl.any s.Q)
  simp (maxSteps := 2000000) -implicitDefEqProofs (disch := omega) only [c_impl_IsProblem, o1, o2, xsW, xsC, xsD, xsE, fillA, reduceCtorEq, Nat.reduceAdd, Nat.reduceSub, Nat.reduceLeDiff, Nat.reduceMul, Int.reduceLT, Int.reduceLE, Int.reduceEq, Int.reduceNe, Int.reduceAdd, Int.reduceSub, Int.reduceMul, Int.reduceNeg, Int.reduceToNat]
  refine q_use (impl_IsMatrix (s.M.keep (fun i _ hi9 => by simp (disch := omega) only [upd_other])) hl hll _ (by omega)) fun n1 hn1 => ?_
  simp only [isProb]
  cases hm : isMat ll
  · simp (maxSteps := 2000000) -implicitDefEqProofs (disch := omega) only [xsW, xsC, xsD, xsE, fillA, reduceCtorEq, Nat.reduceAdd, Nat.reduceSub, Nat.reduceLeDiff, Nat.reduceMul, Int.reduceLT, Int.reduceLE, Int.reduceEq, Int.reduceNe, Int.reduceAdd, Int.reduceSub, Int.reduceMul, Int.reduceNeg, Int.reduceToNat]
  simp (maxSteps := 2000000) -implicitDefEqProofs (disch := omega) only [xsW, xsC, xsD, xsE, fillA, reduceCtorEq, Nat.reduceAdd, Nat.reduceSub, Nat.reduceLeDiff, Nat.reduceMul, Int.reduceLT, Int.reduceLE, Int.reduceEq, Int.reduceNe, Int.reduceAdd, Int.reduceSub, Int.reduceMul, Int.reduceNeg, Int.reduceToNat,  s.M.ln, s.Q.ln]
  (refine gd_dec (fun h1 => ?_) (fun h1 => ?_) <;> simp (maxSteps := 2000000) -implicitDefEqProofs (disch := omega) only [xsW, xsC, xsD, xsE, fillA, reduceCtorEq, Nat.reduceAdd, Nat.reduceSub, Nat.reduceLeDiff, Nat.reduceMul, Int.reduceLT, Int.reduceLE, Int.reduceEq, Int.reduceNe, Int.reduceAdd, Int.reduceSub, Int.reduceMul, Int.reduceNeg, Int.reduceToNat,  h1])
  · refine q_use (impl_allUpTo (s.Q.keep (fun i _ hi9 => by simp (disch := omega) only [upd_other])) (by omega) _ (by unfold in64; omega) _ (by omega)) fun n2 hn2 => ?_
    simp (maxSteps := 2000000) -implicitDefEqProofs (disch := omega) only [xsW, xsC, xsD, xsE, fillA, reduceCtorEq, Nat.reduceAdd, Nat.reduceSub, Nat.reduceLeDiff, Nat.reduceMul, Int.reduceLT, Int.reduceLE, Int.reduceEq, Int.reduceNe, Int.reduceAdd, Int.reduceSub, Int.reduceMul, Int.reduceNeg, Int.reduceToNat]
    rw [decide_eq_true (show l.length = ll.length by omega)]
    rfl
  · rw [decide_eq_false (show ¬ l.length = ll.length by omega)]
    rfl
theorem spec_l01Is (s : Prob w lo hi h v u vs ll l) (hl : ll.length ≤ 1048576) (hll : ∀ l ∈ ll, l.length ≤ 1048576) (hq : l.length ≤ 1048576) (n : Nat) (hn : hi ≤ n) :
    Q Tryd.prog 57 [.agg [v, u]] h n (.bool (isProb ll l)) := by
  refine q_intro Tryd.func57 k_spec_l01Is ?_
  have o1 := one_any (Sl.any s.M.out)
  have o2 := one_any (Sl.any s.Q)
  simp (maxSteps := 2000000) -implicitDefEqProofs (disch := omega) only [c_spec_l01Is, o1, o2, xsW, xsC, xsD, xsE, fillA, reduceCtorEq, Nat.reduceAdd, Nat.reduceSub, Nat.reduceLeDiff, Nat.reduceMul, Int.reduceLT, Int.reduceLE, Int.reduceEq, Int.reduceNe, Int.reduceAdd, Int.reduceSub, Int.reduceMul, Int.reduceNeg, Int.reduceToNat]
  refine q_use (spec_l01Matrix (s.M.keep (fun i _ hi9 => by simp (disch := omega) only [upd_other])) hl _) fun n1 hn1 => ?_
  simp only [isProb]
  cases hm : isMat ll
  · simp (maxSteps := 2000000) -implicitDefEqProofs (disch := omega) only [xsW, xsC, xsD, xsE, fillA, reduceCtorEq, Nat.reduceAdd, Nat.reduceSub, Nat.reduceLeDiff, Nat.reduceMul, Int.reduceLT, Int.reduceLE, Int.reduceEq, Int.reduceNe, Int.reduceAdd, Int.reduceSub, Int.reduceMul, Int.reduceNeg, Int.reduceToNat]
  simp (maxSteps := 2000000) -implicitDefEqProofs (disch := omega) only [xsW, xsC, xsD, xsE, fillA, reduceCtorEq, Nat.reduceAdd, Nat.reduceSub, Nat.reduceLeDiff, Nat.reduceMul, Int.reduceLT, Int.reduceLE, Int.reduceEq, Int.reduceNe, Int.reduceAdd, Int.reduceSub, Int.reduceMul, Int.reduceNeg, Int.reduceToNat,  s.M.ln, s.Q.ln]
  (refine cd_dec (fun h1 => ?_) (fun h1 => ?_) <;> simp (maxSteps := 2000000) -implicitDefEqProofs (disch := omega) only [xsW, xsC, xsD, xsE, fillA, reduceCtorEq, Nat.reduceAdd, Nat.reduceSub, Nat.reduceLeDiff, Nat.reduceMul, Int.reduceLT, Int.reduceLE, Int.reduceEq, Int.reduceNe, Int.reduceAdd, Int.reduceSub, Int.reduceMul, Int.reduceNeg, Int.reduceToNat,  h1])
  · rw [decide_eq_false (show ¬ l.length = ll.length by omega)]; rfl
  rw [decide_eq_true (show l.length = ll.length by omega)]
  refine loop_for l.length 0 (fun k (_ : Unit) => [.any, .ptr n 0, .bool false, .int .i64 k, .any, .any, .any, .any, .any, .any, .any, .any, .any, .any, .any, .any, .any, .any, .any, .any, .any, .any, .any, .any, .any, .any, .any, .any, .any, .any, .any]) (fun k _ => upd h n (some ⟨50, [v, u], true, 0⟩))
    (fun j _ _ => ∀ i, i < j → -100 ≤ l.getD i 0 ∧ l.getD i 0 ≤ 100) () (Nat.zero_le _) (fun j hj => absurd hj (Nat.not_lt_zero _)) (by simp [LeL, Le1]) (fun _ _ h => h) ?_
  rintro k - n2 - hk hn2 he
  simp (maxSteps := 2000000) -implicitDefEqProofs (disch := omega) only [xsW, xsC, xsD, xsE, fillA, reduceCtorEq, Nat.reduceAdd, Nat.reduceSub, Nat.reduceLeDiff, Nat.reduceMul, Int.reduceLT, Int.reduceLE, Int.reduceEq, Int.reduceNe, Int.reduceAdd, Int.reduceSub, Int.reduceMul, Int.reduceNeg, Int.reduceToNat,  s.Q.ln]
  (refine cd_dec (fun h2 => ?_) (fun h2 => ?_) <;> simp (maxSteps := 2000000) -implicitDefEqProofs (disch := omega) only [xsW, xsC, xsD, xsE, fillA, reduceCtorEq, Nat.reduceAdd, Nat.reduceSub, Nat.reduceLeDiff, Nat.reduceMul, Int.reduceLT, Int.reduceLE, Int.reduceEq, Int.reduceNe, Int.reduceAdd, Int.reduceSub, Int.reduceMul, Int.reduceNeg, Int.reduceToNat,  h2])
  · have hk' : k < l.length := by omega
    have hb := Sl.below s.Q (by rw [s.Q.slen]; omega)
    simp (maxSteps := 2000000) -implicitDefEqProofs (disch := omega) only [xsW, xsC, xsD, xsE, fillA, reduceCtorEq, Nat.reduceAdd, Nat.reduceSub, Nat.reduceLeDiff, Nat.reduceMul, Int.reduceLT, Int.reduceLE, Int.reduceEq, Int.reduceNe, Int.reduceAdd, Int.reduceSub, Int.reduceMul, Int.reduceNeg, Int.reduceToNat,  s.Q.ia, s.Q.ld]
    refine q_use (spec_l01In _ _ _ _ _) fun n3 hn3 => ?_
    simp (maxSteps := 2000000) -implicitDefEqProofs (disch := omega) only [xsW, xsC, xsD, xsE, fillA, reduceCtorEq, Nat.reduceAdd, Nat.reduceSub, Nat.reduceLeDiff, Nat.reduceMul, Int.reduceLT, Int.reduceLE, Int.reduceEq, Int.reduceNe, Int.reduceAdd, Int.reduceSub, Int.reduceMul, Int.reduceNeg, Int.reduceToNat]
    (refine cd_dec (fun h3 => ?_) (fun h3 => ?_) <;> simp (maxSteps := 2000000) -implicitDefEqProofs (disch := omega) only [xsW, xsC, xsD, xsE, fillA, reduceCtorEq, Nat.reduceAdd, Nat.reduceSub, Nat.reduceLeDiff, Nat.reduceMul, Int.reduceLT, Int.reduceLE, Int.reduceEq, Int.reduceNe, Int.reduceAdd, Int.reduceSub, Int.reduceMul, Int.reduceNeg, Int.reduceToNat,  h3])
    · symm
      rw [Bool.eq_false_iff]
      intro hx
      rw [within_iff] at hx
      have := hx k hk'
      omega
    · exact ⟨(), fun i hi' => (Nat.lt_succ_iff_lt_or_eq.1 hi').elim (he i) (fun e => by rw [e]; omega), by omega, by omega, (by simp [LeL, Le1])⟩
  · symm
    rw [within_iff]
    exact fun i hi' => he i (by omega)
end
end Go.Proofs.YtkpibnhddhdooacDoor.L
