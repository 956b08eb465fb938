/- Contracts: points of fractions brought to one denominator. -/
import Derived.Test.YtkpibnhddhdooabA5a
import Derived.Test.YtkpibnhddhdooabA29
namespace Go.Proofs.Ytkpibnhddhdooab.L
open Go
set_option linter.unusedSimpArgs false
set_option linter.unusedVariables false
def c_impl_fracsCode : F := ⟨(.seq (.reg false [⟨(some 2), (.box 31 (.t 0)), none⟩, ⟨(some 4), (.mv (.c (.int .i64 0))), none⟩]) (.seq (.block 0 (.seq (.reg false [⟨(some 6), (.ld 2 (.t 2)), none⟩, ⟨(some 7), (.call (.f 101) [(.t 6)]), none⟩, ⟨(some 8), (.un .not (.t 7)), none⟩, ⟨(some 9), (.mv (.t 8)), none⟩, ⟨(some 10), (.mv (.t 1)), (some (9, false))⟩, ⟨(some 11), (.call (.f 119) [(.t 10)]), (some (9, false))⟩, ⟨(some 12), (.un .not (.t 11)), (some (9, false))⟩, ⟨(some 13), (.pick (.t 9) (.c (.bool true)) (.t 12)), none⟩, ⟨(some 5), (.mv (.t 13)), none⟩]) (.cond (.t 5) (.seq (.reg false [⟨(some 4), (.mv (.c (.int .i64 1))), none⟩]) .ret) (.seq (.reg false [⟨(some 15), (.mv (.t 1)), none⟩, ⟨(some 16), (.len (.t 15)), none⟩, ⟨(some 17), (.fa 1 (.t 2)), none⟩, ⟨(some 18), (.ld1 (.t 17)), none⟩, ⟨(some 19), (.len (.t 18)), none⟩, ⟨(some 20), (.bin .neq (.t 16) (.t 19)), none⟩, ⟨(some 14), (.mv (.t 20)), none⟩]) (.cond (.t 14) (.seq (.reg false [⟨(some 4), (.mv (.c (.int .i64 2))), none⟩]) .ret) .skip))))) (.seq (.reg false [⟨(some 4), (.mv (.c (.int .i64 0))), none⟩]) .ret))), 21, [(.t 4)]⟩
theorem k_impl_fracsCode : compF Try.prog Try.f81 = some c_impl_fracsCode := by kernel_rfl
def c_spec_l01Fracs : F := ⟨(.seq (.reg false [⟨(some 2), (.box 31 (.t 0)), none⟩, ⟨(some 4), (.mv (.c (.int .i64 0))), none⟩]) (.seq (.seq (.reg false [⟨(some 6), (.ld 2 (.t 2)), none⟩, ⟨(some 7), (.call (.f 53) [(.t 6)]), none⟩, ⟨(some 8), (.un .not (.t 7)), none⟩]) (.cond (.t 8) (.seq (.reg false [⟨(some 4), (.mv (.c (.int .i64 1))), none⟩]) .ret) .skip)) (.seq (.seq (.reg false [⟨(some 5), (.mv (.c (.int .i64 0))), none⟩]) (.block 0 (.loop (.seq (.seq (.reg false [⟨(some 9), (.mv (.t 5)), none⟩, ⟨(some 10), (.mv (.t 1)), none⟩, ⟨(some 11), (.len (.t 10)), none⟩, ⟨(some 12), (.bin .lss (.t 9) (.t 11)), none⟩]) (.cond (.t 12) .skip (.exit 0))) (.seq (.block 1 (.seq (.reg false [⟨(some 15), (.mv (.t 1)), none⟩, ⟨(some 16), (.mv (.t 5)), none⟩, ⟨(some 17), (.ia 2 (.t 15) (.t 16)), none⟩, ⟨(some 18), (.ld 2 (.t 17)), none⟩, ⟨(some 19), (.call (.f 123) [(.t 18)]), none⟩, ⟨(some 20), (.un .not (.t 19)), none⟩]) (.cond (.t 20) (.seq (.reg false [⟨(some 4), (.mv (.c (.int .i64 1))), none⟩]) .ret) .skip))) (.reg false [⟨(some 13), (.mv (.t 5)), none⟩, ⟨(some 14), (.bin .add (.t 13) (.c (.int .i64 1))), none⟩, ⟨(some 5), (.mv (.t 14)), none⟩])))))) (.seq (.seq (.reg false [⟨(some 21), (.mv (.t 1)), none⟩, ⟨(some 22), (.len (.t 21)), none⟩, ⟨(some 23), (.fa 1 (.t 2)), none⟩, ⟨(some 24), (.ld1 (.t 23)), none⟩, ⟨(some 25), (.len (.t 24)), none⟩, ⟨(some 26), (.bin .neq (.t 22) (.t 25)), none⟩]) (.cond (.t 26) (.seq (.reg false [⟨(some 4), (.mv (.c (.int .i64 2))), none⟩]) .ret) .skip)) (.seq (.reg false [⟨(some 4), (.mv (.c (.int .i64 0))), none⟩]) .ret))))), 27, [(.t 4)]⟩
theorem k_spec_l01Fracs : compF Try.prog Try.f84 = some c_spec_l01Fracs := by kernel_rfl
def c_impl_together : F := ⟨(.seq (.reg false [⟨(some 6), (.mv (.c .nilsl)), none⟩, ⟨(some 7), (.mv (.c (.int .i64 0))), none⟩, ⟨(some 8), (.mv (.c (.bool false))), none⟩]) (.seq (.reg false [⟨(some 9), (.mv (.c (.int .i64 1))), none⟩]) (.seq (.seq (.reg false [⟨(some 16), (.mv (.t 0)), none⟩, ⟨(some 17), (.len (.t 16)), none⟩, ⟨(some 18), (.mv (.c (.int .i64 0))), none⟩]) (.block 0 (.loop (.seq (.reg false [⟨(some 19), (.bin .lss (.t 18) (.t 17)), none⟩]) (.seq (.cond (.t 19) .skip (.exit 0)) (.seq (.block 1 (.seq (.reg false [⟨(some 20), (.ia 2 (.t 16) (.t 18)), none⟩, ⟨(some 21), (.ld 2 (.t 20)), none⟩, ⟨(some 11), (.alloc 60 [(.int .i64 0), (.int .i64 0)]), none⟩, ⟨none, (.st 2 (.t 11) (.t 21)), none⟩]) (.seq (.reg true [⟨(some 22), (.mv (.t 9)), none⟩, ⟨(some 23), (.mv (.t 9)), none⟩, ⟨(some 24), (.fa 1 (.t 11)), none⟩, ⟨(some 25), (.ld1 (.t 24)), none⟩, ⟨(some 28), (.fa 1 (.t 11)), none⟩, ⟨(some 29), (.ld1 (.t 28)), none⟩, ⟨(some 26), (.call (.f 120) [(.t 23), (.t 25)]), none⟩, ⟨(some 27), (.bin .quo (.t 22) (.t 26)), none⟩, ⟨(some 30), (.bin .mul (.t 27) (.t 29)), none⟩, ⟨(some 9), (.mv (.t 30)), none⟩]) (.seq (.reg false [⟨(some 31), (.mv (.t 9)), none⟩, ⟨(some 32), (.mv (.t 1)), none⟩, ⟨(some 33), (.bin .gtr (.t 31) (.t 32)), none⟩]) (.cond (.t 33) (.seq (.reg false [⟨(some 6), (.mv (.c .nilsl)), none⟩, ⟨(some 7), (.mv (.c (.int .i64 0))), none⟩, ⟨(some 8), (.mv (.c (.bool false))), none⟩]) .ret) .skip))))) (.reg false [⟨(some 34), (.bin .add (.t 18) (.c (.int .i64 1))), none⟩, ⟨(some 18), (.mv (.t 34)), none⟩]))))))) (.seq (.reg false [⟨(some 12), (.mv (.c .nilsl)), none⟩]) (.seq (.seq (.reg false [⟨(some 35), (.mv (.t 0)), none⟩, ⟨(some 36), (.len (.t 35)), none⟩, ⟨(some 37), (.mv (.c (.int .i64 0))), none⟩]) (.block 2 (.loop (.seq (.reg false [⟨(some 38), (.bin .lss (.t 37) (.t 36)), none⟩]) (.seq (.cond (.t 38) .skip (.exit 2)) (.seq (.block 3 (.seq (.reg false [⟨(some 39), (.ia 2 (.t 35) (.t 37)), none⟩, ⟨(some 40), (.ld 2 (.t 39)), none⟩, ⟨(some 14), (.alloc 60 [(.int .i64 0), (.int .i64 0)]), none⟩, ⟨none, (.st 2 (.t 14) (.t 40)), none⟩]) (.seq (.reg true [⟨(some 41), (.fa 0 (.t 14)), none⟩, ⟨(some 42), (.ld1 (.t 41)), none⟩, ⟨(some 43), (.mv (.t 9)), none⟩, ⟨(some 44), (.fa 1 (.t 14)), none⟩, ⟨(some 45), (.ld1 (.t 44)), none⟩, ⟨(some 46), (.bin .quo (.t 43) (.t 45)), none⟩, ⟨(some 47), (.bin .mul (.t 42) (.t 46)), none⟩, ⟨(some 15), (.mv (.t 47)), none⟩]) (.seq (.seq (.reg false [⟨(some 48), (.mv (.t 15)), none⟩, ⟨(some 49), (.mv (.t 2)), none⟩, ⟨(some 50), (.call (.f 121) [(.t 48), (.t 49)]), none⟩, ⟨(some 51), (.un .not (.t 50)), none⟩]) (.cond (.t 51) (.seq (.reg false [⟨(some 6), (.mv (.c .nilsl)), none⟩, ⟨(some 7), (.mv (.c (.int .i64 0))), none⟩, ⟨(some 8), (.mv (.c (.bool false))), none⟩]) .ret) .skip)) (.reg false [⟨(some 52), (.mv (.t 12)), none⟩, ⟨(some 53), (.mv (.t 15)), none⟩, ⟨(some 54), (.lit 2 1 1 [(.int .i64 0)] [(0, (.t 53))]), none⟩, ⟨(some 55), (.app 2 1 8 [(.int .i64 0)] (.t 52) (.t 54)), none⟩, ⟨(some 12), (.mv (.t 55)), none⟩]))))) (.reg false [⟨(some 56), (.bin .add (.t 37) (.c (.int .i64 1))), none⟩, ⟨(some 37), (.mv (.t 56)), none⟩]))))))) (.seq (.reg false [⟨(some 57), (.mv (.t 12)), none⟩, ⟨(some 58), (.mv (.t 9)), none⟩, ⟨(some 6), (.mv (.t 57)), none⟩, ⟨(some 7), (.mv (.t 58)), none⟩, ⟨(some 8), (.mv (.c (.bool true))), none⟩]) .ret)))))), 59, [(.t 6), (.t 7), (.t 8)]⟩
theorem k_impl_together : compF Try.prog Try.f82 = some c_impl_together := by kernel_rfl
def c_spec_l01Common : F := ⟨(.seq (.reg false [⟨(some 2), (.mv (.c .nilsl)), none⟩, ⟨(some 3), (.mv (.c (.int .i64 0))), none⟩, ⟨(some 4), (.mv (.c (.bool false))), none⟩]) (.seq (.reg false [⟨(some 5), (.mv (.c (.int .i64 1))), none⟩]) (.seq (.seq (.reg false [⟨(some 6), (.mv (.c (.int .i64 0))), none⟩]) (.block 0 (.loop (.seq (.seq (.reg false [⟨(some 10), (.mv (.t 6)), none⟩, ⟨(some 11), (.mv (.t 0)), none⟩, ⟨(some 12), (.len (.t 11)), none⟩, ⟨(some 13), (.bin .lss (.t 10) (.t 12)), none⟩]) (.cond (.t 13) .skip (.exit 0))) (.seq (.block 1 (.seq (.reg true [⟨(some 16), (.mv (.t 5)), none⟩, ⟨(some 17), (.mv (.t 5)), none⟩, ⟨(some 18), (.mv (.t 0)), none⟩, ⟨(some 19), (.mv (.t 6)), none⟩, ⟨(some 20), (.ia 2 (.t 18) (.t 19)), none⟩, ⟨(some 21), (.fa 1 (.t 20)), none⟩, ⟨(some 22), (.ld1 (.t 21)), none⟩, ⟨(some 25), (.mv (.t 0)), none⟩, ⟨(some 26), (.mv (.t 6)), none⟩, ⟨(some 27), (.ia 2 (.t 25) (.t 26)), none⟩, ⟨(some 28), (.fa 1 (.t 27)), none⟩, ⟨(some 29), (.ld1 (.t 28)), none⟩, ⟨(some 23), (.call (.f 124) [(.t 17), (.t 22)]), none⟩, ⟨(some 24), (.bin .quo (.t 16) (.t 23)), none⟩, ⟨(some 30), (.bin .mul (.t 24) (.t 29)), none⟩, ⟨(some 5), (.mv (.t 30)), none⟩]) (.seq (.reg false [⟨(some 31), (.mv (.t 5)), none⟩, ⟨(some 32), (.bin .gtr (.t 31) (.c (.int .i64 1000000000))), none⟩]) (.cond (.t 32) (.seq (.reg false [⟨(some 2), (.mv (.c .nilsl)), none⟩, ⟨(some 3), (.mv (.c (.int .i64 0))), none⟩, ⟨(some 4), (.mv (.c (.bool false))), none⟩]) .ret) .skip)))) (.reg false [⟨(some 14), (.mv (.t 6)), none⟩, ⟨(some 15), (.bin .add (.t 14) (.c (.int .i64 1))), none⟩, ⟨(some 6), (.mv (.t 15)), none⟩])))))) (.seq (.reg false [⟨(some 33), (.lit 2 1 0 [(.int .i64 0)] []), none⟩, ⟨(some 7), (.mv (.t 33)), none⟩]) (.seq (.seq (.reg false [⟨(some 8), (.mv (.c (.int .i64 0))), none⟩]) (.block 2 (.loop (.seq (.seq (.reg false [⟨(some 34), (.mv (.t 8)), none⟩, ⟨(some 35), (.mv (.t 0)), none⟩, ⟨(some 36), (.len (.t 35)), none⟩, ⟨(some 37), (.bin .lss (.t 34) (.t 36)), none⟩]) (.cond (.t 37) .skip (.exit 2))) (.seq (.block 3 (.seq (.reg true [⟨(some 40), (.mv (.t 0)), none⟩, ⟨(some 41), (.mv (.t 8)), none⟩, ⟨(some 42), (.ia 2 (.t 40) (.t 41)), none⟩, ⟨(some 43), (.fa 0 (.t 42)), none⟩, ⟨(some 44), (.ld1 (.t 43)), none⟩, ⟨(some 45), (.mv (.t 5)), none⟩, ⟨(some 46), (.mv (.t 0)), none⟩, ⟨(some 47), (.mv (.t 8)), none⟩, ⟨(some 48), (.ia 2 (.t 46) (.t 47)), none⟩, ⟨(some 49), (.fa 1 (.t 48)), none⟩, ⟨(some 50), (.ld1 (.t 49)), none⟩, ⟨(some 51), (.bin .quo (.t 45) (.t 50)), none⟩, ⟨(some 52), (.bin .mul (.t 44) (.t 51)), none⟩, ⟨(some 9), (.mv (.t 52)), none⟩]) (.seq (.seq (.reg false [⟨(some 53), (.mv (.t 9)), none⟩, ⟨(some 54), (.call (.f 92) [(.t 53), (.c (.int .i64 (-1000000000000))), (.c (.int .i64 1000000000000))]), none⟩, ⟨(some 55), (.un .not (.t 54)), none⟩]) (.cond (.t 55) (.seq (.reg false [⟨(some 2), (.mv (.c .nilsl)), none⟩, ⟨(some 3), (.mv (.c (.int .i64 0))), none⟩, ⟨(some 4), (.mv (.c (.bool false))), none⟩]) .ret) .skip)) (.reg false [⟨(some 56), (.mv (.t 7)), none⟩, ⟨(some 57), (.mv (.t 9)), none⟩, ⟨(some 58), (.lit 2 1 1 [(.int .i64 0)] [(0, (.t 57))]), none⟩, ⟨(some 59), (.app 2 1 8 [(.int .i64 0)] (.t 56) (.t 58)), none⟩, ⟨(some 7), (.mv (.t 59)), none⟩])))) (.reg false [⟨(some 38), (.mv (.t 8)), none⟩, ⟨(some 39), (.bin .add (.t 38) (.c (.int .i64 1))), none⟩, ⟨(some 8), (.mv (.t 39)), none⟩])))))) (.seq (.reg false [⟨(some 60), (.mv (.t 7)), none⟩, ⟨(some 61), (.mv (.t 5)), none⟩, ⟨(some 2), (.mv (.t 60)), none⟩, ⟨(some 3), (.mv (.t 61)), none⟩, ⟨(some 4), (.mv (.c (.bool true))), none⟩]) .ret)))))), 62, [(.t 2), (.t 3), (.t 4)]⟩
theorem k_spec_l01Common : compF Try.prog Try.f85 = some c_spec_l01Common := by kernel_rfl

/-- The least common multiple of the first denominators. -/
def dkF (f : List (Int × Int)) : Nat → Int
  | 0 => 1
  | k + 1 => (dkF f k).tdiv (Int.gcd (dkF f k) (f.getD k (0, 0)).2 : Int) * (f.getD k (0, 0)).2
def okD (f : List (Int × Int)) : Bool := (List.range f.length).all fun k => decide (dkF f (k + 1) ≤ 1000000000)
def cmnD (f : List (Int × Int)) : Int := dkF f f.length
def cmnX (f : List (Int × Int)) (k : Nat) : Int := (f.getD k (0, 0)).1 * (cmnD f).tdiv (f.getD k (0, 0)).2
def cmnN (f : List (Int × Int)) : List Int := rowOf f.length (cmnX f)
def okN (f : List (Int × Int)) : Bool := (List.range f.length).all fun k => decide (-1000000000000 ≤ cmnX f k ∧ cmnX f k ≤ 1000000000000)
def cmnB (f : List (Int × Int)) : Bool := okD f && okN f
theorem okD_iff (f : List (Int × Int)) : okD f = true ↔ ∀ k, k < f.length → dkF f (k + 1) ≤ 1000000000 := by simp [okD]
theorem okN_iff (f : List (Int × Int)) : okN f = true ↔ ∀ k, k < f.length → -1000000000000 ≤ cmnX f k ∧ cmnX f k ≤ 1000000000000 := by simp only [okN, List.all_eq_true, List.mem_range, decide_eq_true_eq]
def okM (B : Int) (f : List (Int × Int)) : Bool := (List.range f.length).all fun k => decide (dkF f (k + 1) ≤ B)
def cmnM (B : Int) (f : List (Int × Int)) : Bool := okM B f && okN f
theorem okM_iff (B : Int) (f : List (Int × Int)) : okM B f = true ↔ ∀ k, k < f.length → dkF f (k + 1) ≤ B := by simp [okM]
theorem cmnN_len (f : List (Int × Int)) : (cmnN f).length = f.length := rowOf_len _ _
theorem tdiv_b {a b : Int} (ha : 0 ≤ a) (hb : 0 ≤ b) : 0 ≤ a.tdiv b ∧ a.tdiv b ≤ a := by
  have h1 := Int.tdiv_nonneg ha hb
  have h2 := Int.natAbs_tdiv_le_natAbs a b
  omega
theorem allFr_get {f : List (Int × Int)} (hf : allFr f = true) {k : Nat} (hk : k < f.length) : (-1000000000 ≤ (f.getD k (0, 0)).1 ∧ (f.getD k (0, 0)).1 ≤ 1000000000) ∧ (1 ≤ (f.getD k (0, 0)).2 ∧ (f.getD k (0, 0)).2 ≤ 1000000000) :=
  isFr_b ((allFr_iff f).1 hf k hk)
theorem dkF_pos {f : List (Int × Int)} (hf : allFr f = true) : ∀ k, k ≤ f.length → 1 ≤ dkF f k
  | 0, _ => by simp [dkF]
  | k + 1, hk => by
    have h1 := dkF_pos hf k (by omega)
    have h2 := (allFr_get hf (k := k) (by omega)).2
    have hg : 0 < (Int.gcd (dkF f k) (f.getD k (0, 0)).2 : Int) := by have := Int.gcd_pos_of_ne_zero_right (dkF f k) (show (f.getD k (0, 0)).2 ≠ 0 by omega); omega
    obtain ⟨c, hc⟩ := Int.gcd_dvd_left (dkF f k) (f.getD k (0, 0)).2
    have h3 : (dkF f k).tdiv (Int.gcd (dkF f k) (f.getD k (0, 0)).2 : Int) = c := by
      conv => lhs; arg 1; rw [hc]
      exact Int.mul_tdiv_cancel_left _ (by omega)
    have h4 : 1 ≤ c := by
      rcases Int.lt_or_le 0 c with h | h
      · omega
      · have := Int.mul_le_mul_of_nonneg_left h (show 0 ≤ (Int.gcd (dkF f k) (f.getD k (0, 0)).2 : Int) by omega)
        rw [Int.mul_zero] at this; omega
    simp only [dkF, h3]
    have := Int.mul_le_mul h4 h2.1 (by omega) (by omega)
    omega
theorem mul_nn {a b A B : Int} (h1 : 0 ≤ a) (h2 : a ≤ A) (h3 : 0 ≤ b) (h4 : b ≤ B) : 0 ≤ a * b ∧ a * b ≤ A * B := ⟨Int.mul_nonneg h1 h3, Int.mul_le_mul h2 h4 h3 (by omega)⟩
theorem mulb9 {a b : Int} (ha : -1000000000 ≤ a ∧ a ≤ 1000000000) (hb : 0 ≤ b ∧ b ≤ 1000000000) : -1000000000000000000 ≤ a * b ∧ a * b ≤ 1000000000000000000 := by
  have h1 : a.natAbs ≤ 1000000000 := by omega
  have h2 : b.natAbs ≤ 1000000000 := by omega
  have h3 := Nat.mul_le_mul h1 h2
  rw [← Int.natAbs_mul] at h3
  omega
section
variable {w : Bool} {lo hi : Nat} {h : AH} {v u : AV} {f : List (Int × Int)}
theorem impl_togetherB (B : Int) (hB1 : 1 ≤ B) (hB2 : B ≤ 1000000000) (s : Fracs w lo hi h v f) (hl : f.length ≤ 1048576) (hf : allFr f = true) (n : Nat) (hn : hi ≤ n) :
    FQ Try.prog 82 [v, .int .i64 B, .int .i64 1000000000000] h n fun x h' n' => (cmnM B f = false ∧ x = .tup [.nilsl, .int .i64 0, .bool false]) ∨ (cmnM B f = true ∧ ∃ v', x = .tup [v', .int .i64 (cmnD f), .bool true] ∧ Ints true n n' h' v' (cmnN f)) := by
  refine fq_intro Try.func82 k_impl_together ?_
  simp (maxSteps := 2000000) -implicitDefEqProofs (disch := omega) only [c_impl_together, s.ln, xsW, xsC, if_true, if_false, ite_true, ite_false, forall_const, ne_eq, beq_self_eq_true, bne_self_eq_false, imp_self, true_implies, false_implies, implies_true, evP, evE, ev, setD, Nat.reduceAdd, Nat.reduceSub, reduceCtorEq, fillA, cutA, Nat.reduceLeDiff, Nat.reduceMul, Int.reduceLT, Int.reduceLE, Int.reduceEq, Int.reduceNe, Int.reduceAdd, Int.reduceSub, Int.reduceMul, Int.reduceNeg, Int.reduceToNat]
  refine loop_for f.length 0 (fun k hp => [v, .int .i64 B, .int .i64 1000000000000, .any, .any, .any, .nilsl, .int .i64 0, .bool false, .int .i64 (dkF f k), .any, .any, .any, .any, .any, .any, v, .int .i64 f.length, .int .i64 k, .any, .any, .any, .any, .any, .any, .any, .any, .any, .any, .any, .any, .any, .any, .any, .any, .any, .any, .any, .any, .any, .any, .any, .any, .any, .any, .any, .any, .any, .any, .any, .any, .any, .any, .any, .any, .any, .any, .any, .any]) (fun _ hp => hp)
    (fun k hp m => (∀ j, j < n → hp j = h j) ∧ ∀ j, j < k → dkF f (j + 1) ≤ B) h (Nat.zero_le _) ⟨fun _ _ => rfl, fun j hj => absurd hj (Nat.not_lt_zero _)⟩ (by simp [LeL, Le1, dkF]) (fun _ _ h => h) ?_
  rintro k hp m - hk hm ⟨g1, g2⟩
  have hpos := dkF_pos hf k hk
  have hub : dkF f k ≤ B := by
    cases k with
    | zero => simpa [dkF] using hB1
    | succ k => exact g2 k (by omega)
  simp (maxSteps := 2000000) -implicitDefEqProofs (disch := omega) only [xsW, xsC, if_true, if_false, ite_true, ite_false, forall_const, ne_eq, beq_self_eq_true, bne_self_eq_false, imp_self, true_implies, false_implies, implies_true, evP, evE, ev, setD, Nat.reduceAdd, Nat.reduceSub, reduceCtorEq, fillA, cutA, Nat.reduceLeDiff, Nat.reduceMul, Int.reduceLT, Int.reduceLE, Int.reduceEq, Int.reduceNe, Int.reduceAdd, Int.reduceSub, Int.reduceMul, Int.reduceNeg, Int.reduceToNat]
  (refine cd_dec (fun c1 => ?_) (fun c1 => ?_) <;> simp (maxSteps := 2000000) -implicitDefEqProofs (disch := omega) only [xsW, xsC, if_true, if_false, ite_true, ite_false, forall_const, ne_eq, beq_self_eq_true, bne_self_eq_false, imp_self, true_implies, false_implies, implies_true, evP, evE, ev, setD, Nat.reduceAdd, Nat.reduceSub, reduceCtorEq, fillA, cutA, Nat.reduceLeDiff, Nat.reduceMul, Int.reduceLT, Int.reduceLE, Int.reduceEq, Int.reduceNe, Int.reduceAdd, Int.reduceSub, Int.reduceMul, Int.reduceNeg, Int.reduceToNat,  c1])
  · have hk2 : k < f.length := by omega
    have hb := Fracs.below s (by intro e; rw [e] at hk2; simp at hk2)
    obtain ⟨hnum, hden⟩ := allFr_get hf hk2
    have hg : 0 < (Int.gcd (dkF f k) (f.getD k (0, 0)).2 : Int) := by have := Int.gcd_pos_of_ne_zero_right (dkF f k) (show (f.getD k (0, 0)).2 ≠ 0 by omega); omega
    have hq := tdiv_b (a := dkF f k) (b := (Int.gcd (dkF f k) (f.getD k (0, 0)).2 : Int)) (by omega) (by omega)
    have hm2 := mul_nn hq.1 (show _ ≤ 1000000000 by omega) (show 0 ≤ (f.getD k (0, 0)).2 by omega) hden.2
    simp (maxSteps := 2000000) -implicitDefEqProofs (disch := omega) only [xsW, xsC, if_true, if_false, ite_true, ite_false, forall_const, ne_eq, beq_self_eq_true, bne_self_eq_false, imp_self, true_implies, false_implies, implies_true, evP, evE, ev, setD, Nat.reduceAdd, Nat.reduceSub, reduceCtorEq, fillA, cutA, Nat.reduceLeDiff, Nat.reduceMul, Int.reduceLT, Int.reduceLE, Int.reduceEq, Int.reduceNe, Int.reduceAdd, Int.reduceSub, Int.reduceMul, Int.reduceNeg, Int.reduceToNat,  s.ia, g1, s.ld, frA]
    refine q_use (impl_common _ _ (by unfold in64; omega) (by unfold in64; omega) _ _) fun n2 hn2 => ?_
    simp (maxSteps := 2000000) -implicitDefEqProofs (disch := omega) only [xsW, xsC, if_true, if_false, ite_true, ite_false, forall_const, ne_eq, beq_self_eq_true, bne_self_eq_false, imp_self, true_implies, false_implies, implies_true, evP, evE, ev, setD, Nat.reduceAdd, Nat.reduceSub, reduceCtorEq, fillA, cutA, Nat.reduceLeDiff, Nat.reduceMul, Int.reduceLT, Int.reduceLE, Int.reduceEq, Int.reduceNe, Int.reduceAdd, Int.reduceSub, Int.reduceMul, Int.reduceNeg, Int.reduceToNat]
    have e : (dkF f k).tdiv (Int.gcd (dkF f k) (f.getD k (0, 0)).2 : Int) * (f.getD k (0, 0)).2 = dkF f (k + 1) := rfl
    rw [e]
    (refine cd_dec (fun c2 => ?_) (fun c2 => ?_) <;> simp (maxSteps := 2000000) -implicitDefEqProofs (disch := omega) only [xsW, xsC, if_true, if_false, ite_true, ite_false, forall_const, ne_eq, beq_self_eq_true, bne_self_eq_false, imp_self, true_implies, false_implies, implies_true, evP, evE, ev, setD, Nat.reduceAdd, Nat.reduceSub, reduceCtorEq, fillA, cutA, Nat.reduceLeDiff, Nat.reduceMul, Int.reduceLT, Int.reduceLE, Int.reduceEq, Int.reduceNe, Int.reduceAdd, Int.reduceSub, Int.reduceMul, Int.reduceNeg, Int.reduceToNat,  c2])
    · intro _ h2 _
      have : cmnM B f = false := by
        cases hx : cmnM B f
        · rfl
        · simp only [cmnM, Bool.and_eq_true] at hx
          have := (okM_iff B f).1 hx.1 k hk2
          omega
      exact .inl this
    · exact ⟨_, ⟨fun j hj => (upd_other (by omega)).trans (g1 j hj), fun j hj => (Nat.lt_succ_iff_lt_or_eq.1 hj).elim (g2 j) (fun e => by rw [e]; omega)⟩, by omega, by omega, (by simp [LeL, Le1]), fun _ _ h => h⟩
  · have e : k = f.length := by omega
    subst e
    have hD : okM B f = true := (okM_iff B f).2 g2
    have ed : dkF f f.length = cmnD f := rfl
    rw [ed] at hpos hub ⊢
    simp (maxSteps := 2000000) -implicitDefEqProofs (disch := omega) only [xsW, xsC, if_true, if_false, ite_true, ite_false, forall_const, ne_eq, beq_self_eq_true, bne_self_eq_false, imp_self, true_implies, false_implies, implies_true, evP, evE, ev, setD, Nat.reduceAdd, Nat.reduceSub, reduceCtorEq, fillA, cutA, Nat.reduceLeDiff, Nat.reduceMul, Int.reduceLT, Int.reduceLE, Int.reduceEq, Int.reduceNe, Int.reduceAdd, Int.reduceSub, Int.reduceMul, Int.reduceNeg, Int.reduceToNat,  s.ln]
    refine loop_for f.length 0 (fun k p => [v, .int .i64 B, .int .i64 1000000000000, .any, .any, .any, .nilsl, .int .i64 0, .bool false, .int .i64 (cmnD f), .any, .any, p.1, .any, .any, .any, .any, .any, .any, .any, .any, .any, .any, .any, .any, .any, .any, .any, .any, .any, .any, .any, .any, .any, .any, v, .int .i64 f.length, .int .i64 k, .any, .any, .any, .any, .any, .any, .any, .any, .any, .any, .any, .any, .any, .any, .any, .any, .any, .any, .any, .any, .any]) (fun _ (p : AV × AH) => p.2)
      (fun k p m' => Acc m m' p.2 2 1 p.1 (ints (rowOf k (cmnX f))) ∧ m ≤ m' ∧ (∀ j, j < n → p.2 j = h j) ∧ ∀ j, j < k → -1000000000000 ≤ cmnX f j ∧ cmnX f j ≤ 1000000000000) (.nilsl, hp) (Nat.zero_le _) ⟨Acc.nil, by omega, g1, fun j hj => absurd hj (Nat.not_lt_zero _)⟩ (by simp [LeL, Le1]) (fun _ _ h => h) ?_
    rintro k ⟨out, hp2⟩ m2 - hk2 hm2 ⟨acc, hle, hold, hall⟩
    simp only at acc hold
    simp (maxSteps := 2000000) -implicitDefEqProofs (disch := omega) only [xsW, xsC, if_true, if_false, ite_true, ite_false, forall_const, ne_eq, beq_self_eq_true, bne_self_eq_false, imp_self, true_implies, false_implies, implies_true, evP, evE, ev, setD, Nat.reduceAdd, Nat.reduceSub, reduceCtorEq, fillA, cutA, Nat.reduceLeDiff, Nat.reduceMul, Int.reduceLT, Int.reduceLE, Int.reduceEq, Int.reduceNe, Int.reduceAdd, Int.reduceSub, Int.reduceMul, Int.reduceNeg, Int.reduceToNat]
    (refine cd_dec (fun c3 => ?_) (fun c3 => ?_) <;> simp (maxSteps := 2000000) -implicitDefEqProofs (disch := omega) only [xsW, xsC, if_true, if_false, ite_true, ite_false, forall_const, ne_eq, beq_self_eq_true, bne_self_eq_false, imp_self, true_implies, false_implies, implies_true, evP, evE, ev, setD, Nat.reduceAdd, Nat.reduceSub, reduceCtorEq, fillA, cutA, Nat.reduceLeDiff, Nat.reduceMul, Int.reduceLT, Int.reduceLE, Int.reduceEq, Int.reduceNe, Int.reduceAdd, Int.reduceSub, Int.reduceMul, Int.reduceNeg, Int.reduceToNat,  c3])
    · have hk3 : k < f.length := by omega
      have hb := Fracs.below s (by intro e; rw [e] at hk3; simp at hk3)
      obtain ⟨hnum, hden⟩ := allFr_get hf hk3
      have hq := tdiv_b (a := cmnD f) (b := (f.getD k (0, 0)).2) (by omega) (by omega)
      have hm3 := mulb9 hnum (b := (cmnD f).tdiv (f.getD k (0, 0)).2) (by omega)
      simp (maxSteps := 2000000) -implicitDefEqProofs (disch := omega) only [xsW, xsC, if_true, if_false, ite_true, ite_false, forall_const, ne_eq, beq_self_eq_true, bne_self_eq_false, imp_self, true_implies, false_implies, implies_true, evP, evE, ev, setD, Nat.reduceAdd, Nat.reduceSub, reduceCtorEq, fillA, cutA, Nat.reduceLeDiff, Nat.reduceMul, Int.reduceLT, Int.reduceLE, Int.reduceEq, Int.reduceNe, Int.reduceAdd, Int.reduceSub, Int.reduceMul, Int.reduceNeg, Int.reduceToNat,  s.ia, hold, s.ld, frA]
      have e : (f.getD k (0, 0)).1 * (cmnD f).tdiv (f.getD k (0, 0)).2 = cmnX f k := rfl
      rw [e]
      refine q_use (impl_upTo _ _ (by unfold in64; omega) _ _) fun n3 hn3 => ?_
      simp (maxSteps := 2000000) -implicitDefEqProofs (disch := omega) only [xsW, xsC, if_true, if_false, ite_true, ite_false, forall_const, ne_eq, beq_self_eq_true, bne_self_eq_false, imp_self, true_implies, false_implies, implies_true, evP, evE, ev, setD, Nat.reduceAdd, Nat.reduceSub, reduceCtorEq, fillA, cutA, Nat.reduceLeDiff, Nat.reduceMul, Int.reduceLT, Int.reduceLE, Int.reduceEq, Int.reduceNe, Int.reduceAdd, Int.reduceSub, Int.reduceMul, Int.reduceNeg, Int.reduceToNat]
      (refine cd_dec (fun c4 => ?_) (fun c4 => ?_) <;> simp (maxSteps := 2000000) -implicitDefEqProofs (disch := omega) only [xsW, xsC, if_true, if_false, ite_true, ite_false, forall_const, ne_eq, beq_self_eq_true, bne_self_eq_false, imp_self, true_implies, false_implies, implies_true, evP, evE, ev, setD, Nat.reduceAdd, Nat.reduceSub, reduceCtorEq, fillA, cutA, Nat.reduceLeDiff, Nat.reduceMul, Int.reduceLT, Int.reduceLE, Int.reduceEq, Int.reduceNe, Int.reduceAdd, Int.reduceSub, Int.reduceMul, Int.reduceNeg, Int.reduceToNat,  c4])
      · intro _ h2 _
        have : cmnM B f = false := by
          cases hx : cmnM B f
          · rfl
          · simp only [cmnM, Bool.and_eq_true] at hx
            have := (okN_iff f).1 hx.2 k hk3
            omega
        exact .inl this
      · refine app_int (y := cmnX f k) (acc.keep (fun i _ hi9 => by simp (disch := omega) only [upd_other]) |>.wide (Nat.le_refl _) (by omega)) (by omega) (by omega) ⟨rfl, _, upd_same _ _ _, by simp, by simp [cutA]⟩ (by rw [rowOf_len]; omega) fun v' h' n' q1 q2 q3 => ?_
        simp (maxSteps := 2000000) -implicitDefEqProofs (disch := omega) only [xsW, xsC, if_true, if_false, ite_true, ite_false, forall_const, ne_eq, beq_self_eq_true, bne_self_eq_false, imp_self, true_implies, false_implies, implies_true, evP, evE, ev, setD, Nat.reduceAdd, Nat.reduceSub, reduceCtorEq, fillA, cutA, Nat.reduceLeDiff, Nat.reduceMul, Int.reduceLT, Int.reduceLE, Int.reduceEq, Int.reduceNe, Int.reduceAdd, Int.reduceSub, Int.reduceMul, Int.reduceNeg, Int.reduceToNat]
        exact ⟨(v', h'), ⟨by rw [rowOf_succ]; exact q2, by omega, fun j hj => (q3 j (by omega)).trans (by rw [upd_other (by omega), upd_other (by omega), hold j hj]), fun j hj => (Nat.lt_succ_iff_lt_or_eq.1 hj).elim (hall j) (fun e => by rw [e]; omega)⟩, by omega, by omega, (by simp [LeL, Le1]), fun _ _ h => h⟩
    · have e : k = f.length := by omega
      subst e
      have hN : okN f = true := (okN_iff f).2 hall
      intro _ h2 hh
      exact .inr ⟨by simp [cmnM, hD, hN], out, by first | rfl | exact ⟨rfl, rfl, rfl⟩, (Acc.sl (acc.keep fun i a b => hh i (by omega) b)).wide (by omega) (Nat.le_refl _)⟩
theorem impl_together (s : Fracs w lo hi h v f) (hl : f.length ≤ 1048576) (hf : allFr f = true) (n : Nat) (hn : hi ≤ n) :
    FQ Try.prog 82 [v, .int .i64 1000000000, .int .i64 1000000000000] h n fun x h' n' => (cmnB f = false ∧ x = .tup [.nilsl, .int .i64 0, .bool false]) ∨ (cmnB f = true ∧ ∃ v', x = .tup [v', .int .i64 (cmnD f), .bool true] ∧ Ints true n n' h' v' (cmnN f)) := impl_togetherB 1000000000 (by omega) (by omega) s hl hf n hn
theorem spec_l01Common (s : Fracs w lo hi h v f) (hl : f.length ≤ 1048576) (hf : allFr f = true) (n : Nat) (hn : hi ≤ n) :
    FQ Try.prog 85 [v] h n fun x h' n' => (cmnB f = false ∧ x = .tup [.nilsl, .int .i64 0, .bool false]) ∨ (cmnB f = true ∧ ∃ v', x = .tup [v', .int .i64 (cmnD f), .bool true] ∧ Ints true n n' h' v' (cmnN f)) := by
  refine fq_intro Try.func85 k_spec_l01Common ?_
  simp (maxSteps := 2000000) -implicitDefEqProofs (disch := omega) only [c_spec_l01Common, xsW, xsC, if_true, if_false, ite_true, ite_false, forall_const, ne_eq, beq_self_eq_true, bne_self_eq_false, imp_self, true_implies, false_implies, implies_true, evP, evE, ev, setD, Nat.reduceAdd, Nat.reduceSub, reduceCtorEq, fillA, cutA, Nat.reduceLeDiff, Nat.reduceMul, Int.reduceLT, Int.reduceLE, Int.reduceEq, Int.reduceNe, Int.reduceAdd, Int.reduceSub, Int.reduceMul, Int.reduceNeg, Int.reduceToNat]
  refine loop_for f.length 0 (fun k (_ : Unit) => [v, .any, .nilsl, .int .i64 0, .bool false, .int .i64 (dkF f k), .int .i64 k, .any, .any, .any, .any, .any, .any, .any, .any, .any, .any, .any, .any, .any, .any, .any, .any, .any, .any, .any, .any, .any, .any, .any, .any, .any, .any, .any, .any, .any, .any, .any, .any, .any, .any, .any, .any, .any, .any, .any, .any, .any, .any, .any, .any, .any, .any, .any, .any, .any, .any, .any, .any, .any, .any, .any]) (fun _ _ => h)
    (fun k _ m => ∀ j, j < k → dkF f (j + 1) ≤ 1000000000) () (Nat.zero_le _) (fun j hj => absurd hj (Nat.not_lt_zero _)) (by simp [LeL, Le1, dkF]) (fun _ _ h => h) ?_
  rintro k - m - hk hm g2
  have hpos := dkF_pos hf k hk
  have hub : dkF f k ≤ 1000000000 := by
    cases k with
    | zero => simp [dkF]
    | succ k => exact g2 k (by omega)
  simp (maxSteps := 2000000) -implicitDefEqProofs (disch := omega) only [xsW, xsC, if_true, if_false, ite_true, ite_false, forall_const, ne_eq, beq_self_eq_true, bne_self_eq_false, imp_self, true_implies, false_implies, implies_true, evP, evE, ev, setD, Nat.reduceAdd, Nat.reduceSub, reduceCtorEq, fillA, cutA, Nat.reduceLeDiff, Nat.reduceMul, Int.reduceLT, Int.reduceLE, Int.reduceEq, Int.reduceNe, Int.reduceAdd, Int.reduceSub, Int.reduceMul, Int.reduceNeg, Int.reduceToNat,  s.ln]
  (refine cd_dec (fun c1 => ?_) (fun c1 => ?_) <;> simp (maxSteps := 2000000) -implicitDefEqProofs (disch := omega) only [xsW, xsC, if_true, if_false, ite_true, ite_false, forall_const, ne_eq, beq_self_eq_true, bne_self_eq_false, imp_self, true_implies, false_implies, implies_true, evP, evE, ev, setD, Nat.reduceAdd, Nat.reduceSub, reduceCtorEq, fillA, cutA, Nat.reduceLeDiff, Nat.reduceMul, Int.reduceLT, Int.reduceLE, Int.reduceEq, Int.reduceNe, Int.reduceAdd, Int.reduceSub, Int.reduceMul, Int.reduceNeg, Int.reduceToNat,  c1])
  · have hk2 : k < f.length := by omega
    obtain ⟨hnum, hden⟩ := allFr_get hf hk2
    have hg : 0 < (Int.gcd (dkF f k) (f.getD k (0, 0)).2 : Int) := by have := Int.gcd_pos_of_ne_zero_right (dkF f k) (show (f.getD k (0, 0)).2 ≠ 0 by omega); omega
    have hq := tdiv_b (a := dkF f k) (b := (Int.gcd (dkF f k) (f.getD k (0, 0)).2 : Int)) (by omega) (by omega)
    have hm2 := mul_nn hq.1 (show _ ≤ 1000000000 by omega) (show 0 ≤ (f.getD k (0, 0)).2 by omega) hden.2
    simp (maxSteps := 2000000) -implicitDefEqProofs (disch := omega) only [xsW, xsC, if_true, if_false, ite_true, ite_false, forall_const, ne_eq, beq_self_eq_true, bne_self_eq_false, imp_self, true_implies, false_implies, implies_true, evP, evE, ev, setD, Nat.reduceAdd, Nat.reduceSub, reduceCtorEq, fillA, cutA, Nat.reduceLeDiff, Nat.reduceMul, Int.reduceLT, Int.reduceLE, Int.reduceEq, Int.reduceNe, Int.reduceAdd, Int.reduceSub, Int.reduceMul, Int.reduceNeg, Int.reduceToNat,  s.ia, s.ldd]
    refine q_use (spec_l01Gcd _ _ (by unfold in64; omega) (by unfold in64; omega) _ _) fun n2 hn2 => ?_
    simp (maxSteps := 2000000) -implicitDefEqProofs (disch := omega) only [xsW, xsC, if_true, if_false, ite_true, ite_false, forall_const, ne_eq, beq_self_eq_true, bne_self_eq_false, imp_self, true_implies, false_implies, implies_true, evP, evE, ev, setD, Nat.reduceAdd, Nat.reduceSub, reduceCtorEq, fillA, cutA, Nat.reduceLeDiff, Nat.reduceMul, Int.reduceLT, Int.reduceLE, Int.reduceEq, Int.reduceNe, Int.reduceAdd, Int.reduceSub, Int.reduceMul, Int.reduceNeg, Int.reduceToNat]
    have e : (dkF f k).tdiv (Int.gcd (dkF f k) (f.getD k (0, 0)).2 : Int) * (f.getD k (0, 0)).2 = dkF f (k + 1) := rfl
    rw [e]
    (refine cd_dec (fun c2 => ?_) (fun c2 => ?_) <;> simp (maxSteps := 2000000) -implicitDefEqProofs (disch := omega) only [xsW, xsC, if_true, if_false, ite_true, ite_false, forall_const, ne_eq, beq_self_eq_true, bne_self_eq_false, imp_self, true_implies, false_implies, implies_true, evP, evE, ev, setD, Nat.reduceAdd, Nat.reduceSub, reduceCtorEq, fillA, cutA, Nat.reduceLeDiff, Nat.reduceMul, Int.reduceLT, Int.reduceLE, Int.reduceEq, Int.reduceNe, Int.reduceAdd, Int.reduceSub, Int.reduceMul, Int.reduceNeg, Int.reduceToNat,  c2])
    · intro _ h2 _
      have : cmnB f = false := by
        cases hx : cmnB f
        · rfl
        · simp only [cmnB, Bool.and_eq_true] at hx
          have := (okD_iff f).1 hx.1 k hk2
          omega
      exact .inl this
    · exact ⟨(), fun j hj => (Nat.lt_succ_iff_lt_or_eq.1 hj).elim (g2 j) (fun e => by rw [e]; omega), by omega, by omega, (by simp [LeL, Le1])⟩
  · have e : k = f.length := by omega
    subst e
    have hD : okD f = true := (okD_iff f).2 g2
    have ed : dkF f f.length = cmnD f := rfl
    rw [ed] at hpos hub ⊢
    refine loop_for f.length 0 (fun k p => [v, .any, .nilsl, .int .i64 0, .bool false, .int .i64 (cmnD f), .any, p.1, .int .i64 k, .any, .any, .any, .any, .any, .any, .any, .any, .any, .any, .any, .any, .any, .any, .any, .any, .any, .any, .any, .any, .any, .any, .any, .any, .any, .any, .any, .any, .any, .any, .any, .any, .any, .any, .any, .any, .any, .any, .any, .any, .any, .any, .any, .any, .any, .any, .any, .any, .any, .any, .any, .any, .any]) (fun _ (p : AV × AH) => p.2)
      (fun k p m' => Acc m m' p.2 2 1 p.1 (ints (rowOf k (cmnX f))) ∧ m ≤ m' ∧ (∀ j, j < n → p.2 j = h j) ∧ ∀ j, j < k → -1000000000000 ≤ cmnX f j ∧ cmnX f j ≤ 1000000000000) (.sl m 0 0 0, _) (Nat.zero_le _) ⟨Acc.empty (upd_same _ _ _) rfl (Nat.le_refl _) (by omega), by omega, fun j hj => upd_other (by omega), fun j hj => absurd hj (Nat.not_lt_zero _)⟩ (by simp [LeL, Le1]) (fun _ _ h => h) ?_
    rintro k ⟨out, hp2⟩ m2 - hk2 hm2 ⟨acc, hle, hold, hall⟩
    simp only at acc hold
    simp (maxSteps := 2000000) -implicitDefEqProofs (disch := omega) only [xsW, xsC, if_true, if_false, ite_true, ite_false, forall_const, ne_eq, beq_self_eq_true, bne_self_eq_false, imp_self, true_implies, false_implies, implies_true, evP, evE, ev, setD, Nat.reduceAdd, Nat.reduceSub, reduceCtorEq, fillA, cutA, Nat.reduceLeDiff, Nat.reduceMul, Int.reduceLT, Int.reduceLE, Int.reduceEq, Int.reduceNe, Int.reduceAdd, Int.reduceSub, Int.reduceMul, Int.reduceNeg, Int.reduceToNat,  s.ln]
    (refine cd_dec (fun c3 => ?_) (fun c3 => ?_) <;> simp (maxSteps := 2000000) -implicitDefEqProofs (disch := omega) only [xsW, xsC, if_true, if_false, ite_true, ite_false, forall_const, ne_eq, beq_self_eq_true, bne_self_eq_false, imp_self, true_implies, false_implies, implies_true, evP, evE, ev, setD, Nat.reduceAdd, Nat.reduceSub, reduceCtorEq, fillA, cutA, Nat.reduceLeDiff, Nat.reduceMul, Int.reduceLT, Int.reduceLE, Int.reduceEq, Int.reduceNe, Int.reduceAdd, Int.reduceSub, Int.reduceMul, Int.reduceNeg, Int.reduceToNat,  c3])
    · have hk3 : k < f.length := by omega
      have hb := Fracs.below s (by intro e; rw [e] at hk3; simp at hk3)
      obtain ⟨hnum, hden⟩ := allFr_get hf hk3
      have hq := tdiv_b (a := cmnD f) (b := (f.getD k (0, 0)).2) (by omega) (by omega)
      have hm3 := mulb9 hnum (b := (cmnD f).tdiv (f.getD k (0, 0)).2) (by omega)
      simp (maxSteps := 2000000) -implicitDefEqProofs (disch := omega) only [xsW, xsC, if_true, if_false, ite_true, ite_false, forall_const, ne_eq, beq_self_eq_true, bne_self_eq_false, imp_self, true_implies, false_implies, implies_true, evP, evE, ev, setD, Nat.reduceAdd, Nat.reduceSub, reduceCtorEq, fillA, cutA, Nat.reduceLeDiff, Nat.reduceMul, Int.reduceLT, Int.reduceLE, Int.reduceEq, Int.reduceNe, Int.reduceAdd, Int.reduceSub, Int.reduceMul, Int.reduceNeg, Int.reduceToNat,  s.ia, hold, s.ldn, s.ldd]
      have e : (f.getD k (0, 0)).1 * (cmnD f).tdiv (f.getD k (0, 0)).2 = cmnX f k := rfl
      rw [e]
      refine q_use (spec_l01In _ _ _ _ _) fun n3 hn3 => ?_
      simp (maxSteps := 2000000) -implicitDefEqProofs (disch := omega) only [xsW, xsC, if_true, if_false, ite_true, ite_false, forall_const, ne_eq, beq_self_eq_true, bne_self_eq_false, imp_self, true_implies, false_implies, implies_true, evP, evE, ev, setD, Nat.reduceAdd, Nat.reduceSub, reduceCtorEq, fillA, cutA, Nat.reduceLeDiff, Nat.reduceMul, Int.reduceLT, Int.reduceLE, Int.reduceEq, Int.reduceNe, Int.reduceAdd, Int.reduceSub, Int.reduceMul, Int.reduceNeg, Int.reduceToNat]
      (refine cd_dec (fun c4 => ?_) (fun c4 => ?_) <;> simp (maxSteps := 2000000) -implicitDefEqProofs (disch := omega) only [xsW, xsC, if_true, if_false, ite_true, ite_false, forall_const, ne_eq, beq_self_eq_true, bne_self_eq_false, imp_self, true_implies, false_implies, implies_true, evP, evE, ev, setD, Nat.reduceAdd, Nat.reduceSub, reduceCtorEq, fillA, cutA, Nat.reduceLeDiff, Nat.reduceMul, Int.reduceLT, Int.reduceLE, Int.reduceEq, Int.reduceNe, Int.reduceAdd, Int.reduceSub, Int.reduceMul, Int.reduceNeg, Int.reduceToNat,  c4])
      · intro _ h2 _
        have : cmnB f = false := by
          cases hx : cmnB f
          · rfl
          · simp only [cmnB, Bool.and_eq_true] at hx
            have := (okN_iff f).1 hx.2 k hk3
            omega
        exact .inl this
      · refine app_int (y := cmnX f k) (acc.keep (fun i _ hi9 => by simp (disch := omega) only [upd_other]) |>.wide (Nat.le_refl _) (by omega)) (by omega) (by omega) ⟨rfl, _, upd_same _ _ _, by simp, by simp [cutA]⟩ (by rw [rowOf_len]; omega) fun v' h' n' q1 q2 q3 => ?_
        simp (maxSteps := 2000000) -implicitDefEqProofs (disch := omega) only [xsW, xsC, if_true, if_false, ite_true, ite_false, forall_const, ne_eq, beq_self_eq_true, bne_self_eq_false, imp_self, true_implies, false_implies, implies_true, evP, evE, ev, setD, Nat.reduceAdd, Nat.reduceSub, reduceCtorEq, fillA, cutA, Nat.reduceLeDiff, Nat.reduceMul, Int.reduceLT, Int.reduceLE, Int.reduceEq, Int.reduceNe, Int.reduceAdd, Int.reduceSub, Int.reduceMul, Int.reduceNeg, Int.reduceToNat]
        exact ⟨(v', h'), ⟨by rw [rowOf_succ]; exact q2, by omega, fun j hj => (q3 j (by omega)).trans (by rw [upd_other (by omega), hold j hj]), fun j hj => (Nat.lt_succ_iff_lt_or_eq.1 hj).elim (hall j) (fun e => by rw [e]; omega)⟩, by omega, by omega, (by simp [LeL, Le1]), fun _ _ h => h⟩
    · have e : k = f.length := by omega
      subst e
      have hN : okN f = true := (okN_iff f).2 hall
      intro _ h2 hh
      exact .inr ⟨by simp [cmnB, hD, hN], out, by first | rfl | exact ⟨rfl, rfl, rfl⟩, (Acc.sl (acc.keep fun i a b => hh i (by omega) b)).wide (by omega) (Nat.le_refl _)⟩
end
def frcV (ll : List (List Int)) (q : List Int) (f : List (Int × Int)) : Int := if isProb ll q = true ∧ allFr f = true then (if f.length = ll.length then 0 else 2) else 1
theorem frcV_zero {ll : List (List Int)} {q : List Int} {f : List (Int × Int)} (h : frcV ll q f = 0) : isProb ll q = true ∧ allFr f = true ∧ f.length = ll.length := by
  unfold frcV at h
  split at h
  · rename_i hx
    split at h
    · exact ⟨hx.1, hx.2, by assumption⟩
    · omega
  · omega
section
variable {w w' : Bool} {lo hi lo' hi' : Nat} {h : AH} {v u v' : AV} {vs : List AV} {ll : List (List Int)} {q : List Int} {f : List (Int × Int)}
theorem impl_fracsCode (s : Prob w lo hi h v u vs ll q) (hl : ll.length ≤ 1048576) (hll : ∀ l ∈ ll, l.length ≤ 1048576) (hq : q.length ≤ 1048576) (sf : Fracs w' lo' hi' h v' f) (hf : f.length ≤ 1048576) (n : Nat) (hn : hi ≤ n) (hn' : hi' ≤ n) :
    Q Try.prog 81 [.agg [v, u], v'] h n (.int .i64 (frcV ll q f)) := by
  refine q_intro Try.func81 k_impl_fracsCode ?_
  have o1 := one_any (Sl.any s.M.out)
  have o2 := one_any (Sl.any s.Q)
  simp (maxSteps := 2000000) -implicitDefEqProofs (disch := omega) only [c_impl_fracsCode, o1, o2, xsW, xsC, if_true, if_false, ite_true, ite_false, forall_const, ne_eq, beq_self_eq_true, bne_self_eq_false, imp_self, true_implies, false_implies, implies_true, evP, evE, ev, setD, Nat.reduceAdd, Nat.reduceSub, reduceCtorEq, fillA, cutA, Nat.reduceLeDiff, Nat.reduceMul, Int.reduceLT, Int.reduceLE, Int.reduceEq, Int.reduceNe, Int.reduceAdd, Int.reduceSub, Int.reduceMul, Int.reduceNeg, Int.reduceToNat]
  refine q_use (impl_IsProblem (s.keep (fun i _ hi9 => by simp (disch := omega) only [upd_other])) hl hll hq _ (by omega)) fun n1 hn1 => ?_
  cases hp : isProb ll q
  · simp (maxSteps := 2000000) -implicitDefEqProofs (disch := omega) only [xsW, xsC, if_true, if_false, ite_true, ite_false, forall_const, ne_eq, beq_self_eq_true, bne_self_eq_false, imp_self, true_implies, false_implies, implies_true, evP, evE, ev, setD, Nat.reduceAdd, Nat.reduceSub, reduceCtorEq, fillA, cutA, Nat.reduceLeDiff, Nat.reduceMul, Int.reduceLT, Int.reduceLE, Int.reduceEq, Int.reduceNe, Int.reduceAdd, Int.reduceSub, Int.reduceMul, Int.reduceNeg, Int.reduceToNat]
    simp [frcV, hp]
  · have hql := (isProb_facts hp).2.1
    simp (maxSteps := 2000000) -implicitDefEqProofs (disch := omega) only [xsW, xsC, if_true, if_false, ite_true, ite_false, forall_const, ne_eq, beq_self_eq_true, bne_self_eq_false, imp_self, true_implies, false_implies, implies_true, evP, evE, ev, setD, Nat.reduceAdd, Nat.reduceSub, reduceCtorEq, fillA, cutA, Nat.reduceLeDiff, Nat.reduceMul, Int.reduceLT, Int.reduceLE, Int.reduceEq, Int.reduceNe, Int.reduceAdd, Int.reduceSub, Int.reduceMul, Int.reduceNeg, Int.reduceToNat]
    refine q_use (impl_areFracs (Fracs.keep (h' := upd h n (some ⟨31, [v, u], true, 0⟩)) sf (fun i _ hi9 => by simp (disch := omega) only [upd_other])) hf _) fun n2 hn2 => ?_
    rw [← allFr]
    cases ha : allFr f
    · simp (maxSteps := 2000000) -implicitDefEqProofs (disch := omega) only [xsW, xsC, if_true, if_false, ite_true, ite_false, forall_const, ne_eq, beq_self_eq_true, bne_self_eq_false, imp_self, true_implies, false_implies, implies_true, evP, evE, ev, setD, Nat.reduceAdd, Nat.reduceSub, reduceCtorEq, fillA, cutA, Nat.reduceLeDiff, Nat.reduceMul, Int.reduceLT, Int.reduceLE, Int.reduceEq, Int.reduceNe, Int.reduceAdd, Int.reduceSub, Int.reduceMul, Int.reduceNeg, Int.reduceToNat]
      simp [frcV, hp, ha]
    · simp (maxSteps := 2000000) -implicitDefEqProofs (disch := omega) only [xsW, xsC, if_true, if_false, ite_true, ite_false, forall_const, ne_eq, beq_self_eq_true, bne_self_eq_false, imp_self, true_implies, false_implies, implies_true, evP, evE, ev, setD, Nat.reduceAdd, Nat.reduceSub, reduceCtorEq, fillA, cutA, Nat.reduceLeDiff, Nat.reduceMul, Int.reduceLT, Int.reduceLE, Int.reduceEq, Int.reduceNe, Int.reduceAdd, Int.reduceSub, Int.reduceMul, Int.reduceNeg, Int.reduceToNat,  sf.ln, s.Q.ln, hql]
      (refine cd_dec (fun c1 => ?_) (fun c1 => ?_) <;> simp (maxSteps := 2000000) -implicitDefEqProofs (disch := omega) only [xsW, xsC, if_true, if_false, ite_true, ite_false, forall_const, ne_eq, beq_self_eq_true, bne_self_eq_false, imp_self, true_implies, false_implies, implies_true, evP, evE, ev, setD, Nat.reduceAdd, Nat.reduceSub, reduceCtorEq, fillA, cutA, Nat.reduceLeDiff, Nat.reduceMul, Int.reduceLT, Int.reduceLE, Int.reduceEq, Int.reduceNe, Int.reduceAdd, Int.reduceSub, Int.reduceMul, Int.reduceNeg, Int.reduceToNat,  c1])
      · simp [frcV, hp, ha]; omega
      · simp [frcV, hp, ha]; omega
theorem spec_l01Fracs (s : Prob w lo hi h v u vs ll q) (hl : ll.length ≤ 1048576) (hll : ∀ l ∈ ll, l.length ≤ 1048576) (hq : q.length ≤ 1048576) (sf : Fracs w' lo' hi' h v' f) (hf : f.length ≤ 1048576) (n : Nat) (hn : hi ≤ n) (hn' : hi' ≤ n) :
    Q Try.prog 84 [.agg [v, u], v'] h n (.int .i64 (frcV ll q f)) := by
  refine q_intro Try.func84 k_spec_l01Fracs ?_
  have o1 := one_any (Sl.any s.M.out)
  have o2 := one_any (Sl.any s.Q)
  simp (maxSteps := 2000000) -implicitDefEqProofs (disch := omega) only [c_spec_l01Fracs, o1, o2, xsW, xsC, if_true, if_false, ite_true, ite_false, forall_const, ne_eq, beq_self_eq_true, bne_self_eq_false, imp_self, true_implies, false_implies, implies_true, evP, evE, ev, setD, Nat.reduceAdd, Nat.reduceSub, reduceCtorEq, fillA, cutA, Nat.reduceLeDiff, Nat.reduceMul, Int.reduceLT, Int.reduceLE, Int.reduceEq, Int.reduceNe, Int.reduceAdd, Int.reduceSub, Int.reduceMul, Int.reduceNeg, Int.reduceToNat]
  refine q_use (spec_l01Is (s.keep (fun i _ hi9 => by simp (disch := omega) only [upd_other])) hl hll hq _ (by omega)) fun n1 hn1 => ?_
  cases hp : isProb ll q
  · simp (maxSteps := 2000000) -implicitDefEqProofs (disch := omega) only [xsW, xsC, if_true, if_false, ite_true, ite_false, forall_const, ne_eq, beq_self_eq_true, bne_self_eq_false, imp_self, true_implies, false_implies, implies_true, evP, evE, ev, setD, Nat.reduceAdd, Nat.reduceSub, reduceCtorEq, fillA, cutA, Nat.reduceLeDiff, Nat.reduceMul, Int.reduceLT, Int.reduceLE, Int.reduceEq, Int.reduceNe, Int.reduceAdd, Int.reduceSub, Int.reduceMul, Int.reduceNeg, Int.reduceToNat]
    simp [frcV, hp]
  · have hql := (isProb_facts hp).2.1
    simp (maxSteps := 2000000) -implicitDefEqProofs (disch := omega) only [xsW, xsC, if_true, if_false, ite_true, ite_false, forall_const, ne_eq, beq_self_eq_true, bne_self_eq_false, imp_self, true_implies, false_implies, implies_true, evP, evE, ev, setD, Nat.reduceAdd, Nat.reduceSub, reduceCtorEq, fillA, cutA, Nat.reduceLeDiff, Nat.reduceMul, Int.reduceLT, Int.reduceLE, Int.reduceEq, Int.reduceNe, Int.reduceAdd, Int.reduceSub, Int.reduceMul, Int.reduceNeg, Int.reduceToNat]
    have sf1 := Fracs.keep (h' := upd h n (some ⟨31, [v, u], true, 0⟩)) sf (fun i _ hi9 => by simp (disch := omega) only [upd_other])
    refine loop_for f.length 0 (fun k (_ : Unit) => [.agg [v, u], v', .ptr n 0, .any, .int .i64 0, .int .i64 k, .any, .any, .any, .any, .any, .any, .any, .any, .any, .any, .any, .any, .any, .any, .any, .any, .any, .any, .any, .any, .any]) (fun _ _ => upd h n (some ⟨31, [v, u], true, 0⟩))
      (fun k _ _ => ∀ j, j < k → isFr 1000000000 (f.getD j (0, 0)).1 (f.getD j (0, 0)).2 = true) () (Nat.zero_le _) (fun j hj => absurd hj (Nat.not_lt_zero _)) (by simp [LeL, Le1]) (fun _ _ h => h) ?_
    rintro k - m - hk hm hall
    simp (maxSteps := 2000000) -implicitDefEqProofs (disch := omega) only [xsW, xsC, if_true, if_false, ite_true, ite_false, forall_const, ne_eq, beq_self_eq_true, bne_self_eq_false, imp_self, true_implies, false_implies, implies_true, evP, evE, ev, setD, Nat.reduceAdd, Nat.reduceSub, reduceCtorEq, fillA, cutA, Nat.reduceLeDiff, Nat.reduceMul, Int.reduceLT, Int.reduceLE, Int.reduceEq, Int.reduceNe, Int.reduceAdd, Int.reduceSub, Int.reduceMul, Int.reduceNeg, Int.reduceToNat,  sf1.ln]
    (refine cd_dec (fun c1 => ?_) (fun c1 => ?_) <;> simp (maxSteps := 2000000) -implicitDefEqProofs (disch := omega) only [xsW, xsC, if_true, if_false, ite_true, ite_false, forall_const, ne_eq, beq_self_eq_true, bne_self_eq_false, imp_self, true_implies, false_implies, implies_true, evP, evE, ev, setD, Nat.reduceAdd, Nat.reduceSub, reduceCtorEq, fillA, cutA, Nat.reduceLeDiff, Nat.reduceMul, Int.reduceLT, Int.reduceLE, Int.reduceEq, Int.reduceNe, Int.reduceAdd, Int.reduceSub, Int.reduceMul, Int.reduceNeg, Int.reduceToNat,  c1])
    · have hk2 : k < f.length := by omega
      have hbf := Fracs.below sf1 (by intro e; rw [e] at hk2; simp at hk2)
      simp (maxSteps := 2000000) -implicitDefEqProofs (disch := omega) only [xsW, xsC, if_true, if_false, ite_true, ite_false, forall_const, ne_eq, beq_self_eq_true, bne_self_eq_false, imp_self, true_implies, false_implies, implies_true, evP, evE, ev, setD, Nat.reduceAdd, Nat.reduceSub, reduceCtorEq, fillA, cutA, Nat.reduceLeDiff, Nat.reduceMul, Int.reduceLT, Int.reduceLE, Int.reduceEq, Int.reduceNe, Int.reduceAdd, Int.reduceSub, Int.reduceMul, Int.reduceNeg, Int.reduceToNat,  sf1.ia, sf.ld, frA]
      refine q_use (spec_IsFrac _ _ _ _) fun n3 hn3 => ?_
      cases hx : isFr 1000000000 (f.getD k (0, 0)).1 (f.getD k (0, 0)).2
      · simp (maxSteps := 2000000) -implicitDefEqProofs (disch := omega) only [xsW, xsC, if_true, if_false, ite_true, ite_false, forall_const, ne_eq, beq_self_eq_true, bne_self_eq_false, imp_self, true_implies, false_implies, implies_true, evP, evE, ev, setD, Nat.reduceAdd, Nat.reduceSub, reduceCtorEq, fillA, cutA, Nat.reduceLeDiff, Nat.reduceMul, Int.reduceLT, Int.reduceLE, Int.reduceEq, Int.reduceNe, Int.reduceAdd, Int.reduceSub, Int.reduceMul, Int.reduceNeg, Int.reduceToNat]
        have : allFr f = false := by
          cases hy : allFr f
          · rfl
          · have := (allFr_iff f).1 hy k hk2
            rw [hx] at this; cases this
        simp [frcV, this]
      · simp (maxSteps := 2000000) -implicitDefEqProofs (disch := omega) only [xsW, xsC, if_true, if_false, ite_true, ite_false, forall_const, ne_eq, beq_self_eq_true, bne_self_eq_false, imp_self, true_implies, false_implies, implies_true, evP, evE, ev, setD, Nat.reduceAdd, Nat.reduceSub, reduceCtorEq, fillA, cutA, Nat.reduceLeDiff, Nat.reduceMul, Int.reduceLT, Int.reduceLE, Int.reduceEq, Int.reduceNe, Int.reduceAdd, Int.reduceSub, Int.reduceMul, Int.reduceNeg, Int.reduceToNat]
        exact ⟨(), fun j hj => (Nat.lt_succ_iff_lt_or_eq.1 hj).elim (hall j) (fun e => by rw [e]; exact hx), by omega, by omega, (by simp [LeL, Le1])⟩
    · have ha : allFr f = true := (allFr_iff f).2 fun j hj => hall j (by omega)
      simp (maxSteps := 2000000) -implicitDefEqProofs (disch := omega) only [xsW, xsC, if_true, if_false, ite_true, ite_false, forall_const, ne_eq, beq_self_eq_true, bne_self_eq_false, imp_self, true_implies, false_implies, implies_true, evP, evE, ev, setD, Nat.reduceAdd, Nat.reduceSub, reduceCtorEq, fillA, cutA, Nat.reduceLeDiff, Nat.reduceMul, Int.reduceLT, Int.reduceLE, Int.reduceEq, Int.reduceNe, Int.reduceAdd, Int.reduceSub, Int.reduceMul, Int.reduceNeg, Int.reduceToNat,  sf1.ln, s.Q.ln, hql]
      (refine cd_dec (fun c2 => ?_) (fun c2 => ?_) <;> simp (maxSteps := 2000000) -implicitDefEqProofs (disch := omega) only [xsW, xsC, if_true, if_false, ite_true, ite_false, forall_const, ne_eq, beq_self_eq_true, bne_self_eq_false, imp_self, true_implies, false_implies, implies_true, evP, evE, ev, setD, Nat.reduceAdd, Nat.reduceSub, reduceCtorEq, fillA, cutA, Nat.reduceLeDiff, Nat.reduceMul, Int.reduceLT, Int.reduceLE, Int.reduceEq, Int.reduceNe, Int.reduceAdd, Int.reduceSub, Int.reduceMul, Int.reduceNeg, Int.reduceToNat,  c2])
      · simp [frcV, hp, ha]; omega
      · simp [frcV, hp, ha]; omega
end
end Go.Proofs.Ytkpibnhddhdooab.L
