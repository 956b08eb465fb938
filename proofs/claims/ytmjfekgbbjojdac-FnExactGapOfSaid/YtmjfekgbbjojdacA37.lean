/- Contracts: GapOf. -/
import Derived.Test.YtmjfekgbbjojdacA33
import Derived.Test.YtmjfekgbbjojdacA35
namespace Go.Proofs.Ytmjfekgbbjojdac.L
open Go
set_option linter.unusedSimpArgs false
set_option linter.unusedVariables false
def c_impl_GapOf_1 : F := ⟨(.seq (.reg false [⟨(some 1), (.box 55 (.t 0)), none⟩, ⟨(some 2), (.mv (.c (.bool false))), none⟩]) (.seq (.reg false [⟨(some 3), (.fa 0 (.t 1)), none⟩, ⟨(some 4), (.ld1 (.t 3)), none⟩, ⟨(some 5), (.call (.f 87) [(.t 4), (.c (.int .i64 1000))]), none⟩, ⟨(some 6), (.un .not (.t 5)), none⟩, ⟨(some 7), (.mv (.t 6)), none⟩, ⟨(some 8), (.fa 1 (.t 1)), (some (7, false))⟩, ⟨(some 9), (.ld1 (.t 8)), (some (7, false))⟩, ⟨(some 10), (.bin .gtr (.t 9) (.c (.int .i64 1000))), (some (7, false))⟩, ⟨(some 11), (.pick (.t 7) (.c (.bool true)) (.t 10)), none⟩, ⟨(some 2), (.mv (.t 11)), none⟩]) .ret)), 12, [(.t 2)]⟩
theorem k_impl_GapOf_1 : compF Try.prog Try.f86 = some c_impl_GapOf_1 := by kernel_rfl
def c_impl_GapOf : F := ⟨(.seq (.reg false [⟨(some 2), (.box 29 (.t 0)), none⟩, ⟨(some 4), (.alloc 55 [(.int .i64 0), (.int .i64 0)]), none⟩, ⟨(some 5), (.mv (.c (.int .i64 0))), none⟩]) (.seq (.seq (.reg false [⟨(some 10), (.ld 2 (.t 2)), none⟩, ⟨(some 11), (.mv (.t 1)), none⟩, ⟨(some 12), (.call (.f 74) [(.t 10), (.t 11)]), none⟩, ⟨(some 6), (.mv (.t 12)), none⟩]) (.seq (.reg false [⟨(some 13), (.mv (.t 6)), none⟩, ⟨(some 14), (.bin .neq (.t 13) (.c (.int .i64 0))), none⟩]) (.cond (.t 14) (.seq (.reg false [⟨(some 15), (.build [(.int .i64 0), (.int .i64 0)] []), none⟩, ⟨(some 16), (.mv (.t 6)), none⟩, ⟨none, (.st 2 (.t 4) (.t 15)), none⟩, ⟨(some 5), (.mv (.t 16)), none⟩]) .ret) .skip))) (.seq (.seq (.reg false [⟨(some 17), (.mv (.t 1)), none⟩, ⟨(some 18), (.call (.f 85) [(.t 17), (.f 86)]), none⟩]) (.cond (.t 18) (.seq (.reg false [⟨(some 19), (.build [(.int .i64 0), (.int .i64 0)] []), none⟩, ⟨none, (.st 2 (.t 4) (.t 19)), none⟩, ⟨(some 5), (.mv (.c (.int .i64 2))), none⟩]) .ret) .skip)) (.seq (.reg false [⟨(some 21), (.mv (.t 1)), none⟩, ⟨(some 22), (.call (.f 75) [(.t 21), (.c (.int .i64 1000)), (.c (.int .i64 1000000000000))]), none⟩, ⟨(some 20), (.mv (.t 22)), none⟩, ⟨(some 23), (.ext (.t 20) 0), none⟩, ⟨(some 24), (.ext (.t 20) 1), none⟩, ⟨(some 25), (.ext (.t 20) 2), none⟩, ⟨(some 7), (.mv (.t 23)), none⟩, ⟨(some 8), (.mv (.t 24)), none⟩, ⟨(some 9), (.mv (.t 25)), none⟩]) (.seq (.seq (.reg false [⟨(some 26), (.mv (.t 9)), none⟩, ⟨(some 27), (.un .not (.t 26)), none⟩]) (.cond (.t 27) (.seq (.reg false [⟨(some 28), (.build [(.int .i64 0), (.int .i64 0)] []), none⟩, ⟨none, (.st 2 (.t 4) (.t 28)), none⟩, ⟨(some 5), (.mv (.c (.int .i64 2))), none⟩]) .ret) .skip)) (.seq (.reg false [⟨(some 29), (.mv (.t 7)), none⟩, ⟨(some 30), (.ld 2 (.t 2)), none⟩, ⟨(some 31), (.mv (.t 7)), none⟩, ⟨(some 32), (.mv (.t 8)), none⟩, ⟨(some 33), (.call (.f 76) [(.t 30), (.t 31), (.t 32)]), none⟩, ⟨(some 34), (.call (.f 89) [(.t 29), (.t 33)]), none⟩, ⟨(some 35), (.mv (.t 8)), none⟩, ⟨(some 36), (.mv (.t 8)), none⟩, ⟨(some 37), (.bin .mul (.t 35) (.t 36)), none⟩, ⟨(some 38), (.call (.f 88) [(.t 34), (.t 37)]), none⟩, ⟨(some 39), (.ext (.t 38) 0), none⟩, ⟨(some 40), (.ext (.t 38) 1), none⟩, ⟨none, (.st 2 (.t 4) (.t 39)), none⟩, ⟨(some 5), (.mv (.t 40)), none⟩]) .ret)))))), 41, [(.ca 4 2), (.t 5)]⟩
theorem k_impl_GapOf : compF Try.prog Try.f39 = some c_impl_GapOf := by kernel_rfl
def c_spec_GapOf : F := ⟨(.seq (.reg false [⟨(some 2), (.box 29 (.t 0)), none⟩, ⟨(some 4), (.alloc 55 [(.int .i64 0), (.int .i64 0)]), none⟩, ⟨(some 5), (.mv (.c (.int .i64 0))), none⟩]) (.seq (.seq (.reg false [⟨(some 17), (.ld 2 (.t 2)), none⟩, ⟨(some 18), (.mv (.t 1)), none⟩, ⟨(some 19), (.call (.f 70) [(.t 17), (.t 18)]), none⟩, ⟨(some 6), (.mv (.t 19)), none⟩]) (.seq (.reg false [⟨(some 20), (.mv (.t 6)), none⟩, ⟨(some 21), (.bin .neq (.t 20) (.c (.int .i64 0))), none⟩]) (.cond (.t 21) (.seq (.reg false [⟨(some 22), (.build [(.int .i64 0), (.int .i64 0)] []), none⟩, ⟨(some 23), (.mv (.t 6)), none⟩, ⟨none, (.st 2 (.t 4) (.t 22)), none⟩, ⟨(some 5), (.mv (.t 23)), none⟩]) .ret) .skip))) (.seq (.seq (.reg false [⟨(some 7), (.mv (.c (.int .i64 0))), none⟩]) (.block 0 (.loop (.seq (.seq (.reg false [⟨(some 24), (.mv (.t 7)), none⟩, ⟨(some 25), (.mv (.t 1)), none⟩, ⟨(some 26), (.len (.t 25)), none⟩, ⟨(some 27), (.bin .lss (.t 24) (.t 26)), none⟩]) (.cond (.t 27) .skip (.exit 0))) (.seq (.block 1 (.seq (.reg false [⟨(some 30), (.mv (.t 1)), none⟩, ⟨(some 31), (.mv (.t 7)), none⟩, ⟨(some 32), (.ia 2 (.t 30) (.t 31)), none⟩, ⟨(some 33), (.fa 0 (.t 32)), none⟩, ⟨(some 34), (.ld1 (.t 33)), none⟩, ⟨(some 35), (.call (.f 81) [(.t 34), (.c (.int .i64 (-1000))), (.c (.int .i64 1000))]), none⟩, ⟨(some 36), (.un .not (.t 35)), none⟩, ⟨(some 37), (.mv (.t 36)), none⟩, ⟨(some 38), (.mv (.t 1)), (some (37, false))⟩, ⟨(some 39), (.mv (.t 7)), (some (37, false))⟩, ⟨(some 40), (.ia 2 (.t 38) (.t 39)), (some (37, false))⟩, ⟨(some 41), (.fa 1 (.t 40)), (some (37, false))⟩, ⟨(some 42), (.ld1 (.t 41)), (some (37, false))⟩, ⟨(some 43), (.bin .gtr (.t 42) (.c (.int .i64 1000))), (some (37, false))⟩, ⟨(some 44), (.pick (.t 37) (.c (.bool true)) (.t 43)), none⟩]) (.cond (.t 44) (.seq (.reg false [⟨(some 45), (.build [(.int .i64 0), (.int .i64 0)] []), none⟩, ⟨none, (.st 2 (.t 4) (.t 45)), none⟩, ⟨(some 5), (.mv (.c (.int .i64 2))), none⟩]) .ret) .skip))) (.reg false [⟨(some 28), (.mv (.t 7)), none⟩, ⟨(some 29), (.bin .add (.t 28) (.c (.int .i64 1))), none⟩, ⟨(some 7), (.mv (.t 29)), none⟩])))))) (.seq (.reg false [⟨(some 47), (.mv (.t 1)), none⟩, ⟨(some 48), (.call (.f 71) [(.t 47)]), none⟩, ⟨(some 46), (.mv (.t 48)), none⟩, ⟨(some 49), (.ext (.t 46) 0), none⟩, ⟨(some 50), (.ext (.t 46) 1), none⟩, ⟨(some 51), (.ext (.t 46) 2), none⟩, ⟨(some 8), (.mv (.t 49)), none⟩, ⟨(some 9), (.mv (.t 50)), none⟩, ⟨(some 10), (.mv (.t 51)), none⟩]) (.seq (.seq (.reg false [⟨(some 52), (.mv (.t 10)), none⟩, ⟨(some 53), (.un .not (.t 52)), none⟩, ⟨(some 54), (.mv (.t 53)), none⟩, ⟨(some 55), (.mv (.t 9)), (some (54, false))⟩, ⟨(some 56), (.bin .gtr (.t 55) (.c (.int .i64 1000))), (some (54, false))⟩, ⟨(some 57), (.pick (.t 54) (.c (.bool true)) (.t 56)), none⟩]) (.cond (.t 57) (.seq (.reg false [⟨(some 58), (.build [(.int .i64 0), (.int .i64 0)] []), none⟩, ⟨none, (.st 2 (.t 4) (.t 58)), none⟩, ⟨(some 5), (.mv (.c (.int .i64 2))), none⟩]) .ret) .skip)) (.seq (.reg false [⟨(some 59), (.ld 2 (.t 2)), none⟩, ⟨(some 60), (.mv (.t 8)), none⟩, ⟨(some 61), (.mv (.t 9)), none⟩, ⟨(some 62), (.call (.f 82) [(.t 59), (.t 60), (.t 61)]), none⟩, ⟨(some 11), (.mv (.t 62)), none⟩, ⟨(some 12), (.mv (.c (.int .i64 0))), none⟩]) (.seq (.seq (.reg false [⟨(some 13), (.mv (.c (.int .i64 0))), none⟩]) (.block 2 (.loop (.seq (.seq (.reg false [⟨(some 63), (.mv (.t 13)), none⟩, ⟨(some 64), (.mv (.t 8)), none⟩, ⟨(some 65), (.len (.t 64)), none⟩, ⟨(some 66), (.bin .lss (.t 63) (.t 65)), none⟩]) (.cond (.t 66) .skip (.exit 2))) (.seq (.block 3 (.reg true [⟨(some 69), (.mv (.t 12)), none⟩, ⟨(some 70), (.mv (.t 8)), none⟩, ⟨(some 71), (.mv (.t 13)), none⟩, ⟨(some 72), (.ia 1 (.t 70) (.t 71)), none⟩, ⟨(some 73), (.ld1 (.t 72)), none⟩, ⟨(some 74), (.mv (.t 11)), none⟩, ⟨(some 75), (.mv (.t 13)), none⟩, ⟨(some 76), (.ia 1 (.t 74) (.t 75)), none⟩, ⟨(some 77), (.ld1 (.t 76)), none⟩, ⟨(some 78), (.bin .mul (.t 73) (.t 77)), none⟩, ⟨(some 79), (.bin .add (.t 69) (.t 78)), none⟩, ⟨(some 12), (.mv (.t 79)), none⟩])) (.reg false [⟨(some 67), (.mv (.t 13)), none⟩, ⟨(some 68), (.bin .add (.t 67) (.c (.int .i64 1))), none⟩, ⟨(some 13), (.mv (.t 68)), none⟩])))))) (.seq (.reg false [⟨(some 80), (.mv (.t 12)), none⟩, ⟨(some 81), (.mv (.t 9)), none⟩, ⟨(some 82), (.mv (.t 9)), none⟩, ⟨(some 83), (.bin .mul (.t 81) (.t 82)), none⟩, ⟨(some 84), (.call (.f 83) [(.t 80), (.t 83)]), none⟩, ⟨(some 14), (.alloc 55 [(.int .i64 0), (.int .i64 0)]), none⟩, ⟨none, (.st 2 (.t 14) (.t 84)), none⟩]) (.seq (.seq (.reg false [⟨(some 86), (.ld 2 (.t 14)), none⟩, ⟨(some 87), (.lit 55 2 1 [(.int .i64 0), (.int .i64 0)] [(0, (.t 86))]), none⟩, ⟨(some 88), (.call (.f 84) [(.t 87)]), none⟩, ⟨(some 85), (.mv (.t 88)), none⟩, ⟨(some 89), (.ext (.t 85) 0), none⟩, ⟨(some 90), (.ext (.t 85) 1), none⟩, ⟨(some 15), (.mv (.t 89)), none⟩, ⟨(some 16), (.mv (.t 90)), none⟩]) (.seq (.reg false [⟨(some 91), (.mv (.t 16)), none⟩, ⟨(some 92), (.bin .neq (.t 91) (.c (.int .i64 0))), none⟩]) (.cond (.t 92) (.seq (.reg false [⟨(some 93), (.build [(.int .i64 0), (.int .i64 0)] []), none⟩, ⟨(some 94), (.mv (.t 16)), none⟩, ⟨none, (.st 2 (.t 4) (.t 93)), none⟩, ⟨(some 5), (.mv (.t 94)), none⟩]) .ret) .skip))) (.seq (.reg false [⟨(some 95), (.ld 2 (.t 14)), none⟩, ⟨none, (.st 2 (.t 4) (.t 95)), none⟩, ⟨(some 5), (.mv (.c (.int .i64 0))), none⟩]) .ret)))))))))), 96, [(.ca 4 2), (.t 5)]⟩
theorem k_spec_GapOf : compF Try.prog Try.f38 = some c_spec_GapOf := by kernel_rfl
def c_laws_FnExactGapOf : F := ⟨(.seq (.reg false [⟨(some 2), (.box 25 (.t 0)), none⟩, ⟨(some 4), (.mv (.c (.bool false))), none⟩]) (.seq (.reg false [⟨(some 5), (.mv (.c (.int .i64 1048576))), none⟩]) (.seq (.reg false [⟨(some 12), (.ld 2 (.t 2)), none⟩, ⟨(some 13), (.mv (.t 5)), none⟩, ⟨(some 14), (.call (.f 15) [(.t 12), (.t 13)]), none⟩, ⟨(some 5), (.mv (.t 14)), none⟩]) (.seq (.seq (.reg false [⟨(some 15), (.mv (.t 5)), none⟩, ⟨(some 16), (.bin .lss (.t 15) (.c (.int .i64 0))), none⟩]) (.cond (.t 16) (.seq (.reg false [⟨(some 4), (.mv (.c (.bool true))), none⟩]) .ret) .skip)) (.seq (.reg false [⟨(some 17), (.mv (.t 1)), none⟩, ⟨(some 18), (.mv (.t 5)), none⟩, ⟨(some 19), (.call (.f 28) [(.t 17), (.t 18)]), none⟩, ⟨(some 5), (.mv (.t 19)), none⟩]) (.seq (.seq (.reg false [⟨(some 20), (.mv (.t 5)), none⟩, ⟨(some 21), (.bin .lss (.t 20) (.c (.int .i64 0))), none⟩]) (.cond (.t 21) (.seq (.reg false [⟨(some 4), (.mv (.c (.bool true))), none⟩]) .ret) .skip)) (.seq (.reg false [⟨(some 23), (.ld 2 (.t 2)), none⟩, ⟨(some 24), (.call (.f 17) [(.t 23)]), none⟩, ⟨(some 25), (.mv (.t 1)), none⟩, ⟨(some 26), (.call (.f 30) [(.t 25)]), none⟩, ⟨(some 27), (.call (.f 38) [(.t 24), (.t 26)]), none⟩, ⟨(some 22), (.mv (.t 27)), none⟩, ⟨(some 28), (.ext (.t 22) 0), none⟩, ⟨(some 29), (.ext (.t 22) 1), none⟩, ⟨(some 6), (.alloc 55 [(.int .i64 0), (.int .i64 0)]), none⟩, ⟨none, (.st 2 (.t 6) (.t 28)), none⟩, ⟨(some 7), (.mv (.t 29)), none⟩]) (.seq (.reg false [⟨(some 30), (.ld 2 (.t 2)), none⟩, ⟨(some 31), (.call (.f 17) [(.t 30)]), none⟩, ⟨(some 8), (.alloc 29 [.nilsl, .nilsl]), none⟩, ⟨none, (.st 2 (.t 8) (.t 31)), none⟩]) (.seq (.reg false [⟨(some 32), (.mv (.t 1)), none⟩, ⟨(some 33), (.call (.f 30) [(.t 32)]), none⟩, ⟨(some 9), (.mv (.t 33)), none⟩]) (.seq (.reg false [⟨(some 35), (.ld 2 (.t 8)), none⟩, ⟨(some 36), (.mv (.t 9)), none⟩, ⟨(some 37), (.call (.f 39) [(.t 35), (.t 36)]), none⟩, ⟨(some 34), (.mv (.t 37)), none⟩, ⟨(some 38), (.ext (.t 34) 0), none⟩, ⟨(some 39), (.ext (.t 34) 1), none⟩, ⟨(some 10), (.alloc 55 [(.int .i64 0), (.int .i64 0)]), none⟩, ⟨none, (.st 2 (.t 10) (.t 38)), none⟩, ⟨(some 11), (.mv (.t 39)), none⟩]) (.seq (.seq (.reg false [⟨(some 40), (.ld 2 (.t 10)), none⟩, ⟨(some 41), (.ld 2 (.t 6)), none⟩, ⟨(some 42), (.call (.f 40) [(.t 40), (.t 41)]), none⟩, ⟨(some 43), (.un .not (.t 42)), none⟩, ⟨(some 44), (.mv (.t 43)), none⟩, ⟨(some 45), (.mv (.t 11)), (some (44, false))⟩, ⟨(some 46), (.mv (.t 7)), (some (44, false))⟩, ⟨(some 47), (.bin .neq (.t 45) (.t 46)), (some (44, false))⟩, ⟨(some 48), (.pick (.t 44) (.c (.bool true)) (.t 47)), none⟩]) (.cond (.t 48) (.seq (.reg false [⟨(some 4), (.mv (.c (.bool false))), none⟩]) .ret) .skip)) (.seq (.seq (.reg true [⟨(some 49), (.ld 2 (.t 8)), none⟩, ⟨(some 50), (.ld 2 (.t 2)), none⟩, ⟨(some 51), (.call (.f 17) [(.t 50)]), none⟩, ⟨(some 52), (.call (.f 20) [(.t 49), (.t 51)]), none⟩, ⟨(some 53), (.un .not (.t 52)), none⟩]) (.cond (.t 53) (.seq (.reg false [⟨(some 4), (.mv (.c (.bool false))), none⟩]) .ret) .skip)) (.seq (.seq (.reg false [⟨(some 54), (.mv (.t 9)), none⟩, ⟨(some 55), (.mv (.t 1)), none⟩, ⟨(some 56), (.call (.f 30) [(.t 55)]), none⟩, ⟨(some 57), (.call (.f 32) [(.t 54), (.t 56)]), none⟩, ⟨(some 58), (.un .not (.t 57)), none⟩]) (.cond (.t 58) (.seq (.reg false [⟨(some 4), (.mv (.c (.bool false))), none⟩]) .ret) .skip)) (.seq (.reg false [⟨(some 4), (.mv (.c (.bool true))), none⟩]) .ret)))))))))))))), 59, [(.t 4)]⟩
theorem k_laws_FnExactGapOf : compF Try.prog Try.f8 = some c_laws_FnExactGapOf := by kernel_rfl

def smT (p : Int × Int) : Bool := decide ((-1000 ≤ p.1 ∧ p.1 ≤ 1000) ∧ p.2 ≤ 1000)
def smB (f : List (Int × Int)) : Bool := (List.range f.length).all fun k => smT (f.getD k (0, 0))
theorem smB_iff (f : List (Int × Int)) : smB f = true ↔ ∀ k, k < f.length → (-1000 ≤ (f.getD k (0, 0)).1 ∧ (f.getD k (0, 0)).1 ≤ 1000) ∧ (f.getD k (0, 0)).2 ≤ 1000 := by simp only [smB, smT, List.all_eq_true, List.mem_range, decide_eq_true_eq]
def gapT (ll : List (List Int)) (q : List Int) (f : List (Int × Int)) (k : Nat) : Int := (cmnN f).getD k 0 * (remL ll q (cmnN f) (cmnD f)).getD k 0
def gapS (ll : List (List Int)) (q : List Int) (f : List (Int × Int)) : Int := sumTo ll.length (gapT ll q f)
def gapR (ll : List (List Int)) (q : List Int) (f : List (Int × Int)) : Int × Int := red (gapS ll q f) (cmnD f * cmnD f)
def gapV (ll : List (List Int)) (q : List Int) (f : List (Int × Int)) : (Int × Int) × Int :=
  if frcV ll q f = 0 then (if smB f = true ∧ okM 1000 f = true then (if isFr 1000000000 (gapR ll q f).1 (gapR ll q f).2 = true then (gapR ll q f, 0) else ((0, 0), 3)) else ((0, 0), 2)) else ((0, 0), frcV ll q f)
theorem dkF_mono {f : List (Int × Int)} (hf : allFr f = true) {k : Nat} (hk : k < f.length) : dkF f k ≤ dkF f (k + 1) := by
  have h1 := dkF_pos hf k (by omega)
  have h2 := (allFr_get hf (k := k) hk).2
  have hg : 0 < (Int.gcd (dkF f k) (f.getD k (0, 0)).2 : Int) := by have := Int.gcd_pos_of_ne_zero_right (dkF f k) (show (f.getD k (0, 0)).2 ≠ 0 by omega); omega
  obtain ⟨c, hc⟩ := Int.gcd_dvd_left (dkF f k) (f.getD k (0, 0)).2
  have h3 : (dkF f k).tdiv (Int.gcd (dkF f k) (f.getD k (0, 0)).2 : Int) = c := by
    conv => lhs; arg 1; rw [hc]
    exact Int.mul_tdiv_cancel_left _ (by omega)
  have hc0 : 0 ≤ c := by
    rcases Int.lt_or_le c 0 with h | h
    · have := Int.mul_le_mul_of_nonneg_left (show c ≤ 0 by omega) (show 0 ≤ (Int.gcd (dkF f k) (f.getD k (0, 0)).2 : Int) by omega)
      rw [Int.mul_zero] at this; omega
    · exact h
  have h4 : (Int.gcd (dkF f k) (f.getD k (0, 0)).2 : Int) ≤ (f.getD k (0, 0)).2 := Int.le_of_dvd (by omega) (Int.gcd_dvd_right ..)
  simp only [dkF, h3]
  calc dkF f k = (Int.gcd (dkF f k) (f.getD k (0, 0)).2 : Int) * c := hc
    _ ≤ (f.getD k (0, 0)).2 * c := Int.mul_le_mul_of_nonneg_right h4 hc0
    _ = c * (f.getD k (0, 0)).2 := Int.mul_comm _ _
theorem dkF_le {f : List (Int × Int)} (hf : allFr f = true) {k : Nat} (hk : k ≤ f.length) : dkF f k ≤ cmnD f := by
  obtain ⟨j, hj⟩ := Nat.le.dest hk
  unfold cmnD
  rw [← hj]
  have : ∀ j, k + j ≤ f.length → dkF f k ≤ dkF f (k + j) := by
    intro j
    induction j with
    | zero => intro _; exact Int.le_refl _
    | succ j ih => intro h; exact Int.le_trans (ih (by omega)) (dkF_mono hf (by omega))
  exact this j (by omega)
theorem okM_last {f : List (Int × Int)} (hf : allFr f = true) (B : Int) (hB : 1 ≤ B) : okM B f = true ↔ cmnD f ≤ B := by
  rw [okM_iff]
  constructor
  · intro h
    unfold cmnD
    rcases Nat.eq_zero_or_pos f.length with h0 | h0
    · rw [h0]; simpa [dkF] using hB
    · have := h (f.length - 1) (by omega)
      rwa [show f.length - 1 + 1 = f.length by omega] at this
  · intro h k hk
    exact Int.le_trans (dkF_le hf (by omega)) h
theorem cmnX_sm {f : List (Int × Int)} (hf : allFr f = true) (hs : smB f = true) (hd : cmnD f ≤ 1000) {k : Nat} (hk : k < f.length) : -1000000 ≤ cmnX f k ∧ cmnX f k ≤ 1000000 := by
  have h1 := (smB_iff f).1 hs k hk
  have h2 := dkF_pos hf _ (Nat.le_refl _)
  have h2' : 1 ≤ cmnD f := h2
  have h3 := (allFr_get hf hk).2
  have h4 := tdiv_b (a := cmnD f) (b := (f.getD k (0, 0)).2) (by omega) (by omega)
  exact mul_bound (A := 1000) (B := 1000) h1.1 (by omega)
theorem gap_facts {ll : List (List Int)} {q : List Int} {f : List (Int × Int)} (hz : frcV ll q f = 0) (hs : smB f = true) (hM : okM 1000 f = true) :
    cmnM 1000 f = true ∧ cmnB f = true ∧ 1 ≤ cmnD f ∧ cmnD f ≤ 1000 ∧ ∀ k, k < ll.length → -1000000000000000 ≤ gapT ll q f k ∧ gapT ll q f k ≤ 1000000000000000 := by
  obtain ⟨hp, ha, hl⟩ := frcV_zero hz
  have hd := (okM_last ha 1000 (by omega)).1 hM
  have hN : okN f = true := (okN_iff f).2 fun k hk => by have := cmnX_sm ha hs hd hk; omega
  have hB : cmnB f = true := by
    simp only [cmnB, Bool.and_eq_true]
    exact ⟨(okD_iff f).2 fun k hk => by have := (okM_iff 1000 f).1 hM k hk; omega, hN⟩
  have hpos : 1 ≤ cmnD f := dkF_pos ha _ (Nat.le_refl _)
  refine ⟨by simp only [cmnM, hM, hN, Bool.and_self], hB, hpos, hd, fun k hk => ?_⟩
  obtain ⟨e1, e2, e3, e4⟩ := cmn_facts hz hB
  have h1 := cmnX_sm ha hs hd (k := k) (by omega)
  have h2 : (cmnN f).getD k 0 = cmnX f k := rowOf_get (by omega)
  have h3 : -1000000000 ≤ (remL ll q (cmnN f) (cmnD f)).getD k 0 ∧ (remL ll q (cmnN f) (cmnD f)).getD k 0 ≤ 1000000000 := by
    rw [remL, rowOf_get hk]
    obtain ⟨hm, hq, hw⟩ := isProb_facts hp
    have hN5 := ((isMat_iff ll).1 hm).2.1
    have b1 : -100000 ≤ q.getD k 0 * cmnD f ∧ q.getD k 0 * cmnD f ≤ 100000 := mul_bound (A := 100) (B := 1000) ((within_iff _ _).1 hw k (by omega)) (by omega)
    have b2 : -100000000 ≤ sumTo ll.length (remT ll (cmnN f) k) ∧ sumTo ll.length (remT ll (cmnN f) k) ≤ 100000000 :=
      sumTo_small (n := ll.length) (B := 20000000) (fun j hj => by
        have g1 := ((isMat_iff ll).1 hm).2.2 k hk
        rw [within_iff] at g1
        have g2 := cmnX_sm ha hs hd (k := j) (by omega)
        have g3 : (cmnN f).getD j 0 = cmnX f j := rowOf_get (by omega)
        unfold remT
        rw [g3]
        exact mul_bound (A := 20) (B := 1000000) (g1.2 j (by rw [g1.1]; exact hj)) g2) (Nat.le_refl _) (by omega) (by omega)
    unfold remX; omega
  unfold gapT
  rw [h2]
  exact mul_bound (A := 1000000) (B := 1000000000) h1 h3
theorem red_nb {x d : Int} (hd : d ≠ 0) : (red x d).1.natAbs ≤ x.natAbs ∧ (red x d).2.natAbs ≤ d.natAbs := by
  simp only [red]
  constructor
  · have h2 : (Int.gcd x d : Int) ∣ x * d.sign := Int.dvd_trans (Int.gcd_dvd_left ..) (Int.dvd_mul_right ..)
    rw [← Int.tdiv_eq_ediv_of_dvd h2]
    refine Nat.le_trans (Int.natAbs_tdiv_le_natAbs _ _) ?_
    rw [Int.natAbs_mul, Int.natAbs_sign_of_ne_zero hd, Nat.mul_one]
    exact Nat.le_refl _
  · rw [← Int.natCast_ediv, Int.natAbs_natCast]
    exact Nat.div_le_self _ _
section
variable {w w' : Bool} {lo hi lo' hi' : Nat} {h : AH} {v u v' : AV} {vs : List AV} {ll : List (List Int)} {q xs : List Int} {f : List (Int × Int)}
theorem impl_GapOf_1 (p : Int × Int) (h : AH) (n : Nat) : Q Try.prog 86 [frA p] h n (.bool (!smT p)) := by
  refine q_intro Try.func86 k_impl_GapOf_1 ?_
  simp (maxSteps := 2000000) -implicitDefEqProofs (disch := omega) only [c_impl_GapOf_1, frA, xsW, xsC, if_true, if_false, ite_true, ite_false, forall_const, ne_eq, beq_self_eq_true, bne_self_eq_false, imp_self, true_implies, false_implies, implies_true, evP, evE, ev, setD, Nat.reduceAdd, Nat.reduceSub, reduceCtorEq, fillA, cutA, Nat.reduceLeDiff, Nat.reduceMul, Int.reduceLT, Int.reduceLE, Int.reduceEq, Int.reduceNe, Int.reduceAdd, Int.reduceSub, Int.reduceMul, Int.reduceNeg, Int.reduceToNat]
  refine q_use (impl_upTo _ _ (by unfold in64; omega) _ _) fun n1 hn1 => ?_
  simp (maxSteps := 2000000) -implicitDefEqProofs (disch := omega) only [xsW, xsC, if_true, if_false, ite_true, ite_false, forall_const, ne_eq, beq_self_eq_true, bne_self_eq_false, imp_self, true_implies, false_implies, implies_true, evP, evE, ev, setD, Nat.reduceAdd, Nat.reduceSub, reduceCtorEq, fillA, cutA, Nat.reduceLeDiff, Nat.reduceMul, Int.reduceLT, Int.reduceLE, Int.reduceEq, Int.reduceNe, Int.reduceAdd, Int.reduceSub, Int.reduceMul, Int.reduceNeg, Int.reduceToNat]
  (refine gd_dec (fun c1 => ?_) (fun c1 => ?_) <;> simp (maxSteps := 2000000) -implicitDefEqProofs (disch := omega) only [xsW, xsC, if_true, if_false, ite_true, ite_false, forall_const, ne_eq, beq_self_eq_true, bne_self_eq_false, imp_self, true_implies, false_implies, implies_true, evP, evE, ev, setD, Nat.reduceAdd, Nat.reduceSub, reduceCtorEq, fillA, cutA, Nat.reduceLeDiff, Nat.reduceMul, Int.reduceLT, Int.reduceLE, Int.reduceEq, Int.reduceNe, Int.reduceAdd, Int.reduceSub, Int.reduceMul, Int.reduceNeg, Int.reduceToNat,  c1])
  · have : smT p = false := decide_eq_false (by omega)
    simp [this]
  · by_cases hp : p.2 ≤ 1000
    · have : smT p = true := decide_eq_true ⟨by omega, hp⟩
      simp [this]; omega
    · have : smT p = false := decide_eq_false (by omega)
      simp [this]; omega
theorem impl_GapOf (s : Prob w lo hi h v u vs ll q) (hl : ll.length ≤ 1048576) (hll : ∀ l ∈ ll, l.length ≤ 1048576) (hq : q.length ≤ 1048576) (sf : Fracs w' lo' hi' h v' f) (hf : f.length ≤ 1048576) (n : Nat) (hn : hi ≤ n) (hn' : hi' ≤ n) :
    Q Try.prog 39 [.agg [v, u], v'] h n (.tup [fr (gapV ll q f).1.1 (gapV ll q f).1.2, .int .i64 (gapV ll q f).2]) := by
  refine q_intro Try.func39 k_impl_GapOf ?_
  have o1 := one_any (Sl.any s.M.out)
  have o2 := one_any (Sl.any s.Q)
  simp (maxSteps := 2000000) -implicitDefEqProofs (disch := omega) only [c_impl_GapOf, o1, o2, xsW, xsC, if_true, if_false, ite_true, ite_false, forall_const, ne_eq, beq_self_eq_true, bne_self_eq_false, imp_self, true_implies, false_implies, implies_true, evP, evE, ev, setD, Nat.reduceAdd, Nat.reduceSub, reduceCtorEq, fillA, cutA, Nat.reduceLeDiff, Nat.reduceMul, Int.reduceLT, Int.reduceLE, Int.reduceEq, Int.reduceNe, Int.reduceAdd, Int.reduceSub, Int.reduceMul, Int.reduceNeg, Int.reduceToNat]
  refine q_use (impl_fracsCode (s.keep (fun i _ hi9 => by simp (disch := omega) only [upd_other])) hl hll hq (Fracs.keep sf (fun i _ hi9 => by simp (disch := omega) only [upd_other])) hf _ (by omega) (by omega)) fun n1 hn1 => ?_
  simp (maxSteps := 2000000) -implicitDefEqProofs (disch := omega) only [xsW, xsC, if_true, if_false, ite_true, ite_false, forall_const, ne_eq, beq_self_eq_true, bne_self_eq_false, imp_self, true_implies, false_implies, implies_true, evP, evE, ev, setD, Nat.reduceAdd, Nat.reduceSub, reduceCtorEq, fillA, cutA, Nat.reduceLeDiff, Nat.reduceMul, Int.reduceLT, Int.reduceLE, Int.reduceEq, Int.reduceNe, Int.reduceAdd, Int.reduceSub, Int.reduceMul, Int.reduceNeg, Int.reduceToNat]
  (refine cd_dec (fun c1 => ?_) (fun c1 => ?_) <;> simp (maxSteps := 2000000) -implicitDefEqProofs (disch := omega) only [xsW, xsC, if_true, if_false, ite_true, ite_false, forall_const, ne_eq, beq_self_eq_true, bne_self_eq_false, imp_self, true_implies, false_implies, implies_true, evP, evE, ev, setD, Nat.reduceAdd, Nat.reduceSub, reduceCtorEq, fillA, cutA, Nat.reduceLeDiff, Nat.reduceMul, Int.reduceLT, Int.reduceLE, Int.reduceEq, Int.reduceNe, Int.reduceAdd, Int.reduceSub, Int.reduceMul, Int.reduceNeg, Int.reduceToNat,  c1])
  · simp [gapV, c1, fr]
  · have c2 : frcV ll q f = 0 := Decidable.not_not.1 c1
    obtain ⟨hp, ha, hfl⟩ := frcV_zero c2
    have hN := ((isMat_iff ll).1 (isProb_facts hp).1).2.1
    have hsl := Fracs.slen sf
    have hany : ((List.range (slen v')).any fun k => !smT (f.getD k (0, 0))) = !smB f := by
      rw [hsl, Bool.eq_iff_iff]
      simp [smB]
    refine q_use (has_fracs (Fracs.keep (h' := upd (upd h n (some ⟨29, [v, u], true, 0⟩)) (n + 1) (some ⟨55, [.int .i64 0, .int .i64 0], true, 0⟩)) sf (fun i _ hi9 => by simp (disch := omega) only [upd_other])) (by omega) _ _ (fun k => !smT (f.getD k (0, 0))) _ fun k n' hk _ => ?_) fun n2 hn2 => ?_
    · rw [fracs_cut f k (by omega)]; exact impl_GapOf_1 _ _ _
    rw [hany]
    cases hs : smB f
    · simp (maxSteps := 2000000) -implicitDefEqProofs (disch := omega) only [xsW, xsC, if_true, if_false, ite_true, ite_false, forall_const, ne_eq, beq_self_eq_true, bne_self_eq_false, imp_self, true_implies, false_implies, implies_true, evP, evE, ev, setD, Nat.reduceAdd, Nat.reduceSub, reduceCtorEq, fillA, cutA, Nat.reduceLeDiff, Nat.reduceMul, Int.reduceLT, Int.reduceLE, Int.reduceEq, Int.reduceNe, Int.reduceAdd, Int.reduceSub, Int.reduceMul, Int.reduceNeg, Int.reduceToNat]
      simp [gapV, c2, hs, fr]
    · simp (maxSteps := 2000000) -implicitDefEqProofs (disch := omega) only [xsW, xsC, if_true, if_false, ite_true, ite_false, forall_const, ne_eq, beq_self_eq_true, bne_self_eq_false, imp_self, true_implies, false_implies, implies_true, evP, evE, ev, setD, Nat.reduceAdd, Nat.reduceSub, reduceCtorEq, fillA, cutA, Nat.reduceLeDiff, Nat.reduceMul, Int.reduceLT, Int.reduceLE, Int.reduceEq, Int.reduceNe, Int.reduceAdd, Int.reduceSub, Int.reduceMul, Int.reduceNeg, Int.reduceToNat]
      refine fq_use (impl_togetherB 1000 (by omega) (by omega) (Fracs.keep (h' := upd (upd h n (some ⟨29, [v, u], true, 0⟩)) (n + 1) (some ⟨55, [.int .i64 0, .int .i64 0], true, 0⟩)) sf (fun i _ hi9 => by simp (disch := omega) only [upd_other])) hf ha n2 (by omega)) fun x1 h1 n3 hn3 hs1 hx1 => ?_
      have hb2 : h1 (n + 1) = some ⟨55, [.int .i64 0, .int .i64 0], true, 0⟩ := by rw [hs1 (n + 1) (by omega), upd_same]
      rcases hx1 with ⟨d1, rfl⟩ | ⟨d1, v1, rfl, hv1⟩
      · have hM : okM 1000 f = false := by
          cases hM : okM 1000 f
          · rfl
          · rw [(gap_facts c2 hs hM).1] at d1; cases d1
        simp (maxSteps := 2000000) -implicitDefEqProofs (disch := omega) only [xsW, xsC, if_true, if_false, ite_true, ite_false, forall_const, ne_eq, beq_self_eq_true, bne_self_eq_false, imp_self, true_implies, false_implies, implies_true, evP, evE, ev, setD, Nat.reduceAdd, Nat.reduceSub, reduceCtorEq, fillA, cutA, Nat.reduceLeDiff, Nat.reduceMul, Int.reduceLT, Int.reduceLE, Int.reduceEq, Int.reduceNe, Int.reduceAdd, Int.reduceSub, Int.reduceMul, Int.reduceNeg, Int.reduceToNat,  hb2]
        simp [gapV, c2, hM, fr]
      · have hM : okM 1000 f = true := by simp only [cmnM, Bool.and_eq_true] at d1; exact d1.1
        obtain ⟨_, g1, g2, g3, g4⟩ := gap_facts c2 hs hM
        obtain ⟨e1, e2, _, _⟩ := cmn_facts c2 g1
        have hrl := remL_len ll q (cmnN f) (cmnD f)
        have hbox : h1 n = some ⟨29, [v, u], true, 0⟩ := by rw [hs1 n (by omega), upd_other (by omega), upd_same]
        have gs := sumTo_small (n := ll.length) (k := ll.length) (B := 1000000000000000) (C := 5000000000000000) g4 (Nat.le_refl _) (by omega) (by omega)
        have gd := mul_nn (show 0 ≤ cmnD f by omega) g3 (show 0 ≤ cmnD f by omega) g3
        have gd1 := Int.mul_pos (show 0 < cmnD f by omega) (show 0 < cmnD f by omega)
        simp (maxSteps := 2000000) -implicitDefEqProofs (disch := omega) only [xsW, xsC, if_true, if_false, ite_true, ite_false, forall_const, ne_eq, beq_self_eq_true, bne_self_eq_false, imp_self, true_implies, false_implies, implies_true, evP, evE, ev, setD, Nat.reduceAdd, Nat.reduceSub, reduceCtorEq, fillA, cutA, Nat.reduceLeDiff, Nat.reduceMul, Int.reduceLT, Int.reduceLE, Int.reduceEq, Int.reduceNe, Int.reduceAdd, Int.reduceSub, Int.reduceMul, Int.reduceNeg, Int.reduceToNat,  hbox]
        refine fq_use (impl_rest (s.keep (h' := h1) (fun i _ hi9 => by simp (disch := omega) only [upd_other, hs1])) hp hv1 e1 e2 (cmnD f) (by omega) n3 (by omega) (by omega)) fun v2 h2 n4 hn4 hs2 hv2 => ?_
        have hb3 : h2 (n + 1) = some ⟨55, [.int .i64 0, .int .i64 0], true, 0⟩ := by rw [hs2 (n + 1) (by omega), hb2]
        simp (maxSteps := 2000000) -implicitDefEqProofs (disch := omega) only [xsW, xsC, if_true, if_false, ite_true, ite_false, forall_const, ne_eq, beq_self_eq_true, bne_self_eq_false, imp_self, true_implies, false_implies, implies_true, evP, evE, ev, setD, Nat.reduceAdd, Nat.reduceSub, reduceCtorEq, fillA, cutA, Nat.reduceLeDiff, Nat.reduceMul, Int.reduceLT, Int.reduceLE, Int.reduceEq, Int.reduceNe, Int.reduceAdd, Int.reduceSub, Int.reduceMul, Int.reduceNeg, Int.reduceToNat]
        refine q_use (impl_sum (hv1.keep (fun i _ hi9 => by simp (disch := omega) only [upd_other, hs2])) hv2 (by omega) 1000000000000000 (by omega) (by omega) (by omega) (fun i hi => g4 i (by omega)) n4) fun n5 hn5 => ?_
        have e5 : (sumTo (cmnN f).length fun i => (cmnN f).getD i 0 * (remL ll q (cmnN f) (cmnD f)).getD i 0) = gapS ll q f := by rw [e1]; rfl
        have gs' : -5000000000000000 ≤ gapS ll q f ∧ gapS ll q f ≤ 5000000000000000 := gs
        rw [e5]
        simp (maxSteps := 2000000) -implicitDefEqProofs (disch := omega) only [xsW, xsC, if_true, if_false, ite_true, ite_false, forall_const, ne_eq, beq_self_eq_true, bne_self_eq_false, imp_self, true_implies, false_implies, implies_true, evP, evE, ev, setD, Nat.reduceAdd, Nat.reduceSub, reduceCtorEq, fillA, cutA, Nat.reduceLeDiff, Nat.reduceMul, Int.reduceLT, Int.reduceLE, Int.reduceEq, Int.reduceNe, Int.reduceAdd, Int.reduceSub, Int.reduceMul, Int.reduceNeg, Int.reduceToNat]
        refine q_use (impl_reduced _ _ (by unfold in64; omega) (by unfold in64; omega) (by omega) _ _) fun n6 hn6 => ?_
        have er : red (gapS ll q f) (cmnD f * cmnD f) = gapR ll q f := rfl
        rw [er]
        cases hff : isFr 1000000000 (gapR ll q f).1 (gapR ll q f).2
        · rw [if_neg (show ¬ (false = true) by simp)]
          simp (maxSteps := 2000000) -implicitDefEqProofs (disch := omega) only [xsW, xsC, if_true, if_false, ite_true, ite_false, forall_const, ne_eq, beq_self_eq_true, bne_self_eq_false, imp_self, true_implies, false_implies, implies_true, evP, evE, ev, setD, Nat.reduceAdd, Nat.reduceSub, reduceCtorEq, fillA, cutA, Nat.reduceLeDiff, Nat.reduceMul, Int.reduceLT, Int.reduceLE, Int.reduceEq, Int.reduceNe, Int.reduceAdd, Int.reduceSub, Int.reduceMul, Int.reduceNeg, Int.reduceToNat,  fr, hb3]
          simp [gapV, c2, hs, hM, hff]
        · rw [if_pos (show true = true from rfl)]
          simp (maxSteps := 2000000) -implicitDefEqProofs (disch := omega) only [xsW, xsC, if_true, if_false, ite_true, ite_false, forall_const, ne_eq, beq_self_eq_true, bne_self_eq_false, imp_self, true_implies, false_implies, implies_true, evP, evE, ev, setD, Nat.reduceAdd, Nat.reduceSub, reduceCtorEq, fillA, cutA, Nat.reduceLeDiff, Nat.reduceMul, Int.reduceLT, Int.reduceLE, Int.reduceEq, Int.reduceNe, Int.reduceAdd, Int.reduceSub, Int.reduceMul, Int.reduceNeg, Int.reduceToNat,  fr, hb3]
          simp [gapV, c2, hs, hM, hff]
theorem spec_GapOf (s : Prob w lo hi h v u vs ll q) (hl : ll.length ≤ 1048576) (hll : ∀ l ∈ ll, l.length ≤ 1048576) (hq : q.length ≤ 1048576) (sf : Fracs w' lo' hi' h v' f) (hf : f.length ≤ 1048576) (n : Nat) (hn : hi ≤ n) (hn' : hi' ≤ n) :
    Q Try.prog 38 [.agg [v, u], v'] h n (.tup [fr (gapV ll q f).1.1 (gapV ll q f).1.2, .int .i64 (gapV ll q f).2]) := by
  refine q_intro Try.func38 k_spec_GapOf ?_
  have o1 := one_any (Sl.any s.M.out)
  have o2 := one_any (Sl.any s.Q)
  simp (maxSteps := 2000000) -implicitDefEqProofs (disch := omega) only [c_spec_GapOf, o1, o2, xsW, xsC, if_true, if_false, ite_true, ite_false, forall_const, ne_eq, beq_self_eq_true, bne_self_eq_false, imp_self, true_implies, false_implies, implies_true, evP, evE, ev, setD, Nat.reduceAdd, Nat.reduceSub, reduceCtorEq, fillA, cutA, Nat.reduceLeDiff, Nat.reduceMul, Int.reduceLT, Int.reduceLE, Int.reduceEq, Int.reduceNe, Int.reduceAdd, Int.reduceSub, Int.reduceMul, Int.reduceNeg, Int.reduceToNat]
  refine q_use (spec_l01Fracs (s.keep (fun i _ hi9 => by simp (disch := omega) only [upd_other])) hl hll hq (Fracs.keep sf (fun i _ hi9 => by simp (disch := omega) only [upd_other])) hf _ (by omega) (by omega)) fun n1 hn1 => ?_
  simp (maxSteps := 2000000) -implicitDefEqProofs (disch := omega) only [xsW, xsC, if_true, if_false, ite_true, ite_false, forall_const, ne_eq, beq_self_eq_true, bne_self_eq_false, imp_self, true_implies, false_implies, implies_true, evP, evE, ev, setD, Nat.reduceAdd, Nat.reduceSub, reduceCtorEq, fillA, cutA, Nat.reduceLeDiff, Nat.reduceMul, Int.reduceLT, Int.reduceLE, Int.reduceEq, Int.reduceNe, Int.reduceAdd, Int.reduceSub, Int.reduceMul, Int.reduceNeg, Int.reduceToNat]
  (refine cd_dec (fun c1 => ?_) (fun c1 => ?_) <;> simp (maxSteps := 2000000) -implicitDefEqProofs (disch := omega) only [xsW, xsC, if_true, if_false, ite_true, ite_false, forall_const, ne_eq, beq_self_eq_true, bne_self_eq_false, imp_self, true_implies, false_implies, implies_true, evP, evE, ev, setD, Nat.reduceAdd, Nat.reduceSub, reduceCtorEq, fillA, cutA, Nat.reduceLeDiff, Nat.reduceMul, Int.reduceLT, Int.reduceLE, Int.reduceEq, Int.reduceNe, Int.reduceAdd, Int.reduceSub, Int.reduceMul, Int.reduceNeg, Int.reduceToNat,  c1])
  · simp [gapV, c1, fr]
  · have c2 : frcV ll q f = 0 := Decidable.not_not.1 c1
    obtain ⟨hp, ha, hfl⟩ := frcV_zero c2
    have hN := ((isMat_iff ll).1 (isProb_facts hp).1).2.1
    have sf1 := Fracs.keep (h' := upd (upd h n (some ⟨29, [v, u], true, 0⟩)) (n + 1) (some ⟨55, [.int .i64 0, .int .i64 0], true, 0⟩)) sf (fun i _ hi9 => by simp (disch := omega) only [upd_other])
    refine loop_for f.length 0 (fun k (_ : Unit) => [.agg [v, u], v', .ptr n 0, .any, .ptr (n + 1) 0, .int .i64 0, .int .i64 (frcV ll q f), .int .i64 k, .any, .any, .any, .any, .any, .any, .any, .any, .any, .any, .any, .any, .any, .any, .any, .any, .any, .any, .any, .any, .any, .any, .any, .any, .any, .any, .any, .any, .any, .any, .any, .any, .any, .any, .any, .any, .any, .any, .any, .any, .any, .any, .any, .any, .any, .any, .any, .any, .any, .any, .any, .any, .any, .any, .any, .any, .any, .any, .any, .any, .any, .any, .any, .any, .any, .any, .any, .any, .any, .any, .any, .any, .any, .any, .any, .any, .any, .any, .any, .any, .any, .any, .any, .any, .any, .any, .any, .any]) (fun _ _ => upd (upd h n (some ⟨29, [v, u], true, 0⟩)) (n + 1) (some ⟨55, [.int .i64 0, .int .i64 0], true, 0⟩))
      (fun k _ _ => ∀ j, j < k → (-1000 ≤ (f.getD j (0, 0)).1 ∧ (f.getD j (0, 0)).1 ≤ 1000) ∧ (f.getD j (0, 0)).2 ≤ 1000) () (Nat.zero_le _) (fun j hj => absurd hj (Nat.not_lt_zero _)) (by simp [LeL, Le1]) (fun _ _ h => h) ?_
    rintro k - m - hk hm hall
    simp (maxSteps := 2000000) -implicitDefEqProofs (disch := omega) only [xsW, xsC, if_true, if_false, ite_true, ite_false, forall_const, ne_eq, beq_self_eq_true, bne_self_eq_false, imp_self, true_implies, false_implies, implies_true, evP, evE, ev, setD, Nat.reduceAdd, Nat.reduceSub, reduceCtorEq, fillA, cutA, Nat.reduceLeDiff, Nat.reduceMul, Int.reduceLT, Int.reduceLE, Int.reduceEq, Int.reduceNe, Int.reduceAdd, Int.reduceSub, Int.reduceMul, Int.reduceNeg, Int.reduceToNat,  sf1.ln]
    (refine cd_dec (fun c3 => ?_) (fun c3 => ?_) <;> simp (maxSteps := 2000000) -implicitDefEqProofs (disch := omega) only [xsW, xsC, if_true, if_false, ite_true, ite_false, forall_const, ne_eq, beq_self_eq_true, bne_self_eq_false, imp_self, true_implies, false_implies, implies_true, evP, evE, ev, setD, Nat.reduceAdd, Nat.reduceSub, reduceCtorEq, fillA, cutA, Nat.reduceLeDiff, Nat.reduceMul, Int.reduceLT, Int.reduceLE, Int.reduceEq, Int.reduceNe, Int.reduceAdd, Int.reduceSub, Int.reduceMul, Int.reduceNeg, Int.reduceToNat,  c3])
    · have hk2 : k < f.length := by omega
      have hbf := Fracs.below sf1 (by intro e; rw [e] at hk2; simp at hk2)
      have bad : ¬ ((-1000 ≤ (f.getD k (0, 0)).1 ∧ (f.getD k (0, 0)).1 ≤ 1000) ∧ (f.getD k (0, 0)).2 ≤ 1000) → smB f = false := fun hb => by
        cases hx : smB f
        · rfl
        · exact absurd ((smB_iff f).1 hx k hk2) hb
      simp (maxSteps := 2000000) -implicitDefEqProofs (disch := omega) only [xsW, xsC, if_true, if_false, ite_true, ite_false, forall_const, ne_eq, beq_self_eq_true, bne_self_eq_false, imp_self, true_implies, false_implies, implies_true, evP, evE, ev, setD, Nat.reduceAdd, Nat.reduceSub, reduceCtorEq, fillA, cutA, Nat.reduceLeDiff, Nat.reduceMul, Int.reduceLT, Int.reduceLE, Int.reduceEq, Int.reduceNe, Int.reduceAdd, Int.reduceSub, Int.reduceMul, Int.reduceNeg, Int.reduceToNat,  sf1.ia, sf.ldn]
      refine q_use (spec_l01In _ _ _ _ _) fun n3 hn3 => ?_
      simp (maxSteps := 2000000) -implicitDefEqProofs (disch := omega) only [xsW, xsC, if_true, if_false, ite_true, ite_false, forall_const, ne_eq, beq_self_eq_true, bne_self_eq_false, imp_self, true_implies, false_implies, implies_true, evP, evE, ev, setD, Nat.reduceAdd, Nat.reduceSub, reduceCtorEq, fillA, cutA, Nat.reduceLeDiff, Nat.reduceMul, Int.reduceLT, Int.reduceLE, Int.reduceEq, Int.reduceNe, Int.reduceAdd, Int.reduceSub, Int.reduceMul, Int.reduceNeg, Int.reduceToNat]
      (refine gd_dec (fun c4 => ?_) (fun c4 => ?_) <;> simp (maxSteps := 2000000) -implicitDefEqProofs (disch := omega) only [xsW, xsC, if_true, if_false, ite_true, ite_false, forall_const, ne_eq, beq_self_eq_true, bne_self_eq_false, imp_self, true_implies, false_implies, implies_true, evP, evE, ev, setD, Nat.reduceAdd, Nat.reduceSub, reduceCtorEq, fillA, cutA, Nat.reduceLeDiff, Nat.reduceMul, Int.reduceLT, Int.reduceLE, Int.reduceEq, Int.reduceNe, Int.reduceAdd, Int.reduceSub, Int.reduceMul, Int.reduceNeg, Int.reduceToNat,  c4])
      · simp [gapV, c2, bad (by omega), fr]
      · simp (maxSteps := 2000000) -implicitDefEqProofs (disch := omega) only [xsW, xsC, if_true, if_false, ite_true, ite_false, forall_const, ne_eq, beq_self_eq_true, bne_self_eq_false, imp_self, true_implies, false_implies, implies_true, evP, evE, ev, setD, Nat.reduceAdd, Nat.reduceSub, reduceCtorEq, fillA, cutA, Nat.reduceLeDiff, Nat.reduceMul, Int.reduceLT, Int.reduceLE, Int.reduceEq, Int.reduceNe, Int.reduceAdd, Int.reduceSub, Int.reduceMul, Int.reduceNeg, Int.reduceToNat,  sf1.ia, sf.ldd]
        (refine cd_dec (fun c5 => ?_) (fun c5 => ?_) <;> simp (maxSteps := 2000000) -implicitDefEqProofs (disch := omega) only [xsW, xsC, if_true, if_false, ite_true, ite_false, forall_const, ne_eq, beq_self_eq_true, bne_self_eq_false, imp_self, true_implies, false_implies, implies_true, evP, evE, ev, setD, Nat.reduceAdd, Nat.reduceSub, reduceCtorEq, fillA, cutA, Nat.reduceLeDiff, Nat.reduceMul, Int.reduceLT, Int.reduceLE, Int.reduceEq, Int.reduceNe, Int.reduceAdd, Int.reduceSub, Int.reduceMul, Int.reduceNeg, Int.reduceToNat,  c5])
        · simp [gapV, c2, bad (by omega), fr]
        · exact ⟨(), fun j hj => (Nat.lt_succ_iff_lt_or_eq.1 hj).elim (hall j) (fun e => by rw [e]; omega), by omega, by omega, (by simp [LeL, Le1])⟩
    · have hs : smB f = true := (smB_iff f).2 fun j hj => hall j (by omega)
      refine fq_use (spec_l01Common sf1 hf ha m (by omega)) fun x1 h1 n3 hn3 hs1 hx1 => ?_
      have hb2 : h1 (n + 1) = some ⟨55, [.int .i64 0, .int .i64 0], true, 0⟩ := by rw [hs1 (n + 1) (by omega), upd_same]
      rcases hx1 with ⟨d1, rfl⟩ | ⟨d1, v1, rfl, hv1⟩
      · have hM : okM 1000 f = false := by
          cases hM : okM 1000 f
          · rfl
          · rw [(gap_facts c2 hs hM).2.1] at d1; cases d1
        simp (maxSteps := 2000000) -implicitDefEqProofs (disch := omega) only [xsW, xsC, if_true, if_false, ite_true, ite_false, forall_const, ne_eq, beq_self_eq_true, bne_self_eq_false, imp_self, true_implies, false_implies, implies_true, evP, evE, ev, setD, Nat.reduceAdd, Nat.reduceSub, reduceCtorEq, fillA, cutA, Nat.reduceLeDiff, Nat.reduceMul, Int.reduceLT, Int.reduceLE, Int.reduceEq, Int.reduceNe, Int.reduceAdd, Int.reduceSub, Int.reduceMul, Int.reduceNeg, Int.reduceToNat,  hb2]
        simp [gapV, c2, hM, fr]
      · simp (maxSteps := 2000000) -implicitDefEqProofs (disch := omega) only [xsW, xsC, if_true, if_false, ite_true, ite_false, forall_const, ne_eq, beq_self_eq_true, bne_self_eq_false, imp_self, true_implies, false_implies, implies_true, evP, evE, ev, setD, Nat.reduceAdd, Nat.reduceSub, reduceCtorEq, fillA, cutA, Nat.reduceLeDiff, Nat.reduceMul, Int.reduceLT, Int.reduceLE, Int.reduceEq, Int.reduceNe, Int.reduceAdd, Int.reduceSub, Int.reduceMul, Int.reduceNeg, Int.reduceToNat,  hb2]
        (refine cd_dec (fun c4 => ?_) (fun c4 => ?_) <;> simp (maxSteps := 2000000) -implicitDefEqProofs (disch := omega) only [xsW, xsC, if_true, if_false, ite_true, ite_false, forall_const, ne_eq, beq_self_eq_true, bne_self_eq_false, imp_self, true_implies, false_implies, implies_true, evP, evE, ev, setD, Nat.reduceAdd, Nat.reduceSub, reduceCtorEq, fillA, cutA, Nat.reduceLeDiff, Nat.reduceMul, Int.reduceLT, Int.reduceLE, Int.reduceEq, Int.reduceNe, Int.reduceAdd, Int.reduceSub, Int.reduceMul, Int.reduceNeg, Int.reduceToNat,  c4])
        · have hM : okM 1000 f = false := by
            cases hM : okM 1000 f
            · rfl
            · have := (okM_last ha 1000 (by omega)).1 hM
              omega
          simp (maxSteps := 2000000) -implicitDefEqProofs (disch := omega) only [xsW, xsC, if_true, if_false, ite_true, ite_false, forall_const, ne_eq, beq_self_eq_true, bne_self_eq_false, imp_self, true_implies, false_implies, implies_true, evP, evE, ev, setD, Nat.reduceAdd, Nat.reduceSub, reduceCtorEq, fillA, cutA, Nat.reduceLeDiff, Nat.reduceMul, Int.reduceLT, Int.reduceLE, Int.reduceEq, Int.reduceNe, Int.reduceAdd, Int.reduceSub, Int.reduceMul, Int.reduceNeg, Int.reduceToNat,  hb2]
          simp [gapV, c2, hM, fr]
        · have hM : okM 1000 f = true := (okM_last ha 1000 (by omega)).2 (by omega)
          obtain ⟨_, g1, g2, g3, g4⟩ := gap_facts c2 hs hM
          obtain ⟨e1, e2, _, _⟩ := cmn_facts c2 g1
          have hrl := remL_len ll q (cmnN f) (cmnD f)
          have hbox : h1 n = some ⟨29, [v, u], true, 0⟩ := by rw [hs1 n (by omega), upd_other (by omega), upd_same]
          have gs : ∀ k, k ≤ ll.length → _ := fun k hk => sumTo_small (n := ll.length) (k := k) (B := 1000000000000000) (C := 5000000000000000) g4 hk (by omega) (by omega)
          have gd := mul_nn (show 0 ≤ cmnD f by omega) g3 (show 0 ≤ cmnD f by omega) g3
          have gd1 := Int.mul_pos (show 0 < cmnD f by omega) (show 0 < cmnD f by omega)
          simp (maxSteps := 2000000) -implicitDefEqProofs (disch := omega) only [xsW, xsC, if_true, if_false, ite_true, ite_false, forall_const, ne_eq, beq_self_eq_true, bne_self_eq_false, imp_self, true_implies, false_implies, implies_true, evP, evE, ev, setD, Nat.reduceAdd, Nat.reduceSub, reduceCtorEq, fillA, cutA, Nat.reduceLeDiff, Nat.reduceMul, Int.reduceLT, Int.reduceLE, Int.reduceEq, Int.reduceNe, Int.reduceAdd, Int.reduceSub, Int.reduceMul, Int.reduceNeg, Int.reduceToNat,  hbox]
          refine fq_use (spec_l01Remainder (s.keep (h' := h1) (fun i _ hi9 => by simp (disch := omega) only [upd_other, hs1])) hp hv1 e1 e2 (cmnD f) (by omega) n3 (by omega) (by omega)) fun v2 h2 n4 hn4 hs2 hv2 => ?_
          have hb3 : h2 (n + 1) = some ⟨55, [.int .i64 0, .int .i64 0], true, 0⟩ := by rw [hs2 (n + 1) (by omega), hb2]
          simp (maxSteps := 2000000) -implicitDefEqProofs (disch := omega) only [xsW, xsC, if_true, if_false, ite_true, ite_false, forall_const, ne_eq, beq_self_eq_true, bne_self_eq_false, imp_self, true_implies, false_implies, implies_true, evP, evE, ev, setD, Nat.reduceAdd, Nat.reduceSub, reduceCtorEq, fillA, cutA, Nat.reduceLeDiff, Nat.reduceMul, Int.reduceLT, Int.reduceLE, Int.reduceEq, Int.reduceNe, Int.reduceAdd, Int.reduceSub, Int.reduceMul, Int.reduceNeg, Int.reduceToNat]
          refine loop_for ll.length 0 (fun k (_ : Unit) => [.agg [v, u], v', .ptr n 0, .any, .ptr (n + 1) 0, .int .i64 0, .any, .any, v1, .int .i64 (cmnD f), .any, v2, .int .i64 (sumTo k (gapT ll q f)), .int .i64 k, .any, .any, .any, .any, .any, .any, .any, .any, .any, .any, .any, .any, .any, .any, .any, .any, .any, .any, .any, .any, .any, .any, .any, .any, .any, .any, .any, .any, .any, .any, .any, .any, .any, .any, .any, .any, .any, .any, .any, .any, .any, .any, .any, .any, .any, .any, .any, .any, .any, .any, .any, .any, .any, .any, .any, .any, .any, .any, .any, .any, .any, .any, .any, .any, .any, .any, .any, .any, .any, .any, .any, .any, .any, .any, .any, .any, .any, .any, .any, .any, .any, .any]) (fun _ _ => h2)
            (fun _ _ _ => True) () (Nat.zero_le _) trivial (by simp [LeL, Le1, sumTo]) (fun _ _ h => h) ?_
          rintro k2 - m2 - hk2 hm2 -
          simp (maxSteps := 2000000) -implicitDefEqProofs (disch := omega) only [xsW, xsC, if_true, if_false, ite_true, ite_false, forall_const, ne_eq, beq_self_eq_true, bne_self_eq_false, imp_self, true_implies, false_implies, implies_true, evP, evE, ev, setD, Nat.reduceAdd, Nat.reduceSub, reduceCtorEq, fillA, cutA, Nat.reduceLeDiff, Nat.reduceMul, Int.reduceLT, Int.reduceLE, Int.reduceEq, Int.reduceNe, Int.reduceAdd, Int.reduceSub, Int.reduceMul, Int.reduceNeg, Int.reduceToNat,  hv1.ln, e1]
          (refine cd_dec (fun c5 => ?_) (fun c5 => ?_) <;> simp (maxSteps := 2000000) -implicitDefEqProofs (disch := omega) only [xsW, xsC, if_true, if_false, ite_true, ite_false, forall_const, ne_eq, beq_self_eq_true, bne_self_eq_false, imp_self, true_implies, false_implies, implies_true, evP, evE, ev, setD, Nat.reduceAdd, Nat.reduceSub, reduceCtorEq, fillA, cutA, Nat.reduceLeDiff, Nat.reduceMul, Int.reduceLT, Int.reduceLE, Int.reduceEq, Int.reduceNe, Int.reduceAdd, Int.reduceSub, Int.reduceMul, Int.reduceNeg, Int.reduceToNat,  c5])
          · have hk3 : k2 < ll.length := by omega
            have hbx := Sl.below hv1 (by rw [hv1.slen]; omega)
            have b1 := g4 k2 hk3
            have b2 := gs k2 (by omega)
            have b3 := gs (k2 + 1) (by omega)
            rw [sumTo_succ] at b3
            have et : (cmnN f).getD k2 0 * (remL ll q (cmnN f) (cmnD f)).getD k2 0 = gapT ll q f k2 := rfl
            simp (maxSteps := 2000000) -implicitDefEqProofs (disch := omega) only [xsW, xsC, if_true, if_false, ite_true, ite_false, forall_const, ne_eq, beq_self_eq_true, bne_self_eq_false, imp_self, true_implies, false_implies, implies_true, evP, evE, ev, setD, Nat.reduceAdd, Nat.reduceSub, reduceCtorEq, fillA, cutA, Nat.reduceLeDiff, Nat.reduceMul, Int.reduceLT, Int.reduceLE, Int.reduceEq, Int.reduceNe, Int.reduceAdd, Int.reduceSub, Int.reduceMul, Int.reduceNeg, Int.reduceToNat,  hs2, hv1.ia, hv1.ld, e1, hv2.ia, hv2.ld, hrl]
            rw [et]
            exact ⟨(), by omega, by omega, by simp [LeL, Le1, sumTo]⟩
          · have e : k2 = ll.length := by omega
            subst e
            have e5 : sumTo ll.length (gapT ll q f) = gapS ll q f := rfl
            have b4 := gs ll.length (Nat.le_refl _)
            rw [e5] at b4 ⊢
            refine q_use (spec_l01Frac _ _ (by unfold in64; omega) (by unfold in64; omega) (by omega) _ _) fun n6 hn6 => ?_
            have er : red (gapS ll q f) (cmnD f * cmnD f) = gapR ll q f := rfl
            rw [er]
            simp (maxSteps := 2000000) -implicitDefEqProofs (disch := omega) only [xsW, xsC, if_true, if_false, ite_true, ite_false, forall_const, ne_eq, beq_self_eq_true, bne_self_eq_false, imp_self, true_implies, false_implies, implies_true, evP, evE, ev, setD, Nat.reduceAdd, Nat.reduceSub, reduceCtorEq, fillA, cutA, Nat.reduceLeDiff, Nat.reduceMul, Int.reduceLT, Int.reduceLE, Int.reduceEq, Int.reduceNe, Int.reduceAdd, Int.reduceSub, Int.reduceMul, Int.reduceNeg, Int.reduceToNat,  fr]
            have sg : Fracs true (n6 + 1) (n6 + 1 + 1) (upd (upd h2 n6 (some ⟨55, [.int .i64 (gapR ll q f).1, .int .i64 (gapR ll q f).2], true, 0⟩)) (n6 + 1) (some ⟨55, [.int .i64 (gapR ll q f).1, .int .i64 (gapR ll q f).2], true, 0⟩)) (.sl (n6 + 1) 0 1 1) [gapR ll q f] :=
              Sl.of_sl (ty := 55) (op := 0) (cs := fracs [gapR ll q f]) (by rw [upd_same]; simp [fracs]) (by simp [fracs]) (Nat.le_refl _) (Nat.le_refl _) (by omega)
            have hlow : Low (gapR ll q f) := by
              obtain ⟨h3, h4⟩ := red_low (x := gapS ll q f) (d := cmnD f * cmnD f) (by omega)
              have h5 := red_nb (x := gapS ll q f) (d := cmnD f * cmnD f) (by omega)
              rw [er] at h3 h4 h5
              exact ⟨h3, h4, by unfold in64; omega, by unfold in64; omega⟩
            refine q_use (spec_l02Told sg (by simp) (fun k hk => by
              have : k = 0 := by simp at hk; exact hk
              subst this; exact hlow) _) fun n7 hn7 => ?_
            have ea : allFr [gapR ll q f] = isFr 1000000000 (gapR ll q f).1 (gapR ll q f).2 := by simp [allFr]
            rw [ea]
            cases hff : isFr 1000000000 (gapR ll q f).1 (gapR ll q f).2
            · rw [if_neg (show ¬ (false = true) by simp)]
              simp (maxSteps := 2000000) -implicitDefEqProofs (disch := omega) only [xsW, xsC, if_true, if_false, ite_true, ite_false, forall_const, ne_eq, beq_self_eq_true, bne_self_eq_false, imp_self, true_implies, false_implies, implies_true, evP, evE, ev, setD, Nat.reduceAdd, Nat.reduceSub, reduceCtorEq, fillA, cutA, Nat.reduceLeDiff, Nat.reduceMul, Int.reduceLT, Int.reduceLE, Int.reduceEq, Int.reduceNe, Int.reduceAdd, Int.reduceSub, Int.reduceMul, Int.reduceNeg, Int.reduceToNat,  hb3]
              simp [gapV, c2, hs, hM, hff, fr]
            · rw [if_pos (show true = true from rfl)]
              simp (maxSteps := 2000000) -implicitDefEqProofs (disch := omega) only [xsW, xsC, if_true, if_false, ite_true, ite_false, forall_const, ne_eq, beq_self_eq_true, bne_self_eq_false, imp_self, true_implies, false_implies, implies_true, evP, evE, ev, setD, Nat.reduceAdd, Nat.reduceSub, reduceCtorEq, fillA, cutA, Nat.reduceLeDiff, Nat.reduceMul, Int.reduceLT, Int.reduceLE, Int.reduceEq, Int.reduceNe, Int.reduceAdd, Int.reduceSub, Int.reduceMul, Int.reduceNeg, Int.reduceToNat,  hb3]
              simp [gapV, c2, hs, hM, hff, fr]
end
set_option maxHeartbeats 2000000 in
theorem laws_GapOf {h : AH} {w_p : Bool} {lo_p hi_p : Nat} {v_p u_p : AV} {vs_p : List AV} {p : List (List Int)} {q_p : List Int} (s_p : Prob w_p lo_p hi_p h v_p u_p vs_p p q_p) (hl_p : p.length ≤ 9223372036854775807) (hll_p : ∀ l ∈ p, l.length ≤ 9223372036854775807) (hlq_p : q_p.length ≤ 9223372036854775807) {w_f : Bool} {lo_f hi_f : Nat} {v_f : AV} {f : List (Int × Int)} (s_f : Fracs w_f lo_f hi_f h v_f f) (hl_f : f.length ≤ 9223372036854775807) (n : Nat) (hn_p : hi_p ≤ n) (hn_f : hi_f ≤ n) :
    Q Try.prog 8 [.agg [v_p, u_p], v_f] h n (.bool true) := by
  refine q_intro Try.func8 k_laws_FnExactGapOf ?_
  have o1 := one_any (Sl.any s_p.M.out)
  have oq1 := sto_any (Sl.any s_p.M.out)
  have oc1 := cel_any (Sl.any s_p.M.out)
  have o2 := one_any (Sl.any s_p.Q)
  have oq2 := sto_any (Sl.any s_p.Q)
  have oc2 := cel_any (Sl.any s_p.Q)
  simp (maxSteps := 2000000) -implicitDefEqProofs (disch := omega) only [c_laws_FnExactGapOf, o1, oq1, oc1, o2, oq2, oc2, xsW, xsC, if_true, if_false, ite_true, ite_false, forall_const, ne_eq, beq_self_eq_true, bne_self_eq_false, imp_self, true_implies, false_implies, implies_true, evP, evE, ev, setD, Nat.reduceAdd, Nat.reduceSub, reduceCtorEq, fillA, cutA, Nat.reduceLeDiff, Nat.reduceMul, Int.reduceLT, Int.reduceLE, Int.reduceEq, Int.reduceNe, Int.reduceAdd, Int.reduceSub, Int.reduceMul, Int.reduceNeg, Int.reduceToNat]
  refine q_use_ex (laws_szProblem (s_p.keep (fun i _ hi9 => by simp (disch := omega) only [upd_other])) hl_p hll_p hlq_p 1048576 (by omega) (by omega) _ (by omega)) fun rz3 n3 hn3 ⟨hr3a, hr3b, hr3c⟩ => ?_
  simp (maxSteps := 2000000) -implicitDefEqProofs (disch := omega) only [xsW, xsC, if_true, if_false, ite_true, ite_false, forall_const, ne_eq, beq_self_eq_true, bne_self_eq_false, imp_self, true_implies, false_implies, implies_true, evP, evE, ev, setD, Nat.reduceAdd, Nat.reduceSub, reduceCtorEq, fillA, cutA, Nat.reduceLeDiff, Nat.reduceMul, Int.reduceLT, Int.reduceLE, Int.reduceEq, Int.reduceNe, Int.reduceAdd, Int.reduceSub, Int.reduceMul, Int.reduceNeg, Int.reduceToNat,  o1, oq1, oc1, o2, oq2, oc2, fr]
  (refine cd_dec (fun cz3 => ?_) (fun cz3 => ?_) <;> simp (maxSteps := 2000000) -implicitDefEqProofs (disch := omega) only [xsW, xsC, if_true, if_false, ite_true, ite_false, forall_const, ne_eq, beq_self_eq_true, bne_self_eq_false, imp_self, true_implies, false_implies, implies_true, evP, evE, ev, setD, Nat.reduceAdd, Nat.reduceSub, reduceCtorEq, fillA, cutA, Nat.reduceLeDiff, Nat.reduceMul, Int.reduceLT, Int.reduceLE, Int.reduceEq, Int.reduceNe, Int.reduceAdd, Int.reduceSub, Int.reduceMul, Int.reduceNeg, Int.reduceToNat,  cz3])
  obtain ⟨hb_p, hbb_p⟩ := sz_len2 (by omega) (fun h0 => (hr3c h0).1) cz3
  have hbq_p : q_p.length ≤ 1048576 := by have := (hr3c (by omega)).2; omega
  refine q_use_ex (laws_szFracS_ex (s_f.keep (fun i _ hi9 => by simp (disch := omega) only [upd_other])) hl_f rz3 (by omega) (by omega) _) fun rz4 n4 hn4 ⟨hr4a, hr4b, hr4c⟩ => ?_
  simp (maxSteps := 2000000) -implicitDefEqProofs (disch := omega) only [xsW, xsC, if_true, if_false, ite_true, ite_false, forall_const, ne_eq, beq_self_eq_true, bne_self_eq_false, imp_self, true_implies, false_implies, implies_true, evP, evE, ev, setD, Nat.reduceAdd, Nat.reduceSub, reduceCtorEq, fillA, cutA, Nat.reduceLeDiff, Nat.reduceMul, Int.reduceLT, Int.reduceLE, Int.reduceEq, Int.reduceNe, Int.reduceAdd, Int.reduceSub, Int.reduceMul, Int.reduceNeg, Int.reduceToNat,  o1, oq1, oc1, o2, oq2, oc2, fr]
  (refine cd_dec (fun cz4 => ?_) (fun cz4 => ?_) <;> simp (maxSteps := 2000000) -implicitDefEqProofs (disch := omega) only [xsW, xsC, if_true, if_false, ite_true, ite_false, forall_const, ne_eq, beq_self_eq_true, bne_self_eq_false, imp_self, true_implies, false_implies, implies_true, evP, evE, ev, setD, Nat.reduceAdd, Nat.reduceSub, reduceCtorEq, fillA, cutA, Nat.reduceLeDiff, Nat.reduceMul, Int.reduceLT, Int.reduceLE, Int.reduceEq, Int.reduceNe, Int.reduceAdd, Int.reduceSub, Int.reduceMul, Int.reduceNeg, Int.reduceToNat,  cz4])
  have hb_f : f.length ≤ 1048576 := by have := hr4c (by omega); omega
  refine fq_use (laws_toProblem (s_p.keep (fun i _ hi9 => by simp (disch := omega) only [upd_other])) hb_p hbb_p hbq_p _ (by omega)) fun x5 h5 n5 hn5 hs5 ⟨v5, u5, vs5, hx5, hv5⟩ => ?_
  subst hx5
  have o6 := one_any (Sl.any hv5.M.out)
  have oq6 := sto_any (Sl.any hv5.M.out)
  have oc6 := cel_any (Sl.any hv5.M.out)
  have o7 := one_any (Sl.any hv5.Q)
  have oq7 := sto_any (Sl.any hv5.Q)
  have oc7 := cel_any (Sl.any hv5.Q)
  simp (maxSteps := 2000000) -implicitDefEqProofs (disch := omega) only [xsW, xsC, if_true, if_false, ite_true, ite_false, forall_const, ne_eq, beq_self_eq_true, bne_self_eq_false, imp_self, true_implies, false_implies, implies_true, evP, evE, ev, setD, Nat.reduceAdd, Nat.reduceSub, reduceCtorEq, fillA, cutA, Nat.reduceLeDiff, Nat.reduceMul, Int.reduceLT, Int.reduceLE, Int.reduceEq, Int.reduceNe, Int.reduceAdd, Int.reduceSub, Int.reduceMul, Int.reduceNeg, Int.reduceToNat,  o1, oq1, oc1, o2, oq2, oc2, o6, oq6, oc6, o7, oq7, oc7, hs5, fr]
  refine fq_use (laws_toFracS (s_f.keep (fun i _ hi9 => by simp (disch := omega) only [upd_other, hs5])) hb_f _ (by omega)) fun x8 h8 n8 hn8 hs8 hv8 => ?_
  simp (maxSteps := 2000000) -implicitDefEqProofs (disch := omega) only [xsW, xsC, if_true, if_false, ite_true, ite_false, forall_const, ne_eq, beq_self_eq_true, bne_self_eq_false, imp_self, true_implies, false_implies, implies_true, evP, evE, ev, setD, Nat.reduceAdd, Nat.reduceSub, reduceCtorEq, fillA, cutA, Nat.reduceLeDiff, Nat.reduceMul, Int.reduceLT, Int.reduceLE, Int.reduceEq, Int.reduceNe, Int.reduceAdd, Int.reduceSub, Int.reduceMul, Int.reduceNeg, Int.reduceToNat,  o1, oq1, oc1, o2, oq2, oc2, o6, oq6, oc6, o7, oq7, oc7, hs8, hs5, fr]
  refine q_use (spec_GapOf (hv5.keep (fun i _ hi9 => by simp (disch := omega) only [upd_other, hs8, hs5])) hb_p hbb_p hbq_p (hv8.keep (fun i _ hi9 => by simp (disch := omega) only [upd_other, hs8, hs5])) hb_f _ (by omega) (by omega)) fun n9 hn9 => ?_
  simp (maxSteps := 2000000) -implicitDefEqProofs (disch := omega) only [xsW, xsC, if_true, if_false, ite_true, ite_false, forall_const, ne_eq, beq_self_eq_true, bne_self_eq_false, imp_self, true_implies, false_implies, implies_true, evP, evE, ev, setD, Nat.reduceAdd, Nat.reduceSub, reduceCtorEq, fillA, cutA, Nat.reduceLeDiff, Nat.reduceMul, Int.reduceLT, Int.reduceLE, Int.reduceEq, Int.reduceNe, Int.reduceAdd, Int.reduceSub, Int.reduceMul, Int.reduceNeg, Int.reduceToNat,  o1, oq1, oc1, o2, oq2, oc2, o6, oq6, oc6, o7, oq7, oc7, hs8, hs5, fr]
  refine fq_use (laws_toProblem (s_p.keep (fun i _ hi9 => by simp (disch := omega) only [upd_other, hs8, hs5])) hb_p hbb_p hbq_p _ (by omega)) fun x10 h10 n10 hn10 hs10 ⟨v10, u10, vs10, hx10, hv10⟩ => ?_
  subst hx10
  have o11 := one_any (Sl.any hv10.M.out)
  have oq11 := sto_any (Sl.any hv10.M.out)
  have oc11 := cel_any (Sl.any hv10.M.out)
  have o12 := one_any (Sl.any hv10.Q)
  have oq12 := sto_any (Sl.any hv10.Q)
  have oc12 := cel_any (Sl.any hv10.Q)
  simp (maxSteps := 2000000) -implicitDefEqProofs (disch := omega) only [xsW, xsC, if_true, if_false, ite_true, ite_false, forall_const, ne_eq, beq_self_eq_true, bne_self_eq_false, imp_self, true_implies, false_implies, implies_true, evP, evE, ev, setD, Nat.reduceAdd, Nat.reduceSub, reduceCtorEq, fillA, cutA, Nat.reduceLeDiff, Nat.reduceMul, Int.reduceLT, Int.reduceLE, Int.reduceEq, Int.reduceNe, Int.reduceAdd, Int.reduceSub, Int.reduceMul, Int.reduceNeg, Int.reduceToNat,  o1, oq1, oc1, o2, oq2, oc2, o6, oq6, oc6, o7, oq7, oc7, o11, oq11, oc11, o12, oq12, oc12, hs10, hs8, hs5, fr]
  refine fq_use (laws_toFracS (s_f.keep (fun i _ hi9 => by simp (disch := omega) only [upd_other, hs10, hs8, hs5])) hb_f _ (by omega)) fun x13 h13 n13 hn13 hs13 hv13 => ?_
  simp (maxSteps := 2000000) -implicitDefEqProofs (disch := omega) only [xsW, xsC, if_true, if_false, ite_true, ite_false, forall_const, ne_eq, beq_self_eq_true, bne_self_eq_false, imp_self, true_implies, false_implies, implies_true, evP, evE, ev, setD, Nat.reduceAdd, Nat.reduceSub, reduceCtorEq, fillA, cutA, Nat.reduceLeDiff, Nat.reduceMul, Int.reduceLT, Int.reduceLE, Int.reduceEq, Int.reduceNe, Int.reduceAdd, Int.reduceSub, Int.reduceMul, Int.reduceNeg, Int.reduceToNat,  o1, oq1, oc1, o2, oq2, oc2, o6, oq6, oc6, o7, oq7, oc7, o11, oq11, oc11, o12, oq12, oc12, hs13, hs10, hs8, hs5, fr]
  refine q_use (impl_GapOf (hv10.keep (fun i _ hi9 => by simp (disch := omega) only [upd_other, hs13, hs10, hs8, hs5])) hb_p hbb_p hbq_p (hv13.keep (fun i _ hi9 => by simp (disch := omega) only [upd_other, hs13, hs10, hs8, hs5])) hb_f _ (by omega) (by omega)) fun n14 hn14 => ?_
  simp (maxSteps := 2000000) -implicitDefEqProofs (disch := omega) only [xsW, xsC, if_true, if_false, ite_true, ite_false, forall_const, ne_eq, beq_self_eq_true, bne_self_eq_false, imp_self, true_implies, false_implies, implies_true, evP, evE, ev, setD, Nat.reduceAdd, Nat.reduceSub, reduceCtorEq, fillA, cutA, Nat.reduceLeDiff, Nat.reduceMul, Int.reduceLT, Int.reduceLE, Int.reduceEq, Int.reduceNe, Int.reduceAdd, Int.reduceSub, Int.reduceMul, Int.reduceNeg, Int.reduceToNat,  o1, oq1, oc1, o2, oq2, oc2, o6, oq6, oc6, o7, oq7, oc7, o11, oq11, oc11, o12, oq12, oc12, hs13, hs10, hs8, hs5, fr]
  refine q_use (laws_eqFrac _ _ _ _ _ _) fun n15 hn15 => ?_
  simp (maxSteps := 2000000) -implicitDefEqProofs (disch := omega) only [xsW, xsC, if_true, if_false, ite_true, ite_false, forall_const, ne_eq, beq_self_eq_true, bne_self_eq_false, imp_self, true_implies, false_implies, implies_true, evP, evE, ev, setD, Nat.reduceAdd, Nat.reduceSub, reduceCtorEq, fillA, cutA, Nat.reduceLeDiff, Nat.reduceMul, Int.reduceLT, Int.reduceLE, Int.reduceEq, Int.reduceNe, Int.reduceAdd, Int.reduceSub, Int.reduceMul, Int.reduceNeg, Int.reduceToNat,  o1, oq1, oc1, o2, oq2, oc2, o6, oq6, oc6, o7, oq7, oc7, o11, oq11, oc11, o12, oq12, oc12, hs13, hs10, hs8, hs5, fr]
  refine fq_use (laws_toProblem (s_p.keep (fun i _ hi9 => by simp (disch := omega) only [upd_other, hs13, hs10, hs8, hs5])) hb_p hbb_p hbq_p _ (by omega)) fun x16 h16 n16 hn16 hs16 ⟨v16, u16, vs16, hx16, hv16⟩ => ?_
  subst hx16
  have o17 := one_any (Sl.any hv16.M.out)
  have oq17 := sto_any (Sl.any hv16.M.out)
  have oc17 := cel_any (Sl.any hv16.M.out)
  have o18 := one_any (Sl.any hv16.Q)
  have oq18 := sto_any (Sl.any hv16.Q)
  have oc18 := cel_any (Sl.any hv16.Q)
  simp (maxSteps := 2000000) -implicitDefEqProofs (disch := omega) only [xsW, xsC, if_true, if_false, ite_true, ite_false, forall_const, ne_eq, beq_self_eq_true, bne_self_eq_false, imp_self, true_implies, false_implies, implies_true, evP, evE, ev, setD, Nat.reduceAdd, Nat.reduceSub, reduceCtorEq, fillA, cutA, Nat.reduceLeDiff, Nat.reduceMul, Int.reduceLT, Int.reduceLE, Int.reduceEq, Int.reduceNe, Int.reduceAdd, Int.reduceSub, Int.reduceMul, Int.reduceNeg, Int.reduceToNat,  o1, oq1, oc1, o2, oq2, oc2, o6, oq6, oc6, o7, oq7, oc7, o11, oq11, oc11, o12, oq12, oc12, o17, oq17, oc17, o18, oq18, oc18, hs16, hs13, hs10, hs8, hs5, fr]
  refine q_use (laws_eqProblem (hv10.keep (fun i _ hi9 => by simp (disch := omega) only [upd_other, hs16, hs13, hs10, hs8, hs5])) (hv16.keep (fun i _ hi9 => by simp (disch := omega) only [upd_other, hs16, hs13, hs10, hs8, hs5])) hb_p hbb_p hbq_p _ (by omega) (by omega)) fun n19 hn19 => ?_
  simp (maxSteps := 2000000) -implicitDefEqProofs (disch := omega) only [xsW, xsC, if_true, if_false, ite_true, ite_false, forall_const, ne_eq, beq_self_eq_true, bne_self_eq_false, imp_self, true_implies, false_implies, implies_true, evP, evE, ev, setD, Nat.reduceAdd, Nat.reduceSub, reduceCtorEq, fillA, cutA, Nat.reduceLeDiff, Nat.reduceMul, Int.reduceLT, Int.reduceLE, Int.reduceEq, Int.reduceNe, Int.reduceAdd, Int.reduceSub, Int.reduceMul, Int.reduceNeg, Int.reduceToNat,  o1, oq1, oc1, o2, oq2, oc2, o6, oq6, oc6, o7, oq7, oc7, o11, oq11, oc11, o12, oq12, oc12, o17, oq17, oc17, o18, oq18, oc18, hs16, hs13, hs10, hs8, hs5, fr]
  refine fq_use (laws_toFracS (s_f.keep (fun i _ hi9 => by simp (disch := omega) only [upd_other, hs16, hs13, hs10, hs8, hs5])) hb_f _ (by omega)) fun x20 h20 n20 hn20 hs20 hv20 => ?_
  simp (maxSteps := 2000000) -implicitDefEqProofs (disch := omega) only [xsW, xsC, if_true, if_false, ite_true, ite_false, forall_const, ne_eq, beq_self_eq_true, bne_self_eq_false, imp_self, true_implies, false_implies, implies_true, evP, evE, ev, setD, Nat.reduceAdd, Nat.reduceSub, reduceCtorEq, fillA, cutA, Nat.reduceLeDiff, Nat.reduceMul, Int.reduceLT, Int.reduceLE, Int.reduceEq, Int.reduceNe, Int.reduceAdd, Int.reduceSub, Int.reduceMul, Int.reduceNeg, Int.reduceToNat,  o1, oq1, oc1, o2, oq2, oc2, o6, oq6, oc6, o7, oq7, oc7, o11, oq11, oc11, o12, oq12, oc12, o17, oq17, oc17, o18, oq18, oc18, hs20, hs16, hs13, hs10, hs8, hs5, fr]
  refine q_use (laws_eqFracS (hv13.keep (fun i _ hi9 => by simp (disch := omega) only [upd_other, hs20, hs16, hs13, hs10, hs8, hs5])) (hv20.keep (fun i _ hi9 => by simp (disch := omega) only [upd_other, hs20, hs16, hs13, hs10, hs8, hs5])) hb_f _) fun n21 hn21 => ?_
  simp (maxSteps := 2000000) -implicitDefEqProofs (disch := omega) only [xsW, xsC, if_true, if_false, ite_true, ite_false, forall_const, ne_eq, beq_self_eq_true, bne_self_eq_false, imp_self, true_implies, false_implies, implies_true, evP, evE, ev, setD, Nat.reduceAdd, Nat.reduceSub, reduceCtorEq, fillA, cutA, Nat.reduceLeDiff, Nat.reduceMul, Int.reduceLT, Int.reduceLE, Int.reduceEq, Int.reduceNe, Int.reduceAdd, Int.reduceSub, Int.reduceMul, Int.reduceNeg, Int.reduceToNat,  o1, oq1, oc1, o2, oq2, oc2, o6, oq6, oc6, o7, oq7, oc7, o11, oq11, oc11, o12, oq12, oc12, o17, oq17, oc17, o18, oq18, oc18, hs20, hs16, hs13, hs10, hs8, hs5, fr]
end Go.Proofs.Ytmjfekgbbjojdac.L
