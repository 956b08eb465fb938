/- Contracts: the program's kinds of matrices. -/
import Derived.Test.YtkpibnhddhdooaaB3
set_option linter.unusedSimpArgs false
set_option linter.unusedVariables false
namespace Go.Proofs.Ytkpibnhddhdooaa.L
open Go
def c_slices_Min_Sint64_int64 : F := ⟨(.seq (.reg false [⟨some 2, .mv (.c (.int .i64 0)), none⟩]) (.seq (.seq (.reg false [⟨some 5, .mv (.t 0), none⟩, ⟨some 6, .len (.t 5), none⟩, ⟨some 7, .bin .lss (.t 6) (.c (.int .i64 1)), none⟩]) (.cond (.t 7) (.reg false [⟨(some 8), .bad, none⟩, ⟨none, .bad, none⟩]) .skip)) (.seq (.reg false [⟨some 9, .mv (.t 0), none⟩, ⟨some 10, .ia 1 (.t 9) (.c (.int .i64 0)), none⟩, ⟨some 11, .ld1 (.t 10), none⟩, ⟨some 3, .mv (.t 11), none⟩]) (.seq (.seq (.reg false [⟨some 4, .mv (.c (.int .i64 1)), none⟩]) (.block 0 (.loop (.seq (.seq (.reg false [⟨some 12, .mv (.t 4), none⟩, ⟨some 13, .mv (.t 0), none⟩, ⟨some 14, .len (.t 13), none⟩, ⟨some 15, .bin .lss (.t 12) (.t 14), none⟩]) (.cond (.t 15) .skip (.exit 0))) (.seq (.block 1 (.reg false [⟨some 18, .mv (.t 3), none⟩, ⟨some 19, .mv (.t 0), none⟩, ⟨some 20, .mv (.t 4), none⟩, ⟨some 21, .ia 1 (.t 19) (.t 20), none⟩, ⟨some 22, .ld1 (.t 21), none⟩, ⟨some 23, .mn [(.t 18), (.t 22)], none⟩, ⟨some 3, .mv (.t 23), none⟩])) (.reg false [⟨some 16, .mv (.t 4), none⟩, ⟨some 17, .bin .add (.t 16) (.c (.int .i64 1)), none⟩, ⟨some 4, .mv (.t 17), none⟩])))))) (.seq (.reg false [⟨some 24, .mv (.t 3), none⟩, ⟨some 2, .mv (.t 24), none⟩]) .ret))))), 25, [(.t 2)]⟩
theorem k_slices_Min_Sint64_int64 : compF Try.prog Try.f128 = some c_slices_Min_Sint64_int64 := by kernel_rfl
def c_impl_isP : F := ⟨(.seq (.reg false [⟨some 4, .mv (.c (.bool false)), none⟩]) (.seq (.reg false [⟨some 5, .mv (.t 0), none⟩, ⟨some 6, .call (.f 73) [(.t 5)], none⟩, ⟨some 7, .call (.f 128) [(.t 6)], none⟩, ⟨some 8, .mv (.t 1), none⟩, ⟨some 9, .bin .geq (.t 7) (.t 8), none⟩, ⟨some 4, .mv (.t 9), none⟩]) .ret)), 10, [(.t 4)]⟩
theorem k_impl_isP : compF Try.prog Try.f101 = some c_impl_isP := by kernel_rfl
def c_impl_allPlaces : F := ⟨(.seq (.reg false [⟨some 4, .mv (.c (.bool false)), none⟩]) (.seq (.seq (.reg false [⟨some 7, .mv (.t 0), none⟩, ⟨some 8, .len (.t 7), none⟩, ⟨some 9, .mv (.c (.int .i64 0)), none⟩]) (.block 0 (.loop (.seq (.reg false [⟨some 10, .bin .lss (.t 9) (.t 8), none⟩]) (.seq (.cond (.t 10) .skip (.exit 0)) (.seq (.block 1 (.seq (.reg false [⟨some 11, .mv (.t 9), none⟩, ⟨some 5, .mv (.t 11), none⟩]) (.seq (.reg false [⟨some 12, .mv (.t 0), none⟩, ⟨some 13, .len (.t 12), none⟩, ⟨some 14, .mv (.c (.int .i64 0)), none⟩]) (.block 2 (.loop (.seq (.reg false [⟨some 15, .bin .lss (.t 14) (.t 13), none⟩]) (.seq (.cond (.t 15) .skip (.exit 2)) (.seq (.block 3 (.seq (.reg false [⟨some 16, .mv (.t 14), none⟩, ⟨some 6, .mv (.t 16), none⟩]) (.seq (.reg false [⟨some 17, .mv (.t 1), none⟩, ⟨some 18, .mv (.t 5), none⟩, ⟨some 19, .mv (.t 6), none⟩, ⟨some 20, .call (.t 17) [(.t 18), (.t 19)], none⟩, ⟨some 21, .un .not (.t 20), none⟩]) (.cond (.t 21) (.seq (.reg false [⟨some 4, .mv (.c (.bool false)), none⟩]) .ret) .skip)))) (.reg false [⟨some 22, .bin .add (.t 14) (.c (.int .i64 1)), none⟩, ⟨some 14, .mv (.t 22), none⟩]))))))))) (.reg false [⟨some 23, .bin .add (.t 9) (.c (.int .i64 1)), none⟩, ⟨some 9, .mv (.t 23), none⟩]))))))) (.seq (.reg false [⟨some 4, .mv (.c (.bool true)), none⟩]) .ret))), 24, [(.t 4)]⟩
theorem k_impl_allPlaces : compF Try.prog Try.f105 = some c_impl_allPlaces := by kernel_rfl
def c_impl_isZ : F := ⟨(.seq (.reg false [⟨some 1, .box 22 (.t 0), none⟩, ⟨some 2, .mv (.c (.bool false)), none⟩]) (.seq (.reg false [⟨some 3, .ld1 (.t 1), none⟩, ⟨some 4, .mkf 129 [(.t 1)], none⟩, ⟨some 5, .call (.f 105) [(.t 3), (.t 4)], none⟩, ⟨some 2, .mv (.t 5), none⟩]) .ret)), 6, [(.t 2)]⟩
theorem k_impl_isZ : compF Try.prog Try.f102 = some c_impl_isZ := by kernel_rfl
def c_impl_isZ_1 : F := ⟨(.seq (.reg false [⟨some 5, .mv (.c (.bool false)), none⟩]) (.seq (.reg false [⟨some 6, .mv (.t 0), none⟩, ⟨some 7, .mv (.t 1), none⟩, ⟨some 8, .bin .eql (.t 6) (.t 7), none⟩, ⟨some 9, .mv (.t 8), none⟩, ⟨some 10, .ld1 (.t 2), some (9, false)⟩, ⟨some 11, .mv (.t 0), some (9, false)⟩, ⟨some 12, .ia 1 (.t 10) (.t 11), some (9, false)⟩, ⟨some 13, .ld1 (.t 12), some (9, false)⟩, ⟨some 14, .mv (.t 1), some (9, false)⟩, ⟨some 15, .ia 1 (.t 13) (.t 14), some (9, false)⟩, ⟨some 16, .ld1 (.t 15), some (9, false)⟩, ⟨some 17, .bin .leq (.t 16) (.c (.int .i64 0)), some (9, false)⟩, ⟨some 18, .pick (.t 9) (.c (.bool true)) (.t 17), none⟩, ⟨some 5, .mv (.t 18), none⟩]) .ret)), 19, [(.t 5)]⟩
theorem k_impl_isZ_1 : compF Try.prog Try.f129 = some c_impl_isZ_1 := by kernel_rfl
def c_impl_isK : F := ⟨(.seq (.reg false [⟨some 2, .mv (.c (.bool false)), none⟩]) (.seq (.reg false [⟨some 3, .mv (.t 0), none⟩, ⟨some 4, .call (.f 102) [(.t 3)], none⟩, ⟨some 5, .mv (.t 4), none⟩, ⟨some 6, .mv (.t 0), some (5, true)⟩, ⟨some 7, .call (.f 101) [(.t 6), (.c (.int .i64 1))], some (5, true)⟩, ⟨some 8, .pick (.t 5) (.t 7) (.c (.bool false)), none⟩, ⟨some 2, .mv (.t 8), none⟩]) .ret)), 9, [(.t 2)]⟩
theorem k_impl_isK : compF Try.prog Try.f103 = some c_impl_isK := by kernel_rfl
def c_impl_cofactors : F := ⟨(.seq (.reg false [⟨some 2, .mv (.c .nilsl), none⟩]) (.seq (.reg false [⟨some 8, .mv (.t 0), none⟩, ⟨some 9, .len (.t 8), none⟩, ⟨some 10, .bin .shl (.c (.int .i64 1)) (.t 9), none⟩, ⟨some 11, .bin .sub (.t 10) (.c (.int .i64 1)), none⟩, ⟨some 3, .mv (.t 11), none⟩]) (.seq (.reg false [⟨some 4, .mv (.c .nilsl), none⟩]) (.seq (.seq (.reg false [⟨some 12, .mv (.t 0), none⟩, ⟨some 13, .len (.t 12), none⟩, ⟨some 14, .mv (.c (.int .i64 0)), none⟩]) (.block 0 (.loop (.seq (.reg false [⟨some 15, .bin .lss (.t 14) (.t 13), none⟩]) (.seq (.cond (.t 15) .skip (.exit 0)) (.seq (.block 1 (.seq (.reg false [⟨some 16, .mv (.t 14), none⟩, ⟨some 5, .mv (.t 16), none⟩]) (.seq (.reg false [⟨some 17, .mv (.t 0), none⟩, ⟨some 18, .len (.t 17), none⟩, ⟨some 19, .mv (.c (.int .i64 0)), none⟩]) (.block 2 (.loop (.seq (.reg false [⟨some 20, .bin .lss (.t 19) (.t 18), none⟩]) (.seq (.cond (.t 20) .skip (.exit 2)) (.seq (.block 3 (.seq (.reg false [⟨some 21, .mv (.t 19), none⟩, ⟨some 6, .mv (.t 21), none⟩]) (.seq (.reg false [⟨some 22, .mv (.t 0), none⟩, ⟨some 23, .mv (.t 3), none⟩, ⟨some 24, .mv (.t 5), none⟩, ⟨some 25, .bin .shl (.c (.int .i64 1)) (.t 24), none⟩, ⟨some 26, .bin .andNot (.t 23) (.t 25), none⟩, ⟨some 27, .mv (.t 3), none⟩, ⟨some 28, .mv (.t 6), none⟩, ⟨some 29, .bin .shl (.c (.int .i64 1)) (.t 28), none⟩, ⟨some 30, .bin .andNot (.t 27) (.t 29), none⟩, ⟨some 31, .call (.f 72) [(.t 22), (.t 26), (.t 30)], none⟩, ⟨some 32, .call (.f 71) [(.t 31)], none⟩, ⟨some 7, .mv (.t 32), none⟩]) (.seq (.seq (.reg false [⟨some 33, .mv (.t 5), none⟩, ⟨some 34, .mv (.t 6), none⟩, ⟨some 35, .bin .add (.t 33) (.t 34), none⟩, ⟨some 36, .bin .rem (.t 35) (.c (.int .i64 2)), none⟩, ⟨some 37, .bin .eql (.t 36) (.c (.int .i64 1)), none⟩]) (.cond (.t 37) (.reg false [⟨some 38, .mv (.t 7), none⟩, ⟨some 39, .un .neg (.t 38), none⟩, ⟨some 7, .mv (.t 39), none⟩]) .skip)) (.reg false [⟨some 40, .mv (.t 4), none⟩, ⟨some 41, .mv (.t 7), none⟩, ⟨some 42, .lit 2 1 1 [(.int .i64 0)] [(0, (.t 41))], none⟩, ⟨some 43, .app 2 1 8 [(.int .i64 0)] (.t 40) (.t 42), none⟩, ⟨some 4, .mv (.t 43), none⟩]))))) (.reg false [⟨some 44, .bin .add (.t 19) (.c (.int .i64 1)), none⟩, ⟨some 19, .mv (.t 44), none⟩]))))))))) (.reg false [⟨some 45, .bin .add (.t 14) (.c (.int .i64 1)), none⟩, ⟨some 14, .mv (.t 45), none⟩]))))))) (.seq (.reg false [⟨some 46, .mv (.t 4), none⟩, ⟨some 2, .mv (.t 46), none⟩]) .ret))))), 47, [(.t 2)]⟩
theorem k_impl_cofactors : compF Try.prog Try.f130 = some c_impl_cofactors := by kernel_rfl
def c_impl_isCopositive : F := ⟨(.seq (.reg false [⟨some 4, .mv (.c (.bool false)), none⟩]) (.seq (.reg false [⟨some 8, .mv (.t 0), none⟩, ⟨some 9, .call (.f 75) [(.t 8)], none⟩, ⟨some 5, .mv (.t 9), none⟩]) (.seq (.seq (.reg false [⟨some 6, .mv (.c (.int .i64 1)), none⟩]) (.block 0 (.loop (.seq (.seq (.reg false [⟨some 10, .mv (.t 6), none⟩, ⟨some 11, .mv (.t 0), none⟩, ⟨some 12, .len (.t 11), none⟩, ⟨some 13, .bin .shl (.c (.int .i64 1)) (.t 12), none⟩, ⟨some 14, .bin .lss (.t 10) (.t 13), none⟩]) (.cond (.t 14) .skip (.exit 0))) (.seq (.block 1 (.seq (.reg false [⟨some 17, .mv (.t 5), none⟩, ⟨some 18, .mv (.t 6), none⟩, ⟨some 19, .mv (.t 6), none⟩, ⟨some 20, .call (.f 72) [(.t 17), (.t 18), (.t 19)], none⟩, ⟨some 7, .mv (.t 20), none⟩]) (.seq (.reg false [⟨some 21, .mv (.t 7), none⟩, ⟨some 22, .call (.f 71) [(.t 21)], none⟩, ⟨some 23, .mv (.t 1), none⟩, ⟨some 24, .bin .lss (.t 22) (.t 23), none⟩, ⟨some 25, .mv (.t 24), none⟩, ⟨some 26, .mv (.t 7), some (25, true)⟩, ⟨some 27, .call (.f 130) [(.t 26)], some (25, true)⟩, ⟨some 28, .call (.f 128) [(.t 27)], some (25, true)⟩, ⟨some 29, .mv (.t 1), some (25, true)⟩, ⟨some 30, .bin .geq (.t 28) (.t 29), some (25, true)⟩, ⟨some 31, .pick (.t 25) (.t 30) (.c (.bool false)), none⟩]) (.cond (.t 31) (.seq (.reg false [⟨some 4, .mv (.c (.bool false)), none⟩]) .ret) .skip)))) (.reg false [⟨some 15, .mv (.t 6), none⟩, ⟨some 16, .bin .add (.t 15) (.c (.int .i64 1)), none⟩, ⟨some 6, .mv (.t 16), none⟩])))))) (.seq (.reg false [⟨some 4, .mv (.c (.bool true)), none⟩]) .ret)))), 32, [(.t 4)]⟩
theorem k_impl_isCopositive : compF Try.prog Try.f104 = some c_impl_isCopositive := by kernel_rfl
def c_impl_isDominant : F := ⟨(.seq (.reg false [⟨some 2, .mv (.c (.bool false)), none⟩]) (.seq (.seq (.reg false [⟨some 8, .mv (.t 0), none⟩, ⟨some 9, .len (.t 8), none⟩, ⟨some 10, .mv (.c (.int .i64 0)), none⟩]) (.block 0 (.loop (.seq (.reg false [⟨some 11, .bin .lss (.t 10) (.t 9), none⟩]) (.seq (.cond (.t 11) .skip (.exit 0)) (.seq (.block 1 (.seq (.reg false [⟨some 12, .mv (.t 10), none⟩, ⟨some 13, .ia 1 (.t 8) (.t 10), none⟩, ⟨some 14, .ld1 (.t 13), none⟩, ⟨some 3, .mv (.t 12), none⟩, ⟨some 4, .mv (.t 14), none⟩]) (.seq (.reg false [⟨some 15, .mv (.t 4), none⟩, ⟨some 16, .mv (.t 3), none⟩, ⟨some 17, .ia 1 (.t 15) (.t 16), none⟩, ⟨some 18, .ld1 (.t 17), none⟩, ⟨some 19, .call (.f 121) [(.t 18)], none⟩, ⟨some 20, .un .neg (.t 19), none⟩, ⟨some 5, .mv (.t 20), none⟩]) (.seq (.seq (.reg false [⟨some 21, .mv (.t 4), none⟩, ⟨some 22, .len (.t 21), none⟩, ⟨some 23, .mv (.c (.int .i64 0)), none⟩]) (.block 2 (.loop (.seq (.reg false [⟨some 24, .bin .lss (.t 23) (.t 22), none⟩]) (.seq (.cond (.t 24) .skip (.exit 2)) (.seq (.block 3 (.seq (.reg false [⟨some 25, .ia 1 (.t 21) (.t 23), none⟩, ⟨some 26, .ld1 (.t 25), none⟩, ⟨some 7, .mv (.t 26), none⟩]) (.reg false [⟨some 27, .mv (.t 5), none⟩, ⟨some 28, .mv (.t 7), none⟩, ⟨some 29, .call (.f 121) [(.t 28)], none⟩, ⟨some 30, .bin .add (.t 27) (.t 29), none⟩, ⟨some 5, .mv (.t 30), none⟩]))) (.reg false [⟨some 31, .bin .add (.t 23) (.c (.int .i64 1)), none⟩, ⟨some 23, .mv (.t 31), none⟩]))))))) (.seq (.reg false [⟨some 32, .mv (.t 4), none⟩, ⟨some 33, .mv (.t 3), none⟩, ⟨some 34, .ia 1 (.t 32) (.t 33), none⟩, ⟨some 35, .ld1 (.t 34), none⟩, ⟨some 36, .call (.f 121) [(.t 35)], none⟩, ⟨some 37, .mv (.t 5), none⟩, ⟨some 38, .bin .leq (.t 36) (.t 37), none⟩]) (.cond (.t 38) (.seq (.reg false [⟨some 2, .mv (.c (.bool false)), none⟩]) .ret) .skip)))))) (.reg false [⟨some 39, .bin .add (.t 10) (.c (.int .i64 1)), none⟩, ⟨some 10, .mv (.t 39), none⟩]))))))) (.seq (.reg false [⟨some 2, .mv (.c (.bool true)), none⟩]) .ret))), 40, [(.t 2)]⟩
theorem k_impl_isDominant : compF Try.prog Try.f107 = some c_impl_isDominant := by kernel_rfl
def c_impl_isOfKind : F := ⟨(.seq (.reg false [⟨some 2, .box 22 (.t 0), none⟩, ⟨some 4, .mv (.c (.bool false)), none⟩]) (.seq (.seq (.reg false [⟨some 5, .mv (.t 1), none⟩]) (.block 0 (.seq (.reg false [⟨some 7, .bin .eql (.t 5) (.c (.int .i64 0)), none⟩, ⟨some 6, .mv (.t 7), none⟩]) (.cond (.t 6) (.seq (.reg false [⟨some 8, .ld1 (.t 2), none⟩, ⟨some 9, .call (.f 101) [(.t 8), (.c (.int .i64 1))], none⟩, ⟨some 4, .mv (.t 9), none⟩]) .ret) (.seq (.reg false [⟨some 11, .bin .eql (.t 5) (.c (.int .i64 1)), none⟩, ⟨some 10, .mv (.t 11), none⟩]) (.cond (.t 10) (.seq (.reg false [⟨some 12, .ld1 (.t 2), none⟩, ⟨some 13, .call (.f 101) [(.t 12), (.c (.int .i64 0))], none⟩, ⟨some 4, .mv (.t 13), none⟩]) .ret) (.seq (.reg false [⟨some 15, .bin .eql (.t 5) (.c (.int .i64 2)), none⟩, ⟨some 14, .mv (.t 15), none⟩]) (.cond (.t 14) (.seq (.reg false [⟨some 16, .ld1 (.t 2), none⟩, ⟨some 17, .call (.f 102) [(.t 16)], none⟩, ⟨some 4, .mv (.t 17), none⟩]) .ret) (.seq (.reg false [⟨some 19, .bin .eql (.t 5) (.c (.int .i64 3)), none⟩, ⟨some 18, .mv (.t 19), none⟩]) (.cond (.t 18) (.seq (.reg false [⟨some 20, .ld1 (.t 2), none⟩, ⟨some 21, .call (.f 103) [(.t 20)], none⟩, ⟨some 4, .mv (.t 21), none⟩]) .ret) (.seq (.reg false [⟨some 23, .bin .eql (.t 5) (.c (.int .i64 4)), none⟩, ⟨some 22, .mv (.t 23), none⟩]) (.cond (.t 22) (.seq (.reg false [⟨some 24, .ld1 (.t 2), none⟩, ⟨some 25, .call (.f 77) [(.t 24)], none⟩, ⟨some 26, .call (.f 103) [(.t 25)], none⟩, ⟨some 4, .mv (.t 26), none⟩]) .ret) (.seq (.reg false [⟨some 28, .bin .eql (.t 5) (.c (.int .i64 5)), none⟩, ⟨some 27, .mv (.t 28), none⟩]) (.cond (.t 27) (.seq (.reg false [⟨some 29, .ld1 (.t 2), none⟩, ⟨some 30, .call (.f 75) [(.t 29)], none⟩, ⟨some 31, .call (.f 101) [(.t 30), (.c (.int .i64 1))], none⟩, ⟨some 4, .mv (.t 31), none⟩]) .ret) (.seq (.reg false [⟨some 33, .bin .eql (.t 5) (.c (.int .i64 6)), none⟩, ⟨some 32, .mv (.t 33), none⟩]) (.cond (.t 32) (.seq (.reg false [⟨some 34, .ld1 (.t 2), none⟩, ⟨some 35, .call (.f 75) [(.t 34)], none⟩, ⟨some 36, .call (.f 101) [(.t 35), (.c (.int .i64 0))], none⟩, ⟨some 4, .mv (.t 36), none⟩]) .ret) (.seq (.reg false [⟨some 38, .bin .eql (.t 5) (.c (.int .i64 7)), none⟩, ⟨some 37, .mv (.t 38), none⟩]) (.cond (.t 37) (.seq (.reg false [⟨some 39, .ld1 (.t 2), none⟩, ⟨some 40, .call (.f 104) [(.t 39), (.c (.int .i64 0))], none⟩, ⟨some 4, .mv (.t 40), none⟩]) .ret) (.seq (.reg false [⟨some 42, .bin .eql (.t 5) (.c (.int .i64 8)), none⟩, ⟨some 41, .mv (.t 42), none⟩]) (.cond (.t 41) (.seq (.reg false [⟨some 43, .ld1 (.t 2), none⟩, ⟨some 44, .call (.f 104) [(.t 43), (.c (.int .i64 1))], none⟩, ⟨some 4, .mv (.t 44), none⟩]) .ret) (.seq (.reg false [⟨some 46, .bin .eql (.t 5) (.c (.int .i64 9)), none⟩, ⟨some 45, .mv (.t 46), none⟩]) (.cond (.t 45) (.seq (.reg false [⟨some 47, .ld1 (.t 2), none⟩, ⟨some 48, .mkf 106 [(.t 2)], none⟩, ⟨some 49, .call (.f 105) [(.t 47), (.t 48)], none⟩, ⟨some 4, .mv (.t 49), none⟩]) .ret) (.seq (.reg false [⟨some 51, .bin .eql (.t 5) (.c (.int .i64 10)), none⟩, ⟨some 50, .mv (.t 51), none⟩]) (.cond (.t 50) (.seq (.reg false [⟨some 52, .ld1 (.t 2), none⟩, ⟨some 53, .call (.f 107) [(.t 52)], none⟩, ⟨some 4, .mv (.t 53), none⟩]) .ret) .skip)))))))))))))))))))))))) (.seq (.reg false [⟨some 54, .ld1 (.t 2), none⟩, ⟨some 55, .mkf 108 [(.t 2)], none⟩, ⟨some 56, .call (.f 105) [(.t 54), (.t 55)], none⟩, ⟨some 57, .mv (.t 56), none⟩, ⟨some 58, .ld1 (.t 2), some (57, false)⟩, ⟨some 59, .mkf 109 [(.t 2)], some (57, false)⟩, ⟨some 60, .call (.f 105) [(.t 58), (.t 59)], some (57, false)⟩, ⟨some 61, .pick (.t 57) (.c (.bool true)) (.t 60), none⟩, ⟨some 4, .mv (.t 61), none⟩]) .ret))), 62, [(.t 4)]⟩
theorem k_impl_isOfKind : compF Try.prog Try.f61 = some c_impl_isOfKind := by kernel_rfl
def c_impl_isOfKind_1 : F := ⟨(.seq (.reg false [⟨some 5, .mv (.c (.bool false)), none⟩]) (.seq (.reg true [⟨some 6, .ld1 (.t 2), none⟩, ⟨some 7, .mv (.t 0), none⟩, ⟨some 8, .ia 1 (.t 6) (.t 7), none⟩, ⟨some 9, .ld1 (.t 8), none⟩, ⟨some 10, .mv (.t 1), none⟩, ⟨some 11, .ia 1 (.t 9) (.t 10), none⟩, ⟨some 12, .ld1 (.t 11), none⟩, ⟨some 13, .ld1 (.t 2), none⟩, ⟨some 14, .mv (.t 1), none⟩, ⟨some 15, .ia 1 (.t 13) (.t 14), none⟩, ⟨some 16, .ld1 (.t 15), none⟩, ⟨some 17, .mv (.t 0), none⟩, ⟨some 18, .ia 1 (.t 16) (.t 17), none⟩, ⟨some 19, .ld1 (.t 18), none⟩, ⟨some 20, .bin .eql (.t 12) (.t 19), none⟩, ⟨some 5, .mv (.t 20), none⟩]) .ret)), 21, [(.t 5)]⟩
theorem k_impl_isOfKind_1 : compF Try.prog Try.f106 = some c_impl_isOfKind_1 := by kernel_rfl
def c_impl_isOfKind_2 : F := ⟨(.seq (.reg false [⟨some 5, .mv (.c (.bool false)), none⟩]) (.seq (.reg false [⟨some 6, .mv (.t 0), none⟩, ⟨some 7, .mv (.t 1), none⟩, ⟨some 8, .bin .geq (.t 6) (.t 7), none⟩, ⟨some 9, .mv (.t 8), none⟩, ⟨some 10, .ld1 (.t 2), some (9, false)⟩, ⟨some 11, .mv (.t 0), some (9, false)⟩, ⟨some 12, .ia 1 (.t 10) (.t 11), some (9, false)⟩, ⟨some 13, .ld1 (.t 12), some (9, false)⟩, ⟨some 14, .mv (.t 1), some (9, false)⟩, ⟨some 15, .ia 1 (.t 13) (.t 14), some (9, false)⟩, ⟨some 16, .ld1 (.t 15), some (9, false)⟩, ⟨some 17, .bin .eql (.t 16) (.c (.int .i64 0)), some (9, false)⟩, ⟨some 18, .pick (.t 9) (.c (.bool true)) (.t 17), none⟩, ⟨some 5, .mv (.t 18), none⟩]) .ret)), 19, [(.t 5)]⟩
theorem k_impl_isOfKind_2 : compF Try.prog Try.f108 = some c_impl_isOfKind_2 := by kernel_rfl
def c_impl_isOfKind_3 : F := ⟨(.seq (.reg false [⟨some 5, .mv (.c (.bool false)), none⟩]) (.seq (.reg false [⟨some 6, .mv (.t 0), none⟩, ⟨some 7, .mv (.t 1), none⟩, ⟨some 8, .bin .leq (.t 6) (.t 7), none⟩, ⟨some 9, .mv (.t 8), none⟩, ⟨some 10, .ld1 (.t 2), some (9, false)⟩, ⟨some 11, .mv (.t 0), some (9, false)⟩, ⟨some 12, .ia 1 (.t 10) (.t 11), some (9, false)⟩, ⟨some 13, .ld1 (.t 12), some (9, false)⟩, ⟨some 14, .mv (.t 1), some (9, false)⟩, ⟨some 15, .ia 1 (.t 13) (.t 14), some (9, false)⟩, ⟨some 16, .ld1 (.t 15), some (9, false)⟩, ⟨some 17, .bin .eql (.t 16) (.c (.int .i64 0)), some (9, false)⟩, ⟨some 18, .pick (.t 9) (.c (.bool true)) (.t 17), none⟩, ⟨some 5, .mv (.t 18), none⟩]) .ret)), 19, [(.t 5)]⟩
theorem k_impl_isOfKind_3 : compF Try.prog Try.f109 = some c_impl_isOfKind_3 := by kernel_rfl
section
variable {w : Bool} {lo hi : Nat} {h : AH} {v : AV} {vs : List AV} {ll : List (List Int)}
theorem slices_Min {l : List Int} (s : Ints w lo hi h v l) (h0 : 0 < l.length) (hl : l.length ≤ 1048576) (n : Nat) : Q Try.prog 128 [v] h n (.int .i64 (minL l)) := by
  refine q_intro Try.func128 k_slices_Min_Sint64_int64 ?_
  simp (maxSteps := 2000000) -implicitDefEqProofs (disch := omega) only [c_slices_Min_Sint64_int64, s.ln, s.ia, s.ld0, xsW, xsC, xsD, xsE, fillA, reduceCtorEq, Nat.reduceAdd, Nat.reduceSub, Nat.reduceLeDiff, Nat.reduceMul, Int.reduceLT, Int.reduceLE, Int.reduceEq, Int.reduceNe, Int.reduceAdd, Int.reduceSub, Int.reduceMul, Int.reduceNeg, Int.reduceToNat]
  refine loop_for l.length 1 (fun k (_ : Unit) => [v, .any, .int .i64 0, .int .i64 (minL (l.take k)), .int .i64 k, .any, .any, .any, .any, .any, .any, .any, .any, .any, .any, .any, .any, .any, .any, .any, .any, .any, .any, .any, .any]) (fun _ _ => h) (fun _ _ _ => True) () h0 trivial (by
    have e : minL (l.take 1) = l.getD 0 0 := by
      match l, h0 with
      | a :: l, _ => rfl
    simp [LeL, Le1, e]) (fun _ _ h => h) ?_
  rintro k - n1 hk0 hk hn1 -
  simp (maxSteps := 2000000) -implicitDefEqProofs (disch := omega) only [xsW, xsC, xsD, xsE, fillA, reduceCtorEq, Nat.reduceAdd, Nat.reduceSub, Nat.reduceLeDiff, Nat.reduceMul, Int.reduceLT, Int.reduceLE, Int.reduceEq, Int.reduceNe, Int.reduceAdd, Int.reduceSub, Int.reduceMul, Int.reduceNeg, Int.reduceToNat,  s.ln]
  (refine cd_dec (fun c1 => ?_) (fun c1 => ?_) <;> simp (maxSteps := 2000000) -implicitDefEqProofs (disch := omega) only [xsW, xsC, xsD, xsE, fillA, reduceCtorEq, Nat.reduceAdd, Nat.reduceSub, Nat.reduceLeDiff, Nat.reduceMul, Int.reduceLT, Int.reduceLE, Int.reduceEq, Int.reduceNe, Int.reduceAdd, Int.reduceSub, Int.reduceMul, Int.reduceNeg, Int.reduceToNat,  c1])
  · have hk2 : k < l.length := by omega
    have e := minL_take (by omega) hk2
    simp (maxSteps := 2000000) -implicitDefEqProofs (disch := omega) only [xsW, xsC, xsD, xsE, fillA, reduceCtorEq, Nat.reduceAdd, Nat.reduceSub, Nat.reduceLeDiff, Nat.reduceMul, Int.reduceLT, Int.reduceLE, Int.reduceEq, Int.reduceNe, Int.reduceAdd, Int.reduceSub, Int.reduceMul, Int.reduceNeg, Int.reduceToNat,  s.ia, s.ld]
    exact ⟨(), by omega, by omega, by simp [LeL, Le1, e]⟩
  · have e : k = l.length := by omega
    subst e
    rw [List.take_length]
theorem impl_isP (sR : Rows w lo hi h v vs ll) (hN : ll.length ≤ 5) (hs : Sq ll.length ll) (hl : ∃ q, Lim q ll.length (mx ll)) (b : Int) (n : Nat) (hn : hi ≤ n) :
    Q Try.prog 101 [v, .int .i64 b] h n (.bool (pB ll b)) := by
  refine q_intro Try.func101 k_impl_isP ?_
  have hp := pw_le hN
  have hml := minorsL_len ll
  simp (maxSteps := 2000000) -implicitDefEqProofs (disch := omega) only [c_impl_isP, xsW, xsC, xsD, xsE, fillA, reduceCtorEq, Nat.reduceAdd, Nat.reduceSub, Nat.reduceLeDiff, Nat.reduceMul, Int.reduceLT, Int.reduceLE, Int.reduceEq, Int.reduceNe, Int.reduceAdd, Int.reduceSub, Int.reduceMul, Int.reduceNeg, Int.reduceToNat]
  refine fq_use (impl_minors sR hN hs hl n hn) fun v1 h1 n1 hn1 hs1 hv1 => ?_
  simp (maxSteps := 2000000) -implicitDefEqProofs (disch := omega) only [xsW, xsC, xsD, xsE, fillA, reduceCtorEq, Nat.reduceAdd, Nat.reduceSub, Nat.reduceLeDiff, Nat.reduceMul, Int.reduceLT, Int.reduceLE, Int.reduceEq, Int.reduceNe, Int.reduceAdd, Int.reduceSub, Int.reduceMul, Int.reduceNeg, Int.reduceToNat]
  refine q_use (slices_Min hv1 (by omega) (by omega) _) fun n2 hn2 => ?_
  simp (maxSteps := 2000000) -implicitDefEqProofs (disch := omega) only [xsW, xsC, xsD, xsE, fillA, reduceCtorEq, Nat.reduceAdd, Nat.reduceSub, Nat.reduceLeDiff, Nat.reduceMul, Int.reduceLT, Int.reduceLE, Int.reduceEq, Int.reduceNe, Int.reduceAdd, Int.reduceSub, Int.reduceMul, Int.reduceNeg, Int.reduceToNat]
  rfl
theorem impl_allPlaces (s : Rows w lo hi h v vs ll) (hN : ll.length ≤ 5) (g : Nat) (ds : List AV) (F : Nat → Nat → Bool) (n : Nat)
    (hF : ∀ i k n', i < ll.length → k < ll.length → n ≤ n' → Q Try.prog g (.int .i64 i :: .int .i64 k :: ds) h n' (.bool (F i k))) :
    Q Try.prog 105 [v, .fn g ds] h n (.bool (allF ll.length F)) := by
  refine q_intro Try.func105 k_impl_allPlaces ?_
  simp (maxSteps := 2000000) -implicitDefEqProofs (disch := omega) only [c_impl_allPlaces, s.ln, xsW, xsC, xsD, xsE, fillA, reduceCtorEq, Nat.reduceAdd, Nat.reduceSub, Nat.reduceLeDiff, Nat.reduceMul, Int.reduceLT, Int.reduceLE, Int.reduceEq, Int.reduceNe, Int.reduceAdd, Int.reduceSub, Int.reduceMul, Int.reduceNeg, Int.reduceToNat]
  refine loop_for ll.length 0 (fun i (_ : Unit) => [v, .fn g ds, .any, .any, .bool false, .any, .any, .any, .int .i64 ll.length, .int .i64 i, .any, .any, .any, .any, .any, .any, .any, .any, .any, .any, .any, .any, .any, .any]) (fun _ _ => h)
    (fun i _ _ => ∀ i' k', i' < i → k' < ll.length → F i' k' = true) () (Nat.zero_le _) (fun _ _ hj _ => absurd hj (Nat.not_lt_zero _)) (by simp [LeL, Le1]) (fun _ _ h => h) ?_
  rintro i - n1 - hi1 hn1 he
  simp (maxSteps := 2000000) -implicitDefEqProofs (disch := omega) only [xsW, xsC, xsD, xsE, fillA, reduceCtorEq, Nat.reduceAdd, Nat.reduceSub, Nat.reduceLeDiff, Nat.reduceMul, Int.reduceLT, Int.reduceLE, Int.reduceEq, Int.reduceNe, Int.reduceAdd, Int.reduceSub, Int.reduceMul, Int.reduceNeg, Int.reduceToNat]
  (refine cd_dec (fun c1 => ?_) (fun c1 => ?_) <;> simp (maxSteps := 2000000) -implicitDefEqProofs (disch := omega) only [xsW, xsC, xsD, xsE, fillA, reduceCtorEq, Nat.reduceAdd, Nat.reduceSub, Nat.reduceLeDiff, Nat.reduceMul, Int.reduceLT, Int.reduceLE, Int.reduceEq, Int.reduceNe, Int.reduceAdd, Int.reduceSub, Int.reduceMul, Int.reduceNeg, Int.reduceToNat,  c1])
  · have hi2 : i < ll.length := by omega
    simp (maxSteps := 2000000) -implicitDefEqProofs (disch := omega) only [xsW, xsC, xsD, xsE, fillA, reduceCtorEq, Nat.reduceAdd, Nat.reduceSub, Nat.reduceLeDiff, Nat.reduceMul, Int.reduceLT, Int.reduceLE, Int.reduceEq, Int.reduceNe, Int.reduceAdd, Int.reduceSub, Int.reduceMul, Int.reduceNeg, Int.reduceToNat,  s.ln]
    refine loop_for ll.length 0 (fun k (_ : Unit) => [v, .fn g ds, .any, .any, .bool false, .int .i64 i, .any, .any, .int .i64 ll.length, .int .i64 i, .any, .any, .any, .int .i64 ll.length, .int .i64 k, .any, .any, .any, .any, .any, .any, .any, .any, .any]) (fun _ _ => h)
      (fun k _ _ => ∀ k', k' < k → F i k' = true) () (Nat.zero_le _) (fun _ hj => absurd hj (Nat.not_lt_zero _)) (by simp [LeL, Le1]) (fun _ _ h => h) ?_
    rintro k - n2 - hk1 hn2 he2
    simp (maxSteps := 2000000) -implicitDefEqProofs (disch := omega) only [xsW, xsC, xsD, xsE, fillA, reduceCtorEq, Nat.reduceAdd, Nat.reduceSub, Nat.reduceLeDiff, Nat.reduceMul, Int.reduceLT, Int.reduceLE, Int.reduceEq, Int.reduceNe, Int.reduceAdd, Int.reduceSub, Int.reduceMul, Int.reduceNeg, Int.reduceToNat]
    (refine cd_dec (fun c2 => ?_) (fun c2 => ?_) <;> simp (maxSteps := 2000000) -implicitDefEqProofs (disch := omega) only [xsW, xsC, xsD, xsE, fillA, reduceCtorEq, Nat.reduceAdd, Nat.reduceSub, Nat.reduceLeDiff, Nat.reduceMul, Int.reduceLT, Int.reduceLE, Int.reduceEq, Int.reduceNe, Int.reduceAdd, Int.reduceSub, Int.reduceMul, Int.reduceNeg, Int.reduceToNat,  c2])
    · have hk2 : k < ll.length := by omega
      refine q_use (hF i k n2 hi2 hk2 (by omega)) fun n3 hn3 => ?_
      cases hf : F i k
      · simp (maxSteps := 2000000) -implicitDefEqProofs (disch := omega) only [xsW, xsC, xsD, xsE, fillA, reduceCtorEq, Nat.reduceAdd, Nat.reduceSub, Nat.reduceLeDiff, Nat.reduceMul, Int.reduceLT, Int.reduceLE, Int.reduceEq, Int.reduceNe, Int.reduceAdd, Int.reduceSub, Int.reduceMul, Int.reduceNeg, Int.reduceToNat]
        rw [allF_f hi2 hk2 hf]
      · simp (maxSteps := 2000000) -implicitDefEqProofs (disch := omega) only [xsW, xsC, xsD, xsE, fillA, reduceCtorEq, Nat.reduceAdd, Nat.reduceSub, Nat.reduceLeDiff, Nat.reduceMul, Int.reduceLT, Int.reduceLE, Int.reduceEq, Int.reduceNe, Int.reduceAdd, Int.reduceSub, Int.reduceMul, Int.reduceNeg, Int.reduceToNat]
        exact ⟨(), fun k' hk' => (Nat.lt_succ_iff_lt_or_eq.1 hk').elim (he2 k') (fun e => by rw [e]; exact hf), by omega, by omega, (by simp [LeL, Le1])⟩
    · have e : k = ll.length := by omega
      subst e
      exact ⟨(), fun i' k' h1 h2 => (Nat.lt_succ_iff_lt_or_eq.1 h1).elim (fun h3 => he i' k' h3 h2) (fun e => by rw [e]; exact he2 k' h2), by omega, by omega, (by simp [LeL, Le1])⟩
  · rw [allF_t fun i' k' h1 h2 => he i' k' (by omega) h2]
theorem impl_isZ1 (s : Rows w lo hi h v vs ll) (hN : ll.length ≤ 5) (hs : Sq ll.length ll) {b : Nat} {wr : Bool} {op ty n : Nat} (hb : h b = some ⟨ty, [v], wr, op⟩) {i k : Nat} (hi2 : i < ll.length) (hk2 : k < ll.length) :
    Q Try.prog 129 [.int .i64 i, .int .i64 k, .ptr b 0] h n (.bool (decide (i = k) || decide (at2 ll i k ≤ 0))) := by
  refine q_intro Try.func129 k_impl_isZ_1 ?_
  have hri := s.row i hi2
  have li := hs.2 i hi2
  simp (maxSteps := 2000000) -implicitDefEqProofs (disch := omega) only [c_impl_isZ_1, hb, s.ia, s.ld, hri.ia, hri.ld, xsW, xsC, xsD, xsE, fillA, reduceCtorEq, Nat.reduceAdd, Nat.reduceSub, Nat.reduceLeDiff, Nat.reduceMul, Int.reduceLT, Int.reduceLE, Int.reduceEq, Int.reduceNe, Int.reduceAdd, Int.reduceSub, Int.reduceMul, Int.reduceNeg, Int.reduceToNat]
  refine gd_dec (fun c1 => ?_) (fun c1 => ?_)
  · simp (maxSteps := 2000000) -implicitDefEqProofs (disch := omega) only [xsW, xsC, xsD, xsE, fillA, reduceCtorEq, Nat.reduceAdd, Nat.reduceSub, Nat.reduceLeDiff, Nat.reduceMul, Int.reduceLT, Int.reduceLE, Int.reduceEq, Int.reduceNe, Int.reduceAdd, Int.reduceSub, Int.reduceMul, Int.reduceNeg, Int.reduceToNat,  c1, hb, s.ia, s.ld, hri.ia, hri.ld]
    rw [show decide (i = k) = true from decide_eq_true (by omega), Bool.true_or]
  · simp (maxSteps := 2000000) -implicitDefEqProofs (disch := omega) only [xsW, xsC, xsD, xsE, fillA, reduceCtorEq, Nat.reduceAdd, Nat.reduceSub, Nat.reduceLeDiff, Nat.reduceMul, Int.reduceLT, Int.reduceLE, Int.reduceEq, Int.reduceNe, Int.reduceAdd, Int.reduceSub, Int.reduceMul, Int.reduceNeg, Int.reduceToNat,  c1, hb, s.ia, s.ld, hri.ia, hri.ld]
    unfold at2
    rw [show decide (i = k) = false from decide_eq_false (by omega), Bool.false_or]
theorem impl_kind2 (s : Rows w lo hi h v vs ll) (hN : ll.length ≤ 5) (hs : Sq ll.length ll) {b : Nat} {wr : Bool} {op ty n : Nat} (hb : h b = some ⟨ty, [v], wr, op⟩) {i k : Nat} (hi2 : i < ll.length) (hk2 : k < ll.length) :
    Q Try.prog 108 [.int .i64 i, .int .i64 k, .ptr b 0] h n (.bool (decide (k ≤ i) || decide (at2 ll i k = 0))) := by
  refine q_intro Try.func108 k_impl_isOfKind_2 ?_
  have hri := s.row i hi2
  have li := hs.2 i hi2
  simp (maxSteps := 2000000) -implicitDefEqProofs (disch := omega) only [c_impl_isOfKind_2, hb, s.ia, s.ld, hri.ia, hri.ld, xsW, xsC, xsD, xsE, fillA, reduceCtorEq, Nat.reduceAdd, Nat.reduceSub, Nat.reduceLeDiff, Nat.reduceMul, Int.reduceLT, Int.reduceLE, Int.reduceEq, Int.reduceNe, Int.reduceAdd, Int.reduceSub, Int.reduceMul, Int.reduceNeg, Int.reduceToNat]
  refine gd_dec (fun c1 => ?_) (fun c1 => ?_)
  · simp (maxSteps := 2000000) -implicitDefEqProofs (disch := omega) only [xsW, xsC, xsD, xsE, fillA, reduceCtorEq, Nat.reduceAdd, Nat.reduceSub, Nat.reduceLeDiff, Nat.reduceMul, Int.reduceLT, Int.reduceLE, Int.reduceEq, Int.reduceNe, Int.reduceAdd, Int.reduceSub, Int.reduceMul, Int.reduceNeg, Int.reduceToNat,  c1, hb, s.ia, s.ld, hri.ia, hri.ld]
    rw [show decide (k ≤ i) = true from decide_eq_true (by omega), Bool.true_or]
  · simp (maxSteps := 2000000) -implicitDefEqProofs (disch := omega) only [xsW, xsC, xsD, xsE, fillA, reduceCtorEq, Nat.reduceAdd, Nat.reduceSub, Nat.reduceLeDiff, Nat.reduceMul, Int.reduceLT, Int.reduceLE, Int.reduceEq, Int.reduceNe, Int.reduceAdd, Int.reduceSub, Int.reduceMul, Int.reduceNeg, Int.reduceToNat,  c1, hb, s.ia, s.ld, hri.ia, hri.ld]
    unfold at2
    rw [show decide (k ≤ i) = false from decide_eq_false (by omega), Bool.false_or]
theorem impl_kind3 (s : Rows w lo hi h v vs ll) (hN : ll.length ≤ 5) (hs : Sq ll.length ll) {b : Nat} {wr : Bool} {op ty n : Nat} (hb : h b = some ⟨ty, [v], wr, op⟩) {i k : Nat} (hi2 : i < ll.length) (hk2 : k < ll.length) :
    Q Try.prog 109 [.int .i64 i, .int .i64 k, .ptr b 0] h n (.bool (decide (i ≤ k) || decide (at2 ll i k = 0))) := by
  refine q_intro Try.func109 k_impl_isOfKind_3 ?_
  have hri := s.row i hi2
  have li := hs.2 i hi2
  simp (maxSteps := 2000000) -implicitDefEqProofs (disch := omega) only [c_impl_isOfKind_3, hb, s.ia, s.ld, hri.ia, hri.ld, xsW, xsC, xsD, xsE, fillA, reduceCtorEq, Nat.reduceAdd, Nat.reduceSub, Nat.reduceLeDiff, Nat.reduceMul, Int.reduceLT, Int.reduceLE, Int.reduceEq, Int.reduceNe, Int.reduceAdd, Int.reduceSub, Int.reduceMul, Int.reduceNeg, Int.reduceToNat]
  refine gd_dec (fun c1 => ?_) (fun c1 => ?_)
  · simp (maxSteps := 2000000) -implicitDefEqProofs (disch := omega) only [xsW, xsC, xsD, xsE, fillA, reduceCtorEq, Nat.reduceAdd, Nat.reduceSub, Nat.reduceLeDiff, Nat.reduceMul, Int.reduceLT, Int.reduceLE, Int.reduceEq, Int.reduceNe, Int.reduceAdd, Int.reduceSub, Int.reduceMul, Int.reduceNeg, Int.reduceToNat,  c1, hb, s.ia, s.ld, hri.ia, hri.ld]
    rw [show decide (i ≤ k) = true from decide_eq_true (by omega), Bool.true_or]
  · simp (maxSteps := 2000000) -implicitDefEqProofs (disch := omega) only [xsW, xsC, xsD, xsE, fillA, reduceCtorEq, Nat.reduceAdd, Nat.reduceSub, Nat.reduceLeDiff, Nat.reduceMul, Int.reduceLT, Int.reduceLE, Int.reduceEq, Int.reduceNe, Int.reduceAdd, Int.reduceSub, Int.reduceMul, Int.reduceNeg, Int.reduceToNat,  c1, hb, s.ia, s.ld, hri.ia, hri.ld]
    unfold at2
    rw [show decide (i ≤ k) = false from decide_eq_false (by omega), Bool.false_or]
theorem impl_kind1 (s : Rows w lo hi h v vs ll) (hN : ll.length ≤ 5) (hs : Sq ll.length ll) {b : Nat} {wr : Bool} {op ty n : Nat} (hb : h b = some ⟨ty, [v], wr, op⟩) {i k : Nat} (hi2 : i < ll.length) (hk2 : k < ll.length) :
    Q Try.prog 106 [.int .i64 i, .int .i64 k, .ptr b 0] h n (.bool (decide (at2 ll i k = at2 ll k i))) := by
  refine q_intro Try.func106 k_impl_isOfKind_1 ?_
  have hri := s.row i hi2
  have hrk := s.row k hk2
  have li := hs.2 i hi2
  have lk := hs.2 k hk2
  simp (maxSteps := 2000000) -implicitDefEqProofs (disch := omega) only [c_impl_isOfKind_1, hb, s.ia, s.ld, hri.ia, hri.ld, hrk.ia, hrk.ld, xsW, xsC, xsD, xsE, fillA, reduceCtorEq, Nat.reduceAdd, Nat.reduceSub, Nat.reduceLeDiff, Nat.reduceMul, Int.reduceLT, Int.reduceLE, Int.reduceEq, Int.reduceNe, Int.reduceAdd, Int.reduceSub, Int.reduceMul, Int.reduceNeg, Int.reduceToNat]
  rfl
theorem impl_isZ (s : Rows w lo hi h v vs ll) (hN : ll.length ≤ 5) (hs : Sq ll.length ll) (n : Nat) (hn : hi ≤ n) : Q Try.prog 102 [v] h n (.bool (zB ll)) := by
  refine q_intro Try.func102 k_impl_isZ ?_
  have o1 := one_any (Sl.any s.out)
  have o2 := sto_any (Sl.any s.out)
  have o3 := cel_any (Sl.any s.out)
  simp (maxSteps := 2000000) -implicitDefEqProofs (disch := omega) only [c_impl_isZ, o1, o2, o3, xsW, xsC, xsD, xsE, fillA, reduceCtorEq, Nat.reduceAdd, Nat.reduceSub, Nat.reduceLeDiff, Nat.reduceMul, Int.reduceLT, Int.reduceLE, Int.reduceEq, Int.reduceNe, Int.reduceAdd, Int.reduceSub, Int.reduceMul, Int.reduceNeg, Int.reduceToNat]
  refine q_use (impl_allPlaces (s.keep (fun i _ hi9 => by simp (disch := omega) only [upd_other])) hN _ _ _ _ fun i k n' hi2 hk2 hn' => impl_isZ1 (s.keep (fun i _ hi9 => by simp (disch := omega) only [upd_other])) hN hs (upd_same _ _ _) hi2 hk2) fun n1 hn1 => ?_
  simp (maxSteps := 2000000) -implicitDefEqProofs (disch := omega) only [xsW, xsC, xsD, xsE, fillA, reduceCtorEq, Nat.reduceAdd, Nat.reduceSub, Nat.reduceLeDiff, Nat.reduceMul, Int.reduceLT, Int.reduceLE, Int.reduceEq, Int.reduceNe, Int.reduceAdd, Int.reduceSub, Int.reduceMul, Int.reduceNeg, Int.reduceToNat]
  rfl
theorem impl_isK (s : Rows w lo hi h v vs ll) (hN : ll.length ≤ 5) (hs : Sq ll.length ll) (hl : ∃ q, Lim q ll.length (mx ll)) (n : Nat) (hn : hi ≤ n) : Q Try.prog 103 [v] h n (.bool (zB ll && pB ll 1)) := by
  refine q_intro Try.func103 k_impl_isK ?_
  simp (maxSteps := 2000000) -implicitDefEqProofs (disch := omega) only [c_impl_isK, xsW, xsC, xsD, xsE, fillA, reduceCtorEq, Nat.reduceAdd, Nat.reduceSub, Nat.reduceLeDiff, Nat.reduceMul, Int.reduceLT, Int.reduceLE, Int.reduceEq, Int.reduceNe, Int.reduceAdd, Int.reduceSub, Int.reduceMul, Int.reduceNeg, Int.reduceToNat]
  refine q_use (impl_isZ s hN hs _ hn) fun n1 hn1 => ?_
  cases hz : zB ll
  · simp (maxSteps := 2000000) -implicitDefEqProofs (disch := omega) only [xsW, xsC, xsD, xsE, fillA, reduceCtorEq, Nat.reduceAdd, Nat.reduceSub, Nat.reduceLeDiff, Nat.reduceMul, Int.reduceLT, Int.reduceLE, Int.reduceEq, Int.reduceNe, Int.reduceAdd, Int.reduceSub, Int.reduceMul, Int.reduceNeg, Int.reduceToNat]
  · simp (maxSteps := 2000000) -implicitDefEqProofs (disch := omega) only [xsW, xsC, xsD, xsE, fillA, reduceCtorEq, Nat.reduceAdd, Nat.reduceSub, Nat.reduceLeDiff, Nat.reduceMul, Int.reduceLT, Int.reduceLE, Int.reduceEq, Int.reduceNe, Int.reduceAdd, Int.reduceSub, Int.reduceMul, Int.reduceNeg, Int.reduceToNat]
    refine q_use (impl_isP s hN hs hl 1 _ (by omega)) fun n2 hn2 => ?_
    simp (maxSteps := 2000000) -implicitDefEqProofs (disch := omega) only [xsW, xsC, xsD, xsE, fillA, reduceCtorEq, Nat.reduceAdd, Nat.reduceSub, Nat.reduceLeDiff, Nat.reduceMul, Int.reduceLT, Int.reduceLE, Int.reduceEq, Int.reduceNe, Int.reduceAdd, Int.reduceSub, Int.reduceMul, Int.reduceNeg, Int.reduceToNat]
theorem impl_cofactors {N : Nat} (sR : Rows w lo hi h v vs ll) (hN : N ≤ 5) (hs : Sq N ll) (hl : ∃ q, Lim q N (mx ll)) (n : Nat) (hn : hi ≤ n) :
    FQ Try.prog 130 [v] h n fun v' h' n' => Ints true n n' h' v' (cofR N (mx ll) N) := by
  refine fq_intro Try.func130 k_impl_cofactors ?_
  have hL := hs.1
  have hp := pw_le hN
  simp (maxSteps := 2000000) -implicitDefEqProofs (disch := omega) only [c_impl_cofactors, sR.ln, hL, shl1, xsW, xsC, xsD, xsE, fillA, reduceCtorEq, Nat.reduceAdd, Nat.reduceSub, Nat.reduceLeDiff, Nat.reduceMul, Int.reduceLT, Int.reduceLE, Int.reduceEq, Int.reduceNe, Int.reduceAdd, Int.reduceSub, Int.reduceMul, Int.reduceNeg, Int.reduceToNat]
  refine loop_for N 0 (fun i p => [v, .any, .nilsl, .int .i64 ((pw N : Int) - 1), p.1, .any, .any, .any, .any, .any, .any, .any, .any, .int .i64 N, .int .i64 i, .any, .any, .any, .any, .any, .any, .any, .any, .any, .any, .any, .any, .any, .any, .any, .any, .any, .any, .any, .any, .any, .any, .any, .any, .any, .any, .any, .any, .any, .any, .any, .any]) (fun _ (p : AV × AH) => p.2)
    (fun i p m => Acc n m p.2 2 1 p.1 (ints (cofR N (mx ll) i)) ∧ n ≤ m ∧ ∀ j, j < n → p.2 j = h j) (.nilsl, h) (Nat.zero_le _) ⟨Acc.nil, by omega, fun _ _ => rfl⟩ (by simp [LeL, Le1]) (fun _ _ h => h) ?_
  rintro i ⟨out, hp'⟩ m - hi1 hm ⟨acc, hle, hold⟩
  simp only at acc hold
  simp (maxSteps := 2000000) -implicitDefEqProofs (disch := omega) only [xsW, xsC, xsD, xsE, fillA, reduceCtorEq, Nat.reduceAdd, Nat.reduceSub, Nat.reduceLeDiff, Nat.reduceMul, Int.reduceLT, Int.reduceLE, Int.reduceEq, Int.reduceNe, Int.reduceAdd, Int.reduceSub, Int.reduceMul, Int.reduceNeg, Int.reduceToNat]
  (refine cd_dec (fun c1 => ?_) (fun c1 => ?_) <;> simp (maxSteps := 2000000) -implicitDefEqProofs (disch := omega) only [xsW, xsC, xsD, xsE, fillA, reduceCtorEq, Nat.reduceAdd, Nat.reduceSub, Nat.reduceLeDiff, Nat.reduceMul, Int.reduceLT, Int.reduceLE, Int.reduceEq, Int.reduceNe, Int.reduceAdd, Int.reduceSub, Int.reduceMul, Int.reduceNeg, Int.reduceToNat,  c1])
  · have hi2 : i < N := by omega
    simp (maxSteps := 2000000) -implicitDefEqProofs (disch := omega) only [xsW, xsC, xsD, xsE, fillA, reduceCtorEq, Nat.reduceAdd, Nat.reduceSub, Nat.reduceLeDiff, Nat.reduceMul, Int.reduceLT, Int.reduceLE, Int.reduceEq, Int.reduceNe, Int.reduceAdd, Int.reduceSub, Int.reduceMul, Int.reduceNeg, Int.reduceToNat,  sR.ln, hL]
    refine loop_for N 0 (fun k p => [v, .any, .nilsl, .int .i64 ((pw N : Int) - 1), p.1, .int .i64 i, .any, .any, .any, .any, .any, .any, .any, .int .i64 N, .int .i64 i, .any, .any, .any, .int .i64 N, .int .i64 k, .any, .any, .any, .any, .any, .any, .any, .any, .any, .any, .any, .any, .any, .any, .any, .any, .any, .any, .any, .any, .any, .any, .any, .any, .any, .any, .any]) (fun _ (p : AV × AH) => p.2)
      (fun k p m => Acc n m p.2 2 1 p.1 (ints (cofP N (mx ll) i k)) ∧ n ≤ m ∧ ∀ j, j < n → p.2 j = h j) (out, hp') (Nat.zero_le _) ⟨by rw [cofP_zero]; exact acc, by omega, hold⟩ (by simp [LeL, Le1]) (fun _ _ h => h) ?_
    rintro k ⟨out2, hq⟩ m2 - hk1 hm2 ⟨acc2, hle2, hold2⟩
    simp only at acc2 hold2
    simp (maxSteps := 2000000) -implicitDefEqProofs (disch := omega) only [xsW, xsC, xsD, xsE, fillA, reduceCtorEq, Nat.reduceAdd, Nat.reduceSub, Nat.reduceLeDiff, Nat.reduceMul, Int.reduceLT, Int.reduceLE, Int.reduceEq, Int.reduceNe, Int.reduceAdd, Int.reduceSub, Int.reduceMul, Int.reduceNeg, Int.reduceToNat]
    (refine cd_dec (fun c2 => ?_) (fun c2 => ?_) <;> simp (maxSteps := 2000000) -implicitDefEqProofs (disch := omega) only [xsW, xsC, xsD, xsE, fillA, reduceCtorEq, Nat.reduceAdd, Nat.reduceSub, Nat.reduceLeDiff, Nat.reduceMul, Int.reduceLT, Int.reduceLE, Int.reduceEq, Int.reduceNe, Int.reduceAdd, Int.reduceSub, Int.reduceMul, Int.reduceNeg, Int.reduceToNat,  c2])
    · have hk2 : k < N := by omega
      obtain ⟨N', rfl⟩ : ∃ N', N = N' + 1 := ⟨N - 1, by omega⟩
      have hpi := pw_le (n := i) (by omega)
      have hpk := pw_le (n := k) (by omega)
      simp (maxSteps := 2000000) -implicitDefEqProofs (disch := omega) only [xsW, xsC, xsD, xsE, fillA, reduceCtorEq, Nat.reduceAdd, Nat.reduceSub, Nat.reduceLeDiff, Nat.reduceMul, Int.reduceLT, Int.reduceLE, Int.reduceEq, Int.reduceNe, Int.reduceAdd, Int.reduceSub, Int.reduceMul, Int.reduceNeg, Int.reduceToNat,  shl1]
      refine ⟨by unfold in64; omega, by unfold in64; omega, ?_⟩
      refine fq_use (impl_part (sR.keep (h' := hq) (fun i _ hi9 => by simp (disch := omega) only [upd_other, hold2])) (by omega) (by rw [hL]; exact hs) _ _ m2 (by omega)) fun v1 h1 n1 hn1 hs1 ⟨vs1, hv1⟩ => ?_
      rw [part_wo (by omega) hs hi2 hk2] at hv1
      simp (maxSteps := 2000000) -implicitDefEqProofs (disch := omega) only [xsW, xsC, xsD, xsE, fillA, reduceCtorEq, Nat.reduceAdd, Nat.reduceSub, Nat.reduceLeDiff, Nat.reduceMul, Int.reduceLT, Int.reduceLE, Int.reduceEq, Int.reduceNe, Int.reduceAdd, Int.reduceSub, Int.reduceMul, Int.reduceNeg, Int.reduceToNat]
      refine q_use (impl_determinant _ hv1 (by omega) (wo_sq hs hk2) (wo_lim hs hk2 hl) n1 (Nat.le_refl _)) fun n2 hn2 => ?_
      have eD : det N' (mx (wo ll i k N')) = det (N' + 1 - 1) (mi (mx ll) i k) := det_congr fun r c hr hc => wo_at hs hk2 hr hc
      rw [eD]
      have b1 := cof_b hN hl hi2 hk2
      have ht : ((i : Int) + (k : Int)).tmod 2 = (((i + k) % 2 : Nat) : Int) := by rw [← Int.natCast_add]; exact tm2 _
      have hik : i * (N' + 1) ≤ 25 := Nat.mul_le_mul (show i ≤ 5 by omega) (show N' + 1 ≤ 5 by omega)
      simp (maxSteps := 2000000) -implicitDefEqProofs (disch := omega) only [xsW, xsC, xsD, xsE, fillA, reduceCtorEq, Nat.reduceAdd, Nat.reduceSub, Nat.reduceLeDiff, Nat.reduceMul, Int.reduceLT, Int.reduceLE, Int.reduceEq, Int.reduceNe, Int.reduceAdd, Int.reduceSub, Int.reduceMul, Int.reduceNeg, Int.reduceToNat,  ht]
      (refine cd_dec (fun c3 => ?_) (fun c3 => ?_) <;> simp (maxSteps := 2000000) -implicitDefEqProofs (disch := omega) only [xsW, xsC, xsD, xsE, fillA, reduceCtorEq, Nat.reduceAdd, Nat.reduceSub, Nat.reduceLeDiff, Nat.reduceMul, Int.reduceLT, Int.reduceLE, Int.reduceEq, Int.reduceNe, Int.reduceAdd, Int.reduceSub, Int.reduceMul, Int.reduceNeg, Int.reduceToNat,  c3])
      · have e3 : cof (N' + 1) (mx ll) i k = -det (N' + 1 - 1) (mi (mx ll) i k) := by unfold cof; rw [if_pos (by omega)]
        refine app_int (y := cof (N' + 1) (mx ll) i k) ((acc2.keep (fun i _ hi9 => by simp (disch := omega) only [upd_other, hs1])).wide (Nat.le_refl _) (by omega)) (by omega) (by omega) ⟨rfl, _, upd_same _ _ _, by simp, by simp [cutA, e3]⟩ (by rw [cofP_len]; omega) fun v' h' n' q1 q2 q3 => ?_
        simp (maxSteps := 2000000) -implicitDefEqProofs (disch := omega) only [xsW, xsC, xsD, xsE, fillA, reduceCtorEq, Nat.reduceAdd, Nat.reduceSub, Nat.reduceLeDiff, Nat.reduceMul, Int.reduceLT, Int.reduceLE, Int.reduceEq, Int.reduceNe, Int.reduceAdd, Int.reduceSub, Int.reduceMul, Int.reduceNeg, Int.reduceToNat]
        exact ⟨(v', h'), ⟨by rw [cofP_succ]; exact q2, by omega, fun j hj => (q3 j hj).trans (by rw [upd_other (by omega), hs1 j (by omega), hold2 j hj])⟩, by omega, by omega, (by simp [LeL, Le1]), fun _ _ h => h⟩
      · have e3 : cof (N' + 1) (mx ll) i k = det (N' + 1 - 1) (mi (mx ll) i k) := by unfold cof; rw [if_neg (by omega)]
        refine app_int (y := cof (N' + 1) (mx ll) i k) ((acc2.keep (fun i _ hi9 => by simp (disch := omega) only [upd_other, hs1])).wide (Nat.le_refl _) (by omega)) (by omega) (by omega) ⟨rfl, _, upd_same _ _ _, by simp, by simp [cutA, e3]⟩ (by rw [cofP_len]; omega) fun v' h' n' q1 q2 q3 => ?_
        simp (maxSteps := 2000000) -implicitDefEqProofs (disch := omega) only [xsW, xsC, xsD, xsE, fillA, reduceCtorEq, Nat.reduceAdd, Nat.reduceSub, Nat.reduceLeDiff, Nat.reduceMul, Int.reduceLT, Int.reduceLE, Int.reduceEq, Int.reduceNe, Int.reduceAdd, Int.reduceSub, Int.reduceMul, Int.reduceNeg, Int.reduceToNat]
        exact ⟨(v', h'), ⟨by rw [cofP_succ]; exact q2, by omega, fun j hj => (q3 j hj).trans (by rw [upd_other (by omega), hs1 j (by omega), hold2 j hj])⟩, by omega, by omega, (by simp [LeL, Le1]), fun _ _ h => h⟩
    · have e : k = N := by omega
      subst e
      exact ⟨(out2, hq), ⟨by rw [← cofP_full]; exact acc2, by omega, hold2⟩, by omega, by omega, (by simp [LeL, Le1]), fun _ _ h => h⟩
  · have e : i = N := by omega
    subst e
    intro _ h2 hh
    exact (acc.keep fun i a b => hh i a b).sl
theorem impl_isCopositive (sR : Rows true lo hi h v vs ll) (hm : isMat ll = true) (b : Int) (hb : b = 0 ∨ b = 1) (n : Nat) (hn : hi ≤ n) : Q Try.prog 104 [v, .int .i64 b] h n (.bool (copB (symF ll) b)) := by
  refine q_intro Try.func104 k_impl_isCopositive ?_
  obtain ⟨hN, _, _⟩ := isMat_sq hm
  obtain ⟨hL, hs, hl⟩ := symF_facts hm
  have hp := pw_le hN
  simp (maxSteps := 2000000) -implicitDefEqProofs (disch := omega) only [c_impl_isCopositive, xsW, xsC, xsD, xsE, fillA, reduceCtorEq, Nat.reduceAdd, Nat.reduceSub, Nat.reduceLeDiff, Nat.reduceMul, Int.reduceLT, Int.reduceLE, Int.reduceEq, Int.reduceNe, Int.reduceAdd, Int.reduceSub, Int.reduceMul, Int.reduceNeg, Int.reduceToNat]
  refine fq_use (impl_symmetric sR hm n hn) fun v1 h1 n1 hn1 hs1 ⟨vs1, hv1⟩ => ?_
  simp (maxSteps := 2000000) -implicitDefEqProofs (disch := omega) only [xsW, xsC, xsD, xsE, fillA, reduceCtorEq, Nat.reduceAdd, Nat.reduceSub, Nat.reduceLeDiff, Nat.reduceMul, Int.reduceLT, Int.reduceLE, Int.reduceEq, Int.reduceNe, Int.reduceAdd, Int.reduceSub, Int.reduceMul, Int.reduceNeg, Int.reduceToNat]
  have hcop : copB (symF ll) b = (List.range (pw ll.length)).all (fun s => decide (s = 0) || !badS (symF ll) b s) := by unfold copB; rw [hL]
  refine loop_for (pw ll.length) 1 (fun s _ => [v, .int .i64 b, .any, .any, .bool false, v1, .int .i64 s, .any, .any, .any, .any, .any, .any, .any, .any, .any, .any, .any, .any, .any, .any, .any, .any, .any, .any, .any, .any, .any, .any, .any, .any, .any]) (fun _ (hp : AH) => hp)
    (fun s hp m => (∀ j, 1 ≤ j → j < s → badS (symF ll) b j = false) ∧ n1 ≤ m ∧ ∀ j, j < n1 → hp j = h1 j) h1 hp.1 ⟨fun j h1 h2 => by omega, Nat.le_refl _, fun _ _ => rfl⟩ (by simp [LeL, Le1]) (fun _ _ h => h) ?_
  rintro s hp' m hs0 hs1' hm1 ⟨he, hle, hold⟩
  have hsr := (sR.keep (h' := h1) (fun i _ hi9 => by simp (disch := omega) only [upd_other, hs1])).keep (h' := hp') (fun i _ hi9 => by simp (disch := omega) only [upd_other, hold])
  simp (maxSteps := 2000000) -implicitDefEqProofs (disch := omega) only [xsW, xsC, xsD, xsE, fillA, reduceCtorEq, Nat.reduceAdd, Nat.reduceSub, Nat.reduceLeDiff, Nat.reduceMul, Int.reduceLT, Int.reduceLE, Int.reduceEq, Int.reduceNe, Int.reduceAdd, Int.reduceSub, Int.reduceMul, Int.reduceNeg, Int.reduceToNat,  sR.ln, shl1]
  (refine cd_dec (fun c1 => ?_) (fun c1 => ?_) <;> simp (maxSteps := 2000000) -implicitDefEqProofs (disch := omega) only [xsW, xsC, xsD, xsE, fillA, reduceCtorEq, Nat.reduceAdd, Nat.reduceSub, Nat.reduceLeDiff, Nat.reduceMul, Int.reduceLT, Int.reduceLE, Int.reduceEq, Int.reduceNe, Int.reduceAdd, Int.reduceSub, Int.reduceMul, Int.reduceNeg, Int.reduceToNat,  c1])
  · have hs2 : s < pw ll.length := by omega
    have hplen := places_len (s : Int) ll.length
    have hpos := pop_pos hN hs2 hs0
    have hS := partL_sq (symF ll) (s : Int) (s : Int) rfl
    rw [hL] at hS
    have hSl : ∃ q, Lim q (places (s : Int) ll.length).length (mx (partL (symF ll) (s : Int) (s : Int))) := by
      obtain ⟨q, hq⟩ := hl
      have := partL_lim (q := q) (symF ll) (s : Int) (s : Int) rfl (by rw [hL]; exact hq)
      rw [hL] at this
      exact this
    have hbad : badS (symF ll) b s = (decide (det (places (s : Int) ll.length).length (mx (partL (symF ll) (s : Int) (s : Int))) < b) && decide (b ≤ minL (cofR (places (s : Int) ll.length).length (mx (partL (symF ll) (s : Int) (s : Int))) (places (s : Int) ll.length).length))) := by
      unfold badS minorOf; rw [hL]
    refine fq_use (impl_part (hv1.keep (h' := hp') (fun i _ hi9 => by simp (disch := omega) only [upd_other, hold])) (by omega) (by rw [hL]; exact hs) _ _ m (by omega)) fun v2 h2 n2 hn2 hs2' ⟨vs2, hv2⟩ => ?_
    simp (maxSteps := 2000000) -implicitDefEqProofs (disch := omega) only [xsW, xsC, xsD, xsE, fillA, reduceCtorEq, Nat.reduceAdd, Nat.reduceSub, Nat.reduceLeDiff, Nat.reduceMul, Int.reduceLT, Int.reduceLE, Int.reduceEq, Int.reduceNe, Int.reduceAdd, Int.reduceSub, Int.reduceMul, Int.reduceNeg, Int.reduceToNat]
    refine q_use (impl_determinant _ hv2 (by omega) hS hSl n2 (Nat.le_refl _)) fun n3 hn3 => ?_
    simp (maxSteps := 2000000) -implicitDefEqProofs (disch := omega) only [xsW, xsC, xsD, xsE, fillA, reduceCtorEq, Nat.reduceAdd, Nat.reduceSub, Nat.reduceLeDiff, Nat.reduceMul, Int.reduceLT, Int.reduceLE, Int.reduceEq, Int.reduceNe, Int.reduceAdd, Int.reduceSub, Int.reduceMul, Int.reduceNeg, Int.reduceToNat]
    (refine gd_dec (fun c2 => ?_) (fun c2 => ?_) <;> simp (maxSteps := 2000000) -implicitDefEqProofs (disch := omega) only [xsW, xsC, xsD, xsE, fillA, reduceCtorEq, Nat.reduceAdd, Nat.reduceSub, Nat.reduceLeDiff, Nat.reduceMul, Int.reduceLT, Int.reduceLE, Int.reduceEq, Int.reduceNe, Int.reduceAdd, Int.reduceSub, Int.reduceMul, Int.reduceNeg, Int.reduceToNat,  c2])
    · refine fq_use (impl_cofactors hv2 (by omega) hS hSl n3 (by omega)) fun v4 h4 n4 hn4 hs4 hv4 => ?_
      have hlen := cofR_len (places (s : Int) ll.length).length (mx (partL (symF ll) (s : Int) (s : Int))) (places (s : Int) ll.length).length
      have hq : (places (s : Int) ll.length).length * (places (s : Int) ll.length).length ≤ 25 := Nat.mul_le_mul (show _ ≤ 5 by omega) (show _ ≤ 5 by omega)
      have hq2 : 0 < (places (s : Int) ll.length).length * (places (s : Int) ll.length).length := Nat.mul_pos hpos hpos
      simp (maxSteps := 2000000) -implicitDefEqProofs (disch := omega) only [xsW, xsC, xsD, xsE, fillA, reduceCtorEq, Nat.reduceAdd, Nat.reduceSub, Nat.reduceLeDiff, Nat.reduceMul, Int.reduceLT, Int.reduceLE, Int.reduceEq, Int.reduceNe, Int.reduceAdd, Int.reduceSub, Int.reduceMul, Int.reduceNeg, Int.reduceToNat]
      refine q_use (slices_Min hv4 (by omega) (by omega) _) fun n5 hn5 => ?_
      simp (maxSteps := 2000000) -implicitDefEqProofs (disch := omega) only [xsW, xsC, xsD, xsE, fillA, reduceCtorEq, Nat.reduceAdd, Nat.reduceSub, Nat.reduceLeDiff, Nat.reduceMul, Int.reduceLT, Int.reduceLE, Int.reduceEq, Int.reduceNe, Int.reduceAdd, Int.reduceSub, Int.reduceMul, Int.reduceNeg, Int.reduceToNat]
      (refine cd_dec (fun c3 => ?_) (fun c3 => ?_) <;> simp (maxSteps := 2000000) -implicitDefEqProofs (disch := omega) only [xsW, xsC, xsD, xsE, fillA, reduceCtorEq, Nat.reduceAdd, Nat.reduceSub, Nat.reduceLeDiff, Nat.reduceMul, Int.reduceLT, Int.reduceLE, Int.reduceEq, Int.reduceNe, Int.reduceAdd, Int.reduceSub, Int.reduceMul, Int.reduceNeg, Int.reduceToNat,  c3])
      · rw [copB_f hs0 (by rw [hL]; exact hs2) (by rw [hbad, decide_eq_true c2, decide_eq_true (by omega)]; rfl)]
      · have hf : badS (symF ll) b s = false := by rw [hbad, decide_eq_false (p := b ≤ _) (by omega), Bool.and_false]
        exact ⟨h4, ⟨fun j h1 h2 => (Nat.lt_succ_iff_lt_or_eq.1 h2).elim (he j h1) (fun e => by rw [e]; exact hf), by omega, fun j hj => by rw [hs4 j (by omega), hs2' j (by omega), hold j hj]⟩, by omega, by omega, (by simp [LeL, Le1]), fun _ _ h => h⟩
    · have hf : badS (symF ll) b s = false := by rw [hbad, decide_eq_false c2, Bool.false_and]
      exact ⟨h2, ⟨fun j h1 h2 => (Nat.lt_succ_iff_lt_or_eq.1 h2).elim (he j h1) (fun e => by rw [e]; exact hf), by omega, fun j hj => by rw [hs2' j (by omega), hold j hj]⟩, by omega, by omega, (by simp [LeL, Le1]), fun _ _ h => h⟩
  · rw [copB_t fun j h1 h2 => he j h1 (by rw [hL] at h2; omega)]
theorem impl_isDominant (s : Rows w lo hi h v vs ll) (hm : isMat ll = true) (n : Nat) : Q Try.prog 107 [v] h n (.bool (domB ll)) := by
  refine q_intro Try.func107 k_impl_isDominant ?_
  have hN := ((isMat_iff ll).1 hm).2
  simp (maxSteps := 2000000) -implicitDefEqProofs (disch := omega) only [c_impl_isDominant, s.ln, xsW, xsC, xsD, xsE, fillA, reduceCtorEq, Nat.reduceAdd, Nat.reduceSub, Nat.reduceLeDiff, Nat.reduceMul, Int.reduceLT, Int.reduceLE, Int.reduceEq, Int.reduceNe, Int.reduceAdd, Int.reduceSub, Int.reduceMul, Int.reduceNeg, Int.reduceToNat]
  refine loop_for ll.length 0 (fun i (_ : Unit) => [v, .any, .bool false, .any, .any, .any, .any, .any, v, .int .i64 ll.length, .int .i64 i, .any, .any, .any, .any, .any, .any, .any, .any, .any, .any, .any, .any, .any, .any, .any, .any, .any, .any, .any, .any, .any, .any, .any, .any, .any, .any, .any, .any, .any]) (fun _ _ => h)
    (fun i _ _ => ∀ j, j < i → othV ll j < (at2 ll j j).natAbs) () (Nat.zero_le _) (fun _ hj => absurd hj (Nat.not_lt_zero _)) (by simp [LeL, Le1]) (fun _ _ h => h) ?_
  rintro i - n1 - hi1 hn1 he
  simp (maxSteps := 2000000) -implicitDefEqProofs (disch := omega) only [xsW, xsC, xsD, xsE, fillA, reduceCtorEq, Nat.reduceAdd, Nat.reduceSub, Nat.reduceLeDiff, Nat.reduceMul, Int.reduceLT, Int.reduceLE, Int.reduceEq, Int.reduceNe, Int.reduceAdd, Int.reduceSub, Int.reduceMul, Int.reduceNeg, Int.reduceToNat]
  (refine cd_dec (fun c1 => ?_) (fun c1 => ?_) <;> simp (maxSteps := 2000000) -implicitDefEqProofs (disch := omega) only [xsW, xsC, xsD, xsE, fillA, reduceCtorEq, Nat.reduceAdd, Nat.reduceSub, Nat.reduceLeDiff, Nat.reduceMul, Int.reduceLT, Int.reduceLE, Int.reduceEq, Int.reduceNe, Int.reduceAdd, Int.reduceSub, Int.reduceMul, Int.reduceNeg, Int.reduceToNat,  c1])
  · have hi2 : i < ll.length := by omega
    have hri := s.row i hi2
    have li := (hN.2 i hi2).1
    have xi := isMat_at hm hi2 hi2
    have hx : (ll.getD i []).getD i 0 = at2 ll i i := rfl
    simp (maxSteps := 2000000) -implicitDefEqProofs (disch := omega) only [xsW, xsC, xsD, xsE, fillA, reduceCtorEq, Nat.reduceAdd, Nat.reduceSub, Nat.reduceLeDiff, Nat.reduceMul, Int.reduceLT, Int.reduceLE, Int.reduceEq, Int.reduceNe, Int.reduceAdd, Int.reduceSub, Int.reduceMul, Int.reduceNeg, Int.reduceToNat,  s.ia, s.ld, hri.ia, hri.ld, hx]
    refine q_use (impl_size _ (by unfold in64; omega) _ _) fun n2 hn2 => ?_
    simp (maxSteps := 2000000) -implicitDefEqProofs (disch := omega) only [xsW, xsC, xsD, xsE, fillA, reduceCtorEq, Nat.reduceAdd, Nat.reduceSub, Nat.reduceLeDiff, Nat.reduceMul, Int.reduceLT, Int.reduceLE, Int.reduceEq, Int.reduceNe, Int.reduceAdd, Int.reduceSub, Int.reduceMul, Int.reduceNeg, Int.reduceToNat,  hri.ln, li]
    refine loop_for ll.length 0 (fun k (_ : Unit) => [v, .any, .bool false, .int .i64 i, vs.getD i .any, .int .i64 (-((at2 ll i i).natAbs : Int) + sumTo k fun k => ((at2 ll i k).natAbs : Int)), .any, .any, v, .int .i64 ll.length, .int .i64 i, .any, .any, .any, .any, .any, .any, .any, .any, .any, .any, vs.getD i .any, .int .i64 ll.length, .int .i64 k, .any, .any, .any, .any, .any, .any, .any, .any, .any, .any, .any, .any, .any, .any, .any, .any]) (fun _ _ => h)
      (fun _ _ _ => True) () (Nat.zero_le _) trivial (by simp [LeL, Le1, sumTo]) (fun _ _ h => h) ?_
    rintro k - n3 - hk1 hn3 -
    have hb1 := oth_b hm hi2 hk1
    simp (maxSteps := 2000000) -implicitDefEqProofs (disch := omega) only [xsW, xsC, xsD, xsE, fillA, reduceCtorEq, Nat.reduceAdd, Nat.reduceSub, Nat.reduceLeDiff, Nat.reduceMul, Int.reduceLT, Int.reduceLE, Int.reduceEq, Int.reduceNe, Int.reduceAdd, Int.reduceSub, Int.reduceMul, Int.reduceNeg, Int.reduceToNat]
    (refine cd_dec (fun c2 => ?_) (fun c2 => ?_) <;> simp (maxSteps := 2000000) -implicitDefEqProofs (disch := omega) only [xsW, xsC, xsD, xsE, fillA, reduceCtorEq, Nat.reduceAdd, Nat.reduceSub, Nat.reduceLeDiff, Nat.reduceMul, Int.reduceLT, Int.reduceLE, Int.reduceEq, Int.reduceNe, Int.reduceAdd, Int.reduceSub, Int.reduceMul, Int.reduceNeg, Int.reduceToNat,  c2])
    · have hk2 : k < ll.length := by omega
      have xk := isMat_at hm hi2 hk2
      have hxk : (ll.getD i []).getD k 0 = at2 ll i k := rfl
      simp (maxSteps := 2000000) -implicitDefEqProofs (disch := omega) only [xsW, xsC, xsD, xsE, fillA, reduceCtorEq, Nat.reduceAdd, Nat.reduceSub, Nat.reduceLeDiff, Nat.reduceMul, Int.reduceLT, Int.reduceLE, Int.reduceEq, Int.reduceNe, Int.reduceAdd, Int.reduceSub, Int.reduceMul, Int.reduceNeg, Int.reduceToNat,  hri.ia, hri.ld, hxk]
      refine q_use (impl_size _ (by unfold in64; omega) _ _) fun n4 hn4 => ?_
      simp (maxSteps := 2000000) -implicitDefEqProofs (disch := omega) only [xsW, xsC, xsD, xsE, fillA, reduceCtorEq, Nat.reduceAdd, Nat.reduceSub, Nat.reduceLeDiff, Nat.reduceMul, Int.reduceLT, Int.reduceLE, Int.reduceEq, Int.reduceNe, Int.reduceAdd, Int.reduceSub, Int.reduceMul, Int.reduceNeg, Int.reduceToNat]
      exact ⟨(), by omega, by omega, by simp [LeL, Le1, sumTo_succ]; omega⟩
    · have e : k = ll.length := by omega
      subst e
      simp (maxSteps := 2000000) -implicitDefEqProofs (disch := omega) only [xsW, xsC, xsD, xsE, fillA, reduceCtorEq, Nat.reduceAdd, Nat.reduceSub, Nat.reduceLeDiff, Nat.reduceMul, Int.reduceLT, Int.reduceLE, Int.reduceEq, Int.reduceNe, Int.reduceAdd, Int.reduceSub, Int.reduceMul, Int.reduceNeg, Int.reduceToNat,  hri.ia, hri.ld, hx]
      refine q_use (impl_size _ (by unfold in64; omega) _ _) fun n4 hn4 => ?_
      have hoth : othV ll i = -((at2 ll i i).natAbs : Int) + sumTo ll.length (fun k => ((at2 ll i k).natAbs : Int)) := oth_sum (f := fun k => ((at2 ll i k).natAbs : Int)) hi2
      simp (maxSteps := 2000000) -implicitDefEqProofs (disch := omega) only [xsW, xsC, xsD, xsE, fillA, reduceCtorEq, Nat.reduceAdd, Nat.reduceSub, Nat.reduceLeDiff, Nat.reduceMul, Int.reduceLT, Int.reduceLE, Int.reduceEq, Int.reduceNe, Int.reduceAdd, Int.reduceSub, Int.reduceMul, Int.reduceNeg, Int.reduceToNat]
      (refine cd_dec (fun c3 => ?_) (fun c3 => ?_) <;> simp (maxSteps := 2000000) -implicitDefEqProofs (disch := omega) only [xsW, xsC, xsD, xsE, fillA, reduceCtorEq, Nat.reduceAdd, Nat.reduceSub, Nat.reduceLeDiff, Nat.reduceMul, Int.reduceLT, Int.reduceLE, Int.reduceEq, Int.reduceNe, Int.reduceAdd, Int.reduceSub, Int.reduceMul, Int.reduceNeg, Int.reduceToNat,  c3])
      · rw [domB_f hi2 (by omega)]
      · exact ⟨(), fun j hj => (Nat.lt_succ_iff_lt_or_eq.1 hj).elim (he j) (fun e => by rw [e]; omega), by omega, by omega, (by simp [LeL, Le1])⟩
  · rw [domB_t fun j hj => he j (by omega)]
end
def c_spec_l03Least : F := ⟨(.seq (.reg false [⟨some 2, .mv (.c (.int .i64 0)), none⟩]) (.seq (.reg false [⟨some 6, .mv (.t 0), none⟩, ⟨some 7, .call (.f 89) [(.t 6)], none⟩, ⟨some 3, .mv (.t 7), none⟩]) (.seq (.reg false [⟨some 8, .mv (.t 3), none⟩, ⟨some 9, .ia 1 (.t 8) (.c (.int .i64 0)), none⟩, ⟨some 10, .ld1 (.t 9), none⟩, ⟨some 4, .mv (.t 10), none⟩]) (.seq (.seq (.reg false [⟨some 5, .mv (.c (.int .i64 1)), none⟩]) (.block 0 (.loop (.seq (.seq (.reg false [⟨some 11, .mv (.t 5), none⟩, ⟨some 12, .mv (.t 3), none⟩, ⟨some 13, .len (.t 12), none⟩, ⟨some 14, .bin .lss (.t 11) (.t 13), none⟩]) (.cond (.t 14) .skip (.exit 0))) (.seq (.block 1 (.reg false [⟨some 17, .mv (.t 4), none⟩, ⟨some 18, .mv (.t 3), none⟩, ⟨some 19, .mv (.t 5), none⟩, ⟨some 20, .ia 1 (.t 18) (.t 19), none⟩, ⟨some 21, .ld1 (.t 20), none⟩, ⟨some 22, .mn [(.t 17), (.t 21)], none⟩, ⟨some 4, .mv (.t 22), none⟩])) (.reg false [⟨some 15, .mv (.t 5), none⟩, ⟨some 16, .bin .add (.t 15) (.c (.int .i64 1)), none⟩, ⟨some 5, .mv (.t 16), none⟩])))))) (.seq (.reg false [⟨some 23, .mv (.t 4), none⟩, ⟨some 2, .mv (.t 23), none⟩]) .ret))))), 24, [(.t 2)]⟩
theorem k_spec_l03Least : compF Try.prog Try.f96 = some c_spec_l03Least := by kernel_rfl
def c_spec_l03Z : F := ⟨(.seq (.reg false [⟨some 2, .mv (.c (.bool false)), none⟩]) (.seq (.seq (.reg false [⟨some 3, .mv (.c (.int .i64 0)), none⟩]) (.block 0 (.loop (.seq (.seq (.reg false [⟨some 5, .mv (.t 3), none⟩, ⟨some 6, .mv (.t 0), none⟩, ⟨some 7, .len (.t 6), none⟩, ⟨some 8, .bin .lss (.t 5) (.t 7), none⟩]) (.cond (.t 8) .skip (.exit 0))) (.seq (.block 1 (.seq (.reg false [⟨some 4, .mv (.c (.int .i64 0)), none⟩]) (.block 2 (.loop (.seq (.seq (.reg false [⟨some 11, .mv (.t 4), none⟩, ⟨some 12, .mv (.t 0), none⟩, ⟨some 13, .len (.t 12), none⟩, ⟨some 14, .bin .lss (.t 11) (.t 13), none⟩]) (.cond (.t 14) .skip (.exit 2))) (.seq (.block 3 (.seq (.reg false [⟨some 17, .mv (.t 3), none⟩, ⟨some 18, .mv (.t 4), none⟩, ⟨some 19, .bin .neq (.t 17) (.t 18), none⟩, ⟨some 20, .mv (.t 19), none⟩, ⟨some 21, .mv (.t 0), some (20, true)⟩, ⟨some 22, .mv (.t 3), some (20, true)⟩, ⟨some 23, .ia 1 (.t 21) (.t 22), some (20, true)⟩, ⟨some 24, .ld1 (.t 23), some (20, true)⟩, ⟨some 25, .mv (.t 4), some (20, true)⟩, ⟨some 26, .ia 1 (.t 24) (.t 25), some (20, true)⟩, ⟨some 27, .ld1 (.t 26), some (20, true)⟩, ⟨some 28, .bin .gtr (.t 27) (.c (.int .i64 0)), some (20, true)⟩, ⟨some 29, .pick (.t 20) (.t 28) (.c (.bool false)), none⟩]) (.cond (.t 29) (.seq (.reg false [⟨some 2, .mv (.c (.bool false)), none⟩]) .ret) .skip))) (.reg false [⟨some 15, .mv (.t 4), none⟩, ⟨some 16, .bin .add (.t 15) (.c (.int .i64 1)), none⟩, ⟨some 4, .mv (.t 16), none⟩]))))))) (.reg false [⟨some 9, .mv (.t 3), none⟩, ⟨some 10, .bin .add (.t 9) (.c (.int .i64 1)), none⟩, ⟨some 3, .mv (.t 10), none⟩])))))) (.seq (.reg false [⟨some 2, .mv (.c (.bool true)), none⟩]) .ret))), 30, [(.t 2)]⟩
theorem k_spec_l03Z : compF Try.prog Try.f97 = some c_spec_l03Z := by kernel_rfl
def c_spec_l03Without : F := ⟨(.seq (.reg false [⟨some 6, .mv (.c .nilsl), none⟩]) (.seq (.reg false [⟨some 9, .lit 29 1 0 [.nilsl] [], none⟩, ⟨some 7, .mv (.t 9), none⟩]) (.seq (.seq (.reg false [⟨some 8, .mv (.c (.int .i64 0)), none⟩]) (.block 0 (.loop (.seq (.seq (.reg false [⟨some 10, .mv (.t 8), none⟩, ⟨some 11, .mv (.t 0), none⟩, ⟨some 12, .len (.t 11), none⟩, ⟨some 13, .bin .lss (.t 10) (.t 12), none⟩]) (.cond (.t 13) .skip (.exit 0))) (.seq (.block 1 (.seq (.reg false [⟨some 16, .mv (.t 8), none⟩, ⟨some 17, .mv (.t 1), none⟩, ⟨some 18, .bin .neq (.t 16) (.t 17), none⟩]) (.cond (.t 18) (.reg true [⟨some 19, .mv (.t 7), none⟩, ⟨some 20, .mv (.t 0), none⟩, ⟨some 21, .mv (.t 8), none⟩, ⟨some 22, .ia 1 (.t 20) (.t 21), none⟩, ⟨some 23, .ld1 (.t 22), none⟩, ⟨some 24, .mv (.t 2), none⟩, ⟨some 25, .slc 1 (.t 23) none (some (.t 24)) none, none⟩, ⟨some 27, .mv (.t 0), none⟩, ⟨some 28, .mv (.t 8), none⟩, ⟨some 29, .ia 1 (.t 27) (.t 28), none⟩, ⟨some 30, .ld1 (.t 29), none⟩, ⟨some 31, .mv (.t 2), none⟩, ⟨some 32, .bin .add (.t 31) (.c (.int .i64 1)), none⟩, ⟨some 33, .slc 1 (.t 30) (some (.t 32)) none none, none⟩, ⟨some 26, .call (.f 88) [(.t 25)], none⟩, ⟨some 34, .app 2 1 8 [(.int .i64 0)] (.t 26) (.t 33), none⟩, ⟨some 35, .lit 29 1 1 [.nilsl] [(0, (.t 34))], none⟩, ⟨some 36, .app 29 1 24 [.nilsl] (.t 19) (.t 35), none⟩, ⟨some 7, .mv (.t 36), none⟩]) .skip))) (.reg false [⟨some 14, .mv (.t 8), none⟩, ⟨some 15, .bin .add (.t 14) (.c (.int .i64 1)), none⟩, ⟨some 8, .mv (.t 15), none⟩])))))) (.seq (.reg false [⟨some 37, .mv (.t 7), none⟩, ⟨some 6, .mv (.t 37), none⟩]) .ret)))), 38, [(.t 6)]⟩
theorem k_spec_l03Without : compF Try.prog Try.f132 = some c_spec_l03Without := by kernel_rfl
def c_spec_l03Cofactor : F := ⟨(.seq (.reg false [⟨some 2, .mv (.c (.int .i64 0)), none⟩]) (.seq (.reg false [⟨some 3, .mv (.c (.int .i64 0)), none⟩, ⟨some 4, .mv (.c (.bool true)), none⟩]) (.seq (.seq (.reg false [⟨some 5, .mv (.c (.int .i64 0)), none⟩]) (.block 0 (.loop (.seq (.seq (.reg false [⟨some 8, .mv (.t 5), none⟩, ⟨some 9, .mv (.t 0), none⟩, ⟨some 10, .len (.t 9), none⟩, ⟨some 11, .bin .lss (.t 8) (.t 10), none⟩]) (.cond (.t 11) .skip (.exit 0))) (.seq (.block 1 (.seq (.reg false [⟨some 6, .mv (.c (.int .i64 0)), none⟩]) (.block 2 (.loop (.seq (.seq (.reg false [⟨some 14, .mv (.t 6), none⟩, ⟨some 15, .mv (.t 0), none⟩, ⟨some 16, .len (.t 15), none⟩, ⟨some 17, .bin .lss (.t 14) (.t 16), none⟩]) (.cond (.t 17) .skip (.exit 2))) (.seq (.block 3 (.seq (.reg false [⟨some 20, .mv (.t 0), none⟩, ⟨some 21, .mv (.t 5), none⟩, ⟨some 22, .mv (.t 6), none⟩, ⟨some 23, .call (.f 132) [(.t 20), (.t 21), (.t 22)], none⟩, ⟨some 24, .call (.f 114) [(.t 23)], none⟩, ⟨some 7, .mv (.t 24), none⟩]) (.seq (.seq (.reg false [⟨some 25, .mv (.t 5), none⟩, ⟨some 26, .mv (.t 6), none⟩, ⟨some 27, .bin .add (.t 25) (.t 26), none⟩, ⟨some 28, .bin .rem (.t 27) (.c (.int .i64 2)), none⟩, ⟨some 29, .bin .eql (.t 28) (.c (.int .i64 1)), none⟩]) (.cond (.t 29) (.reg false [⟨some 30, .mv (.t 7), none⟩, ⟨some 31, .un .neg (.t 30), none⟩, ⟨some 7, .mv (.t 31), none⟩]) .skip)) (.seq (.seq (.reg false [⟨some 32, .mv (.t 4), none⟩, ⟨some 33, .mv (.t 32), none⟩, ⟨some 34, .mv (.t 7), some (33, false)⟩, ⟨some 35, .mv (.t 3), some (33, false)⟩, ⟨some 36, .bin .lss (.t 34) (.t 35), some (33, false)⟩, ⟨some 37, .pick (.t 33) (.c (.bool true)) (.t 36), none⟩]) (.cond (.t 37) (.reg false [⟨some 38, .mv (.t 7), none⟩, ⟨some 3, .mv (.t 38), none⟩]) .skip)) (.reg false [⟨some 4, .mv (.c (.bool false)), none⟩]))))) (.reg false [⟨some 18, .mv (.t 6), none⟩, ⟨some 19, .bin .add (.t 18) (.c (.int .i64 1)), none⟩, ⟨some 6, .mv (.t 19), none⟩]))))))) (.reg false [⟨some 12, .mv (.t 5), none⟩, ⟨some 13, .bin .add (.t 12) (.c (.int .i64 1)), none⟩, ⟨some 5, .mv (.t 13), none⟩])))))) (.seq (.reg false [⟨some 39, .mv (.t 3), none⟩, ⟨some 2, .mv (.t 39), none⟩]) .ret)))), 40, [(.t 2)]⟩
theorem k_spec_l03Cofactor : compF Try.prog Try.f127 = some c_spec_l03Cofactor := by kernel_rfl
def c_spec_l03Copositive : F := ⟨(.seq (.reg false [⟨some 4, .mv (.c (.bool false)), none⟩]) (.seq (.reg false [⟨some 10, .mv (.t 0), none⟩, ⟨some 11, .call (.f 76) [(.t 10)], none⟩, ⟨some 5, .mv (.t 11), none⟩]) (.seq (.seq (.reg false [⟨some 6, .mv (.c (.int .i64 1)), none⟩]) (.block 0 (.loop (.seq (.seq (.reg false [⟨some 12, .mv (.t 6), none⟩, ⟨some 13, .mv (.t 0), none⟩, ⟨some 14, .len (.t 13), none⟩, ⟨some 15, .bin .leq (.t 12) (.t 14), none⟩]) (.cond (.t 15) .skip (.exit 0))) (.seq (.block 1 (.seq (.reg false [⟨some 7, .mv (.c (.int .i64 1)), none⟩]) (.block 2 (.loop (.seq (.seq (.reg false [⟨some 18, .mv (.t 7), none⟩, ⟨some 19, .mv (.t 0), none⟩, ⟨some 20, .len (.t 19), none⟩, ⟨some 21, .cvi .u64 (.t 20), none⟩, ⟨some 22, .bin .shl (.c (.int .i64 1)) (.t 21), none⟩, ⟨some 23, .bin .lss (.t 18) (.t 22), none⟩]) (.cond (.t 23) .skip (.exit 2))) (.seq (.block 3 (.seq (.seq (.reg false [⟨some 26, .mv (.t 7), none⟩, ⟨some 27, .call (.f 83) [(.t 26)], none⟩, ⟨some 28, .mv (.t 6), none⟩, ⟨some 29, .bin .neq (.t 27) (.t 28), none⟩]) (.cond (.t 29) (.exit 3) .skip)) (.seq (.reg false [⟨some 30, .mv (.t 5), none⟩, ⟨some 31, .mv (.t 7), none⟩, ⟨some 32, .call (.f 115) [(.t 30), (.t 31)], none⟩, ⟨some 8, .mv (.t 32), none⟩]) (.seq (.reg false [⟨some 33, .mv (.t 8), none⟩, ⟨some 34, .call (.f 114) [(.t 33)], none⟩, ⟨some 9, .mv (.t 34), none⟩]) (.seq (.reg false [⟨some 35, .mv (.t 1), none⟩, ⟨some 36, .mv (.t 35), none⟩, ⟨some 37, .mv (.t 9), some (36, true)⟩, ⟨some 38, .bin .leq (.t 37) (.c (.int .i64 0)), some (36, true)⟩, ⟨some 39, .pick (.t 36) (.t 38) (.c (.bool false)), none⟩, ⟨some 40, .mv (.t 39), none⟩, ⟨some 41, .mv (.t 8), some (40, true)⟩, ⟨some 42, .call (.f 127) [(.t 41)], some (40, true)⟩, ⟨some 43, .bin .gtr (.t 42) (.c (.int .i64 0)), some (40, true)⟩, ⟨some 44, .pick (.t 40) (.t 43) (.c (.bool false)), none⟩, ⟨some 45, .mv (.t 44), none⟩, ⟨some 46, .mv (.t 1), some (45, false)⟩, ⟨some 47, .un .not (.t 46), some (45, false)⟩, ⟨some 48, .mv (.t 47), some (45, false)⟩, ⟨some 49, .mv (.t 9), some (48, true)⟩, ⟨some 50, .bin .lss (.t 49) (.c (.int .i64 0)), some (48, true)⟩, ⟨some 51, .pick (.t 48) (.t 50) (.c (.bool false)), some (45, false)⟩, ⟨some 52, .mv (.t 51), some (45, false)⟩, ⟨some 53, .mv (.t 8), some (52, true)⟩, ⟨some 54, .call (.f 127) [(.t 53)], some (52, true)⟩, ⟨some 55, .bin .geq (.t 54) (.c (.int .i64 0)), some (52, true)⟩, ⟨some 56, .pick (.t 52) (.t 55) (.c (.bool false)), some (45, false)⟩, ⟨some 57, .pick (.t 45) (.c (.bool true)) (.t 56), none⟩]) (.cond (.t 57) (.seq (.reg false [⟨some 4, .mv (.c (.bool false)), none⟩]) .ret) .skip)))))) (.reg false [⟨some 24, .mv (.t 7), none⟩, ⟨some 25, .bin .add (.t 24) (.c (.int .i64 1)), none⟩, ⟨some 7, .mv (.t 25), none⟩]))))))) (.reg false [⟨some 16, .mv (.t 6), none⟩, ⟨some 17, .bin .add (.t 16) (.c (.int .i64 1)), none⟩, ⟨some 6, .mv (.t 17), none⟩])))))) (.seq (.reg false [⟨some 4, .mv (.c (.bool true)), none⟩]) .ret)))), 58, [(.t 4)]⟩
theorem k_spec_l03Copositive : compF Try.prog Try.f98 = some c_spec_l03Copositive := by kernel_rfl
def c_spec_l03Dominant : F := ⟨(.seq (.reg false [⟨some 2, .mv (.c (.bool false)), none⟩]) (.seq (.seq (.reg false [⟨some 3, .mv (.c (.int .i64 0)), none⟩]) (.block 0 (.loop (.seq (.seq (.reg false [⟨some 6, .mv (.t 3), none⟩, ⟨some 7, .mv (.t 0), none⟩, ⟨some 8, .len (.t 7), none⟩, ⟨some 9, .bin .lss (.t 6) (.t 8), none⟩]) (.cond (.t 9) .skip (.exit 0))) (.seq (.block 1 (.seq (.reg false [⟨some 4, .mv (.c (.int .i64 0)), none⟩]) (.seq (.seq (.reg false [⟨some 5, .mv (.c (.int .i64 0)), none⟩]) (.block 2 (.loop (.seq (.seq (.reg false [⟨some 12, .mv (.t 5), none⟩, ⟨some 13, .mv (.t 0), none⟩, ⟨some 14, .len (.t 13), none⟩, ⟨some 15, .bin .lss (.t 12) (.t 14), none⟩]) (.cond (.t 15) .skip (.exit 2))) (.seq (.block 3 (.seq (.reg false [⟨some 18, .mv (.t 5), none⟩, ⟨some 19, .mv (.t 3), none⟩, ⟨some 20, .bin .neq (.t 18) (.t 19), none⟩]) (.cond (.t 20) (.reg true [⟨some 21, .mv (.t 4), none⟩, ⟨some 22, .mv (.t 0), none⟩, ⟨some 23, .mv (.t 3), none⟩, ⟨some 24, .ia 1 (.t 22) (.t 23), none⟩, ⟨some 25, .ld1 (.t 24), none⟩, ⟨some 26, .mv (.t 5), none⟩, ⟨some 27, .ia 1 (.t 25) (.t 26), none⟩, ⟨some 28, .ld1 (.t 27), none⟩, ⟨some 29, .mv (.t 0), none⟩, ⟨some 30, .mv (.t 3), none⟩, ⟨some 31, .ia 1 (.t 29) (.t 30), none⟩, ⟨some 32, .ld1 (.t 31), none⟩, ⟨some 33, .mv (.t 5), none⟩, ⟨some 34, .ia 1 (.t 32) (.t 33), none⟩, ⟨some 35, .ld1 (.t 34), none⟩, ⟨some 36, .un .neg (.t 35), none⟩, ⟨some 37, .mx [(.t 28), (.t 36)], none⟩, ⟨some 38, .bin .add (.t 21) (.t 37), none⟩, ⟨some 4, .mv (.t 38), none⟩]) .skip))) (.reg false [⟨some 16, .mv (.t 5), none⟩, ⟨some 17, .bin .add (.t 16) (.c (.int .i64 1)), none⟩, ⟨some 5, .mv (.t 17), none⟩])))))) (.seq (.reg true [⟨some 39, .mv (.t 0), none⟩, ⟨some 40, .mv (.t 3), none⟩, ⟨some 41, .ia 1 (.t 39) (.t 40), none⟩, ⟨some 42, .ld1 (.t 41), none⟩, ⟨some 43, .mv (.t 3), none⟩, ⟨some 44, .ia 1 (.t 42) (.t 43), none⟩, ⟨some 45, .ld1 (.t 44), none⟩, ⟨some 46, .mv (.t 0), none⟩, ⟨some 47, .mv (.t 3), none⟩, ⟨some 48, .ia 1 (.t 46) (.t 47), none⟩, ⟨some 49, .ld1 (.t 48), none⟩, ⟨some 50, .mv (.t 3), none⟩, ⟨some 51, .ia 1 (.t 49) (.t 50), none⟩, ⟨some 52, .ld1 (.t 51), none⟩, ⟨some 53, .un .neg (.t 52), none⟩, ⟨some 54, .mx [(.t 45), (.t 53)], none⟩, ⟨some 55, .mv (.t 4), none⟩, ⟨some 56, .bin .leq (.t 54) (.t 55), none⟩]) (.cond (.t 56) (.seq (.reg false [⟨some 2, .mv (.c (.bool false)), none⟩]) .ret) .skip))))) (.reg false [⟨some 10, .mv (.t 3), none⟩, ⟨some 11, .bin .add (.t 10) (.c (.int .i64 1)), none⟩, ⟨some 3, .mv (.t 11), none⟩])))))) (.seq (.reg false [⟨some 2, .mv (.c (.bool true)), none⟩]) .ret))), 57, [(.t 2)]⟩
theorem k_spec_l03Dominant : compF Try.prog Try.f99 = some c_spec_l03Dominant := by kernel_rfl
def c_spec_l03Triangular : F := ⟨(.seq (.reg false [⟨some 2, .mv (.c (.bool false)), none⟩]) (.seq (.reg false [⟨some 3, .mv (.c (.bool true)), none⟩, ⟨some 4, .mv (.c (.bool true)), none⟩]) (.seq (.seq (.reg false [⟨some 5, .mv (.c (.int .i64 0)), none⟩]) (.block 0 (.loop (.seq (.seq (.reg false [⟨some 7, .mv (.t 5), none⟩, ⟨some 8, .mv (.t 0), none⟩, ⟨some 9, .len (.t 8), none⟩, ⟨some 10, .bin .lss (.t 7) (.t 9), none⟩]) (.cond (.t 10) .skip (.exit 0))) (.seq (.block 1 (.seq (.reg false [⟨some 6, .mv (.c (.int .i64 0)), none⟩]) (.block 2 (.loop (.seq (.seq (.reg false [⟨some 13, .mv (.t 6), none⟩, ⟨some 14, .mv (.t 0), none⟩, ⟨some 15, .len (.t 14), none⟩, ⟨some 16, .bin .lss (.t 13) (.t 15), none⟩]) (.cond (.t 16) .skip (.exit 2))) (.seq (.block 3 (.seq (.reg false [⟨some 19, .mv (.t 3), none⟩, ⟨some 20, .mv (.t 19), none⟩, ⟨some 21, .mv (.t 5), some (20, true)⟩, ⟨some 22, .mv (.t 6), some (20, true)⟩, ⟨some 23, .bin .leq (.t 21) (.t 22), some (20, true)⟩, ⟨some 24, .mv (.t 23), some (20, true)⟩, ⟨some 25, .mv (.t 0), some (24, false)⟩, ⟨some 26, .mv (.t 5), some (24, false)⟩, ⟨some 27, .ia 1 (.t 25) (.t 26), some (24, false)⟩, ⟨some 28, .ld1 (.t 27), some (24, false)⟩, ⟨some 29, .mv (.t 6), some (24, false)⟩, ⟨some 30, .ia 1 (.t 28) (.t 29), some (24, false)⟩, ⟨some 31, .ld1 (.t 30), some (24, false)⟩, ⟨some 32, .bin .eql (.t 31) (.c (.int .i64 0)), some (24, false)⟩, ⟨some 33, .pick (.t 24) (.c (.bool true)) (.t 32), some (20, true)⟩, ⟨some 34, .pick (.t 20) (.t 33) (.c (.bool false)), none⟩, ⟨some 3, .mv (.t 34), none⟩]) (.reg false [⟨some 35, .mv (.t 4), none⟩, ⟨some 36, .mv (.t 35), none⟩, ⟨some 37, .mv (.t 5), some (36, true)⟩, ⟨some 38, .mv (.t 6), some (36, true)⟩, ⟨some 39, .bin .geq (.t 37) (.t 38), some (36, true)⟩, ⟨some 40, .mv (.t 39), some (36, true)⟩, ⟨some 41, .mv (.t 0), some (40, false)⟩, ⟨some 42, .mv (.t 5), some (40, false)⟩, ⟨some 43, .ia 1 (.t 41) (.t 42), some (40, false)⟩, ⟨some 44, .ld1 (.t 43), some (40, false)⟩, ⟨some 45, .mv (.t 6), some (40, false)⟩, ⟨some 46, .ia 1 (.t 44) (.t 45), some (40, false)⟩, ⟨some 47, .ld1 (.t 46), some (40, false)⟩, ⟨some 48, .bin .eql (.t 47) (.c (.int .i64 0)), some (40, false)⟩, ⟨some 49, .pick (.t 40) (.c (.bool true)) (.t 48), some (36, true)⟩, ⟨some 50, .pick (.t 36) (.t 49) (.c (.bool false)), none⟩, ⟨some 4, .mv (.t 50), none⟩]))) (.reg false [⟨some 17, .mv (.t 6), none⟩, ⟨some 18, .bin .add (.t 17) (.c (.int .i64 1)), none⟩, ⟨some 6, .mv (.t 18), none⟩]))))))) (.reg false [⟨some 11, .mv (.t 5), none⟩, ⟨some 12, .bin .add (.t 11) (.c (.int .i64 1)), none⟩, ⟨some 5, .mv (.t 12), none⟩])))))) (.seq (.reg false [⟨some 51, .mv (.t 3), none⟩, ⟨some 52, .mv (.t 51), none⟩, ⟨some 53, .mv (.t 4), some (52, false)⟩, ⟨some 54, .pick (.t 52) (.c (.bool true)) (.t 53), none⟩, ⟨some 2, .mv (.t 54), none⟩]) .ret)))), 55, [(.t 2)]⟩
theorem k_spec_l03Triangular : compF Try.prog Try.f100 = some c_spec_l03Triangular := by kernel_rfl
section
variable {w : Bool} {lo hi : Nat} {h : AH} {v : AV} {vs : List AV} {ll : List (List Int)}
theorem spec_l03Least (sR : Rows w lo hi h v vs ll) (hN : ll.length ≤ 5) (hs : Sq ll.length ll) (hl : ∃ q, Lim q ll.length (mx ll)) (n : Nat) (hn : hi ≤ n) :
    Q Try.prog 96 [v] h n (.int .i64 (minL (minorsL ll))) := by
  refine q_intro Try.func96 k_spec_l03Least ?_
  have hp := pw_le hN
  have hml := minorsL_len ll
  simp (maxSteps := 2000000) -implicitDefEqProofs (disch := omega) only [c_spec_l03Least, xsW, xsC, xsD, xsE, fillA, reduceCtorEq, Nat.reduceAdd, Nat.reduceSub, Nat.reduceLeDiff, Nat.reduceMul, Int.reduceLT, Int.reduceLE, Int.reduceEq, Int.reduceNe, Int.reduceAdd, Int.reduceSub, Int.reduceMul, Int.reduceNeg, Int.reduceToNat]
  refine fq_use (spec_l03Minors sR hN hs hl n hn) fun v1 h1 n1 hn1 hs1 hv1 => ?_
  generalize hg : minorsL ll = l at hv1 hml ⊢
  simp (maxSteps := 2000000) -implicitDefEqProofs (disch := omega) only [xsW, xsC, xsD, xsE, fillA, reduceCtorEq, Nat.reduceAdd, Nat.reduceSub, Nat.reduceLeDiff, Nat.reduceMul, Int.reduceLT, Int.reduceLE, Int.reduceEq, Int.reduceNe, Int.reduceAdd, Int.reduceSub, Int.reduceMul, Int.reduceNeg, Int.reduceToNat,  hv1.ia, hv1.ld0]
  refine loop_for l.length 1 (fun k (_ : Unit) => [v, .any, .int .i64 0, v1, .int .i64 (minL (l.take k)), .int .i64 k, .any, .any, .any, .any, .any, .any, .any, .any, .any, .any, .any, .any, .any, .any, .any, .any, .any, .any]) (fun _ _ => h1) (fun _ _ _ => True) () (by omega) trivial (by
    have e : minL (l.take 1) = l.getD 0 0 := by
      match l, (show 0 < l.length by omega) with
      | a :: l, _ => rfl
    simp [LeL, Le1, e]) (fun _ _ h => h) ?_
  rintro k - n2 hk0 hk hn2 -
  simp (maxSteps := 2000000) -implicitDefEqProofs (disch := omega) only [xsW, xsC, xsD, xsE, fillA, reduceCtorEq, Nat.reduceAdd, Nat.reduceSub, Nat.reduceLeDiff, Nat.reduceMul, Int.reduceLT, Int.reduceLE, Int.reduceEq, Int.reduceNe, Int.reduceAdd, Int.reduceSub, Int.reduceMul, Int.reduceNeg, Int.reduceToNat,  hv1.ln]
  (refine cd_dec (fun c1 => ?_) (fun c1 => ?_) <;> simp (maxSteps := 2000000) -implicitDefEqProofs (disch := omega) only [xsW, xsC, xsD, xsE, fillA, reduceCtorEq, Nat.reduceAdd, Nat.reduceSub, Nat.reduceLeDiff, Nat.reduceMul, Int.reduceLT, Int.reduceLE, Int.reduceEq, Int.reduceNe, Int.reduceAdd, Int.reduceSub, Int.reduceMul, Int.reduceNeg, Int.reduceToNat,  c1])
  · have hk2 : k < l.length := by omega
    have e := minL_take (by omega) hk2
    simp (maxSteps := 2000000) -implicitDefEqProofs (disch := omega) only [xsW, xsC, xsD, xsE, fillA, reduceCtorEq, Nat.reduceAdd, Nat.reduceSub, Nat.reduceLeDiff, Nat.reduceMul, Int.reduceLT, Int.reduceLE, Int.reduceEq, Int.reduceNe, Int.reduceAdd, Int.reduceSub, Int.reduceMul, Int.reduceNeg, Int.reduceToNat,  hv1.ia, hv1.ld]
    exact ⟨(), by omega, by omega, by simp [LeL, Le1, e]⟩
  · have e : k = l.length := by omega
    subst e
    rw [List.take_length]
theorem spec_l03Z (s : Rows w lo hi h v vs ll) (hN : ll.length ≤ 5) (hs : Sq ll.length ll) (n : Nat) : Q Try.prog 97 [v] h n (.bool (zB ll)) := by
  refine q_intro Try.func97 k_spec_l03Z ?_
  simp (maxSteps := 2000000) -implicitDefEqProofs (disch := omega) only [c_spec_l03Z, xsW, xsC, xsD, xsE, fillA, reduceCtorEq, Nat.reduceAdd, Nat.reduceSub, Nat.reduceLeDiff, Nat.reduceMul, Int.reduceLT, Int.reduceLE, Int.reduceEq, Int.reduceNe, Int.reduceAdd, Int.reduceSub, Int.reduceMul, Int.reduceNeg, Int.reduceToNat]
  refine loop_for ll.length 0 (fun i (_ : Unit) => [v, .any, .bool false, .int .i64 i, .any, .any, .any, .any, .any, .any, .any, .any, .any, .any, .any, .any, .any, .any, .any, .any, .any, .any, .any, .any, .any, .any, .any, .any, .any, .any]) (fun _ _ => h)
    (fun i _ _ => ∀ i' k', i' < i → k' < ll.length → (decide (i' = k') || decide (at2 ll i' k' ≤ 0)) = true) () (Nat.zero_le _) (fun _ _ hj _ => absurd hj (Nat.not_lt_zero _)) (by simp [LeL, Le1]) (fun _ _ h => h) ?_
  rintro i - n1 - hi1 hn1 he
  simp (maxSteps := 2000000) -implicitDefEqProofs (disch := omega) only [xsW, xsC, xsD, xsE, fillA, reduceCtorEq, Nat.reduceAdd, Nat.reduceSub, Nat.reduceLeDiff, Nat.reduceMul, Int.reduceLT, Int.reduceLE, Int.reduceEq, Int.reduceNe, Int.reduceAdd, Int.reduceSub, Int.reduceMul, Int.reduceNeg, Int.reduceToNat,  s.ln]
  (refine cd_dec (fun c1 => ?_) (fun c1 => ?_) <;> simp (maxSteps := 2000000) -implicitDefEqProofs (disch := omega) only [xsW, xsC, xsD, xsE, fillA, reduceCtorEq, Nat.reduceAdd, Nat.reduceSub, Nat.reduceLeDiff, Nat.reduceMul, Int.reduceLT, Int.reduceLE, Int.reduceEq, Int.reduceNe, Int.reduceAdd, Int.reduceSub, Int.reduceMul, Int.reduceNeg, Int.reduceToNat,  c1])
  · have hi2 : i < ll.length := by omega
    have hri := s.row i hi2
    have li := hs.2 i hi2
    refine loop_for ll.length 0 (fun k (_ : Unit) => [v, .any, .bool false, .int .i64 i, .int .i64 k, .any, .any, .any, .any, .any, .any, .any, .any, .any, .any, .any, .any, .any, .any, .any, .any, .any, .any, .any, .any, .any, .any, .any, .any, .any]) (fun _ _ => h)
      (fun k _ _ => ∀ k', k' < k → (decide (i = k') || decide (at2 ll i k' ≤ 0)) = true) () (Nat.zero_le _) (fun _ hj => absurd hj (Nat.not_lt_zero _)) (by simp [LeL, Le1]) (fun _ _ h => h) ?_
    rintro k - n2 - hk1 hn2 he2
    simp (maxSteps := 2000000) -implicitDefEqProofs (disch := omega) only [xsW, xsC, xsD, xsE, fillA, reduceCtorEq, Nat.reduceAdd, Nat.reduceSub, Nat.reduceLeDiff, Nat.reduceMul, Int.reduceLT, Int.reduceLE, Int.reduceEq, Int.reduceNe, Int.reduceAdd, Int.reduceSub, Int.reduceMul, Int.reduceNeg, Int.reduceToNat,  s.ln]
    (refine cd_dec (fun c2 => ?_) (fun c2 => ?_) <;> simp (maxSteps := 2000000) -implicitDefEqProofs (disch := omega) only [xsW, xsC, xsD, xsE, fillA, reduceCtorEq, Nat.reduceAdd, Nat.reduceSub, Nat.reduceLeDiff, Nat.reduceMul, Int.reduceLT, Int.reduceLE, Int.reduceEq, Int.reduceNe, Int.reduceAdd, Int.reduceSub, Int.reduceMul, Int.reduceNeg, Int.reduceToNat,  c2])
    · have hk2 : k < ll.length := by omega
      (refine gd_dec (fun c3 => ?_) (fun c3 => ?_) <;> simp (maxSteps := 2000000) -implicitDefEqProofs (disch := omega) only [xsW, xsC, xsD, xsE, fillA, reduceCtorEq, Nat.reduceAdd, Nat.reduceSub, Nat.reduceLeDiff, Nat.reduceMul, Int.reduceLT, Int.reduceLE, Int.reduceEq, Int.reduceNe, Int.reduceAdd, Int.reduceSub, Int.reduceMul, Int.reduceNeg, Int.reduceToNat,  c3])
      · simp (maxSteps := 2000000) -implicitDefEqProofs (disch := omega) only [xsW, xsC, xsD, xsE, fillA, reduceCtorEq, Nat.reduceAdd, Nat.reduceSub, Nat.reduceLeDiff, Nat.reduceMul, Int.reduceLT, Int.reduceLE, Int.reduceEq, Int.reduceNe, Int.reduceAdd, Int.reduceSub, Int.reduceMul, Int.reduceNeg, Int.reduceToNat,  s.ia, s.ld, hri.ia, hri.ld]
        (refine cd_dec (fun c4 => ?_) (fun c4 => ?_) <;> simp (maxSteps := 2000000) -implicitDefEqProofs (disch := omega) only [xsW, xsC, xsD, xsE, fillA, reduceCtorEq, Nat.reduceAdd, Nat.reduceSub, Nat.reduceLeDiff, Nat.reduceMul, Int.reduceLT, Int.reduceLE, Int.reduceEq, Int.reduceNe, Int.reduceAdd, Int.reduceSub, Int.reduceMul, Int.reduceNeg, Int.reduceToNat,  c4])
        · have : zB ll = false := allF_f hi2 hk2 (by
            rw [decide_eq_false (p := i = k) (by omega), Bool.false_or]
            exact decide_eq_false (by unfold at2; omega))
          rw [this]
        · exact ⟨(), fun k' hk' => (Nat.lt_succ_iff_lt_or_eq.1 hk').elim (he2 k') (fun e => by rw [e, Bool.or_eq_true]; exact .inr (decide_eq_true (by unfold at2; omega))), by omega, by omega, (by simp [LeL, Le1])⟩
      · exact ⟨(), fun k' hk' => (Nat.lt_succ_iff_lt_or_eq.1 hk').elim (he2 k') (fun e => by rw [e, Bool.or_eq_true]; exact .inl (decide_eq_true (by omega))), by omega, by omega, (by simp [LeL, Le1])⟩
    · have e : k = ll.length := by omega
      subst e
      exact ⟨(), fun i' k' h1 h2 => (Nat.lt_succ_iff_lt_or_eq.1 h1).elim (fun h3 => he i' k' h3 h2) (fun e => by rw [e]; exact he2 k' h2), by omega, by omega, (by simp [LeL, Le1])⟩
  · have : zB ll = true := allF_t fun i' k' h1 h2 => he i' k' (by omega) h2
    rw [this]
def woN (i j : Nat) : Nat := if j ≤ i then j else j - 1
theorem spec_l03Without {N : Nat} (s : Rows w lo hi h v vs ll) (hN : N ≤ 4) (hs : Sq (N + 1) ll) {i k : Nat} (hi2 : i < N + 1) (hk2 : k < N + 1) (n : Nat) (hn : hi ≤ n) :
    FQ Try.prog 132 [v, .int .i64 i, .int .i64 k] h n fun v' h' n' => ∃ vs', Rows true n n' h' v' vs' (wo ll i k N) := by
  refine fq_intro Try.func132 k_spec_l03Without ?_
  have hL := hs.1
  simp (maxSteps := 2000000) -implicitDefEqProofs (disch := omega) only [c_spec_l03Without, xsW, xsC, xsD, xsE, fillA, reduceCtorEq, Nat.reduceAdd, Nat.reduceSub, Nat.reduceLeDiff, Nat.reduceMul, Int.reduceLT, Int.reduceLE, Int.reduceEq, Int.reduceNe, Int.reduceAdd, Int.reduceSub, Int.reduceMul, Int.reduceNeg, Int.reduceToNat]
  refine loop_for (N + 1) 0 (fun j p => [v, .int .i64 i, .int .i64 k, .any, .any, .any, .nilsl, p.1, .int .i64 j, .any, .any, .any, .any, .any, .any, .any, .any, .any, .any, .any, .any, .any, .any, .any, .any, .any, .any, .any, .any, .any, .any, .any, .any, .any, .any, .any, .any, .any]) (fun _ (p : AV × List AV × AH) => p.2.2)
    (fun j p m => Grow n m h p.2.2 29 p.1 p.2.1 (wo ll i k (woN i j))) (.sl n 0 0 0, [], _) (Nat.zero_le _) (Grow.start0 rfl) (by simp [LeL, Le1]) (fun _ _ h => h) ?_
  rintro j ⟨out, ws, hp⟩ m - hj1 hm g
  simp only at g
  have hold := g.old
  simp (maxSteps := 2000000) -implicitDefEqProofs (disch := omega) only [xsW, xsC, xsD, xsE, fillA, reduceCtorEq, Nat.reduceAdd, Nat.reduceSub, Nat.reduceLeDiff, Nat.reduceMul, Int.reduceLT, Int.reduceLE, Int.reduceEq, Int.reduceNe, Int.reduceAdd, Int.reduceSub, Int.reduceMul, Int.reduceNeg, Int.reduceToNat,  s.ln]
  (refine cd_dec (fun c1 => ?_) (fun c1 => ?_) <;> simp (maxSteps := 2000000) -implicitDefEqProofs (disch := omega) only [xsW, xsC, xsD, xsE, fillA, reduceCtorEq, Nat.reduceAdd, Nat.reduceSub, Nat.reduceLeDiff, Nat.reduceMul, Int.reduceLT, Int.reduceLE, Int.reduceEq, Int.reduceNe, Int.reduceAdd, Int.reduceSub, Int.reduceMul, Int.reduceNeg, Int.reduceToNat,  c1])
  · have hj2 : j < N + 1 := by omega
    have hrj := s.row j (by omega)
    have lj := hs.2 j hj2
    have hb := s.out.below (by rw [s.slen]; omega)
    (refine cd_dec (fun c2 => ?_) (fun c2 => ?_) <;> simp (maxSteps := 2000000) -implicitDefEqProofs (disch := omega) only [xsW, xsC, xsD, xsE, fillA, reduceCtorEq, Nat.reduceAdd, Nat.reduceSub, Nat.reduceLeDiff, Nat.reduceMul, Int.reduceLT, Int.reduceLE, Int.reduceEq, Int.reduceNe, Int.reduceAdd, Int.reduceSub, Int.reduceMul, Int.reduceNeg, Int.reduceToNat,  c2])
    · have hne := slen_ne hrj (by omega)
      have hsl := hrj.slen
      simp (maxSteps := 2000000) -implicitDefEqProofs (disch := omega) only [xsW, xsC, xsD, xsE, fillA, reduceCtorEq, Nat.reduceAdd, Nat.reduceSub, Nat.reduceLeDiff, Nat.reduceMul, Int.reduceLT, Int.reduceLE, Int.reduceEq, Int.reduceNe, Int.reduceAdd, Int.reduceSub, Int.reduceMul, Int.reduceNeg, Int.reduceToNat,  s.ia, s.ld, hold]
      have hri2 := hrj.keep (h' := hp) (fun i _ hi9 => by simp (disch := omega) only [upd_other, hold])
      refine Sl.shi hri2 hne.1 (by omega) (by omega) fun v1 hv1 _ _ => ?_
      rw [Nat.mul_one, ints_take] at hv1
      simp (maxSteps := 2000000) -implicitDefEqProofs (disch := omega) only [xsW, xsC, xsD, xsE, fillA, reduceCtorEq, Nat.reduceAdd, Nat.reduceSub, Nat.reduceLeDiff, Nat.reduceMul, Int.reduceLT, Int.reduceLE, Int.reduceEq, Int.reduceNe, Int.reduceAdd, Int.reduceSub, Int.reduceMul, Int.reduceNeg, Int.reduceToNat,  s.ia, s.ld, hold]
      refine Sl.slo hri2 hne.1 (by omega) (by omega) fun v2 hv2 _ _ => ?_
      rw [Nat.mul_one, ints_drop] at hv2
      simp (maxSteps := 2000000) -implicitDefEqProofs (disch := omega) only [xsW, xsC, xsD, xsE, fillA, reduceCtorEq, Nat.reduceAdd, Nat.reduceSub, Nat.reduceLeDiff, Nat.reduceMul, Int.reduceLT, Int.reduceLE, Int.reduceEq, Int.reduceNe, Int.reduceAdd, Int.reduceSub, Int.reduceMul, Int.reduceNeg, Int.reduceToNat]
      refine fq_use (spec_l01OwnA hv1 (by simp; omega) m (by omega)) fun v3 h3 n3 hn3 hs3 a3 => ?_
      simp (maxSteps := 2000000) -implicitDefEqProofs (disch := omega) only [xsW, xsC, xsD, xsE, fillA, reduceCtorEq, Nat.reduceAdd, Nat.reduceSub, Nat.reduceLeDiff, Nat.reduceMul, Int.reduceLT, Int.reduceLE, Int.reduceEq, Int.reduceNe, Int.reduceAdd, Int.reduceSub, Int.reduceMul, Int.reduceNeg, Int.reduceToNat]
      refine app_acc a3 (by omega) hn3 (Sl.src (Sl.keep hv2 (fun i _ hi9 => by simp (disch := omega) only [upd_other, hs3]))) (Sl.len hv2) (ints_one _) (by have h1 := a3.len; have h2 := Sl.len hv2; simp [ints] at h1 h2; omega) fun v4 h4 n4 q1 q2 q3 q4 q5 q6 => ?_
      rw [ints_append] at q3
      have o1 := one_any q3.any
      have o2 := sto_any q3.any
      have o3 := cel_any q3.any
      simp (maxSteps := 2000000) -implicitDefEqProofs (disch := omega) only [xsW, xsC, xsD, xsE, fillA, reduceCtorEq, Nat.reduceAdd, Nat.reduceSub, Nat.reduceLeDiff, Nat.reduceMul, Int.reduceLT, Int.reduceLE, Int.reduceEq, Int.reduceNe, Int.reduceAdd, Int.reduceSub, Int.reduceMul, Int.reduceNeg, Int.reduceToNat,  o1, o2, o3]
      refine g.app (hB := upd h4 n4 _) (v1 := v4) (l := cutRow (ll.getD j []) k) (m1 := n4) ?_ (fun i hi9 => by simp (disch := omega) only [upd_other, q5, hs3]) (by omega) (by omega) (by omega) ⟨rfl, _, upd_same _ _ _, by simp, by simp [cutA]⟩ (by rw [wo, rowsOf_len]; unfold woN; split <;> omega) fun out' h' n' p1 p2 => ?_
      · have := (q3.sl.keep (h' := upd h4 n4 (some ⟨29, [v4], true, 0⟩)) (fun i _ hi9 => by simp (disch := omega) only [upd_other])).wide (lo' := m) (hi' := n4) (by omega) (by omega)
        simpa [Ints, cutRow] using this
      · simp (maxSteps := 2000000) -implicitDefEqProofs (disch := omega) only [xsW, xsC, xsD, xsE, fillA, reduceCtorEq, Nat.reduceAdd, Nat.reduceSub, Nat.reduceLeDiff, Nat.reduceMul, Int.reduceLT, Int.reduceLE, Int.reduceEq, Int.reduceNe, Int.reduceAdd, Int.reduceSub, Int.reduceMul, Int.reduceNeg, Int.reduceToNat]
        refine ⟨(out', ws ++ [v4], h'), ?_, by omega, by omega, (by simp [LeL, Le1]), fun _ _ h => h⟩
        have e1 : woN i (j + 1) = woN i j + 1 := by unfold woN; split <;> split <;> omega
        have e2 : sk i (woN i j) = j := by unfold sk woN; split <;> split <;> omega
        have e : wo ll i k (woN i (j + 1)) = wo ll i k (woN i j) ++ [cutRow (ll.getD j []) k] := by rw [e1, wo, rowsOf_succ, e2]; rfl
        rw [e]; exact p2
    · have e1 : woN i (j + 1) = woN i j := by unfold woN; split <;> split <;> omega
      exact ⟨(out, ws, hp), by rw [e1]; exact g, by omega, by omega, (by simp [LeL, Le1]), fun _ _ h => h⟩
  · intro _ h2 hh
    have e : j = N + 1 := by omega
    subst e
    have e1 : woN i (N + 1) = N := by unfold woN; split <;> omega
    rw [e1] at g
    exact ⟨ws, g.rowsOf hh⟩
theorem spec_l03Cofactor {N : Nat} (sR : Rows w lo hi h v vs ll) (hN : N ≤ 5) (h1N : 1 ≤ N) (hs : Sq N ll) (hl : ∃ q, Lim q N (mx ll)) (n : Nat) (hn : hi ≤ n) :
    Q Try.prog 127 [v] h n (.int .i64 (minL (cofR N (mx ll) N))) := by
  refine q_intro Try.func127 k_spec_l03Cofactor ?_
  have hL := hs.1
  simp (maxSteps := 2000000) -implicitDefEqProofs (disch := omega) only [c_spec_l03Cofactor, xsW, xsC, xsD, xsE, fillA, reduceCtorEq, Nat.reduceAdd, Nat.reduceSub, Nat.reduceLeDiff, Nat.reduceMul, Int.reduceLT, Int.reduceLE, Int.reduceEq, Int.reduceNe, Int.reduceAdd, Int.reduceSub, Int.reduceMul, Int.reduceNeg, Int.reduceToNat]
  refine loop_for N 0 (fun i _ => [v, .any, .int .i64 0, .int .i64 (runL (cofR N (mx ll) i)).1, .bool (runL (cofR N (mx ll) i)).2, .int .i64 i, .any, .any, .any, .any, .any, .any, .any, .any, .any, .any, .any, .any, .any, .any, .any, .any, .any, .any, .any, .any, .any, .any, .any, .any, .any, .any, .any, .any, .any, .any, .any, .any, .any, .any]) (fun _ (hp : AH) => hp)
    (fun i hp m => n ≤ m ∧ ∀ j, j < n → hp j = h j) h (Nat.zero_le _) ⟨Nat.le_refl _, fun _ _ => rfl⟩ (by simp [LeL, Le1, runL, cofR]) (fun _ _ h => h) ?_
  rintro i hp m - hi1 hm ⟨hle, hold⟩
  simp (maxSteps := 2000000) -implicitDefEqProofs (disch := omega) only [xsW, xsC, xsD, xsE, fillA, reduceCtorEq, Nat.reduceAdd, Nat.reduceSub, Nat.reduceLeDiff, Nat.reduceMul, Int.reduceLT, Int.reduceLE, Int.reduceEq, Int.reduceNe, Int.reduceAdd, Int.reduceSub, Int.reduceMul, Int.reduceNeg, Int.reduceToNat,  sR.ln, hL]
  (refine cd_dec (fun c1 => ?_) (fun c1 => ?_) <;> simp (maxSteps := 2000000) -implicitDefEqProofs (disch := omega) only [xsW, xsC, xsD, xsE, fillA, reduceCtorEq, Nat.reduceAdd, Nat.reduceSub, Nat.reduceLeDiff, Nat.reduceMul, Int.reduceLT, Int.reduceLE, Int.reduceEq, Int.reduceNe, Int.reduceAdd, Int.reduceSub, Int.reduceMul, Int.reduceNeg, Int.reduceToNat,  c1])
  · have hi2 : i < N := by omega
    refine loop_for N 0 (fun k _ => [v, .any, .int .i64 0, .int .i64 (runL (cofP N (mx ll) i k)).1, .bool (runL (cofP N (mx ll) i k)).2, .int .i64 i, .int .i64 k, .any, .any, .any, .any, .any, .any, .any, .any, .any, .any, .any, .any, .any, .any, .any, .any, .any, .any, .any, .any, .any, .any, .any, .any, .any, .any, .any, .any, .any, .any, .any, .any, .any]) (fun _ (hp : AH) => hp)
      (fun k hp m => n ≤ m ∧ ∀ j, j < n → hp j = h j) hp (Nat.zero_le _) ⟨hle, hold⟩ (by simp [LeL, Le1, cofP_zero]) (fun _ _ h => h) ?_
    rintro k hq m2 - hk1 hm2 ⟨hle2, hold2⟩
    simp (maxSteps := 2000000) -implicitDefEqProofs (disch := omega) only [xsW, xsC, xsD, xsE, fillA, reduceCtorEq, Nat.reduceAdd, Nat.reduceSub, Nat.reduceLeDiff, Nat.reduceMul, Int.reduceLT, Int.reduceLE, Int.reduceEq, Int.reduceNe, Int.reduceAdd, Int.reduceSub, Int.reduceMul, Int.reduceNeg, Int.reduceToNat,  sR.ln, hL]
    (refine cd_dec (fun c2 => ?_) (fun c2 => ?_) <;> simp (maxSteps := 2000000) -implicitDefEqProofs (disch := omega) only [xsW, xsC, xsD, xsE, fillA, reduceCtorEq, Nat.reduceAdd, Nat.reduceSub, Nat.reduceLeDiff, Nat.reduceMul, Int.reduceLT, Int.reduceLE, Int.reduceEq, Int.reduceNe, Int.reduceAdd, Int.reduceSub, Int.reduceMul, Int.reduceNeg, Int.reduceToNat,  c2])
    · have hk2 : k < N := by omega
      obtain ⟨N', rfl⟩ : ∃ N', N = N' + 1 := ⟨N - 1, by omega⟩
      refine fq_use (spec_l03Without (sR.keep (h' := hq) (fun i _ hi9 => by simp (disch := omega) only [upd_other, hold2])) (by omega) hs hi2 hk2 m2 (by omega)) fun v1 h1 n1 hn1 hs1 ⟨vs1, hv1⟩ => ?_
      simp (maxSteps := 2000000) -implicitDefEqProofs (disch := omega) only [xsW, xsC, xsD, xsE, fillA, reduceCtorEq, Nat.reduceAdd, Nat.reduceSub, Nat.reduceLeDiff, Nat.reduceMul, Int.reduceLT, Int.reduceLE, Int.reduceEq, Int.reduceNe, Int.reduceAdd, Int.reduceSub, Int.reduceMul, Int.reduceNeg, Int.reduceToNat]
      refine q_use (spec_l01Det _ hv1 (by omega) (wo_sq hs hk2) (wo_lim hs hk2 hl) n1 (Nat.le_refl _)) fun n2 hn2 => ?_
      have eD : det N' (mx (wo ll i k N')) = det (N' + 1 - 1) (mi (mx ll) i k) := det_congr fun r c hr hc => wo_at hs hk2 hr hc
      rw [eD]
      have b1 := cof_b hN hl hi2 hk2
      have ht : ((i : Int) + (k : Int)).tmod 2 = (((i + k) % 2 : Nat) : Int) := by rw [← Int.natCast_add]; exact tm2 _
      have hr := runL_app (cofP (N' + 1) (mx ll) i k) (cof (N' + 1) (mx ll) i k)
      rw [← cofP_succ] at hr
      have hq2 : ∀ j, j < n → h1 j = h j := fun j hj => by rw [hs1 j (by omega), hold2 j hj]
      generalize hA : (runL (cofP (N' + 1) (mx ll) i k)).1 = A at hr ⊢
      generalize hB : (runL (cofP (N' + 1) (mx ll) i k)).2 = B at hr ⊢
      have fin : ∀ x : Int, x = cof (N' + 1) (mx ll) i k → (B = true ∨ x < A → (runL (cofP (N' + 1) (mx ll) i (k + 1))) = (x, false)) ∧ (¬ (B = true ∨ x < A) → (runL (cofP (N' + 1) (mx ll) i (k + 1))) = (A, false)) := fun x hx => by
        subst hx
        exact ⟨fun hc => by rw [hr, if_pos hc], fun hc => by rw [hr, if_neg hc]⟩
      simp (maxSteps := 2000000) -implicitDefEqProofs (disch := omega) only [xsW, xsC, xsD, xsE, fillA, reduceCtorEq, Nat.reduceAdd, Nat.reduceSub, Nat.reduceLeDiff, Nat.reduceMul, Int.reduceLT, Int.reduceLE, Int.reduceEq, Int.reduceNe, Int.reduceAdd, Int.reduceSub, Int.reduceMul, Int.reduceNeg, Int.reduceToNat,  ht]
      (refine cd_dec (fun c3 => ?_) (fun c3 => ?_) <;> simp (maxSteps := 2000000) -implicitDefEqProofs (disch := omega) only [xsW, xsC, xsD, xsE, fillA, reduceCtorEq, Nat.reduceAdd, Nat.reduceSub, Nat.reduceLeDiff, Nat.reduceMul, Int.reduceLT, Int.reduceLE, Int.reduceEq, Int.reduceNe, Int.reduceAdd, Int.reduceSub, Int.reduceMul, Int.reduceNeg, Int.reduceToNat,  c3])
      · have fin := fin (-det (N' + 1 - 1) (mi (mx ll) i k)) (by unfold cof; rw [if_pos (by omega)])
        cases B
        · simp (maxSteps := 2000000) -implicitDefEqProofs (disch := omega) only [xsW, xsC, xsD, xsE, fillA, reduceCtorEq, Nat.reduceAdd, Nat.reduceSub, Nat.reduceLeDiff, Nat.reduceMul, Int.reduceLT, Int.reduceLE, Int.reduceEq, Int.reduceNe, Int.reduceAdd, Int.reduceSub, Int.reduceMul, Int.reduceNeg, Int.reduceToNat]
          (refine cd_dec (fun c4 => ?_) (fun c4 => ?_) <;> simp (maxSteps := 2000000) -implicitDefEqProofs (disch := omega) only [xsW, xsC, xsD, xsE, fillA, reduceCtorEq, Nat.reduceAdd, Nat.reduceSub, Nat.reduceLeDiff, Nat.reduceMul, Int.reduceLT, Int.reduceLE, Int.reduceEq, Int.reduceNe, Int.reduceAdd, Int.reduceSub, Int.reduceMul, Int.reduceNeg, Int.reduceToNat,  c4])
          · have e := fin.1 (.inr c4)
            exact ⟨h1, ⟨by omega, hq2⟩, by omega, by omega, by simp [LeL, Le1, e], fun _ _ h => h⟩
          · have e := fin.2 (fun hc => hc.elim (fun h => by cases h) c4)
            exact ⟨h1, ⟨by omega, hq2⟩, by omega, by omega, by simp [LeL, Le1, e], fun _ _ h => h⟩
        · have e := fin.1 (.inl rfl)
          simp (maxSteps := 2000000) -implicitDefEqProofs (disch := omega) only [xsW, xsC, xsD, xsE, fillA, reduceCtorEq, Nat.reduceAdd, Nat.reduceSub, Nat.reduceLeDiff, Nat.reduceMul, Int.reduceLT, Int.reduceLE, Int.reduceEq, Int.reduceNe, Int.reduceAdd, Int.reduceSub, Int.reduceMul, Int.reduceNeg, Int.reduceToNat]
          exact ⟨h1, ⟨by omega, hq2⟩, by omega, by omega, by simp [LeL, Le1, e], fun _ _ h => h⟩
      · have fin := fin (det (N' + 1 - 1) (mi (mx ll) i k)) (by unfold cof; rw [if_neg (by omega)])
        cases B
        · simp (maxSteps := 2000000) -implicitDefEqProofs (disch := omega) only [xsW, xsC, xsD, xsE, fillA, reduceCtorEq, Nat.reduceAdd, Nat.reduceSub, Nat.reduceLeDiff, Nat.reduceMul, Int.reduceLT, Int.reduceLE, Int.reduceEq, Int.reduceNe, Int.reduceAdd, Int.reduceSub, Int.reduceMul, Int.reduceNeg, Int.reduceToNat]
          (refine cd_dec (fun c4 => ?_) (fun c4 => ?_) <;> simp (maxSteps := 2000000) -implicitDefEqProofs (disch := omega) only [xsW, xsC, xsD, xsE, fillA, reduceCtorEq, Nat.reduceAdd, Nat.reduceSub, Nat.reduceLeDiff, Nat.reduceMul, Int.reduceLT, Int.reduceLE, Int.reduceEq, Int.reduceNe, Int.reduceAdd, Int.reduceSub, Int.reduceMul, Int.reduceNeg, Int.reduceToNat,  c4])
          · have e := fin.1 (.inr c4)
            exact ⟨h1, ⟨by omega, hq2⟩, by omega, by omega, by simp [LeL, Le1, e], fun _ _ h => h⟩
          · have e := fin.2 (fun hc => hc.elim (fun h => by cases h) c4)
            exact ⟨h1, ⟨by omega, hq2⟩, by omega, by omega, by simp [LeL, Le1, e], fun _ _ h => h⟩
        · have e := fin.1 (.inl rfl)
          simp (maxSteps := 2000000) -implicitDefEqProofs (disch := omega) only [xsW, xsC, xsD, xsE, fillA, reduceCtorEq, Nat.reduceAdd, Nat.reduceSub, Nat.reduceLeDiff, Nat.reduceMul, Int.reduceLT, Int.reduceLE, Int.reduceEq, Int.reduceNe, Int.reduceAdd, Int.reduceSub, Int.reduceMul, Int.reduceNeg, Int.reduceToNat]
          exact ⟨h1, ⟨by omega, hq2⟩, by omega, by omega, by simp [LeL, Le1, e], fun _ _ h => h⟩
    · have e : k = N := by omega
      subst e
      exact ⟨hq, ⟨by omega, hold2⟩, by omega, by omega, by simp [LeL, Le1, cofP_full], fun _ _ h => h⟩
  · have e : i = N := by omega
    subst e
    have hne : cofR i (mx ll) i ≠ [] := fun e => by
      have := congrArg List.length e
      rw [cofR_len] at this
      have := Nat.mul_pos (show 0 < i by omega) (show 0 < i by omega)
      simp only [List.length_nil] at *; omega
    have er : (runL (cofR i (mx ll) i)).1 = minL (cofR i (mx ll) i) := by unfold runL; rw [if_neg hne]
    rw [er]
end
def c_spec_l03Kind : F := ⟨(.seq (.reg false [⟨some 4, .mv (.c (.bool false)), none⟩]) (.seq (.seq (.reg false [⟨some 7, .mv (.t 1), none⟩]) (.block 0 (.seq (.reg false [⟨some 9, .bin .eql (.t 7) (.c (.int .i64 0)), none⟩, ⟨some 8, .mv (.t 9), none⟩]) (.cond (.t 8) (.seq (.reg false [⟨some 10, .mv (.t 0), none⟩, ⟨some 11, .call (.f 96) [(.t 10)], none⟩, ⟨some 12, .bin .gtr (.t 11) (.c (.int .i64 0)), none⟩, ⟨some 4, .mv (.t 12), none⟩]) .ret) (.seq (.reg false [⟨some 14, .bin .eql (.t 7) (.c (.int .i64 1)), none⟩, ⟨some 13, .mv (.t 14), none⟩]) (.cond (.t 13) (.seq (.reg false [⟨some 15, .mv (.t 0), none⟩, ⟨some 16, .call (.f 96) [(.t 15)], none⟩, ⟨some 17, .bin .geq (.t 16) (.c (.int .i64 0)), none⟩, ⟨some 4, .mv (.t 17), none⟩]) .ret) (.seq (.reg false [⟨some 19, .bin .eql (.t 7) (.c (.int .i64 2)), none⟩, ⟨some 18, .mv (.t 19), none⟩]) (.cond (.t 18) (.seq (.reg false [⟨some 20, .mv (.t 0), none⟩, ⟨some 21, .call (.f 97) [(.t 20)], none⟩, ⟨some 4, .mv (.t 21), none⟩]) .ret) (.seq (.reg false [⟨some 23, .bin .eql (.t 7) (.c (.int .i64 3)), none⟩, ⟨some 22, .mv (.t 23), none⟩]) (.cond (.t 22) (.seq (.reg false [⟨some 24, .mv (.t 0), none⟩, ⟨some 25, .call (.f 97) [(.t 24)], none⟩, ⟨some 26, .mv (.t 25), none⟩, ⟨some 27, .mv (.t 0), some (26, true)⟩, ⟨some 28, .call (.f 96) [(.t 27)], some (26, true)⟩, ⟨some 29, .bin .gtr (.t 28) (.c (.int .i64 0)), some (26, true)⟩, ⟨some 30, .pick (.t 26) (.t 29) (.c (.bool false)), none⟩, ⟨some 4, .mv (.t 30), none⟩]) .ret) (.seq (.reg false [⟨some 32, .bin .eql (.t 7) (.c (.int .i64 4)), none⟩, ⟨some 31, .mv (.t 32), none⟩]) (.cond (.t 31) (.seq (.reg false [⟨some 33, .mv (.t 0), none⟩, ⟨some 34, .call (.f 78) [(.t 33)], none⟩, ⟨some 35, .call (.f 96) [(.t 34)], none⟩, ⟨some 36, .bin .gtr (.t 35) (.c (.int .i64 0)), none⟩, ⟨some 4, .mv (.t 36), none⟩]) .ret) (.seq (.reg false [⟨some 38, .bin .eql (.t 7) (.c (.int .i64 5)), none⟩, ⟨some 37, .mv (.t 38), none⟩]) (.cond (.t 37) (.seq (.reg false [⟨some 39, .mv (.t 0), none⟩, ⟨some 40, .call (.f 76) [(.t 39)], none⟩, ⟨some 41, .call (.f 96) [(.t 40)], none⟩, ⟨some 42, .bin .gtr (.t 41) (.c (.int .i64 0)), none⟩, ⟨some 4, .mv (.t 42), none⟩]) .ret) (.seq (.reg false [⟨some 44, .bin .eql (.t 7) (.c (.int .i64 6)), none⟩, ⟨some 43, .mv (.t 44), none⟩]) (.cond (.t 43) (.seq (.reg false [⟨some 45, .mv (.t 0), none⟩, ⟨some 46, .call (.f 76) [(.t 45)], none⟩, ⟨some 47, .call (.f 96) [(.t 46)], none⟩, ⟨some 48, .bin .geq (.t 47) (.c (.int .i64 0)), none⟩, ⟨some 4, .mv (.t 48), none⟩]) .ret) (.seq (.reg false [⟨some 50, .bin .eql (.t 7) (.c (.int .i64 7)), none⟩, ⟨some 49, .mv (.t 50), none⟩]) (.cond (.t 49) (.seq (.reg false [⟨some 51, .mv (.t 0), none⟩, ⟨some 52, .call (.f 98) [(.t 51), (.c (.bool false))], none⟩, ⟨some 4, .mv (.t 52), none⟩]) .ret) (.seq (.reg false [⟨some 54, .bin .eql (.t 7) (.c (.int .i64 8)), none⟩, ⟨some 53, .mv (.t 54), none⟩]) (.cond (.t 53) (.seq (.reg false [⟨some 55, .mv (.t 0), none⟩, ⟨some 56, .call (.f 98) [(.t 55), (.c (.bool true))], none⟩, ⟨some 4, .mv (.t 56), none⟩]) .ret) (.seq (.reg false [⟨some 58, .bin .eql (.t 7) (.c (.int .i64 9)), none⟩, ⟨some 57, .mv (.t 58), none⟩]) (.cond (.t 57) (.seq (.seq (.reg false [⟨some 5, .mv (.c (.int .i64 0)), none⟩]) (.block 1 (.loop (.seq (.seq (.reg false [⟨some 59, .mv (.t 5), none⟩, ⟨some 60, .mv (.t 0), none⟩, ⟨some 61, .len (.t 60), none⟩, ⟨some 62, .bin .lss (.t 59) (.t 61), none⟩]) (.cond (.t 62) .skip (.exit 1))) (.seq (.block 2 (.seq (.reg false [⟨some 6, .mv (.c (.int .i64 0)), none⟩]) (.block 3 (.loop (.seq (.seq (.reg false [⟨some 65, .mv (.t 6), none⟩, ⟨some 66, .mv (.t 5), none⟩, ⟨some 67, .bin .lss (.t 65) (.t 66), none⟩]) (.cond (.t 67) .skip (.exit 3))) (.seq (.block 4 (.seq (.reg true [⟨some 70, .mv (.t 0), none⟩, ⟨some 71, .mv (.t 5), none⟩, ⟨some 72, .ia 1 (.t 70) (.t 71), none⟩, ⟨some 73, .ld1 (.t 72), none⟩, ⟨some 74, .mv (.t 6), none⟩, ⟨some 75, .ia 1 (.t 73) (.t 74), none⟩, ⟨some 76, .ld1 (.t 75), none⟩, ⟨some 77, .mv (.t 0), none⟩, ⟨some 78, .mv (.t 6), none⟩, ⟨some 79, .ia 1 (.t 77) (.t 78), none⟩, ⟨some 80, .ld1 (.t 79), none⟩, ⟨some 81, .mv (.t 5), none⟩, ⟨some 82, .ia 1 (.t 80) (.t 81), none⟩, ⟨some 83, .ld1 (.t 82), none⟩, ⟨some 84, .bin .neq (.t 76) (.t 83), none⟩]) (.cond (.t 84) (.seq (.reg false [⟨some 4, .mv (.c (.bool false)), none⟩]) .ret) .skip))) (.reg false [⟨some 68, .mv (.t 6), none⟩, ⟨some 69, .bin .add (.t 68) (.c (.int .i64 1)), none⟩, ⟨some 6, .mv (.t 69), none⟩]))))))) (.reg false [⟨some 63, .mv (.t 5), none⟩, ⟨some 64, .bin .add (.t 63) (.c (.int .i64 1)), none⟩, ⟨some 5, .mv (.t 64), none⟩])))))) (.seq (.reg false [⟨some 4, .mv (.c (.bool true)), none⟩]) .ret)) (.seq (.reg false [⟨some 86, .bin .eql (.t 7) (.c (.int .i64 10)), none⟩, ⟨some 85, .mv (.t 86), none⟩]) (.cond (.t 85) (.seq (.reg false [⟨some 87, .mv (.t 0), none⟩, ⟨some 88, .call (.f 99) [(.t 87)], none⟩, ⟨some 4, .mv (.t 88), none⟩]) .ret) .skip)))))))))))))))))))))))) (.seq (.reg false [⟨some 89, .mv (.t 0), none⟩, ⟨some 90, .call (.f 100) [(.t 89)], none⟩, ⟨some 4, .mv (.t 90), none⟩]) .ret))), 91, [(.t 4)]⟩
theorem k_spec_l03Kind : compF Try.prog Try.f58 = some c_spec_l03Kind := by kernel_rfl
def c_spec_IsOfKind : F := ⟨(.seq (.reg false [⟨some 4, .mv (.c (.bool false)), none⟩, ⟨some 5, .mv (.c (.int .i64 0)), none⟩]) (.seq (.block 0 (.seq (.reg false [⟨some 7, .mv (.t 0), none⟩, ⟨some 8, .call (.f 56) [(.t 7)], none⟩, ⟨some 9, .un .not (.t 8), none⟩, ⟨some 6, .mv (.t 9), none⟩]) (.cond (.t 6) (.seq (.reg false [⟨some 4, .mv (.c (.bool false)), none⟩, ⟨some 5, .mv (.c (.int .i64 1)), none⟩]) .ret) (.seq (.reg false [⟨some 11, .mv (.t 1), none⟩, ⟨some 12, .call (.f 57) [(.t 11), (.c (.int .i64 0)), (.c (.int .i64 11))], none⟩, ⟨some 13, .un .not (.t 12), none⟩, ⟨some 10, .mv (.t 13), none⟩]) (.cond (.t 10) (.seq (.reg false [⟨some 4, .mv (.c (.bool false)), none⟩, ⟨some 5, .mv (.c (.int .i64 2)), none⟩]) .ret) .skip))))) (.seq (.reg false [⟨some 14, .mv (.t 0), none⟩, ⟨some 15, .mv (.t 1), none⟩, ⟨some 16, .call (.f 58) [(.t 14), (.t 15)], none⟩, ⟨some 4, .mv (.t 16), none⟩, ⟨some 5, .mv (.c (.int .i64 0)), none⟩]) .ret))), 17, [(.t 4), (.t 5)]⟩
theorem k_spec_IsOfKind : compF Try.prog Try.f8 = some c_spec_IsOfKind := by kernel_rfl
def c_spec_KindsOf : F := ⟨(.seq (.reg false [⟨some 2, .mv (.c .nilsl), none⟩, ⟨some 3, .mv (.c (.int .i64 0)), none⟩]) (.seq (.seq (.reg false [⟨some 7, .mv (.t 0), none⟩, ⟨some 8, .call (.f 62) [(.t 7), (.c .nilsl)], none⟩, ⟨some 4, .mv (.t 8), none⟩]) (.seq (.reg false [⟨some 9, .mv (.t 4), none⟩, ⟨some 10, .bin .neq (.t 9) (.c (.int .i64 0)), none⟩]) (.cond (.t 10) (.seq (.reg false [⟨some 11, .mv (.t 4), none⟩, ⟨some 2, .mv (.c .nilsl), none⟩, ⟨some 3, .mv (.t 11), none⟩]) .ret) .skip))) (.seq (.reg false [⟨some 12, .lit 2 1 0 [(.int .i64 0)] [], none⟩, ⟨some 5, .mv (.t 12), none⟩]) (.seq (.seq (.reg false [⟨some 6, .mv (.c (.int .i64 0)), none⟩]) (.block 0 (.loop (.seq (.seq (.reg false [⟨some 13, .mv (.t 6), none⟩, ⟨some 14, .bin .lss (.t 13) (.c (.int .i64 12)), none⟩]) (.cond (.t 14) .skip (.exit 0))) (.seq (.block 1 (.seq (.reg false [⟨some 17, .mv (.t 0), none⟩, ⟨some 18, .mv (.t 6), none⟩, ⟨some 19, .call (.f 58) [(.t 17), (.t 18)], none⟩]) (.cond (.t 19) (.reg false [⟨some 20, .mv (.t 5), none⟩, ⟨some 21, .lit 2 1 1 [(.int .i64 0)] [(0, (.c (.int .i64 1)))], none⟩, ⟨some 22, .app 2 1 8 [(.int .i64 0)] (.t 20) (.t 21), none⟩, ⟨some 5, .mv (.t 22), none⟩]) (.reg false [⟨some 23, .mv (.t 5), none⟩, ⟨some 24, .lit 2 1 1 [(.int .i64 0)] [(0, (.c (.int .i64 0)))], none⟩, ⟨some 25, .app 2 1 8 [(.int .i64 0)] (.t 23) (.t 24), none⟩, ⟨some 5, .mv (.t 25), none⟩])))) (.reg false [⟨some 15, .mv (.t 6), none⟩, ⟨some 16, .bin .add (.t 15) (.c (.int .i64 1)), none⟩, ⟨some 6, .mv (.t 16), none⟩])))))) (.seq (.reg false [⟨some 26, .mv (.t 5), none⟩, ⟨some 2, .mv (.t 26), none⟩, ⟨some 3, .mv (.c (.int .i64 0)), none⟩]) .ret))))), 27, [(.t 2), (.t 3)]⟩
theorem k_spec_KindsOf : compF Try.prog Try.f12 = some c_spec_KindsOf := by kernel_rfl
def c_impl_IsOfKind : F := ⟨(.seq (.reg false [⟨some 4, .mv (.c (.bool false)), none⟩, ⟨some 5, .mv (.c (.int .i64 0)), none⟩]) (.seq (.seq (.reg false [⟨some 6, .mv (.t 0), none⟩, ⟨some 7, .call (.f 47) [(.t 6)], none⟩, ⟨some 8, .un .not (.t 7), none⟩]) (.cond (.t 8) (.seq (.reg false [⟨some 4, .mv (.c (.bool false)), none⟩, ⟨some 5, .mv (.c (.int .i64 1)), none⟩]) .ret) .skip)) (.seq (.seq (.reg false [⟨some 9, .mv (.t 1), none⟩, ⟨some 10, .call (.f 60) [(.t 9), (.c (.int .i64 0)), (.c (.int .i64 11))], none⟩, ⟨some 11, .un .not (.t 10), none⟩]) (.cond (.t 11) (.seq (.reg false [⟨some 4, .mv (.c (.bool false)), none⟩, ⟨some 5, .mv (.c (.int .i64 2)), none⟩]) .ret) .skip)) (.seq (.reg false [⟨some 12, .mv (.t 0), none⟩, ⟨some 13, .mv (.t 1), none⟩, ⟨some 14, .call (.f 61) [(.t 12), (.t 13)], none⟩, ⟨some 4, .mv (.t 14), none⟩, ⟨some 5, .mv (.c (.int .i64 0)), none⟩]) .ret)))), 15, [(.t 4), (.t 5)]⟩
theorem k_impl_IsOfKind : compF Try.prog Try.f10 = some c_impl_IsOfKind := by kernel_rfl
def c_impl_KindsOf : F := ⟨(.seq (.reg false [⟨some 2, .mv (.c .nilsl), none⟩, ⟨some 3, .mv (.c (.int .i64 0)), none⟩]) (.seq (.seq (.reg false [⟨some 7, .mv (.t 0), none⟩, ⟨some 8, .call (.f 47) [(.t 7)], none⟩, ⟨some 9, .un .not (.t 8), none⟩]) (.cond (.t 9) (.seq (.reg false [⟨some 2, .mv (.c .nilsl), none⟩, ⟨some 3, .mv (.c (.int .i64 1)), none⟩]) .ret) .skip)) (.seq (.reg false [⟨some 4, .mv (.c .nilsl), none⟩]) (.seq (.seq (.reg false [⟨some 5, .mv (.c (.int .i64 0)), none⟩]) (.block 0 (.loop (.seq (.seq (.reg false [⟨some 10, .mv (.t 5), none⟩, ⟨some 11, .bin .leq (.t 10) (.c (.int .i64 11)), none⟩]) (.cond (.t 11) .skip (.exit 0))) (.seq (.block 1 (.seq (.reg false [⟨some 6, .mv (.c (.int .i64 0)), none⟩]) (.seq (.seq (.reg false [⟨some 14, .mv (.t 0), none⟩, ⟨some 15, .mv (.t 5), none⟩, ⟨some 16, .call (.f 61) [(.t 14), (.t 15)], none⟩]) (.cond (.t 16) (.reg false [⟨some 6, .mv (.c (.int .i64 1)), none⟩]) .skip)) (.reg false [⟨some 17, .mv (.t 4), none⟩, ⟨some 18, .mv (.t 6), none⟩, ⟨some 19, .lit 2 1 1 [(.int .i64 0)] [(0, (.t 18))], none⟩, ⟨some 20, .app 2 1 8 [(.int .i64 0)] (.t 17) (.t 19), none⟩, ⟨some 4, .mv (.t 20), none⟩])))) (.reg false [⟨some 12, .mv (.t 5), none⟩, ⟨some 13, .bin .add (.t 12) (.c (.int .i64 1)), none⟩, ⟨some 5, .mv (.t 13), none⟩])))))) (.seq (.reg false [⟨some 21, .mv (.t 4), none⟩, ⟨some 2, .mv (.t 21), none⟩, ⟨some 3, .mv (.c (.int .i64 0)), none⟩]) .ret))))), 22, [(.t 2), (.t 3)]⟩
theorem k_impl_KindsOf : compF Try.prog Try.f13 = some c_impl_KindsOf := by kernel_rfl
section
variable {w : Bool} {lo hi : Nat} {h : AH} {v : AV} {vs : List AV} {ll : List (List Int)}
theorem spec_l03Copositive (sR : Rows w lo hi h v vs ll) (hm : isMat ll = true) (b : Bool) (n : Nat) (hn : hi ≤ n) : Q Try.prog 98 [v, .bool b] h n (.bool (copB (symF ll) (if b = true then 1 else 0))) := by
  refine q_intro Try.func98 k_spec_l03Copositive ?_
  obtain ⟨hN, _, _⟩ := isMat_sq hm
  obtain ⟨hL, hs, hl⟩ := symF_facts hm
  have hp := pw_le hN
  obtain ⟨bb, hbb⟩ : ∃ bb : Int, bb = if b = true then 1 else 0 := ⟨_, rfl⟩
  rw [← hbb]
  simp (maxSteps := 2000000) -implicitDefEqProofs (disch := omega) only [c_spec_l03Copositive, xsW, xsC, xsD, xsE, fillA, reduceCtorEq, Nat.reduceAdd, Nat.reduceSub, Nat.reduceLeDiff, Nat.reduceMul, Int.reduceLT, Int.reduceLE, Int.reduceEq, Int.reduceNe, Int.reduceAdd, Int.reduceSub, Int.reduceMul, Int.reduceNeg, Int.reduceToNat]
  refine fq_use (spec_l03Symmetric sR hm n hn) fun v1 h1 n1 hn1 hs1 ⟨vs1, hv1⟩ => ?_
  rw [show (rowsOf ll.length fun i => rowOf ll.length fun k => at2 ll i k + at2 ll k i) = symF ll from rfl] at hv1
  simp (maxSteps := 2000000) -implicitDefEqProofs (disch := omega) only [xsW, xsC, xsD, xsE, fillA, reduceCtorEq, Nat.reduceAdd, Nat.reduceSub, Nat.reduceLeDiff, Nat.reduceMul, Int.reduceLT, Int.reduceLE, Int.reduceEq, Int.reduceNe, Int.reduceAdd, Int.reduceSub, Int.reduceMul, Int.reduceNeg, Int.reduceToNat]
  refine loop_for (ll.length + 1) 1 (fun z _ => [v, .bool b, .any, .any, .bool false, v1, .int .i64 z, .any, .any, .any, .any, .any, .any, .any, .any, .any, .any, .any, .any, .any, .any, .any, .any, .any, .any, .any, .any, .any, .any, .any, .any, .any, .any, .any, .any, .any, .any, .any, .any, .any, .any, .any, .any, .any, .any, .any, .any, .any, .any, .any, .any, .any, .any, .any, .any, .any, .any, .any]) (fun _ (hp : AH) => hp)
    (fun z hp m => (∀ j, 1 ≤ j → j < pw ll.length → popc (j : Int) < z → badS (symF ll) bb j = false) ∧ n1 ≤ m ∧ ∀ j, j < n1 → hp j = h1 j) h1 (by omega) ⟨fun j h1 h2 h3 => by
      have := pop_pos hN h2 h1
      rw [pop_places hN ⟨j, by omega⟩ h2] at this
      simp only at this; omega, Nat.le_refl _, fun _ _ => rfl⟩ (by simp [LeL, Le1]) (fun _ _ h => h) ?_
  rintro z hp' m hz0 hz1 hm1 ⟨he, hle, hold⟩
  have hsr := (sR.keep (h' := h1) (fun i _ hi9 => by simp (disch := omega) only [upd_other, hs1])).keep (h' := hp') (fun i _ hi9 => by simp (disch := omega) only [upd_other, hold])
  simp (maxSteps := 2000000) -implicitDefEqProofs (disch := omega) only [xsW, xsC, xsD, xsE, fillA, reduceCtorEq, Nat.reduceAdd, Nat.reduceSub, Nat.reduceLeDiff, Nat.reduceMul, Int.reduceLT, Int.reduceLE, Int.reduceEq, Int.reduceNe, Int.reduceAdd, Int.reduceSub, Int.reduceMul, Int.reduceNeg, Int.reduceToNat,  sR.ln]
  (refine cd_dec (fun c1 => ?_) (fun c1 => ?_) <;> simp (maxSteps := 2000000) -implicitDefEqProofs (disch := omega) only [xsW, xsC, xsD, xsE, fillA, reduceCtorEq, Nat.reduceAdd, Nat.reduceSub, Nat.reduceLeDiff, Nat.reduceMul, Int.reduceLT, Int.reduceLE, Int.reduceEq, Int.reduceNe, Int.reduceAdd, Int.reduceSub, Int.reduceMul, Int.reduceNeg, Int.reduceToNat,  c1])
  · refine loop_for (pw ll.length) 1 (fun s _ => [v, .bool b, .any, .any, .bool false, v1, .int .i64 z, .int .i64 s, .any, .any, .any, .any, .any, .any, .any, .any, .any, .any, .any, .any, .any, .any, .any, .any, .any, .any, .any, .any, .any, .any, .any, .any, .any, .any, .any, .any, .any, .any, .any, .any, .any, .any, .any, .any, .any, .any, .any, .any, .any, .any, .any, .any, .any, .any, .any, .any, .any, .any]) (fun _ (hp : AH) => hp)
      (fun s hp m => (∀ j, 1 ≤ j → j < s → popc (j : Int) = z → badS (symF ll) bb j = false) ∧ n1 ≤ m ∧ ∀ j, j < n1 → hp j = h1 j) hp' hp.1 ⟨fun j h1 h2 h3 => by omega, hle, hold⟩ (by simp [LeL, Le1]) (fun _ _ h => h) ?_
    rintro s hq m2 hs0 hs1' hm2 ⟨he2, hle2, hold2⟩
    simp (maxSteps := 2000000) -implicitDefEqProofs (disch := omega) only [xsW, xsC, xsD, xsE, fillA, reduceCtorEq, Nat.reduceAdd, Nat.reduceSub, Nat.reduceLeDiff, Nat.reduceMul, Int.reduceLT, Int.reduceLE, Int.reduceEq, Int.reduceNe, Int.reduceAdd, Int.reduceSub, Int.reduceMul, Int.reduceNeg, Int.reduceToNat,  sR.ln, shl1]
    (refine cd_dec (fun c2 => ?_) (fun c2 => ?_) <;> simp (maxSteps := 2000000) -implicitDefEqProofs (disch := omega) only [xsW, xsC, xsD, xsE, fillA, reduceCtorEq, Nat.reduceAdd, Nat.reduceSub, Nat.reduceLeDiff, Nat.reduceMul, Int.reduceLT, Int.reduceLE, Int.reduceEq, Int.reduceNe, Int.reduceAdd, Int.reduceSub, Int.reduceMul, Int.reduceNeg, Int.reduceToNat,  c2])
    · have hs2 : s < pw ll.length := by omega
      refine q_use (spec_l01Ones ⟨s, by omega⟩ _ _) fun n3 hn3 => ?_
      simp (maxSteps := 2000000) -implicitDefEqProofs (disch := omega) only [xsW, xsC, xsD, xsE, fillA, reduceCtorEq, Nat.reduceAdd, Nat.reduceSub, Nat.reduceLeDiff, Nat.reduceMul, Int.reduceLT, Int.reduceLE, Int.reduceEq, Int.reduceNe, Int.reduceAdd, Int.reduceSub, Int.reduceMul, Int.reduceNeg, Int.reduceToNat]
      (refine cd_dec (fun c3 => ?_) (fun c3 => ?_) <;> simp (maxSteps := 2000000) -implicitDefEqProofs (disch := omega) only [xsW, xsC, xsD, xsE, fillA, reduceCtorEq, Nat.reduceAdd, Nat.reduceSub, Nat.reduceLeDiff, Nat.reduceMul, Int.reduceLT, Int.reduceLE, Int.reduceEq, Int.reduceNe, Int.reduceAdd, Int.reduceSub, Int.reduceMul, Int.reduceNeg, Int.reduceToNat,  c3])
      · exact ⟨hq, ⟨fun j h1 h2 h3 => (Nat.lt_succ_iff_lt_or_eq.1 h2).elim (fun h4 => he2 j h1 h4 h3) (fun e => by subst e; omega), by omega, hold2⟩, by omega, by omega, (by simp [LeL, Le1]), fun _ _ h => h⟩
      · have c4 : popc (s : Int) = z := by omega
        have hplen := places_len (s : Int) ll.length
        have hpos := pop_pos hN hs2 hs0
        have hS := partL_sq (symF ll) (s : Int) (s : Int) rfl
        rw [hL] at hS
        have hSl : ∃ q, Lim q (places (s : Int) ll.length).length (mx (partL (symF ll) (s : Int) (s : Int))) := by
          obtain ⟨q, hq⟩ := hl
          have := partL_lim (q := q) (symF ll) (s : Int) (s : Int) rfl (by rw [hL]; exact hq)
          rw [hL] at this
          exact this
        have hbad : badS (symF ll) bb s = (decide (det (places (s : Int) ll.length).length (mx (partL (symF ll) (s : Int) (s : Int))) < bb) && decide (bb ≤ minL (cofR (places (s : Int) ll.length).length (mx (partL (symF ll) (s : Int) (s : Int))) (places (s : Int) ll.length).length))) := by
          unfold badS minorOf; rw [hL]
        refine fq_use (spec_l01Part (hv1.keep (h' := hq) (fun i _ hi9 => by simp (disch := omega) only [upd_other, hold2])) (by omega) (by rw [hL]; exact hs) _ 0 _ (by omega)) fun v2 h2 n4 hn4 hs4 ⟨vs2, hv2⟩ => ?_
        simp (maxSteps := 2000000) -implicitDefEqProofs (disch := omega) only [xsW, xsC, xsD, xsE, fillA, reduceCtorEq, Nat.reduceAdd, Nat.reduceSub, Nat.reduceLeDiff, Nat.reduceMul, Int.reduceLT, Int.reduceLE, Int.reduceEq, Int.reduceNe, Int.reduceAdd, Int.reduceSub, Int.reduceMul, Int.reduceNeg, Int.reduceToNat]
        refine q_use (spec_l01Det _ hv2 (by omega) hS hSl n4 (Nat.le_refl _)) fun n5 hn5 => ?_
        have hold3 : ∀ j, j < n1 → h2 j = h1 j := fun j hj => by rw [hs4 j (by omega), hold2 j hj]
        have hfin : badS (symF ll) bb s = false → ∀ j, 1 ≤ j → j < s + 1 → popc (j : Int) = z → badS (symF ll) bb j = false := fun hf j h1 h2 h3 => (Nat.lt_succ_iff_lt_or_eq.1 h2).elim (fun h4 => he2 j h1 h4 h3) (fun e => by rw [e]; exact hf)
        have hbadF := fun hb => copB_f (ll := symF ll) (b := bb) hs0 (by rw [hL]; exact hs2) hb
        generalize det (places (s : Int) ll.length).length (mx (partL (symF ll) (s : Int) (s : Int))) = D at hbad ⊢
        have hcof := fun n6 (h6 : n5 ≤ n6) => spec_l03Cofactor hv2 (by omega) hpos hS hSl n6 (by omega)
        generalize minL (cofR (places (s : Int) ll.length).length (mx (partL (symF ll) (s : Int) (s : Int))) (places (s : Int) ll.length).length) = M at hbad hcof
        cases b
        · have hb0 : bb = 0 := hbb
          subst hb0
          simp (maxSteps := 2000000) -implicitDefEqProofs (disch := omega) only [xsW, xsC, xsD, xsE, fillA, reduceCtorEq, Nat.reduceAdd, Nat.reduceSub, Nat.reduceLeDiff, Nat.reduceMul, Int.reduceLT, Int.reduceLE, Int.reduceEq, Int.reduceNe, Int.reduceAdd, Int.reduceSub, Int.reduceMul, Int.reduceNeg, Int.reduceToNat]
          (refine gd_dec (fun c5 => ?_) (fun c5 => ?_) <;> simp (maxSteps := 2000000) -implicitDefEqProofs (disch := omega) only [xsW, xsC, xsD, xsE, fillA, reduceCtorEq, Nat.reduceAdd, Nat.reduceSub, Nat.reduceLeDiff, Nat.reduceMul, Int.reduceLT, Int.reduceLE, Int.reduceEq, Int.reduceNe, Int.reduceAdd, Int.reduceSub, Int.reduceMul, Int.reduceNeg, Int.reduceToNat,  c5])
          · refine q_use (hcof _ (by omega)) fun n6 hn6 => ?_
            simp (maxSteps := 2000000) -implicitDefEqProofs (disch := omega) only [xsW, xsC, xsD, xsE, fillA, reduceCtorEq, Nat.reduceAdd, Nat.reduceSub, Nat.reduceLeDiff, Nat.reduceMul, Int.reduceLT, Int.reduceLE, Int.reduceEq, Int.reduceNe, Int.reduceAdd, Int.reduceSub, Int.reduceMul, Int.reduceNeg, Int.reduceToNat]
            (refine cd_dec (fun c6 => ?_) (fun c6 => ?_) <;> simp (maxSteps := 2000000) -implicitDefEqProofs (disch := omega) only [xsW, xsC, xsD, xsE, fillA, reduceCtorEq, Nat.reduceAdd, Nat.reduceSub, Nat.reduceLeDiff, Nat.reduceMul, Int.reduceLT, Int.reduceLE, Int.reduceEq, Int.reduceNe, Int.reduceAdd, Int.reduceSub, Int.reduceMul, Int.reduceNeg, Int.reduceToNat,  c6])
            · rw [hbadF (by rw [hbad, decide_eq_true c5, decide_eq_true (by omega)]; rfl)]
            · exact ⟨h2, ⟨hfin (by rw [hbad, decide_eq_false (p := 0 ≤ M) (by omega), Bool.and_false]), by omega, hold3⟩, by omega, by omega, (by simp [LeL, Le1]), fun _ _ h => h⟩
          · exact ⟨h2, ⟨hfin (by rw [hbad, decide_eq_false (p := D < 0) (by omega), Bool.false_and]), by omega, hold3⟩, by omega, by omega, (by simp [LeL, Le1]), fun _ _ h => h⟩
        · have hb0 : bb = 1 := hbb
          subst hb0
          simp (maxSteps := 2000000) -implicitDefEqProofs (disch := omega) only [xsW, xsC, xsD, xsE, fillA, reduceCtorEq, Nat.reduceAdd, Nat.reduceSub, Nat.reduceLeDiff, Nat.reduceMul, Int.reduceLT, Int.reduceLE, Int.reduceEq, Int.reduceNe, Int.reduceAdd, Int.reduceSub, Int.reduceMul, Int.reduceNeg, Int.reduceToNat]
          (refine gd_dec (fun c5 => ?_) (fun c5 => ?_) <;> simp (maxSteps := 2000000) -implicitDefEqProofs (disch := omega) only [xsW, xsC, xsD, xsE, fillA, reduceCtorEq, Nat.reduceAdd, Nat.reduceSub, Nat.reduceLeDiff, Nat.reduceMul, Int.reduceLT, Int.reduceLE, Int.reduceEq, Int.reduceNe, Int.reduceAdd, Int.reduceSub, Int.reduceMul, Int.reduceNeg, Int.reduceToNat,  c5])
          · refine q_use (hcof _ (by omega)) fun n6 hn6 => ?_
            simp (maxSteps := 2000000) -implicitDefEqProofs (disch := omega) only [xsW, xsC, xsD, xsE, fillA, reduceCtorEq, Nat.reduceAdd, Nat.reduceSub, Nat.reduceLeDiff, Nat.reduceMul, Int.reduceLT, Int.reduceLE, Int.reduceEq, Int.reduceNe, Int.reduceAdd, Int.reduceSub, Int.reduceMul, Int.reduceNeg, Int.reduceToNat]
            (refine gd_dec (fun c6 => ?_) (fun c6 => ?_) <;> simp (maxSteps := 2000000) -implicitDefEqProofs (disch := omega) only [xsW, xsC, xsD, xsE, fillA, reduceCtorEq, Nat.reduceAdd, Nat.reduceSub, Nat.reduceLeDiff, Nat.reduceMul, Int.reduceLT, Int.reduceLE, Int.reduceEq, Int.reduceNe, Int.reduceAdd, Int.reduceSub, Int.reduceMul, Int.reduceNeg, Int.reduceToNat,  c6])
            · rw [hbadF (by rw [hbad, decide_eq_true (p := D < 1) (by omega), decide_eq_true (by omega)]; rfl)]
            · exact ⟨h2, ⟨hfin (by rw [hbad, decide_eq_false (p := 1 ≤ M) (by omega), Bool.and_false]), by omega, hold3⟩, by omega, by omega, (by simp [LeL, Le1]), fun _ _ h => h⟩
          · exact ⟨h2, ⟨hfin (by rw [hbad, decide_eq_false (p := D < 1) (by omega), Bool.false_and]), by omega, hold3⟩, by omega, by omega, (by simp [LeL, Le1]), fun _ _ h => h⟩
    · have e : s = pw ll.length := by omega
      subst e
      exact ⟨hq, ⟨fun j h1 h2 h3 => (Nat.lt_succ_iff_lt_or_eq.1 h3).elim (fun h4 => he j h1 h2 h4) (fun h4 => he2 j h1 h2 h4), by omega, hold2⟩, by omega, by omega, (by simp [LeL, Le1]), fun _ _ h => h⟩
  · have e : z = ll.length + 1 := by omega
    subst e
    rw [copB_t fun j h1 h2 => by
      rw [hL] at h2
      have h3 := pop_places hN ⟨j, by omega⟩ h2
      have h4 := places_len (j : Int) ll.length
      exact he j h1 h2 (by simp only at h3; omega)]
theorem spec_l03Dominant (s : Rows w lo hi h v vs ll) (hm : isMat ll = true) (n : Nat) : Q Try.prog 99 [v] h n (.bool (domB ll)) := by
  refine q_intro Try.func99 k_spec_l03Dominant ?_
  have hN := ((isMat_iff ll).1 hm).2
  simp (maxSteps := 2000000) -implicitDefEqProofs (disch := omega) only [c_spec_l03Dominant, xsW, xsC, xsD, xsE, fillA, reduceCtorEq, Nat.reduceAdd, Nat.reduceSub, Nat.reduceLeDiff, Nat.reduceMul, Int.reduceLT, Int.reduceLE, Int.reduceEq, Int.reduceNe, Int.reduceAdd, Int.reduceSub, Int.reduceMul, Int.reduceNeg, Int.reduceToNat]
  refine loop_for ll.length 0 (fun i (_ : Unit) => [v, .any, .bool false, .int .i64 i, .any, .any, .any, .any, .any, .any, .any, .any, .any, .any, .any, .any, .any, .any, .any, .any, .any, .any, .any, .any, .any, .any, .any, .any, .any, .any, .any, .any, .any, .any, .any, .any, .any, .any, .any, .any, .any, .any, .any, .any, .any, .any, .any, .any, .any, .any, .any, .any, .any, .any, .any, .any, .any]) (fun _ _ => h)
    (fun i _ _ => ∀ j, j < i → othV ll j < (at2 ll j j).natAbs) () (Nat.zero_le _) (fun _ hj => absurd hj (Nat.not_lt_zero _)) (by simp [LeL, Le1]) (fun _ _ h => h) ?_
  rintro i - n1 - hi1 hn1 he
  simp (maxSteps := 2000000) -implicitDefEqProofs (disch := omega) only [xsW, xsC, xsD, xsE, fillA, reduceCtorEq, Nat.reduceAdd, Nat.reduceSub, Nat.reduceLeDiff, Nat.reduceMul, Int.reduceLT, Int.reduceLE, Int.reduceEq, Int.reduceNe, Int.reduceAdd, Int.reduceSub, Int.reduceMul, Int.reduceNeg, Int.reduceToNat,  s.ln]
  (refine cd_dec (fun c1 => ?_) (fun c1 => ?_) <;> simp (maxSteps := 2000000) -implicitDefEqProofs (disch := omega) only [xsW, xsC, xsD, xsE, fillA, reduceCtorEq, Nat.reduceAdd, Nat.reduceSub, Nat.reduceLeDiff, Nat.reduceMul, Int.reduceLT, Int.reduceLE, Int.reduceEq, Int.reduceNe, Int.reduceAdd, Int.reduceSub, Int.reduceMul, Int.reduceNeg, Int.reduceToNat,  c1])
  · have hi2 : i < ll.length := by omega
    have hri := s.row i hi2
    have li := (hN.2 i hi2).1
    have xi := isMat_at hm hi2 hi2
    have hx : (ll.getD i []).getD i 0 = at2 ll i i := rfl
    refine loop_for ll.length 0 (fun k (_ : Unit) => [v, .any, .bool false, .int .i64 i, .int .i64 (sumTo k fun k => if k = i then 0 else ((at2 ll i k).natAbs : Int)), .int .i64 k, .any, .any, .any, .any, .any, .any, .any, .any, .any, .any, .any, .any, .any, .any, .any, .any, .any, .any, .any, .any, .any, .any, .any, .any, .any, .any, .any, .any, .any, .any, .any, .any, .any, .any, .any, .any, .any, .any, .any, .any, .any, .any, .any, .any, .any, .any, .any, .any, .any, .any, .any]) (fun _ _ => h)
      (fun _ _ _ => True) () (Nat.zero_le _) trivial (by simp [LeL, Le1, sumTo]) (fun _ _ h => h) ?_
    rintro k - n3 - hk1 hn3 -
    have hb1 := oth_b2 hm hi2 hk1
    simp (maxSteps := 2000000) -implicitDefEqProofs (disch := omega) only [xsW, xsC, xsD, xsE, fillA, reduceCtorEq, Nat.reduceAdd, Nat.reduceSub, Nat.reduceLeDiff, Nat.reduceMul, Int.reduceLT, Int.reduceLE, Int.reduceEq, Int.reduceNe, Int.reduceAdd, Int.reduceSub, Int.reduceMul, Int.reduceNeg, Int.reduceToNat,  s.ln]
    (refine cd_dec (fun c2 => ?_) (fun c2 => ?_) <;> simp (maxSteps := 2000000) -implicitDefEqProofs (disch := omega) only [xsW, xsC, xsD, xsE, fillA, reduceCtorEq, Nat.reduceAdd, Nat.reduceSub, Nat.reduceLeDiff, Nat.reduceMul, Int.reduceLT, Int.reduceLE, Int.reduceEq, Int.reduceNe, Int.reduceAdd, Int.reduceSub, Int.reduceMul, Int.reduceNeg, Int.reduceToNat,  c2])
    · have hk2 : k < ll.length := by omega
      have xk := isMat_at hm hi2 hk2
      have hxk : (ll.getD i []).getD k 0 = at2 ll i k := rfl
      (refine cd_dec (fun c3 => ?_) (fun c3 => ?_) <;> simp (maxSteps := 2000000) -implicitDefEqProofs (disch := omega) only [xsW, xsC, xsD, xsE, fillA, reduceCtorEq, Nat.reduceAdd, Nat.reduceSub, Nat.reduceLeDiff, Nat.reduceMul, Int.reduceLT, Int.reduceLE, Int.reduceEq, Int.reduceNe, Int.reduceAdd, Int.reduceSub, Int.reduceMul, Int.reduceNeg, Int.reduceToNat,  c3])
      · simp (maxSteps := 2000000) -implicitDefEqProofs (disch := omega) only [xsW, xsC, xsD, xsE, fillA, reduceCtorEq, Nat.reduceAdd, Nat.reduceSub, Nat.reduceLeDiff, Nat.reduceMul, Int.reduceLT, Int.reduceLE, Int.reduceEq, Int.reduceNe, Int.reduceAdd, Int.reduceSub, Int.reduceMul, Int.reduceNeg, Int.reduceToNat,  s.ia, s.ld, hri.ia, hri.ld, hxk]
        exact ⟨(), by omega, by omega, by rw [sumTo_succ, if_neg (by omega)]; simp [LeL, Le1]; omega⟩
      · exact ⟨(), by omega, by omega, by rw [sumTo_succ, if_pos (by omega)]; simp [LeL, Le1]⟩
    · have e : k = ll.length := by omega
      subst e
      simp (maxSteps := 2000000) -implicitDefEqProofs (disch := omega) only [xsW, xsC, xsD, xsE, fillA, reduceCtorEq, Nat.reduceAdd, Nat.reduceSub, Nat.reduceLeDiff, Nat.reduceMul, Int.reduceLT, Int.reduceLE, Int.reduceEq, Int.reduceNe, Int.reduceAdd, Int.reduceSub, Int.reduceMul, Int.reduceNeg, Int.reduceToNat,  s.ia, s.ld, hri.ia, hri.ld, hx]
      have hoth : othV ll i = sumTo ll.length (fun k => if k = i then 0 else ((at2 ll i k).natAbs : Int)) := rfl
      (refine cd_dec (fun c3 => ?_) (fun c3 => ?_) <;> simp (maxSteps := 2000000) -implicitDefEqProofs (disch := omega) only [xsW, xsC, xsD, xsE, fillA, reduceCtorEq, Nat.reduceAdd, Nat.reduceSub, Nat.reduceLeDiff, Nat.reduceMul, Int.reduceLT, Int.reduceLE, Int.reduceEq, Int.reduceNe, Int.reduceAdd, Int.reduceSub, Int.reduceMul, Int.reduceNeg, Int.reduceToNat,  c3])
      · rw [domB_f hi2 (by omega)]
      · exact ⟨(), fun j hj => (Nat.lt_succ_iff_lt_or_eq.1 hj).elim (he j) (fun e => by rw [e]; omega), by omega, by omega, (by simp [LeL, Le1])⟩
  · rw [domB_t fun j hj => he j (by omega)]
theorem spec_l03Triangular (s : Rows w lo hi h v vs ll) (hN : ll.length ≤ 5) (hs : Sq ll.length ll) (n : Nat) : Q Try.prog 100 [v] h n (.bool (upB ll || loB ll)) := by
  refine q_intro Try.func100 k_spec_l03Triangular ?_
  obtain ⟨gl, hgl⟩ : ∃ gl : Nat → Nat → Bool, gl = fun i k => decide (i ≤ k) || decide (at2 ll i k = 0) := ⟨_, rfl⟩
  obtain ⟨gu, hgu⟩ : ∃ gu : Nat → Nat → Bool, gu = fun i k => decide (k ≤ i) || decide (at2 ll i k = 0) := ⟨_, rfl⟩
  simp (maxSteps := 2000000) -implicitDefEqProofs (disch := omega) only [c_spec_l03Triangular, xsW, xsC, xsD, xsE, fillA, reduceCtorEq, Nat.reduceAdd, Nat.reduceSub, Nat.reduceLeDiff, Nat.reduceMul, Int.reduceLT, Int.reduceLE, Int.reduceEq, Int.reduceNe, Int.reduceAdd, Int.reduceSub, Int.reduceMul, Int.reduceNeg, Int.reduceToNat]
  refine loop_for ll.length 0 (fun i (p : Bool × Bool) => [v, .any, .bool false, .bool p.1, .bool p.2, .int .i64 i, .any, .any, .any, .any, .any, .any, .any, .any, .any, .any, .any, .any, .any, .any, .any, .any, .any, .any, .any, .any, .any, .any, .any, .any, .any, .any, .any, .any, .any, .any, .any, .any, .any, .any, .any, .any, .any, .any, .any, .any, .any, .any, .any, .any, .any, .any, .any, .any, .any]) (fun _ _ => h)
    (fun i p _ => (p.1 = true ↔ ∀ i' k', i' < i → k' < ll.length → gl i' k' = true) ∧ (p.2 = true ↔ ∀ i' k', i' < i → k' < ll.length → gu i' k' = true)) (true, true) (Nat.zero_le _)
    ⟨⟨fun _ _ _ hj _ => absurd hj (Nat.not_lt_zero _), fun _ => rfl⟩, ⟨fun _ _ _ hj _ => absurd hj (Nat.not_lt_zero _), fun _ => rfl⟩⟩ (by simp [LeL, Le1]) (fun _ _ h => h) ?_
  rintro i ⟨U0, V0⟩ n1 - hi1 hn1 ⟨he1, he2⟩
  simp only at he1 he2
  simp (maxSteps := 2000000) -implicitDefEqProofs (disch := omega) only [xsW, xsC, xsD, xsE, fillA, reduceCtorEq, Nat.reduceAdd, Nat.reduceSub, Nat.reduceLeDiff, Nat.reduceMul, Int.reduceLT, Int.reduceLE, Int.reduceEq, Int.reduceNe, Int.reduceAdd, Int.reduceSub, Int.reduceMul, Int.reduceNeg, Int.reduceToNat,  s.ln]
  (refine cd_dec (fun c1 => ?_) (fun c1 => ?_) <;> simp (maxSteps := 2000000) -implicitDefEqProofs (disch := omega) only [xsW, xsC, xsD, xsE, fillA, reduceCtorEq, Nat.reduceAdd, Nat.reduceSub, Nat.reduceLeDiff, Nat.reduceMul, Int.reduceLT, Int.reduceLE, Int.reduceEq, Int.reduceNe, Int.reduceAdd, Int.reduceSub, Int.reduceMul, Int.reduceNeg, Int.reduceToNat,  c1])
  · have hi2 : i < ll.length := by omega
    have hri := s.row i hi2
    have li := hs.2 i hi2
    refine loop_for ll.length 0 (fun k (p : Bool × Bool) => [v, .any, .bool false, .bool p.1, .bool p.2, .int .i64 i, .int .i64 k, .any, .any, .any, .any, .any, .any, .any, .any, .any, .any, .any, .any, .any, .any, .any, .any, .any, .any, .any, .any, .any, .any, .any, .any, .any, .any, .any, .any, .any, .any, .any, .any, .any, .any, .any, .any, .any, .any, .any, .any, .any, .any, .any, .any, .any, .any, .any, .any]) (fun _ _ => h)
      (fun k p _ => (p.1 = true ↔ (∀ i' k', i' < i → k' < ll.length → gl i' k' = true) ∧ ∀ k', k' < k → gl i k' = true) ∧ (p.2 = true ↔ (∀ i' k', i' < i → k' < ll.length → gu i' k' = true) ∧ ∀ k', k' < k → gu i k' = true)) (U0, V0) (Nat.zero_le _)
      ⟨he1.trans ⟨fun h => ⟨h, fun _ hj => absurd hj (Nat.not_lt_zero _)⟩, fun h => h.1⟩, he2.trans ⟨fun h => ⟨h, fun _ hj => absurd hj (Nat.not_lt_zero _)⟩, fun h => h.1⟩⟩ (by simp [LeL, Le1]) (fun _ _ h => h) ?_
    rintro k ⟨U, V⟩ n2 - hk1 hn2 ⟨hu, hv⟩
    simp only at hu hv
    have step : ∀ {U : Bool} {g : Nat → Nat → Bool}, (U = true ↔ (∀ i' k', i' < i → k' < ll.length → g i' k' = true) ∧ ∀ k', k' < k → g i k' = true) → ((U && g i k) = true ↔ (∀ i' k', i' < i → k' < ll.length → g i' k' = true) ∧ ∀ k', k' < k + 1 → g i k' = true) := fun {U g} hU => by
      rw [Bool.and_eq_true, hU]
      exact ⟨fun h => ⟨h.1.1, fun k' hk' => (Nat.lt_succ_iff_lt_or_eq.1 hk').elim (h.1.2 k') (fun e => by rw [e]; exact h.2)⟩, fun h => ⟨⟨h.1, fun k' hk' => h.2 k' (by omega)⟩, h.2 k (by omega)⟩⟩
    simp (maxSteps := 2000000) -implicitDefEqProofs (disch := omega) only [xsW, xsC, xsD, xsE, fillA, reduceCtorEq, Nat.reduceAdd, Nat.reduceSub, Nat.reduceLeDiff, Nat.reduceMul, Int.reduceLT, Int.reduceLE, Int.reduceEq, Int.reduceNe, Int.reduceAdd, Int.reduceSub, Int.reduceMul, Int.reduceNeg, Int.reduceToNat,  s.ln]
    (refine cd_dec (fun c2 => ?_) (fun c2 => ?_) <;> simp (maxSteps := 2000000) -implicitDefEqProofs (disch := omega) only [xsW, xsC, xsD, xsE, fillA, reduceCtorEq, Nat.reduceAdd, Nat.reduceSub, Nat.reduceLeDiff, Nat.reduceMul, Int.reduceLT, Int.reduceLE, Int.reduceEq, Int.reduceNe, Int.reduceAdd, Int.reduceSub, Int.reduceMul, Int.reduceNeg, Int.reduceToNat,  c2])
    · have hk2 : k < ll.length := by omega
      have gfin : ∀ X Y : Bool, X = (U && gl i k) → Y = (V && gu i k) → ∀ n3, n2 ≤ n3 → ((X = true ↔ (∀ i' k', i' < i → k' < ll.length → gl i' k' = true) ∧ ∀ k', k' < k + 1 → gl i k' = true) ∧ (Y = true ↔ (∀ i' k', i' < i → k' < ll.length → gu i' k' = true) ∧ ∀ k', k' < k + 1 → gu i k' = true)) := fun X Y hX hY _ _ => by
        subst hX hY; exact ⟨step hu, step hv⟩
      have xe : gl i k = (decide (i ≤ k) || decide ((ll.getD i []).getD k 0 = 0)) := by rw [hgl]; rfl
      have ye : gu i k = (decide (k ≤ i) || decide ((ll.getD i []).getD k 0 = 0)) := by rw [hgu]; rfl
      rw [xe, ye] at gfin
      clear step hu hv xe ye
      by_cases hA : i ≤ k <;> by_cases hB : k ≤ i <;> cases U <;> cases V <;> first | (exfalso; omega) |
        (simp (maxSteps := 2000000) -implicitDefEqProofs (disch := omega) only [xsW, xsC, xsD, xsE, fillA, reduceCtorEq, Nat.reduceAdd, Nat.reduceSub, Nat.reduceLeDiff, Nat.reduceMul, Int.reduceLT, Int.reduceLE, Int.reduceEq, Int.reduceNe, Int.reduceAdd, Int.reduceSub, Int.reduceMul, Int.reduceNeg, Int.reduceToNat,  s.ia, s.ld, hri.ia, hri.ld]
         exact ⟨(_, _), gfin _ _ rfl rfl n2 (by omega), by omega, by omega, by simp [LeL, Le1, hA, hB]⟩)
    · have e : k = ll.length := by omega
      subst e
      exact ⟨(U, V), ⟨hu.trans ⟨fun h i' k' h1 h2 => (Nat.lt_succ_iff_lt_or_eq.1 h1).elim (fun h3 => h.1 i' k' h3 h2) (fun e => by rw [e]; exact h.2 k' h2), fun h => ⟨fun i' k' h1 h2 => h i' k' (by omega) h2, fun k' h1 => h i k' (by omega) h1⟩⟩,
        hv.trans ⟨fun h i' k' h1 h2 => (Nat.lt_succ_iff_lt_or_eq.1 h1).elim (fun h3 => h.1 i' k' h3 h2) (fun e => by rw [e]; exact h.2 k' h2), fun h => ⟨fun i' k' h1 h2 => h i' k' (by omega) h2, fun k' h1 => h i k' (by omega) h1⟩⟩⟩, by omega, by omega, (by simp [LeL, Le1])⟩
  · have e : i = ll.length := by omega
    subst e
    have e1 : U0 = loB ll := by
      rw [Bool.eq_iff_iff, he1, loB, allF_iff, hgl]
    have e2 : V0 = upB ll := by
      rw [Bool.eq_iff_iff, he2, upB, allF_iff, hgu]
    rw [Bool.or_comm, ← e1, ← e2]
    cases U0
    · simp (maxSteps := 2000000) -implicitDefEqProofs (disch := omega) only [xsW, xsC, xsD, xsE, fillA, reduceCtorEq, Nat.reduceAdd, Nat.reduceSub, Nat.reduceLeDiff, Nat.reduceMul, Int.reduceLT, Int.reduceLE, Int.reduceEq, Int.reduceNe, Int.reduceAdd, Int.reduceSub, Int.reduceMul, Int.reduceNeg, Int.reduceToNat]
    · simp (maxSteps := 2000000) -implicitDefEqProofs (disch := omega) only [xsW, xsC, xsD, xsE, fillA, reduceCtorEq, Nat.reduceAdd, Nat.reduceSub, Nat.reduceLeDiff, Nat.reduceMul, Int.reduceLT, Int.reduceLE, Int.reduceEq, Int.reduceNe, Int.reduceAdd, Int.reduceSub, Int.reduceMul, Int.reduceNeg, Int.reduceToNat]
theorem pB_gt (ll : List (List Int)) : decide (0 < minL (minorsL ll)) = pB ll 1 := by
  unfold pB
  rw [Bool.eq_iff_iff]; simp only [decide_eq_true_eq]; omega
theorem spec_l03Kind (sR : Rows w lo hi h v vs ll) (hm : isMat ll = true) (k : Int) (h0 : 0 ≤ k) (h1 : k ≤ 11) (n : Nat) (hn : hi ≤ n) : Q Try.prog 58 [v, .int .i64 k] h n (.bool (kindB ll k)) := by
  refine q_intro Try.func58 k_spec_l03Kind ?_
  obtain ⟨hN, hs, hl⟩ := isMat_sq hm
  obtain ⟨hLS, hsS, hlS⟩ := symF_facts hm
  obtain ⟨hLC, hsC, hlC⟩ := cmpF_facts hm
  have hk : k = 0 ∨ k = 1 ∨ k = 2 ∨ k = 3 ∨ k = 4 ∨ k = 5 ∨ k = 6 ∨ k = 7 ∨ k = 8 ∨ k = 9 ∨ k = 10 ∨ k = 11 := by omega
  rcases hk with rfl | rfl | rfl | rfl | rfl | rfl | rfl | rfl | rfl | rfl | rfl | rfl
  · simp (maxSteps := 2000000) -implicitDefEqProofs (disch := omega) only [c_spec_l03Kind, xsW, xsC, xsD, xsE, fillA, reduceCtorEq, Nat.reduceAdd, Nat.reduceSub, Nat.reduceLeDiff, Nat.reduceMul, Int.reduceLT, Int.reduceLE, Int.reduceEq, Int.reduceNe, Int.reduceAdd, Int.reduceSub, Int.reduceMul, Int.reduceNeg, Int.reduceToNat]
    refine q_use (spec_l03Least sR hN hs hl _ hn) fun n1 hn1 => ?_
    simp (maxSteps := 2000000) -implicitDefEqProofs (disch := omega) only [xsW, xsC, xsD, xsE, fillA, reduceCtorEq, Nat.reduceAdd, Nat.reduceSub, Nat.reduceLeDiff, Nat.reduceMul, Int.reduceLT, Int.reduceLE, Int.reduceEq, Int.reduceNe, Int.reduceAdd, Int.reduceSub, Int.reduceMul, Int.reduceNeg, Int.reduceToNat]
    exact pB_gt ll
  · simp (maxSteps := 2000000) -implicitDefEqProofs (disch := omega) only [c_spec_l03Kind, xsW, xsC, xsD, xsE, fillA, reduceCtorEq, Nat.reduceAdd, Nat.reduceSub, Nat.reduceLeDiff, Nat.reduceMul, Int.reduceLT, Int.reduceLE, Int.reduceEq, Int.reduceNe, Int.reduceAdd, Int.reduceSub, Int.reduceMul, Int.reduceNeg, Int.reduceToNat]
    refine q_use (spec_l03Least sR hN hs hl _ hn) fun n1 hn1 => ?_
    simp (maxSteps := 2000000) -implicitDefEqProofs (disch := omega) only [xsW, xsC, xsD, xsE, fillA, reduceCtorEq, Nat.reduceAdd, Nat.reduceSub, Nat.reduceLeDiff, Nat.reduceMul, Int.reduceLT, Int.reduceLE, Int.reduceEq, Int.reduceNe, Int.reduceAdd, Int.reduceSub, Int.reduceMul, Int.reduceNeg, Int.reduceToNat]
    rfl
  · simp (maxSteps := 2000000) -implicitDefEqProofs (disch := omega) only [c_spec_l03Kind, xsW, xsC, xsD, xsE, fillA, reduceCtorEq, Nat.reduceAdd, Nat.reduceSub, Nat.reduceLeDiff, Nat.reduceMul, Int.reduceLT, Int.reduceLE, Int.reduceEq, Int.reduceNe, Int.reduceAdd, Int.reduceSub, Int.reduceMul, Int.reduceNeg, Int.reduceToNat]
    refine q_use (spec_l03Z sR hN hs _) fun n1 hn1 => ?_
    simp (maxSteps := 2000000) -implicitDefEqProofs (disch := omega) only [xsW, xsC, xsD, xsE, fillA, reduceCtorEq, Nat.reduceAdd, Nat.reduceSub, Nat.reduceLeDiff, Nat.reduceMul, Int.reduceLT, Int.reduceLE, Int.reduceEq, Int.reduceNe, Int.reduceAdd, Int.reduceSub, Int.reduceMul, Int.reduceNeg, Int.reduceToNat]
    rfl
  · simp (maxSteps := 2000000) -implicitDefEqProofs (disch := omega) only [c_spec_l03Kind, xsW, xsC, xsD, xsE, fillA, reduceCtorEq, Nat.reduceAdd, Nat.reduceSub, Nat.reduceLeDiff, Nat.reduceMul, Int.reduceLT, Int.reduceLE, Int.reduceEq, Int.reduceNe, Int.reduceAdd, Int.reduceSub, Int.reduceMul, Int.reduceNeg, Int.reduceToNat]
    refine q_use (spec_l03Z sR hN hs _) fun n1 hn1 => ?_
    have e : kindB ll 3 = (zB ll && pB ll 1) := rfl
    rw [e]
    cases hz : zB ll
    · simp (maxSteps := 2000000) -implicitDefEqProofs (disch := omega) only [xsW, xsC, xsD, xsE, fillA, reduceCtorEq, Nat.reduceAdd, Nat.reduceSub, Nat.reduceLeDiff, Nat.reduceMul, Int.reduceLT, Int.reduceLE, Int.reduceEq, Int.reduceNe, Int.reduceAdd, Int.reduceSub, Int.reduceMul, Int.reduceNeg, Int.reduceToNat]
    · simp (maxSteps := 2000000) -implicitDefEqProofs (disch := omega) only [xsW, xsC, xsD, xsE, fillA, reduceCtorEq, Nat.reduceAdd, Nat.reduceSub, Nat.reduceLeDiff, Nat.reduceMul, Int.reduceLT, Int.reduceLE, Int.reduceEq, Int.reduceNe, Int.reduceAdd, Int.reduceSub, Int.reduceMul, Int.reduceNeg, Int.reduceToNat]
      refine q_use (spec_l03Least sR hN hs hl _ (by omega)) fun n1 hn1 => ?_
      simp (maxSteps := 2000000) -implicitDefEqProofs (disch := omega) only [xsW, xsC, xsD, xsE, fillA, reduceCtorEq, Nat.reduceAdd, Nat.reduceSub, Nat.reduceLeDiff, Nat.reduceMul, Int.reduceLT, Int.reduceLE, Int.reduceEq, Int.reduceNe, Int.reduceAdd, Int.reduceSub, Int.reduceMul, Int.reduceNeg, Int.reduceToNat]
      exact pB_gt ll
  · simp (maxSteps := 2000000) -implicitDefEqProofs (disch := omega) only [c_spec_l03Kind, xsW, xsC, xsD, xsE, fillA, reduceCtorEq, Nat.reduceAdd, Nat.reduceSub, Nat.reduceLeDiff, Nat.reduceMul, Int.reduceLT, Int.reduceLE, Int.reduceEq, Int.reduceNe, Int.reduceAdd, Int.reduceSub, Int.reduceMul, Int.reduceNeg, Int.reduceToNat]
    refine fq_use (spec_l03Comparison sR hm n hn) fun v1 h1 n1 hn1 hs1 ⟨vs1, hv1⟩ => ?_
    rw [show (rowsOf ll.length fun i => rowOf ll.length fun k => cmp2 ll i k) = cmpF2 ll from rfl] at hv1
    simp (maxSteps := 2000000) -implicitDefEqProofs (disch := omega) only [xsW, xsC, xsD, xsE, fillA, reduceCtorEq, Nat.reduceAdd, Nat.reduceSub, Nat.reduceLeDiff, Nat.reduceMul, Int.reduceLT, Int.reduceLE, Int.reduceEq, Int.reduceNe, Int.reduceAdd, Int.reduceSub, Int.reduceMul, Int.reduceNeg, Int.reduceToNat]
    refine q_use (spec_l03Least hv1 (by omega) (by rw [hLC]; exact hsC) (by rw [hLC]; exact hlC) _ (Nat.le_refl _)) fun n2 hn2 => ?_
    simp (maxSteps := 2000000) -implicitDefEqProofs (disch := omega) only [xsW, xsC, xsD, xsE, fillA, reduceCtorEq, Nat.reduceAdd, Nat.reduceSub, Nat.reduceLeDiff, Nat.reduceMul, Int.reduceLT, Int.reduceLE, Int.reduceEq, Int.reduceNe, Int.reduceAdd, Int.reduceSub, Int.reduceMul, Int.reduceNeg, Int.reduceToNat]
    exact pB_gt _
  · simp (maxSteps := 2000000) -implicitDefEqProofs (disch := omega) only [c_spec_l03Kind, xsW, xsC, xsD, xsE, fillA, reduceCtorEq, Nat.reduceAdd, Nat.reduceSub, Nat.reduceLeDiff, Nat.reduceMul, Int.reduceLT, Int.reduceLE, Int.reduceEq, Int.reduceNe, Int.reduceAdd, Int.reduceSub, Int.reduceMul, Int.reduceNeg, Int.reduceToNat]
    refine fq_use (spec_l03Symmetric sR hm n hn) fun v1 h1 n1 hn1 hs1 ⟨vs1, hv1⟩ => ?_
    rw [show (rowsOf ll.length fun i => rowOf ll.length fun k => at2 ll i k + at2 ll k i) = symF ll from rfl] at hv1
    simp (maxSteps := 2000000) -implicitDefEqProofs (disch := omega) only [xsW, xsC, xsD, xsE, fillA, reduceCtorEq, Nat.reduceAdd, Nat.reduceSub, Nat.reduceLeDiff, Nat.reduceMul, Int.reduceLT, Int.reduceLE, Int.reduceEq, Int.reduceNe, Int.reduceAdd, Int.reduceSub, Int.reduceMul, Int.reduceNeg, Int.reduceToNat]
    refine q_use (spec_l03Least hv1 (by omega) (by rw [hLS]; exact hsS) (by rw [hLS]; exact hlS) _ (Nat.le_refl _)) fun n2 hn2 => ?_
    simp (maxSteps := 2000000) -implicitDefEqProofs (disch := omega) only [xsW, xsC, xsD, xsE, fillA, reduceCtorEq, Nat.reduceAdd, Nat.reduceSub, Nat.reduceLeDiff, Nat.reduceMul, Int.reduceLT, Int.reduceLE, Int.reduceEq, Int.reduceNe, Int.reduceAdd, Int.reduceSub, Int.reduceMul, Int.reduceNeg, Int.reduceToNat]
    exact pB_gt _
  · simp (maxSteps := 2000000) -implicitDefEqProofs (disch := omega) only [c_spec_l03Kind, xsW, xsC, xsD, xsE, fillA, reduceCtorEq, Nat.reduceAdd, Nat.reduceSub, Nat.reduceLeDiff, Nat.reduceMul, Int.reduceLT, Int.reduceLE, Int.reduceEq, Int.reduceNe, Int.reduceAdd, Int.reduceSub, Int.reduceMul, Int.reduceNeg, Int.reduceToNat]
    refine fq_use (spec_l03Symmetric sR hm n hn) fun v1 h1 n1 hn1 hs1 ⟨vs1, hv1⟩ => ?_
    rw [show (rowsOf ll.length fun i => rowOf ll.length fun k => at2 ll i k + at2 ll k i) = symF ll from rfl] at hv1
    simp (maxSteps := 2000000) -implicitDefEqProofs (disch := omega) only [xsW, xsC, xsD, xsE, fillA, reduceCtorEq, Nat.reduceAdd, Nat.reduceSub, Nat.reduceLeDiff, Nat.reduceMul, Int.reduceLT, Int.reduceLE, Int.reduceEq, Int.reduceNe, Int.reduceAdd, Int.reduceSub, Int.reduceMul, Int.reduceNeg, Int.reduceToNat]
    refine q_use (spec_l03Least hv1 (by omega) (by rw [hLS]; exact hsS) (by rw [hLS]; exact hlS) _ (Nat.le_refl _)) fun n2 hn2 => ?_
    simp (maxSteps := 2000000) -implicitDefEqProofs (disch := omega) only [xsW, xsC, xsD, xsE, fillA, reduceCtorEq, Nat.reduceAdd, Nat.reduceSub, Nat.reduceLeDiff, Nat.reduceMul, Int.reduceLT, Int.reduceLE, Int.reduceEq, Int.reduceNe, Int.reduceAdd, Int.reduceSub, Int.reduceMul, Int.reduceNeg, Int.reduceToNat]
    rfl
  · simp (maxSteps := 2000000) -implicitDefEqProofs (disch := omega) only [c_spec_l03Kind, xsW, xsC, xsD, xsE, fillA, reduceCtorEq, Nat.reduceAdd, Nat.reduceSub, Nat.reduceLeDiff, Nat.reduceMul, Int.reduceLT, Int.reduceLE, Int.reduceEq, Int.reduceNe, Int.reduceAdd, Int.reduceSub, Int.reduceMul, Int.reduceNeg, Int.reduceToNat]
    refine q_use (spec_l03Copositive sR hm _ _ hn) fun n1 hn1 => ?_
    simp (maxSteps := 2000000) -implicitDefEqProofs (disch := omega) only [xsW, xsC, xsD, xsE, fillA, reduceCtorEq, Nat.reduceAdd, Nat.reduceSub, Nat.reduceLeDiff, Nat.reduceMul, Int.reduceLT, Int.reduceLE, Int.reduceEq, Int.reduceNe, Int.reduceAdd, Int.reduceSub, Int.reduceMul, Int.reduceNeg, Int.reduceToNat]
    rfl
  · simp (maxSteps := 2000000) -implicitDefEqProofs (disch := omega) only [c_spec_l03Kind, xsW, xsC, xsD, xsE, fillA, reduceCtorEq, Nat.reduceAdd, Nat.reduceSub, Nat.reduceLeDiff, Nat.reduceMul, Int.reduceLT, Int.reduceLE, Int.reduceEq, Int.reduceNe, Int.reduceAdd, Int.reduceSub, Int.reduceMul, Int.reduceNeg, Int.reduceToNat]
    refine q_use (spec_l03Copositive sR hm _ _ hn) fun n1 hn1 => ?_
    simp (maxSteps := 2000000) -implicitDefEqProofs (disch := omega) only [xsW, xsC, xsD, xsE, fillA, reduceCtorEq, Nat.reduceAdd, Nat.reduceSub, Nat.reduceLeDiff, Nat.reduceMul, Int.reduceLT, Int.reduceLE, Int.reduceEq, Int.reduceNe, Int.reduceAdd, Int.reduceSub, Int.reduceMul, Int.reduceNeg, Int.reduceToNat]
    rfl
  · simp (maxSteps := 2000000) -implicitDefEqProofs (disch := omega) only [c_spec_l03Kind, xsW, xsC, xsD, xsE, fillA, reduceCtorEq, Nat.reduceAdd, Nat.reduceSub, Nat.reduceLeDiff, Nat.reduceMul, Int.reduceLT, Int.reduceLE, Int.reduceEq, Int.reduceNe, Int.reduceAdd, Int.reduceSub, Int.reduceMul, Int.reduceNeg, Int.reduceToNat]
    have e : kindB ll 9 = sameB ll := rfl
    rw [e]
    refine loop_for ll.length 0 (fun i (_ : Unit) => [v, .int .i64 9, .any, .any, .bool false, .int .i64 i, .any, .int .i64 9, .any, .any, .any, .any, .any, .any, .any, .any, .any, .any, .any, .any, .any, .any, .any, .any, .any, .any, .any, .any, .any, .any, .any, .any, .any, .any, .any, .any, .any, .any, .any, .any, .any, .any, .any, .any, .any, .any, .any, .any, .any, .any, .any, .any, .any, .any, .any, .any, .any, .any, .any, .any, .any, .any, .any, .any, .any, .any, .any, .any, .any, .any, .any, .any, .any, .any, .any, .any, .any, .any, .any, .any, .any, .any, .any, .any, .any, .any, .any, .any, .any, .any, .any]) (fun _ _ => h)
      (fun i _ _ => ∀ i' k', i' < i → k' < i' → at2 ll i' k' = at2 ll k' i') () (Nat.zero_le _) (fun _ _ hj _ => absurd hj (Nat.not_lt_zero _)) (by simp [LeL, Le1]) (fun _ _ h => h) ?_
    rintro i - n1 - hi1 hn1 he
    simp (maxSteps := 2000000) -implicitDefEqProofs (disch := omega) only [xsW, xsC, xsD, xsE, fillA, reduceCtorEq, Nat.reduceAdd, Nat.reduceSub, Nat.reduceLeDiff, Nat.reduceMul, Int.reduceLT, Int.reduceLE, Int.reduceEq, Int.reduceNe, Int.reduceAdd, Int.reduceSub, Int.reduceMul, Int.reduceNeg, Int.reduceToNat,  sR.ln]
    (refine cd_dec (fun c1 => ?_) (fun c1 => ?_) <;> simp (maxSteps := 2000000) -implicitDefEqProofs (disch := omega) only [xsW, xsC, xsD, xsE, fillA, reduceCtorEq, Nat.reduceAdd, Nat.reduceSub, Nat.reduceLeDiff, Nat.reduceMul, Int.reduceLT, Int.reduceLE, Int.reduceEq, Int.reduceNe, Int.reduceAdd, Int.reduceSub, Int.reduceMul, Int.reduceNeg, Int.reduceToNat,  c1])
    · have hi2 : i < ll.length := by omega
      have hri := sR.row i hi2
      have li := hs.2 i hi2
      refine loop_for i 0 (fun k (_ : Unit) => [v, .int .i64 9, .any, .any, .bool false, .int .i64 i, .int .i64 k, .int .i64 9, .any, .any, .any, .any, .any, .any, .any, .any, .any, .any, .any, .any, .any, .any, .any, .any, .any, .any, .any, .any, .any, .any, .any, .any, .any, .any, .any, .any, .any, .any, .any, .any, .any, .any, .any, .any, .any, .any, .any, .any, .any, .any, .any, .any, .any, .any, .any, .any, .any, .any, .any, .any, .any, .any, .any, .any, .any, .any, .any, .any, .any, .any, .any, .any, .any, .any, .any, .any, .any, .any, .any, .any, .any, .any, .any, .any, .any, .any, .any, .any, .any, .any, .any]) (fun _ _ => h)
        (fun k _ _ => ∀ k', k' < k → at2 ll i k' = at2 ll k' i) () (Nat.zero_le _) (fun _ hj => absurd hj (Nat.not_lt_zero _)) (by simp [LeL, Le1]) (fun _ _ h => h) ?_
      rintro k - n2 - hk1 hn2 he2
      simp (maxSteps := 2000000) -implicitDefEqProofs (disch := omega) only [xsW, xsC, xsD, xsE, fillA, reduceCtorEq, Nat.reduceAdd, Nat.reduceSub, Nat.reduceLeDiff, Nat.reduceMul, Int.reduceLT, Int.reduceLE, Int.reduceEq, Int.reduceNe, Int.reduceAdd, Int.reduceSub, Int.reduceMul, Int.reduceNeg, Int.reduceToNat]
      (refine cd_dec (fun c2 => ?_) (fun c2 => ?_) <;> simp (maxSteps := 2000000) -implicitDefEqProofs (disch := omega) only [xsW, xsC, xsD, xsE, fillA, reduceCtorEq, Nat.reduceAdd, Nat.reduceSub, Nat.reduceLeDiff, Nat.reduceMul, Int.reduceLT, Int.reduceLE, Int.reduceEq, Int.reduceNe, Int.reduceAdd, Int.reduceSub, Int.reduceMul, Int.reduceNeg, Int.reduceToNat,  c2])
      · have hk2 : k < ll.length := by omega
        have hrk := sR.row k hk2
        have lk := hs.2 k hk2
        simp (maxSteps := 2000000) -implicitDefEqProofs (disch := omega) only [xsW, xsC, xsD, xsE, fillA, reduceCtorEq, Nat.reduceAdd, Nat.reduceSub, Nat.reduceLeDiff, Nat.reduceMul, Int.reduceLT, Int.reduceLE, Int.reduceEq, Int.reduceNe, Int.reduceAdd, Int.reduceSub, Int.reduceMul, Int.reduceNeg, Int.reduceToNat,  sR.ia, sR.ld, hri.ia, hri.ld, hrk.ia, hrk.ld]
        (refine cd_dec (fun c3 => ?_) (fun c3 => ?_) <;> simp (maxSteps := 2000000) -implicitDefEqProofs (disch := omega) only [xsW, xsC, xsD, xsE, fillA, reduceCtorEq, Nat.reduceAdd, Nat.reduceSub, Nat.reduceLeDiff, Nat.reduceMul, Int.reduceLT, Int.reduceLE, Int.reduceEq, Int.reduceNe, Int.reduceAdd, Int.reduceSub, Int.reduceMul, Int.reduceNeg, Int.reduceToNat,  c3])
        · have : sameB ll = false := allF_f hi2 hk2 (decide_eq_false c3)
          rw [this]
        · exact ⟨(), fun k' hk' => (Nat.lt_succ_iff_lt_or_eq.1 hk').elim (he2 k') (fun e => by rw [e]; exact Decidable.not_not.1 c3), by omega, by omega, (by simp [LeL, Le1])⟩
      · have e : k = i := by omega
        subst e
        exact ⟨(), fun i' k' h1 h2 => (Nat.lt_succ_iff_lt_or_eq.1 h1).elim (fun h3 => he i' k' h3 h2) (fun e => by subst e; exact he2 k' h2), by omega, by omega, (by simp [LeL, Le1])⟩
    · have e : i = ll.length := by omega
      subst e
      have : sameB ll = true := allF_t fun a c ha hc => decide_eq_true (by
        rcases Nat.lt_trichotomy a c with h | h | h
        · exact (he c a hc h).symm
        · rw [h]
        · exact he a c ha h)
      rw [this]
  · simp (maxSteps := 2000000) -implicitDefEqProofs (disch := omega) only [c_spec_l03Kind, xsW, xsC, xsD, xsE, fillA, reduceCtorEq, Nat.reduceAdd, Nat.reduceSub, Nat.reduceLeDiff, Nat.reduceMul, Int.reduceLT, Int.reduceLE, Int.reduceEq, Int.reduceNe, Int.reduceAdd, Int.reduceSub, Int.reduceMul, Int.reduceNeg, Int.reduceToNat]
    refine q_use (spec_l03Dominant sR hm _) fun n1 hn1 => ?_
    simp (maxSteps := 2000000) -implicitDefEqProofs (disch := omega) only [xsW, xsC, xsD, xsE, fillA, reduceCtorEq, Nat.reduceAdd, Nat.reduceSub, Nat.reduceLeDiff, Nat.reduceMul, Int.reduceLT, Int.reduceLE, Int.reduceEq, Int.reduceNe, Int.reduceAdd, Int.reduceSub, Int.reduceMul, Int.reduceNeg, Int.reduceToNat]
    rfl
  · simp (maxSteps := 2000000) -implicitDefEqProofs (disch := omega) only [c_spec_l03Kind, xsW, xsC, xsD, xsE, fillA, reduceCtorEq, Nat.reduceAdd, Nat.reduceSub, Nat.reduceLeDiff, Nat.reduceMul, Int.reduceLT, Int.reduceLE, Int.reduceEq, Int.reduceNe, Int.reduceAdd, Int.reduceSub, Int.reduceMul, Int.reduceNeg, Int.reduceToNat]
    refine q_use (spec_l03Triangular sR hN hs _) fun n1 hn1 => ?_
    simp (maxSteps := 2000000) -implicitDefEqProofs (disch := omega) only [xsW, xsC, xsD, xsE, fillA, reduceCtorEq, Nat.reduceAdd, Nat.reduceSub, Nat.reduceLeDiff, Nat.reduceMul, Int.reduceLT, Int.reduceLE, Int.reduceEq, Int.reduceNe, Int.reduceAdd, Int.reduceSub, Int.reduceMul, Int.reduceNeg, Int.reduceToNat]
    rfl
theorem impl_isOfKind (s : Rows true lo hi h v vs ll) (hm : isMat ll = true) (k : Int) (h0 : 0 ≤ k) (h1 : k ≤ 11) (n : Nat) (hn : hi ≤ n) : Q Try.prog 61 [v, .int .i64 k] h n (.bool (kindB ll k)) := by
  refine q_intro Try.func61 k_impl_isOfKind ?_
  obtain ⟨hN, hs, hl⟩ := isMat_sq hm
  obtain ⟨hLS, hsS, hlS⟩ := symF_facts hm
  obtain ⟨hLC, hsC, hlC⟩ := cmpF_facts hm
  have o1 := one_any (Sl.any s.out)
  have o2 := sto_any (Sl.any s.out)
  have o3 := cel_any (Sl.any s.out)
  have s2 := s.keep (h' := upd h n (some ⟨22, [v], true, 0⟩)) (fun i _ hi9 => by simp (disch := omega) only [upd_other])
  have hk : k = 0 ∨ k = 1 ∨ k = 2 ∨ k = 3 ∨ k = 4 ∨ k = 5 ∨ k = 6 ∨ k = 7 ∨ k = 8 ∨ k = 9 ∨ k = 10 ∨ k = 11 := by omega
  rcases hk with rfl | rfl | rfl | rfl | rfl | rfl | rfl | rfl | rfl | rfl | rfl | rfl
  · simp (maxSteps := 2000000) -implicitDefEqProofs (disch := omega) only [c_impl_isOfKind, o1, o2, o3, xsW, xsC, xsD, xsE, fillA, reduceCtorEq, Nat.reduceAdd, Nat.reduceSub, Nat.reduceLeDiff, Nat.reduceMul, Int.reduceLT, Int.reduceLE, Int.reduceEq, Int.reduceNe, Int.reduceAdd, Int.reduceSub, Int.reduceMul, Int.reduceNeg, Int.reduceToNat]
    refine q_use (impl_isP (s.keep (fun i _ hi9 => by simp (disch := omega) only [upd_other])) hN hs hl _ _ (by omega)) fun n1 hn1 => ?_
    simp (maxSteps := 2000000) -implicitDefEqProofs (disch := omega) only [xsW, xsC, xsD, xsE, fillA, reduceCtorEq, Nat.reduceAdd, Nat.reduceSub, Nat.reduceLeDiff, Nat.reduceMul, Int.reduceLT, Int.reduceLE, Int.reduceEq, Int.reduceNe, Int.reduceAdd, Int.reduceSub, Int.reduceMul, Int.reduceNeg, Int.reduceToNat]
    rfl
  · simp (maxSteps := 2000000) -implicitDefEqProofs (disch := omega) only [c_impl_isOfKind, o1, o2, o3, xsW, xsC, xsD, xsE, fillA, reduceCtorEq, Nat.reduceAdd, Nat.reduceSub, Nat.reduceLeDiff, Nat.reduceMul, Int.reduceLT, Int.reduceLE, Int.reduceEq, Int.reduceNe, Int.reduceAdd, Int.reduceSub, Int.reduceMul, Int.reduceNeg, Int.reduceToNat]
    refine q_use (impl_isP (s.keep (fun i _ hi9 => by simp (disch := omega) only [upd_other])) hN hs hl _ _ (by omega)) fun n1 hn1 => ?_
    simp (maxSteps := 2000000) -implicitDefEqProofs (disch := omega) only [xsW, xsC, xsD, xsE, fillA, reduceCtorEq, Nat.reduceAdd, Nat.reduceSub, Nat.reduceLeDiff, Nat.reduceMul, Int.reduceLT, Int.reduceLE, Int.reduceEq, Int.reduceNe, Int.reduceAdd, Int.reduceSub, Int.reduceMul, Int.reduceNeg, Int.reduceToNat]
    rfl
  · simp (maxSteps := 2000000) -implicitDefEqProofs (disch := omega) only [c_impl_isOfKind, o1, o2, o3, xsW, xsC, xsD, xsE, fillA, reduceCtorEq, Nat.reduceAdd, Nat.reduceSub, Nat.reduceLeDiff, Nat.reduceMul, Int.reduceLT, Int.reduceLE, Int.reduceEq, Int.reduceNe, Int.reduceAdd, Int.reduceSub, Int.reduceMul, Int.reduceNeg, Int.reduceToNat]
    refine q_use (impl_isZ (s.keep (fun i _ hi9 => by simp (disch := omega) only [upd_other])) hN hs _ (by omega)) fun n1 hn1 => ?_
    simp (maxSteps := 2000000) -implicitDefEqProofs (disch := omega) only [xsW, xsC, xsD, xsE, fillA, reduceCtorEq, Nat.reduceAdd, Nat.reduceSub, Nat.reduceLeDiff, Nat.reduceMul, Int.reduceLT, Int.reduceLE, Int.reduceEq, Int.reduceNe, Int.reduceAdd, Int.reduceSub, Int.reduceMul, Int.reduceNeg, Int.reduceToNat]
    rfl
  · simp (maxSteps := 2000000) -implicitDefEqProofs (disch := omega) only [c_impl_isOfKind, o1, o2, o3, xsW, xsC, xsD, xsE, fillA, reduceCtorEq, Nat.reduceAdd, Nat.reduceSub, Nat.reduceLeDiff, Nat.reduceMul, Int.reduceLT, Int.reduceLE, Int.reduceEq, Int.reduceNe, Int.reduceAdd, Int.reduceSub, Int.reduceMul, Int.reduceNeg, Int.reduceToNat]
    refine q_use (impl_isK (s.keep (fun i _ hi9 => by simp (disch := omega) only [upd_other])) hN hs hl _ (by omega)) fun n1 hn1 => ?_
    simp (maxSteps := 2000000) -implicitDefEqProofs (disch := omega) only [xsW, xsC, xsD, xsE, fillA, reduceCtorEq, Nat.reduceAdd, Nat.reduceSub, Nat.reduceLeDiff, Nat.reduceMul, Int.reduceLT, Int.reduceLE, Int.reduceEq, Int.reduceNe, Int.reduceAdd, Int.reduceSub, Int.reduceMul, Int.reduceNeg, Int.reduceToNat]
    rfl
  · simp (maxSteps := 2000000) -implicitDefEqProofs (disch := omega) only [c_impl_isOfKind, o1, o2, o3, xsW, xsC, xsD, xsE, fillA, reduceCtorEq, Nat.reduceAdd, Nat.reduceSub, Nat.reduceLeDiff, Nat.reduceMul, Int.reduceLT, Int.reduceLE, Int.reduceEq, Int.reduceNe, Int.reduceAdd, Int.reduceSub, Int.reduceMul, Int.reduceNeg, Int.reduceToNat]
    refine fq_use (impl_comparison (s.keep (fun i _ hi9 => by simp (disch := omega) only [upd_other])) hm _ (by omega)) fun v1 h1 n1 hn1 hs1 ⟨vs1, hv1⟩ => ?_
    simp (maxSteps := 2000000) -implicitDefEqProofs (disch := omega) only [xsW, xsC, xsD, xsE, fillA, reduceCtorEq, Nat.reduceAdd, Nat.reduceSub, Nat.reduceLeDiff, Nat.reduceMul, Int.reduceLT, Int.reduceLE, Int.reduceEq, Int.reduceNe, Int.reduceAdd, Int.reduceSub, Int.reduceMul, Int.reduceNeg, Int.reduceToNat]
    refine q_use (impl_isK hv1 (by omega) (by rw [hLC]; exact hsC) (by rw [hLC]; exact hlC) _ (Nat.le_refl _)) fun n2 hn2 => ?_
    simp (maxSteps := 2000000) -implicitDefEqProofs (disch := omega) only [xsW, xsC, xsD, xsE, fillA, reduceCtorEq, Nat.reduceAdd, Nat.reduceSub, Nat.reduceLeDiff, Nat.reduceMul, Int.reduceLT, Int.reduceLE, Int.reduceEq, Int.reduceNe, Int.reduceAdd, Int.reduceSub, Int.reduceMul, Int.reduceNeg, Int.reduceToNat]
    rw [zB_cmp, Bool.true_and]; rfl
  · simp (maxSteps := 2000000) -implicitDefEqProofs (disch := omega) only [c_impl_isOfKind, o1, o2, o3, xsW, xsC, xsD, xsE, fillA, reduceCtorEq, Nat.reduceAdd, Nat.reduceSub, Nat.reduceLeDiff, Nat.reduceMul, Int.reduceLT, Int.reduceLE, Int.reduceEq, Int.reduceNe, Int.reduceAdd, Int.reduceSub, Int.reduceMul, Int.reduceNeg, Int.reduceToNat]
    refine fq_use (impl_symmetric (s.keep (fun i _ hi9 => by simp (disch := omega) only [upd_other])) hm _ (by omega)) fun v1 h1 n1 hn1 hs1 ⟨vs1, hv1⟩ => ?_
    simp (maxSteps := 2000000) -implicitDefEqProofs (disch := omega) only [xsW, xsC, xsD, xsE, fillA, reduceCtorEq, Nat.reduceAdd, Nat.reduceSub, Nat.reduceLeDiff, Nat.reduceMul, Int.reduceLT, Int.reduceLE, Int.reduceEq, Int.reduceNe, Int.reduceAdd, Int.reduceSub, Int.reduceMul, Int.reduceNeg, Int.reduceToNat]
    refine q_use (impl_isP hv1 (by omega) (by rw [hLS]; exact hsS) (by rw [hLS]; exact hlS) _ _ (Nat.le_refl _)) fun n2 hn2 => ?_
    simp (maxSteps := 2000000) -implicitDefEqProofs (disch := omega) only [xsW, xsC, xsD, xsE, fillA, reduceCtorEq, Nat.reduceAdd, Nat.reduceSub, Nat.reduceLeDiff, Nat.reduceMul, Int.reduceLT, Int.reduceLE, Int.reduceEq, Int.reduceNe, Int.reduceAdd, Int.reduceSub, Int.reduceMul, Int.reduceNeg, Int.reduceToNat]
    rfl
  · simp (maxSteps := 2000000) -implicitDefEqProofs (disch := omega) only [c_impl_isOfKind, o1, o2, o3, xsW, xsC, xsD, xsE, fillA, reduceCtorEq, Nat.reduceAdd, Nat.reduceSub, Nat.reduceLeDiff, Nat.reduceMul, Int.reduceLT, Int.reduceLE, Int.reduceEq, Int.reduceNe, Int.reduceAdd, Int.reduceSub, Int.reduceMul, Int.reduceNeg, Int.reduceToNat]
    refine fq_use (impl_symmetric (s.keep (fun i _ hi9 => by simp (disch := omega) only [upd_other])) hm _ (by omega)) fun v1 h1 n1 hn1 hs1 ⟨vs1, hv1⟩ => ?_
    simp (maxSteps := 2000000) -implicitDefEqProofs (disch := omega) only [xsW, xsC, xsD, xsE, fillA, reduceCtorEq, Nat.reduceAdd, Nat.reduceSub, Nat.reduceLeDiff, Nat.reduceMul, Int.reduceLT, Int.reduceLE, Int.reduceEq, Int.reduceNe, Int.reduceAdd, Int.reduceSub, Int.reduceMul, Int.reduceNeg, Int.reduceToNat]
    refine q_use (impl_isP hv1 (by omega) (by rw [hLS]; exact hsS) (by rw [hLS]; exact hlS) _ _ (Nat.le_refl _)) fun n2 hn2 => ?_
    simp (maxSteps := 2000000) -implicitDefEqProofs (disch := omega) only [xsW, xsC, xsD, xsE, fillA, reduceCtorEq, Nat.reduceAdd, Nat.reduceSub, Nat.reduceLeDiff, Nat.reduceMul, Int.reduceLT, Int.reduceLE, Int.reduceEq, Int.reduceNe, Int.reduceAdd, Int.reduceSub, Int.reduceMul, Int.reduceNeg, Int.reduceToNat]
    rfl
  · simp (maxSteps := 2000000) -implicitDefEqProofs (disch := omega) only [c_impl_isOfKind, o1, o2, o3, xsW, xsC, xsD, xsE, fillA, reduceCtorEq, Nat.reduceAdd, Nat.reduceSub, Nat.reduceLeDiff, Nat.reduceMul, Int.reduceLT, Int.reduceLE, Int.reduceEq, Int.reduceNe, Int.reduceAdd, Int.reduceSub, Int.reduceMul, Int.reduceNeg, Int.reduceToNat]
    refine q_use (impl_isCopositive (s.keep (fun i _ hi9 => by simp (disch := omega) only [upd_other])) hm _ (.inl rfl) _ (by omega)) fun n1 hn1 => ?_
    simp (maxSteps := 2000000) -implicitDefEqProofs (disch := omega) only [xsW, xsC, xsD, xsE, fillA, reduceCtorEq, Nat.reduceAdd, Nat.reduceSub, Nat.reduceLeDiff, Nat.reduceMul, Int.reduceLT, Int.reduceLE, Int.reduceEq, Int.reduceNe, Int.reduceAdd, Int.reduceSub, Int.reduceMul, Int.reduceNeg, Int.reduceToNat]
    rfl
  · simp (maxSteps := 2000000) -implicitDefEqProofs (disch := omega) only [c_impl_isOfKind, o1, o2, o3, xsW, xsC, xsD, xsE, fillA, reduceCtorEq, Nat.reduceAdd, Nat.reduceSub, Nat.reduceLeDiff, Nat.reduceMul, Int.reduceLT, Int.reduceLE, Int.reduceEq, Int.reduceNe, Int.reduceAdd, Int.reduceSub, Int.reduceMul, Int.reduceNeg, Int.reduceToNat]
    refine q_use (impl_isCopositive (s.keep (fun i _ hi9 => by simp (disch := omega) only [upd_other])) hm _ (.inr rfl) _ (by omega)) fun n1 hn1 => ?_
    simp (maxSteps := 2000000) -implicitDefEqProofs (disch := omega) only [xsW, xsC, xsD, xsE, fillA, reduceCtorEq, Nat.reduceAdd, Nat.reduceSub, Nat.reduceLeDiff, Nat.reduceMul, Int.reduceLT, Int.reduceLE, Int.reduceEq, Int.reduceNe, Int.reduceAdd, Int.reduceSub, Int.reduceMul, Int.reduceNeg, Int.reduceToNat]
    rfl
  · simp (maxSteps := 2000000) -implicitDefEqProofs (disch := omega) only [c_impl_isOfKind, o1, o2, o3, xsW, xsC, xsD, xsE, fillA, reduceCtorEq, Nat.reduceAdd, Nat.reduceSub, Nat.reduceLeDiff, Nat.reduceMul, Int.reduceLT, Int.reduceLE, Int.reduceEq, Int.reduceNe, Int.reduceAdd, Int.reduceSub, Int.reduceMul, Int.reduceNeg, Int.reduceToNat]
    refine q_use (impl_allPlaces (s.keep (fun i _ hi9 => by simp (disch := omega) only [upd_other])) hN _ _ _ _ fun i k n' hi2 hk2 hn' => impl_kind1 (s.keep (fun i _ hi9 => by simp (disch := omega) only [upd_other])) hN hs (upd_same _ _ _) hi2 hk2) fun n1 hn1 => ?_
    simp (maxSteps := 2000000) -implicitDefEqProofs (disch := omega) only [xsW, xsC, xsD, xsE, fillA, reduceCtorEq, Nat.reduceAdd, Nat.reduceSub, Nat.reduceLeDiff, Nat.reduceMul, Int.reduceLT, Int.reduceLE, Int.reduceEq, Int.reduceNe, Int.reduceAdd, Int.reduceSub, Int.reduceMul, Int.reduceNeg, Int.reduceToNat]
    rfl
  · simp (maxSteps := 2000000) -implicitDefEqProofs (disch := omega) only [c_impl_isOfKind, o1, o2, o3, xsW, xsC, xsD, xsE, fillA, reduceCtorEq, Nat.reduceAdd, Nat.reduceSub, Nat.reduceLeDiff, Nat.reduceMul, Int.reduceLT, Int.reduceLE, Int.reduceEq, Int.reduceNe, Int.reduceAdd, Int.reduceSub, Int.reduceMul, Int.reduceNeg, Int.reduceToNat]
    refine q_use (impl_isDominant (s.keep (fun i _ hi9 => by simp (disch := omega) only [upd_other])) hm _) fun n1 hn1 => ?_
    simp (maxSteps := 2000000) -implicitDefEqProofs (disch := omega) only [xsW, xsC, xsD, xsE, fillA, reduceCtorEq, Nat.reduceAdd, Nat.reduceSub, Nat.reduceLeDiff, Nat.reduceMul, Int.reduceLT, Int.reduceLE, Int.reduceEq, Int.reduceNe, Int.reduceAdd, Int.reduceSub, Int.reduceMul, Int.reduceNeg, Int.reduceToNat]
    rfl
  · simp (maxSteps := 2000000) -implicitDefEqProofs (disch := omega) only [c_impl_isOfKind, o1, o2, o3, xsW, xsC, xsD, xsE, fillA, reduceCtorEq, Nat.reduceAdd, Nat.reduceSub, Nat.reduceLeDiff, Nat.reduceMul, Int.reduceLT, Int.reduceLE, Int.reduceEq, Int.reduceNe, Int.reduceAdd, Int.reduceSub, Int.reduceMul, Int.reduceNeg, Int.reduceToNat]
    refine q_use (impl_allPlaces (s.keep (fun i _ hi9 => by simp (disch := omega) only [upd_other])) hN _ _ _ _ fun i k n' hi2 hk2 hn' => impl_kind2 (s.keep (fun i _ hi9 => by simp (disch := omega) only [upd_other])) hN hs (upd_same _ _ _) hi2 hk2) fun n1 hn1 => ?_
    have e : kindB ll 11 = (upB ll || loB ll) := rfl
    rw [e, show (allF ll.length fun i k => decide (k ≤ i) || decide (at2 ll i k = 0)) = upB ll from rfl]
    cases hu : upB ll
    · simp (maxSteps := 2000000) -implicitDefEqProofs (disch := omega) only [xsW, xsC, xsD, xsE, fillA, reduceCtorEq, Nat.reduceAdd, Nat.reduceSub, Nat.reduceLeDiff, Nat.reduceMul, Int.reduceLT, Int.reduceLE, Int.reduceEq, Int.reduceNe, Int.reduceAdd, Int.reduceSub, Int.reduceMul, Int.reduceNeg, Int.reduceToNat]
      refine q_use (impl_allPlaces (s.keep (fun i _ hi9 => by simp (disch := omega) only [upd_other])) hN _ _ _ _ fun i k n' hi2 hk2 hn' => impl_kind3 (s.keep (fun i _ hi9 => by simp (disch := omega) only [upd_other])) hN hs (upd_same _ _ _) hi2 hk2) fun n1 hn1 => ?_
      simp (maxSteps := 2000000) -implicitDefEqProofs (disch := omega) only [xsW, xsC, xsD, xsE, fillA, reduceCtorEq, Nat.reduceAdd, Nat.reduceSub, Nat.reduceLeDiff, Nat.reduceMul, Int.reduceLT, Int.reduceLE, Int.reduceEq, Int.reduceNe, Int.reduceAdd, Int.reduceSub, Int.reduceMul, Int.reduceNeg, Int.reduceToNat]
      rfl
    · simp (maxSteps := 2000000) -implicitDefEqProofs (disch := omega) only [xsW, xsC, xsD, xsE, fillA, reduceCtorEq, Nat.reduceAdd, Nat.reduceSub, Nat.reduceLeDiff, Nat.reduceMul, Int.reduceLT, Int.reduceLE, Int.reduceEq, Int.reduceNe, Int.reduceAdd, Int.reduceSub, Int.reduceMul, Int.reduceNeg, Int.reduceToNat]
def kindV (ll : List (List Int)) (k : Int) : Bool × Int := if isMat ll = true then (if 0 ≤ k ∧ k ≤ 11 then (kindB ll k, 0) else (false, 2)) else (false, 1)
theorem spec_IsOfKind (sR : Rows true lo hi h v vs ll) (hl : ll.length ≤ 1048576) (hll : ∀ l ∈ ll, l.length ≤ 1048576) (k : Int) (n : Nat) (hn : hi ≤ n) :
    Q Try.prog 8 [v, .int .i64 k] h n (.tup [.bool (kindV ll k).1, .int .i64 (kindV ll k).2]) := by
  refine q_intro Try.func8 k_spec_IsOfKind ?_
  unfold kindV
  simp (maxSteps := 2000000) -implicitDefEqProofs (disch := omega) only [c_spec_IsOfKind, xsW, xsC, xsD, xsE, fillA, reduceCtorEq, Nat.reduceAdd, Nat.reduceSub, Nat.reduceLeDiff, Nat.reduceMul, Int.reduceLT, Int.reduceLE, Int.reduceEq, Int.reduceNe, Int.reduceAdd, Int.reduceSub, Int.reduceMul, Int.reduceNeg, Int.reduceToNat]
  refine q_use (spec_l01Matrix sR hl _) fun n1 hn1 => ?_
  cases hm : isMat ll
  · simp (maxSteps := 2000000) -implicitDefEqProofs (disch := omega) only [xsW, xsC, xsD, xsE, fillA, reduceCtorEq, Nat.reduceAdd, Nat.reduceSub, Nat.reduceLeDiff, Nat.reduceMul, Int.reduceLT, Int.reduceLE, Int.reduceEq, Int.reduceNe, Int.reduceAdd, Int.reduceSub, Int.reduceMul, Int.reduceNeg, Int.reduceToNat]
  · simp (maxSteps := 2000000) -implicitDefEqProofs (disch := omega) only [xsW, xsC, xsD, xsE, fillA, reduceCtorEq, Nat.reduceAdd, Nat.reduceSub, Nat.reduceLeDiff, Nat.reduceMul, Int.reduceLT, Int.reduceLE, Int.reduceEq, Int.reduceNe, Int.reduceAdd, Int.reduceSub, Int.reduceMul, Int.reduceNeg, Int.reduceToNat]
    refine q_use (spec_l01In _ _ _ _ _) fun n2 hn2 => ?_
    by_cases hk : 0 ≤ k ∧ k ≤ 11
    · rw [if_pos hk]
      simp (maxSteps := 2000000) -implicitDefEqProofs (disch := omega) only [xsW, xsC, xsD, xsE, fillA, reduceCtorEq, Nat.reduceAdd, Nat.reduceSub, Nat.reduceLeDiff, Nat.reduceMul, Int.reduceLT, Int.reduceLE, Int.reduceEq, Int.reduceNe, Int.reduceAdd, Int.reduceSub, Int.reduceMul, Int.reduceNeg, Int.reduceToNat]
      refine q_use (spec_l03Kind sR hm k hk.1 hk.2 _ (by omega)) fun n3 hn3 => ?_
      simp (maxSteps := 2000000) -implicitDefEqProofs (disch := omega) only [xsW, xsC, xsD, xsE, fillA, reduceCtorEq, Nat.reduceAdd, Nat.reduceSub, Nat.reduceLeDiff, Nat.reduceMul, Int.reduceLT, Int.reduceLE, Int.reduceEq, Int.reduceNe, Int.reduceAdd, Int.reduceSub, Int.reduceMul, Int.reduceNeg, Int.reduceToNat]
    · rw [if_neg hk]
      simp (maxSteps := 2000000) -implicitDefEqProofs (disch := omega) only [xsW, xsC, xsD, xsE, fillA, reduceCtorEq, Nat.reduceAdd, Nat.reduceSub, Nat.reduceLeDiff, Nat.reduceMul, Int.reduceLT, Int.reduceLE, Int.reduceEq, Int.reduceNe, Int.reduceAdd, Int.reduceSub, Int.reduceMul, Int.reduceNeg, Int.reduceToNat]
theorem impl_IsOfKind (sR : Rows true lo hi h v vs ll) (hl : ll.length ≤ 1048576) (hll : ∀ l ∈ ll, l.length ≤ 1048576) (k : Int) (n : Nat) (hn : hi ≤ n) :
    Q Try.prog 10 [v, .int .i64 k] h n (.tup [.bool (kindV ll k).1, .int .i64 (kindV ll k).2]) := by
  refine q_intro Try.func10 k_impl_IsOfKind ?_
  unfold kindV
  simp (maxSteps := 2000000) -implicitDefEqProofs (disch := omega) only [c_impl_IsOfKind, xsW, xsC, xsD, xsE, fillA, reduceCtorEq, Nat.reduceAdd, Nat.reduceSub, Nat.reduceLeDiff, Nat.reduceMul, Int.reduceLT, Int.reduceLE, Int.reduceEq, Int.reduceNe, Int.reduceAdd, Int.reduceSub, Int.reduceMul, Int.reduceNeg, Int.reduceToNat]
  refine q_use (impl_IsMatrix sR hl hll _ hn) fun n1 hn1 => ?_
  cases hm : isMat ll
  · simp (maxSteps := 2000000) -implicitDefEqProofs (disch := omega) only [xsW, xsC, xsD, xsE, fillA, reduceCtorEq, Nat.reduceAdd, Nat.reduceSub, Nat.reduceLeDiff, Nat.reduceMul, Int.reduceLT, Int.reduceLE, Int.reduceEq, Int.reduceNe, Int.reduceAdd, Int.reduceSub, Int.reduceMul, Int.reduceNeg, Int.reduceToNat]
  · simp (maxSteps := 2000000) -implicitDefEqProofs (disch := omega) only [xsW, xsC, xsD, xsE, fillA, reduceCtorEq, Nat.reduceAdd, Nat.reduceSub, Nat.reduceLeDiff, Nat.reduceMul, Int.reduceLT, Int.reduceLE, Int.reduceEq, Int.reduceNe, Int.reduceAdd, Int.reduceSub, Int.reduceMul, Int.reduceNeg, Int.reduceToNat]
    refine q_use (impl_within _ _ _ _ _) fun n2 hn2 => ?_
    by_cases hk : 0 ≤ k ∧ k ≤ 11
    · rw [if_pos hk]
      simp (maxSteps := 2000000) -implicitDefEqProofs (disch := omega) only [xsW, xsC, xsD, xsE, fillA, reduceCtorEq, Nat.reduceAdd, Nat.reduceSub, Nat.reduceLeDiff, Nat.reduceMul, Int.reduceLT, Int.reduceLE, Int.reduceEq, Int.reduceNe, Int.reduceAdd, Int.reduceSub, Int.reduceMul, Int.reduceNeg, Int.reduceToNat]
      refine q_use (impl_isOfKind sR hm k hk.1 hk.2 _ (by omega)) fun n3 hn3 => ?_
      simp (maxSteps := 2000000) -implicitDefEqProofs (disch := omega) only [xsW, xsC, xsD, xsE, fillA, reduceCtorEq, Nat.reduceAdd, Nat.reduceSub, Nat.reduceLeDiff, Nat.reduceMul, Int.reduceLT, Int.reduceLE, Int.reduceEq, Int.reduceNe, Int.reduceAdd, Int.reduceSub, Int.reduceMul, Int.reduceNeg, Int.reduceToNat]
    · rw [if_neg hk]
      simp (maxSteps := 2000000) -implicitDefEqProofs (disch := omega) only [xsW, xsC, xsD, xsE, fillA, reduceCtorEq, Nat.reduceAdd, Nat.reduceSub, Nat.reduceLeDiff, Nat.reduceMul, Int.reduceLT, Int.reduceLE, Int.reduceEq, Int.reduceNe, Int.reduceAdd, Int.reduceSub, Int.reduceMul, Int.reduceNeg, Int.reduceToNat]
def kindsL (ll : List (List Int)) (k : Nat) : List Int := rowOf k fun i => if kindB ll (i : Int) = true then 1 else 0
def kindsV (ll : List (List Int)) : List Int × Int := if isMat ll = true then (kindsL ll 12, 0) else ([], 1)
theorem kindsV_small (ll : List (List Int)) : (kindsV ll).1.length ≤ 1048576 := by
  unfold kindsV
  split
  · simp only [kindsL, rowOf_len]; omega
  · simp
theorem spec_KindsOf (sR : Rows true lo hi h v vs ll) (hl : ll.length ≤ 1048576) (hll : ∀ l ∈ ll, l.length ≤ 1048576) (n : Nat) (hn : hi ≤ n) :
    FQ Try.prog 12 [v] h n fun x h' n' => ∃ v', x = .tup [v', .int .i64 (kindsV ll).2] ∧ Ints true n n' h' v' (kindsV ll).1 := by
  refine fq_intro Try.func12 k_spec_KindsOf ?_
  unfold kindsV
  simp (maxSteps := 2000000) -implicitDefEqProofs (disch := omega) only [c_spec_KindsOf, xsW, xsC, xsD, xsE, fillA, reduceCtorEq, Nat.reduceAdd, Nat.reduceSub, Nat.reduceLeDiff, Nat.reduceMul, Int.reduceLT, Int.reduceLE, Int.reduceEq, Int.reduceNe, Int.reduceAdd, Int.reduceSub, Int.reduceMul, Int.reduceNeg, Int.reduceToNat]
  refine q_use (spec_l03Set0 sR hl _) fun n1 hn1 => ?_
  cases hm : isMat ll
  · simp (maxSteps := 2000000) -implicitDefEqProofs (disch := omega) only [xsW, xsC, xsD, xsE, fillA, reduceCtorEq, Nat.reduceAdd, Nat.reduceSub, Nat.reduceLeDiff, Nat.reduceMul, Int.reduceLT, Int.reduceLE, Int.reduceEq, Int.reduceNe, Int.reduceAdd, Int.reduceSub, Int.reduceMul, Int.reduceNeg, Int.reduceToNat]
    intro _ h2 _
    exact ⟨.nilsl, rfl, Sl.nil⟩
  · simp (maxSteps := 2000000) -implicitDefEqProofs (disch := omega) only [xsW, xsC, xsD, xsE, fillA, reduceCtorEq, Nat.reduceAdd, Nat.reduceSub, Nat.reduceLeDiff, Nat.reduceMul, Int.reduceLT, Int.reduceLE, Int.reduceEq, Int.reduceNe, Int.reduceAdd, Int.reduceSub, Int.reduceMul, Int.reduceNeg, Int.reduceToNat]
    refine loop_for 12 0 (fun k p => [v, .any, .nilsl, .int .i64 0, .int .i64 0, p.1, .int .i64 k, .any, .any, .any, .any, .any, .any, .any, .any, .any, .any, .any, .any, .any, .any, .any, .any, .any, .any, .any, .any]) (fun _ (p : AV × AH) => p.2)
      (fun k p m => Acc n1 m p.2 2 1 p.1 (ints (kindsL ll k)) ∧ n1 ≤ m ∧ ∀ j, j < n1 → p.2 j = h j) (.sl n1 0 0 0, upd h n1 (some ⟨2, [], true, 0⟩)) (Nat.zero_le _) ⟨Acc.empty (upd_same _ _ _) rfl (Nat.le_refl _) (by omega), by omega, fun j hj => upd_other (by omega)⟩ (by simp [LeL, Le1]) (fun _ _ h => h) ?_
    rintro k ⟨out, hp⟩ m - hk hm2 ⟨acc, hle, hold⟩
    simp only at acc hold
    simp (maxSteps := 2000000) -implicitDefEqProofs (disch := omega) only [xsW, xsC, xsD, xsE, fillA, reduceCtorEq, Nat.reduceAdd, Nat.reduceSub, Nat.reduceLeDiff, Nat.reduceMul, Int.reduceLT, Int.reduceLE, Int.reduceEq, Int.reduceNe, Int.reduceAdd, Int.reduceSub, Int.reduceMul, Int.reduceNeg, Int.reduceToNat]
    (refine cd_dec (fun c1 => ?_) (fun c1 => ?_) <;> simp (maxSteps := 2000000) -implicitDefEqProofs (disch := omega) only [xsW, xsC, xsD, xsE, fillA, reduceCtorEq, Nat.reduceAdd, Nat.reduceSub, Nat.reduceLeDiff, Nat.reduceMul, Int.reduceLT, Int.reduceLE, Int.reduceEq, Int.reduceNe, Int.reduceAdd, Int.reduceSub, Int.reduceMul, Int.reduceNeg, Int.reduceToNat,  c1])
    · refine q_use (spec_l03Kind (sR.keep (h' := hp) (fun i _ hi9 => by simp (disch := omega) only [upd_other, hold])) hm (k : Int) (by omega) (by omega) _ (by omega)) fun n2 hn2 => ?_
      have hx : kindsL ll (k + 1) = kindsL ll k ++ [if kindB ll (k : Int) = true then 1 else 0] := by rw [kindsL, rowOf_succ]; rfl
      have hlen : (kindsL ll k).length = k := rowOf_len _ _
      cases hb : kindB ll (k : Int)
      all_goals
        rw [hb] at hx
        simp (maxSteps := 2000000) -implicitDefEqProofs (disch := omega) only [xsW, xsC, xsD, xsE, fillA, reduceCtorEq, Nat.reduceAdd, Nat.reduceSub, Nat.reduceLeDiff, Nat.reduceMul, Int.reduceLT, Int.reduceLE, Int.reduceEq, Int.reduceNe, Int.reduceAdd, Int.reduceSub, Int.reduceMul, Int.reduceNeg, Int.reduceToNat]
        refine app_int (y := if _ = true then 1 else 0) (acc.keep (fun i _ hi9 => by simp (disch := omega) only [upd_other]) |>.wide (Nat.le_refl _) (by omega)) (by omega) (by omega) ⟨rfl, _, upd_same _ _ _, by simp, by simp [cutA]; rfl⟩ (by omega) fun v' h' n' q1 q2 q3 => ?_
        simp (maxSteps := 2000000) -implicitDefEqProofs (disch := omega) only [xsW, xsC, xsD, xsE, fillA, reduceCtorEq, Nat.reduceAdd, Nat.reduceSub, Nat.reduceLeDiff, Nat.reduceMul, Int.reduceLT, Int.reduceLE, Int.reduceEq, Int.reduceNe, Int.reduceAdd, Int.reduceSub, Int.reduceMul, Int.reduceNeg, Int.reduceToNat]
        exact ⟨(v', h'), ⟨by rw [hx]; exact q2, by omega, fun j hj => (q3 j hj).trans (by rw [upd_other (by omega), hold j hj])⟩, by omega, by omega, (by simp [LeL, Le1]), fun _ _ h => h⟩
    · have e : k = 12 := by omega
      subst e
      intro _ h2 hh
      exact ⟨out, rfl, (acc.keep fun i a b => hh i (by omega) b).sl.wide (by omega) (Nat.le_refl _)⟩
theorem impl_KindsOf (sR : Rows true lo hi h v vs ll) (hl : ll.length ≤ 1048576) (hll : ∀ l ∈ ll, l.length ≤ 1048576) (n : Nat) (hn : hi ≤ n) :
    FQ Try.prog 13 [v] h n fun x h' n' => ∃ v', x = .tup [v', .int .i64 (kindsV ll).2] ∧ Ints true n n' h' v' (kindsV ll).1 := by
  refine fq_intro Try.func13 k_impl_KindsOf ?_
  unfold kindsV
  simp (maxSteps := 2000000) -implicitDefEqProofs (disch := omega) only [c_impl_KindsOf, xsW, xsC, xsD, xsE, fillA, reduceCtorEq, Nat.reduceAdd, Nat.reduceSub, Nat.reduceLeDiff, Nat.reduceMul, Int.reduceLT, Int.reduceLE, Int.reduceEq, Int.reduceNe, Int.reduceAdd, Int.reduceSub, Int.reduceMul, Int.reduceNeg, Int.reduceToNat]
  refine q_use (impl_IsMatrix sR hl hll _ hn) fun n1 hn1 => ?_
  cases hm : isMat ll
  · simp (maxSteps := 2000000) -implicitDefEqProofs (disch := omega) only [xsW, xsC, xsD, xsE, fillA, reduceCtorEq, Nat.reduceAdd, Nat.reduceSub, Nat.reduceLeDiff, Nat.reduceMul, Int.reduceLT, Int.reduceLE, Int.reduceEq, Int.reduceNe, Int.reduceAdd, Int.reduceSub, Int.reduceMul, Int.reduceNeg, Int.reduceToNat]
    intro _ h2 _
    exact ⟨.nilsl, rfl, Sl.nil⟩
  · simp (maxSteps := 2000000) -implicitDefEqProofs (disch := omega) only [xsW, xsC, xsD, xsE, fillA, reduceCtorEq, Nat.reduceAdd, Nat.reduceSub, Nat.reduceLeDiff, Nat.reduceMul, Int.reduceLT, Int.reduceLE, Int.reduceEq, Int.reduceNe, Int.reduceAdd, Int.reduceSub, Int.reduceMul, Int.reduceNeg, Int.reduceToNat]
    refine loop_for 12 0 (fun k p => [v, .any, .nilsl, .int .i64 0, p.1, .int .i64 k, .any, .any, .any, .any, .any, .any, .any, .any, .any, .any, .any, .any, .any, .any, .any, .any]) (fun _ (p : AV × AH) => p.2)
      (fun k p m => Acc n1 m p.2 2 1 p.1 (ints (kindsL ll k)) ∧ n1 ≤ m ∧ ∀ j, j < n1 → p.2 j = h j) (.nilsl, h) (Nat.zero_le _) ⟨Acc.nil, by omega, fun _ _ => rfl⟩ (by simp [LeL, Le1]) (fun _ _ h => h) ?_
    rintro k ⟨out, hp⟩ m - hk hm2 ⟨acc, hle, hold⟩
    simp only at acc hold
    simp (maxSteps := 2000000) -implicitDefEqProofs (disch := omega) only [xsW, xsC, xsD, xsE, fillA, reduceCtorEq, Nat.reduceAdd, Nat.reduceSub, Nat.reduceLeDiff, Nat.reduceMul, Int.reduceLT, Int.reduceLE, Int.reduceEq, Int.reduceNe, Int.reduceAdd, Int.reduceSub, Int.reduceMul, Int.reduceNeg, Int.reduceToNat]
    (refine cd_dec (fun c1 => ?_) (fun c1 => ?_) <;> simp (maxSteps := 2000000) -implicitDefEqProofs (disch := omega) only [xsW, xsC, xsD, xsE, fillA, reduceCtorEq, Nat.reduceAdd, Nat.reduceSub, Nat.reduceLeDiff, Nat.reduceMul, Int.reduceLT, Int.reduceLE, Int.reduceEq, Int.reduceNe, Int.reduceAdd, Int.reduceSub, Int.reduceMul, Int.reduceNeg, Int.reduceToNat,  c1])
    · refine q_use (impl_isOfKind (sR.keep (h' := hp) (fun i _ hi9 => by simp (disch := omega) only [upd_other, hold])) hm (k : Int) (by omega) (by omega) _ (by omega)) fun n2 hn2 => ?_
      have hx : kindsL ll (k + 1) = kindsL ll k ++ [if kindB ll (k : Int) = true then 1 else 0] := by rw [kindsL, rowOf_succ]; rfl
      have hlen : (kindsL ll k).length = k := rowOf_len _ _
      cases hb : kindB ll (k : Int)
      all_goals
        rw [hb] at hx
        simp (maxSteps := 2000000) -implicitDefEqProofs (disch := omega) only [xsW, xsC, xsD, xsE, fillA, reduceCtorEq, Nat.reduceAdd, Nat.reduceSub, Nat.reduceLeDiff, Nat.reduceMul, Int.reduceLT, Int.reduceLE, Int.reduceEq, Int.reduceNe, Int.reduceAdd, Int.reduceSub, Int.reduceMul, Int.reduceNeg, Int.reduceToNat]
        refine app_int (y := if _ = true then 1 else 0) (acc.keep (fun i _ hi9 => by simp (disch := omega) only [upd_other]) |>.wide (Nat.le_refl _) (by omega)) (by omega) (by omega) ⟨rfl, _, upd_same _ _ _, by simp, by simp [cutA]; rfl⟩ (by omega) fun v' h' n' q1 q2 q3 => ?_
        simp (maxSteps := 2000000) -implicitDefEqProofs (disch := omega) only [xsW, xsC, xsD, xsE, fillA, reduceCtorEq, Nat.reduceAdd, Nat.reduceSub, Nat.reduceLeDiff, Nat.reduceMul, Int.reduceLT, Int.reduceLE, Int.reduceEq, Int.reduceNe, Int.reduceAdd, Int.reduceSub, Int.reduceMul, Int.reduceNeg, Int.reduceToNat]
        exact ⟨(v', h'), ⟨by rw [hx]; exact q2, by omega, fun j hj => (q3 j hj).trans (by rw [upd_other (by omega), hold j hj])⟩, by omega, by omega, (by simp [LeL, Le1]), fun _ _ h => h⟩
    · have e : k = 12 := by omega
      subst e
      intro _ h2 hh
      exact ⟨out, rfl, (acc.keep fun i a b => hh i (by omega) b).sl.wide (by omega) (Nat.le_refl _)⟩
end
def c_spec_l01From : F := ⟨(.seq (.reg false [⟨some 2, .mv (.c .nilptr), none⟩]) (.seq (.reg false [⟨some 5, .mv (.t 0), none⟩, ⟨some 6, .mv (.t 0), none⟩, ⟨some 7, .len (.t 6), none⟩, ⟨some 8, .cvi .u64 (.t 7), none⟩, ⟨some 9, .bin .add (.c (.int .u64 13431)) (.t 8), none⟩, ⟨some 10, .build [.nilsl, (.int .i64 0), (.int .u64 0)] [(0, (1, (.t 5))), (2, (1, (.t 9)))], none⟩, ⟨some 11, .box 85 (.t 10), none⟩, ⟨some 3, .mv (.t 11), none⟩]) (.seq (.seq (.reg false [⟨some 4, .mv (.c (.int .i64 0)), none⟩]) (.block 0 (.loop (.seq (.seq (.reg false [⟨some 12, .mv (.t 4), none⟩, ⟨some 13, .mv (.t 0), none⟩, ⟨some 14, .len (.t 13), none⟩, ⟨some 15, .bin .lss (.t 12) (.t 14), none⟩, ⟨some 16, .mv (.t 15), none⟩, ⟨some 17, .mv (.t 4), some (16, true)⟩, ⟨some 18, .bin .lss (.t 17) (.c (.int .i64 4096)), some (16, true)⟩, ⟨some 19, .pick (.t 16) (.t 18) (.c (.bool false)), none⟩]) (.cond (.t 19) .skip (.exit 0))) (.seq (.block 1 (.reg true [⟨some 22, .mv (.t 3), none⟩, ⟨some 23, .mv (.t 3), none⟩, ⟨some 24, .nck (.t 23), none⟩, ⟨some 25, .fa 2 (.t 24), none⟩, ⟨some 26, .ld1 (.t 25), none⟩, ⟨some 27, .bin .mul (.t 26) (.c (.int .u64 1099511628211)), none⟩, ⟨some 28, .mv (.t 0), none⟩, ⟨some 29, .mv (.t 4), none⟩, ⟨some 30, .ia 1 (.t 28) (.t 29), none⟩, ⟨some 31, .ld1 (.t 30), none⟩, ⟨some 32, .cvi .u64 (.t 31), none⟩, ⟨some 33, .bin .add (.t 27) (.t 32), none⟩, ⟨some 34, .bin .add (.t 33) (.c (.int .u64 167)), none⟩, ⟨some 35, .nck (.t 22), none⟩, ⟨some 36, .fa 2 (.t 35), none⟩, ⟨none, .st 1 (.t 36) (.t 34), none⟩])) (.reg false [⟨some 20, .mv (.t 4), none⟩, ⟨some 21, .bin .add (.t 20) (.c (.int .i64 1)), none⟩, ⟨some 4, .mv (.t 21), none⟩])))))) (.seq (.reg false [⟨some 37, .mv (.t 3), none⟩, ⟨some 2, .mv (.t 37), none⟩]) .ret)))), 38, [(.t 2)]⟩
theorem k_spec_l01From : compF Try.prog Try.f63 = some c_spec_l01From := by kernel_rfl
def c_spec_l01Next : F := ⟨(.seq (.reg false [⟨some 4, .mv (.c (.int .i64 0)), none⟩]) (.seq (.seq (.reg false [⟨some 6, .mv (.t 1), none⟩, ⟨some 7, .bin .lss (.t 6) (.c (.int .i64 1)), none⟩]) (.cond (.t 7) (.seq (.reg false [⟨some 4, .mv (.c (.int .i64 0)), none⟩]) .ret) .skip)) (.seq (.reg false [⟨some 8, .mv (.t 0), none⟩, ⟨some 9, .mv (.t 0), none⟩, ⟨some 10, .nck (.t 9), none⟩, ⟨some 11, .fa 2 (.t 10), none⟩, ⟨some 12, .ld1 (.t 11), none⟩, ⟨some 13, .bin .mul (.t 12) (.c (.int .u64 6364136223846793005)), none⟩, ⟨some 14, .bin .add (.t 13) (.c (.int .u64 1442695040888963407)), none⟩, ⟨some 15, .nck (.t 8), none⟩, ⟨some 16, .fa 2 (.t 15), none⟩, ⟨none, .st 1 (.t 16) (.t 14), none⟩]) (.seq (.reg false [⟨some 17, .mv (.t 0), none⟩, ⟨some 18, .nck (.t 17), none⟩, ⟨some 19, .fa 2 (.t 18), none⟩, ⟨some 20, .ld1 (.t 19), none⟩, ⟨some 21, .bin .shr (.t 20) (.c (.int .u64 31)), none⟩, ⟨some 22, .bin .and (.t 21) (.c (.int .u64 1073741823)), none⟩, ⟨some 23, .cvi .i64 (.t 22), none⟩, ⟨some 5, .mv (.t 23), none⟩]) (.seq (.seq (.reg true [⟨some 24, .mv (.t 0), none⟩, ⟨some 25, .nck (.t 24), none⟩, ⟨some 26, .fa 1 (.t 25), none⟩, ⟨some 27, .ld1 (.t 26), none⟩, ⟨some 28, .mv (.t 0), none⟩, ⟨some 29, .nck (.t 28), none⟩, ⟨some 30, .fa 0 (.t 29), none⟩, ⟨some 31, .ld1 (.t 30), none⟩, ⟨some 32, .len (.t 31), none⟩, ⟨some 33, .bin .lss (.t 27) (.t 32), none⟩]) (.cond (.t 33) (.seq (.reg true [⟨some 34, .mv (.t 5), none⟩, ⟨some 35, .mv (.t 0), none⟩, ⟨some 36, .nck (.t 35), none⟩, ⟨some 37, .fa 0 (.t 36), none⟩, ⟨some 38, .ld1 (.t 37), none⟩, ⟨some 39, .mv (.t 0), none⟩, ⟨some 40, .nck (.t 39), none⟩, ⟨some 41, .fa 1 (.t 40), none⟩, ⟨some 42, .ld1 (.t 41), none⟩, ⟨some 43, .ia 1 (.t 38) (.t 42), none⟩, ⟨some 44, .ld1 (.t 43), none⟩, ⟨some 45, .cvi .i64 (.t 44), none⟩, ⟨some 46, .bin .add (.t 34) (.t 45), none⟩, ⟨some 5, .mv (.t 46), none⟩]) (.reg false [⟨some 47, .mv (.t 0), none⟩, ⟨some 48, .mv (.t 0), none⟩, ⟨some 49, .nck (.t 48), none⟩, ⟨some 50, .fa 1 (.t 49), none⟩, ⟨some 51, .ld1 (.t 50), none⟩, ⟨some 52, .bin .add (.t 51) (.c (.int .i64 1)), none⟩, ⟨some 53, .nck (.t 47), none⟩, ⟨some 54, .fa 1 (.t 53), none⟩, ⟨none, .st 1 (.t 54) (.t 52), none⟩])) .skip)) (.seq (.reg false [⟨some 55, .mv (.t 5), none⟩, ⟨some 56, .mv (.t 1), none⟩, ⟨some 57, .bin .rem (.t 55) (.t 56), none⟩, ⟨some 4, .mv (.t 57), none⟩]) .ret)))))), 58, [(.t 4)]⟩
theorem k_spec_l01Next : compF Try.prog Try.f82 = some c_spec_l01Next := by kernel_rfl
def c_spec_l01Pick : F := ⟨(.seq (.reg false [⟨some 4, .mv (.c (.int .i64 0)), none⟩]) (.seq (.reg false [⟨some 5, .mv (.t 1), none⟩, ⟨some 6, .mv (.t 0), none⟩, ⟨some 7, .mv (.t 1), none⟩, ⟨some 8, .len (.t 7), none⟩, ⟨some 9, .call (.f 82) [(.t 6), (.t 8)], none⟩, ⟨some 10, .ia 1 (.t 5) (.t 9), none⟩, ⟨some 11, .ld1 (.t 10), none⟩, ⟨some 4, .mv (.t 11), none⟩]) .ret)), 12, [(.t 4)]⟩
theorem k_spec_l01Pick : compF Try.prog Try.f84 = some c_spec_l01Pick := by kernel_rfl
def c_spec_l01DrawPart : F := ⟨(.seq (.reg false [⟨some 4, .mv (.c (.int .i64 0)), none⟩]) (.seq (.reg false [⟨some 5, .mv (.t 0), none⟩, ⟨some 6, .mv (.t 1), none⟩, ⟨some 7, .bin .mul (.c (.int .i64 2)) (.t 6), none⟩, ⟨some 8, .bin .add (.t 7) (.c (.int .i64 1)), none⟩, ⟨some 9, .call (.f 82) [(.t 5), (.t 8)], none⟩, ⟨some 10, .mv (.t 1), none⟩, ⟨some 11, .bin .sub (.t 9) (.t 10), none⟩, ⟨some 4, .mv (.t 11), none⟩]) .ret)), 12, [(.t 4)]⟩
theorem k_spec_l01DrawPart : compF Try.prog Try.f95 = some c_spec_l01DrawPart := by kernel_rfl
def c_spec_l01Near : F := ⟨(.seq (.reg false [⟨some 4, .mv (.c (.int .i64 0)), none⟩]) (.seq (.seq (.reg false [⟨some 5, .mv (.t 0), none⟩, ⟨some 6, .call (.f 82) [(.t 5), (.c (.int .i64 14))], none⟩, ⟨some 7, .bin .eql (.t 6) (.c (.int .i64 0)), none⟩]) (.cond (.t 7) (.seq (.reg false [⟨some 8, .mv (.t 0), none⟩, ⟨some 9, .mv (.t 1), none⟩, ⟨some 10, .bin .add (.t 9) (.c (.int .i64 1)), none⟩, ⟨some 11, .lit 2 1 4 [(.int .i64 0)] [(0, (.c (.int .i64 (-1)))), (1, (.t 10)), (2, (.c (.int .i64 1099511627776))), (3, (.c (.int .i64 (-4611686018427387904))))], none⟩, ⟨some 12, .call (.f 84) [(.t 8), (.t 11)], none⟩, ⟨some 4, .mv (.t 12), none⟩]) .ret) .skip)) (.seq (.reg false [⟨some 13, .mv (.t 0), none⟩, ⟨some 14, .mv (.t 1), none⟩, ⟨some 15, .bin .add (.t 14) (.c (.int .i64 1)), none⟩, ⟨some 16, .call (.f 82) [(.t 13), (.t 15)], none⟩, ⟨some 4, .mv (.t 16), none⟩]) .ret))), 17, [(.t 4)]⟩
theorem k_spec_l01Near : compF Try.prog Try.f65 = some c_spec_l01Near := by kernel_rfl

def Rnd (bnd b : Nat) (h : AH) : Prop := ∃ (vc : AV) (code : List Int) (a : Nat) (hash : Int), h b = some ⟨85, [vc, .int .i64 a, .int .u64 hash], true, 0⟩ ∧ Sl false 0 bnd h 1 vc (bytesA code) ∧ code.length ≤ 4096 ∧ (∀ x ∈ code, 0 ≤ x ∧ x ≤ 255) ∧ a ≤ code.length
theorem Rnd.keep {bnd b : Nat} {h h' : AH} (r : Rnd bnd b h) (hb : h' b = h b) (k : ∀ j, j < bnd → h' j = h j) : Rnd bnd b h' := by
  obtain ⟨vc, code, a, hash, h1, h2, h3⟩ := r
  exact ⟨vc, code, a, hash, by rw [hb]; exact h1, h2.keep fun j _ hj => k j hj, h3⟩
theorem Rnd.blk {bnd b : Nat} {h : AH} (r : Rnd bnd b h) : ∃ bl, h b = some bl ∧ bl.wr = true := by
  obtain ⟨vc, code, a, hash, h1, _⟩ := r
  exact ⟨_, h1, rfl⟩
theorem and_small (x : Int) : 0 ≤ bitv .and .u64 x 1073741823 ∧ bitv .and .u64 x 1073741823 ≤ 1073741823 := by
  simp only [bitv]
  have h : (BitVec.ofInt IntKind.u64.bits x &&& BitVec.ofInt IntKind.u64.bits 1073741823).toNat ≤ 1073741823 := by
    rw [BitVec.toNat_and]
    refine Nat.le_trans Nat.and_le_right ?_
    decide
  generalize (BitVec.ofInt IntKind.u64.bits x &&& BitVec.ofInt IntKind.u64.bits 1073741823).toNat = m at h
  have : IntKind.u64.wrap (m : Int) = m := by simp [IntKind.wrap, IntKind.bits, IntKind.signed]; omega
  rw [this]
  omega
def NextP (k : Int) (x : AV) : Prop := ∃ y : Int, x = .int .i64 y ∧ 0 ≤ y ∧ (1 ≤ k → y < k) ∧ (k < 1 → y = 0)
def PickP (l : List Int) (x : AV) : Prop := ∃ y : Int, x = .int .i64 y ∧ y ∈ l
def PartP (k : Int) (x : AV) : Prop := ∃ y : Int, x = .int .i64 y ∧ -k ≤ y ∧ y ≤ k
def Same (b : Nat) (h' h : AH) : Prop := ∀ j, j ≠ b → h' j = h j
section
variable {bnd b : Nat} {h : AH}
theorem spec_l01Next (r : Rnd bnd b h) (hb : bnd ≤ b) (k : Int) (n : Nat) (hn : b < n) :
    MQ Try.prog 82 [.ptr b 0, .int .i64 k] h n b (b + 1) fun x h' n' => n' = n ∧ NextP k x ∧ Rnd bnd b h' ∧ Same b h' h := by
  refine mq_intro Try.func82 k_spec_l01Next ?_
  obtain ⟨vc, code, a, hash, h1, h2, h3, h4, h5⟩ := r
  have r0 : Rnd bnd b h := ⟨vc, code, a, hash, h1, h2, h3, h4, h5⟩
  simp (maxSteps := 2000000) -implicitDefEqProofs (disch := omega) only [c_spec_l01Next, xsW, xsC, xsD, xsE, fillA, reduceCtorEq, Nat.reduceAdd, Nat.reduceSub, Nat.reduceLeDiff, Nat.reduceMul, Int.reduceLT, Int.reduceLE, Int.reduceEq, Int.reduceNe, Int.reduceAdd, Int.reduceSub, Int.reduceMul, Int.reduceNeg, Int.reduceToNat]
  (refine cd_dec (fun c1 => ?_) (fun c1 => ?_) <;> simp (maxSteps := 2000000) -implicitDefEqProofs (disch := omega) only [xsW, xsC, xsD, xsE, fillA, reduceCtorEq, Nat.reduceAdd, Nat.reduceSub, Nat.reduceLeDiff, Nat.reduceMul, Int.reduceLT, Int.reduceLE, Int.reduceEq, Int.reduceNe, Int.reduceAdd, Int.reduceSub, Int.reduceMul, Int.reduceNeg, Int.reduceToNat,  c1])
  · exact ⟨⟨0, rfl, by omega, fun h => by omega, fun _ => rfl⟩, r0, fun _ _ => rfl⟩
  · simp (maxSteps := 2000000) -implicitDefEqProofs (disch := omega) only [xsW, xsC, xsD, xsE, fillA, reduceCtorEq, Nat.reduceAdd, Nat.reduceSub, Nat.reduceLeDiff, Nat.reduceMul, Int.reduceLT, Int.reduceLE, Int.reduceEq, Int.reduceNe, Int.reduceAdd, Int.reduceSub, Int.reduceMul, Int.reduceNeg, Int.reduceToNat,  h1]
    refine ⟨hn, .inr (by omega), ?_⟩
    generalize IntKind.u64.wrap (IntKind.u64.wrap (hash * 6364136223846793005) + 1442695040888963407) = hash2
    have hx := and_small (hash2.fdiv (2 ^ min 31 IntKind.u64.bits))
    generalize bitv BinOp.and IntKind.u64 (hash2.fdiv (2 ^ min 31 IntKind.u64.bits)) 1073741823 = X at hx ⊢
    have hup : ∀ (a' : Nat) (hash' : Int) (h2' : AH), (∀ j, j ≠ b → h2' j = h j) → h2' b = some ⟨85, [vc, .int .i64 a', .int .u64 hash'], true, 0⟩ → a' ≤ code.length → Rnd bnd b h2' := fun a' hash' h2' e1 e2 e3 =>
      ⟨vc, code, a', hash', e2, h2.keep fun j _ hj => e1 j (by omega), h3, h4, e3⟩
    have fin : ∀ y : Int, 0 ≤ y → NextP k (.int .i64 (y.tmod k)) := fun y hy => ⟨_, rfl, Int.tmod_nonneg _ hy, fun _ => Int.tmod_lt_of_pos _ (by omega), fun _ => by omega⟩
    have hsl : slen vc = code.length := by have := h2.len; rw [bytesA_len] at this; omega
    refine ⟨by unfold in64; omega, ?_⟩
    simp (maxSteps := 2000000) -implicitDefEqProofs (disch := omega) only [xsW, xsC, xsD, xsE, fillA, reduceCtorEq, Nat.reduceAdd, Nat.reduceSub, Nat.reduceLeDiff, Nat.reduceMul, Int.reduceLT, Int.reduceLE, Int.reduceEq, Int.reduceNe, Int.reduceAdd, Int.reduceSub, Int.reduceMul, Int.reduceNeg, Int.reduceToNat,  h2.ln, hsl]
    (refine cd_dec (fun c2 => ?_) (fun c2 => ?_) <;> simp (maxSteps := 2000000) -implicitDefEqProofs (disch := omega) only [xsW, xsC, xsD, xsE, fillA, reduceCtorEq, Nat.reduceAdd, Nat.reduceSub, Nat.reduceLeDiff, Nat.reduceMul, Int.reduceLT, Int.reduceLE, Int.reduceEq, Int.reduceNe, Int.reduceAdd, Int.reduceSub, Int.reduceMul, Int.reduceNeg, Int.reduceToNat,  c2])
    · have ha : a < code.length := by omega
      have hby := h4 _ (getD_mem (d := 0) ha)
      have hbel := h2.below (by omega)
      have hld := fun (K : AV → AH → Nat → Prop) (h' : AH) (n : Nat) => h2.ld (k := a) (by rw [bytesA_len]; exact ha) K h' n
      rw [bytesA_get code a ha] at hld
      simp (maxSteps := 2000000) -implicitDefEqProofs (disch := omega) only [xsW, xsC, xsD, xsE, fillA, reduceCtorEq, Nat.reduceAdd, Nat.reduceSub, Nat.reduceLeDiff, Nat.reduceMul, Int.reduceLT, Int.reduceLE, Int.reduceEq, Int.reduceNe, Int.reduceAdd, Int.reduceSub, Int.reduceMul, Int.reduceNeg, Int.reduceToNat,  h2.ia, hsl, hld]
      exact ⟨hn, .inr (by omega), fin _ (by omega), hup (a + 1) hash2 _ (fun j hj => upd_other hj) (by rw [upd_same, Int.natCast_add]; rfl) (by omega), fun j hj => upd_other hj⟩
    · exact ⟨fin _ (by omega), hup a hash2 _ (fun j hj => upd_other hj) (by rw [upd_same]) (by omega), fun j hj => upd_other hj⟩
theorem spec_l01Pick {w : Bool} {lo hi : Nat} {v : AV} {l : List Int} (r : Rnd bnd b h) (hb : bnd ≤ b) (s : Ints w lo hi h v l) (hd : b < lo) (hl : 0 < l.length) (hl2 : l.length ≤ 100) (n : Nat) (hn : b < n) :
    MQ Try.prog 84 [.ptr b 0, v] h n b (b + 1) fun x h' n' => n' = n ∧ PickP l x ∧ Rnd bnd b h' ∧ Same b h' h := by
  refine mq_intro Try.func84 k_spec_l01Pick ?_
  simp (maxSteps := 2000000) -implicitDefEqProofs (disch := omega) only [c_spec_l01Pick, s.ln, xsW, xsC, xsD, xsE, fillA, reduceCtorEq, Nat.reduceAdd, Nat.reduceSub, Nat.reduceLeDiff, Nat.reduceMul, Int.reduceLT, Int.reduceLE, Int.reduceEq, Int.reduceNe, Int.reduceAdd, Int.reduceSub, Int.reduceMul, Int.reduceNeg, Int.reduceToNat]
  refine mq_use (spec_l01Next r hb _ n hn) (fun i a c => .inr ⟨by omega, by omega⟩) fun x h' n' hn' ⟨en, ⟨y, hy, y0, y1, _⟩, r', sm⟩ => ?_
  subst en
  subst hy
  have y2 := y1 (by omega)
  obtain ⟨m, rfl⟩ : ∃ m : Nat, y = m := ⟨y.toNat, by omega⟩
  have s' := s.keep (h' := h') fun i a c => sm i (by omega)
  simp (maxSteps := 2000000) -implicitDefEqProofs (disch := omega) only [xsW, xsC, xsD, xsE, fillA, reduceCtorEq, Nat.reduceAdd, Nat.reduceSub, Nat.reduceLeDiff, Nat.reduceMul, Int.reduceLT, Int.reduceLE, Int.reduceEq, Int.reduceNe, Int.reduceAdd, Int.reduceSub, Int.reduceMul, Int.reduceNeg, Int.reduceToNat,  s'.ia, s'.ld]
  exact ⟨⟨_, rfl, getD_mem (by omega)⟩, r', sm⟩
theorem spec_l01DrawPart (r : Rnd bnd b h) (hb : bnd ≤ b) (k : Int) (h0 : 0 ≤ k) (h1 : k ≤ 1000000000000) (n : Nat) (hn : b < n) :
    MQ Try.prog 95 [.ptr b 0, .int .i64 k] h n b (b + 1) fun x h' n' => n' = n ∧ PartP k x ∧ Rnd bnd b h' ∧ Same b h' h := by
  refine mq_intro Try.func95 k_spec_l01DrawPart ?_
  simp (maxSteps := 2000000) -implicitDefEqProofs (disch := omega) only [c_spec_l01DrawPart, xsW, xsC, xsD, xsE, fillA, reduceCtorEq, Nat.reduceAdd, Nat.reduceSub, Nat.reduceLeDiff, Nat.reduceMul, Int.reduceLT, Int.reduceLE, Int.reduceEq, Int.reduceNe, Int.reduceAdd, Int.reduceSub, Int.reduceMul, Int.reduceNeg, Int.reduceToNat]
  refine mq_use (spec_l01Next r hb _ n hn) (fun i a c => .inr ⟨by omega, by omega⟩) fun x h' n' hn' ⟨en, ⟨y, hy, y0, y1, _⟩, r', sm⟩ => ?_
  subst en
  subst hy
  have y2 := y1 (by omega)
  simp (maxSteps := 2000000) -implicitDefEqProofs (disch := omega) only [xsW, xsC, xsD, xsE, fillA, reduceCtorEq, Nat.reduceAdd, Nat.reduceSub, Nat.reduceLeDiff, Nat.reduceMul, Int.reduceLT, Int.reduceLE, Int.reduceEq, Int.reduceNe, Int.reduceAdd, Int.reduceSub, Int.reduceMul, Int.reduceNeg, Int.reduceToNat]
  exact ⟨⟨_, rfl, by omega, by omega⟩, r', sm⟩
theorem spec_l01Near (r : Rnd bnd b h) (hb : bnd ≤ b) (k : Int) (h0 : 0 ≤ k) (h1 : k ≤ 1000000) (n : Nat) (hn : b < n) :
    MQ Try.prog 65 [.ptr b 0, .int .i64 k] h n b (b + 1) fun x h' n' => PartP 4611686018427387904 x ∧ Rnd bnd b h' ∧ (∀ j, j < n → j ≠ b → h' j = h j) ∧ ∀ j, n' ≤ j → h' j = h j := by
  refine mq_intro Try.func65 k_spec_l01Near ?_
  simp (maxSteps := 2000000) -implicitDefEqProofs (disch := omega) only [c_spec_l01Near, xsW, xsC, xsD, xsE, fillA, reduceCtorEq, Nat.reduceAdd, Nat.reduceSub, Nat.reduceLeDiff, Nat.reduceMul, Int.reduceLT, Int.reduceLE, Int.reduceEq, Int.reduceNe, Int.reduceAdd, Int.reduceSub, Int.reduceMul, Int.reduceNeg, Int.reduceToNat]
  refine mq_use (spec_l01Next r hb _ n hn) (fun i a c => .inr ⟨by omega, by omega⟩) fun x h' n' hn' ⟨en, ⟨y, hy, y0, y1, _⟩, r', sm⟩ => ?_
  subst en
  subst hy
  have y2 := y1 (by omega)
  simp (maxSteps := 2000000) -implicitDefEqProofs (disch := omega) only [xsW, xsC, xsD, xsE, fillA, reduceCtorEq, Nat.reduceAdd, Nat.reduceSub, Nat.reduceLeDiff, Nat.reduceMul, Int.reduceLT, Int.reduceLE, Int.reduceEq, Int.reduceNe, Int.reduceAdd, Int.reduceSub, Int.reduceMul, Int.reduceNeg, Int.reduceToNat]
  (refine cd_dec (fun c1 => ?_) (fun c1 => ?_) <;> simp (maxSteps := 2000000) -implicitDefEqProofs (disch := omega) only [xsW, xsC, xsD, xsE, fillA, reduceCtorEq, Nat.reduceAdd, Nat.reduceSub, Nat.reduceLeDiff, Nat.reduceMul, Int.reduceLT, Int.reduceLE, Int.reduceEq, Int.reduceNe, Int.reduceAdd, Int.reduceSub, Int.reduceMul, Int.reduceNeg, Int.reduceToNat,  c1])
  · refine mq_use (spec_l01Pick (b := b) (bnd := bnd) (w := true) (lo := n') (hi := n' + 1) (l := [-1, k + 1, 1099511627776, -4611686018427387904]) (r'.keep (upd_other (by omega)) fun j hj => upd_other (by omega)) hb (Sl.of_sl (upd_same _ _ _) rfl (Nat.le_refl _) (Nat.le_refl _) (by omega)) (by omega) (by simp) (by simp) _ (by omega)) (fun i a c => .inr ⟨by omega, by omega⟩) fun x2 h2 n2 hn2 ⟨en, ⟨z, hz, z0⟩, r2, sm2⟩ => ?_
    subst en
    subst hz
    simp only [List.mem_cons, List.not_mem_nil, or_false] at z0
    simp (maxSteps := 2000000) -implicitDefEqProofs (disch := omega) only [xsW, xsC, xsD, xsE, fillA, reduceCtorEq, Nat.reduceAdd, Nat.reduceSub, Nat.reduceLeDiff, Nat.reduceMul, Int.reduceLT, Int.reduceLE, Int.reduceEq, Int.reduceNe, Int.reduceAdd, Int.reduceSub, Int.reduceMul, Int.reduceNeg, Int.reduceToNat]
    exact ⟨⟨z, rfl, by omega, by omega⟩, r2, fun j hj hne => by rw [sm2 j hne, upd_other (by omega), sm j hne], fun j hj => by rw [sm2 j (by omega), upd_other (by omega), sm j (by omega)]⟩
  · refine mq_use (spec_l01Next r' hb _ n' (by omega)) (fun i a c => .inr ⟨by omega, by omega⟩) fun x2 h2 n2 hn2 ⟨en, ⟨z, hz, z0, z1, _⟩, r2, sm2⟩ => ?_
    subst en
    subst hz
    have z2 := z1 (by omega)
    simp (maxSteps := 2000000) -implicitDefEqProofs (disch := omega) only [xsW, xsC, xsD, xsE, fillA, reduceCtorEq, Nat.reduceAdd, Nat.reduceSub, Nat.reduceLeDiff, Nat.reduceMul, Int.reduceLT, Int.reduceLE, Int.reduceEq, Int.reduceNe, Int.reduceAdd, Int.reduceSub, Int.reduceMul, Int.reduceNeg, Int.reduceToNat]
    exact ⟨⟨z, rfl, by omega, by omega⟩, r2, fun j hj hne => by rw [sm2 j hne, sm j hne], fun j hj => by rw [sm2 j (by omega), sm j (by omega)]⟩
theorem spec_l01From {hi : Nat} {v : AV} {code : List Int} (s : Sl false 0 hi h 1 v (bytesA code)) (hl : code.length ≤ 4096) (hc : ∀ x ∈ code, 0 ≤ x ∧ x ≤ 255) (n : Nat) (hn : hi ≤ n) :
    FQ Try.prog 63 [v] h n fun x h' n' => x = .ptr n 0 ∧ n < n' ∧ Rnd hi n (fun j => if j = n then h' j else h j) := by
  refine fq_intro Try.func63 k_spec_l01From ?_
  have hsl : slen v = code.length := by have := s.len; rw [bytesA_len] at this; omega
  have x1 := one_any s.any
  have x2 := sto_any s.any
  have x3 := cel_any s.any
  simp (maxSteps := 2000000) -implicitDefEqProofs (disch := omega) only [c_spec_l01From, s.ln, hsl, x1, x2, x3, xsW, xsC, xsD, xsE, fillA, reduceCtorEq, Nat.reduceAdd, Nat.reduceSub, Nat.reduceLeDiff, Nat.reduceMul, Int.reduceLT, Int.reduceLE, Int.reduceEq, Int.reduceNe, Int.reduceAdd, Int.reduceSub, Int.reduceMul, Int.reduceNeg, Int.reduceToNat]
  refine loop_for code.length 0 (fun k _ => [v, .any, .nilptr, .ptr n 0, .int .i64 k, .any, .any, .any, .any, .any, .any, .any, .any, .any, .any, .any, .any, .any, .any, .any, .any, .any, .any, .any, .any, .any, .any, .any, .any, .any, .any, .any, .any, .any, .any, .any, .any, .any]) (fun _ (hash : Int) => upd h n (some ⟨85, [v, .int .i64 0, .int .u64 hash], true, 0⟩))
    (fun _ _ _ => True) _ (Nat.zero_le _) trivial (by simp [LeL, Le1]) (fun _ _ h => h) ?_
  rintro k hash n1 - hk hn1 -
  simp (maxSteps := 2000000) -implicitDefEqProofs (disch := omega) only [xsW, xsC, xsD, xsE, fillA, reduceCtorEq, Nat.reduceAdd, Nat.reduceSub, Nat.reduceLeDiff, Nat.reduceMul, Int.reduceLT, Int.reduceLE, Int.reduceEq, Int.reduceNe, Int.reduceAdd, Int.reduceSub, Int.reduceMul, Int.reduceNeg, Int.reduceToNat,  s.ln, hsl]
  (refine gd_dec (fun c1 => ?_) (fun c1 => ?_) <;> simp (maxSteps := 2000000) -implicitDefEqProofs (disch := omega) only [xsW, xsC, xsD, xsE, fillA, reduceCtorEq, Nat.reduceAdd, Nat.reduceSub, Nat.reduceLeDiff, Nat.reduceMul, Int.reduceLT, Int.reduceLE, Int.reduceEq, Int.reduceNe, Int.reduceAdd, Int.reduceSub, Int.reduceMul, Int.reduceNeg, Int.reduceToNat,  c1])
  · have hk2 : k < code.length := by omega
    have hby := hc _ (getD_mem (d := 0) hk2)
    have hbel := s.below (by omega)
    have hld := fun (K : AV → AH → Nat → Prop) (h' : AH) (n : Nat) => s.ld (k := k) (by rw [bytesA_len]; exact hk2) K h' n
    rw [bytesA_get code k hk2] at hld
    simp (maxSteps := 2000000) -implicitDefEqProofs (disch := omega) only [xsW, xsC, xsD, xsE, fillA, reduceCtorEq, Nat.reduceAdd, Nat.reduceSub, Nat.reduceLeDiff, Nat.reduceMul, Int.reduceLT, Int.reduceLE, Int.reduceEq, Int.reduceNe, Int.reduceAdd, Int.reduceSub, Int.reduceMul, Int.reduceNeg, Int.reduceToNat,  s.ia, hsl, hld]
    exact ⟨_, by omega, by omega, (by simp [LeL, Le1]), fun _ _ h => h⟩
  · intro h0 h2 hh
    refine ⟨by omega, v, code, 0, hash, ?_, s.keep fun j _ hj => if_neg (by omega), hl, hc, Nat.zero_le _⟩
    show (if n = n then h2 n else h n) = _
    rw [if_pos rfl, hh n (Nat.le_refl _) (by omega), upd_same]
    rfl
end
def c_spec_l01DrawM : F := ⟨(.seq (.reg false [⟨some 6, .mv (.c .nilsl), none⟩]) (.seq (.reg false [⟨some 11, .lit 29 1 0 [.nilsl] [], none⟩, ⟨some 7, .mv (.t 11), none⟩]) (.seq (.seq (.reg false [⟨some 8, .mv (.c (.int .i64 0)), none⟩]) (.block 0 (.loop (.seq (.seq (.reg false [⟨some 12, .mv (.t 8), none⟩, ⟨some 13, .mv (.t 1), none⟩, ⟨some 14, .bin .lss (.t 12) (.t 13), none⟩]) (.cond (.t 14) .skip (.exit 0))) (.seq (.block 1 (.seq (.reg false [⟨some 17, .lit 2 1 0 [(.int .i64 0)] [], none⟩, ⟨some 9, .mv (.t 17), none⟩]) (.seq (.seq (.reg false [⟨some 10, .mv (.c (.int .i64 0)), none⟩]) (.block 2 (.loop (.seq (.seq (.reg false [⟨some 18, .mv (.t 10), none⟩, ⟨some 19, .mv (.t 1), none⟩, ⟨some 20, .bin .lss (.t 18) (.t 19), none⟩]) (.cond (.t 20) .skip (.exit 2))) (.seq (.block 3 (.reg false [⟨some 23, .mv (.t 9), none⟩, ⟨some 24, .mv (.t 0), none⟩, ⟨some 25, .mv (.t 2), none⟩, ⟨some 26, .call (.f 95) [(.t 24), (.t 25)], none⟩, ⟨some 27, .mv (.t 0), none⟩, ⟨some 28, .lit 2 1 3 [(.int .i64 0)] [(0, (.c (.int .i64 0))), (1, (.c (.int .i64 1))), (2, (.c (.int .i64 1)))], none⟩, ⟨some 29, .call (.f 84) [(.t 27), (.t 28)], none⟩, ⟨some 30, .bin .mul (.t 26) (.t 29), none⟩, ⟨some 31, .lit 2 1 1 [(.int .i64 0)] [(0, (.t 30))], none⟩, ⟨some 32, .app 2 1 8 [(.int .i64 0)] (.t 23) (.t 31), none⟩, ⟨some 9, .mv (.t 32), none⟩])) (.reg false [⟨some 21, .mv (.t 10), none⟩, ⟨some 22, .bin .add (.t 21) (.c (.int .i64 1)), none⟩, ⟨some 10, .mv (.t 22), none⟩])))))) (.reg false [⟨some 33, .mv (.t 7), none⟩, ⟨some 34, .mv (.t 9), none⟩, ⟨some 35, .lit 29 1 1 [.nilsl] [(0, (.t 34))], none⟩, ⟨some 36, .app 29 1 24 [.nilsl] (.t 33) (.t 35), none⟩, ⟨some 7, .mv (.t 36), none⟩])))) (.reg false [⟨some 15, .mv (.t 8), none⟩, ⟨some 16, .bin .add (.t 15) (.c (.int .i64 1)), none⟩, ⟨some 8, .mv (.t 16), none⟩])))))) (.seq (.reg false [⟨some 37, .mv (.t 7), none⟩, ⟨some 6, .mv (.t 37), none⟩]) .ret)))), 38, [(.t 6)]⟩
theorem k_spec_l01DrawM : compF Try.prog Try.f86 = some c_spec_l01DrawM := by kernel_rfl
def c_spec_l01DrawP : F := ⟨(.seq (.reg false [⟨some 4, .mv (.c .nilsl), none⟩]) (.seq (.reg false [⟨some 10, .mv (.t 0), none⟩, ⟨some 11, .mv (.t 1), none⟩, ⟨some 12, .call (.f 86) [(.t 10), (.t 11), (.c (.int .i64 3))], none⟩, ⟨some 5, .mv (.t 12), none⟩]) (.seq (.seq (.reg false [⟨some 6, .mv (.c (.int .i64 0)), none⟩]) (.block 0 (.loop (.seq (.seq (.reg false [⟨some 13, .mv (.t 6), none⟩, ⟨some 14, .mv (.t 1), none⟩, ⟨some 15, .bin .lss (.t 13) (.t 14), none⟩]) (.cond (.t 15) .skip (.exit 0))) (.seq (.block 1 (.seq (.reg false [⟨some 18, .mv (.t 5), none⟩, ⟨some 19, .mv (.t 6), none⟩, ⟨some 20, .ia 1 (.t 18) (.t 19), none⟩, ⟨some 21, .ld1 (.t 20), none⟩, ⟨some 7, .mv (.t 21), none⟩, ⟨some 8, .mv (.c (.int .i64 1)), none⟩]) (.seq (.reg false [⟨some 22, .mv (.t 7), none⟩, ⟨some 23, .mv (.t 6), none⟩, ⟨some 24, .ia 1 (.t 22) (.t 23), none⟩, ⟨none, .st 1 (.t 24) (.c (.int .i64 0)), none⟩]) (.seq (.seq (.reg false [⟨some 9, .mv (.c (.int .i64 0)), none⟩]) (.block 2 (.loop (.seq (.seq (.reg false [⟨some 25, .mv (.t 9), none⟩, ⟨some 26, .mv (.t 1), none⟩, ⟨some 27, .bin .lss (.t 25) (.t 26), none⟩]) (.cond (.t 27) .skip (.exit 2))) (.seq (.block 3 (.reg true [⟨some 30, .mv (.t 8), none⟩, ⟨some 31, .mv (.t 7), none⟩, ⟨some 32, .mv (.t 9), none⟩, ⟨some 33, .ia 1 (.t 31) (.t 32), none⟩, ⟨some 34, .ld1 (.t 33), none⟩, ⟨some 35, .mv (.t 7), none⟩, ⟨some 36, .mv (.t 9), none⟩, ⟨some 37, .ia 1 (.t 35) (.t 36), none⟩, ⟨some 38, .ld1 (.t 37), none⟩, ⟨some 39, .un .neg (.t 38), none⟩, ⟨some 40, .mx [(.t 34), (.t 39)], none⟩, ⟨some 41, .bin .add (.t 30) (.t 40), none⟩, ⟨some 8, .mv (.t 41), none⟩])) (.reg false [⟨some 28, .mv (.t 9), none⟩, ⟨some 29, .bin .add (.t 28) (.c (.int .i64 1)), none⟩, ⟨some 9, .mv (.t 29), none⟩])))))) (.reg false [⟨some 42, .mv (.t 7), none⟩, ⟨some 43, .mv (.t 6), none⟩, ⟨some 44, .mv (.t 8), none⟩, ⟨some 45, .mv (.t 0), none⟩, ⟨some 46, .call (.f 82) [(.t 45), (.c (.int .i64 3))], none⟩, ⟨some 47, .bin .add (.t 44) (.t 46), none⟩, ⟨some 48, .ia 1 (.t 42) (.t 43), none⟩, ⟨none, .st 1 (.t 48) (.t 47), none⟩]))))) (.reg false [⟨some 16, .mv (.t 6), none⟩, ⟨some 17, .bin .add (.t 16) (.c (.int .i64 1)), none⟩, ⟨some 6, .mv (.t 17), none⟩])))))) (.seq (.reg false [⟨some 49, .mv (.t 5), none⟩, ⟨some 4, .mv (.t 49), none⟩]) .ret)))), 50, [(.t 4)]⟩
theorem k_spec_l01DrawP : compF Try.prog Try.f110 = some c_spec_l01DrawP := by kernel_rfl

theorem Grow.re {n m : Nat} {h hp h' : AH} {ty : Nat} {out : AV} {ws : List AV} {ll : List (List Int)} (g : Grow n m h hp ty out ws ll) (k : ∀ i, n ≤ i → i < m → h' i = hp i) : Grow n m h' h' ty out ws ll :=
  ⟨g.le, fun _ _ => rfl, g.acc.keep k, g.rows.keep k, g.apart⟩
def BndL (k : Int) (l : List Int) : Prop := ∀ x ∈ l, -k ≤ x ∧ x ≤ k
def SqM (N : Nat) (k : Int) (ll : List (List Int)) : Prop := ll.length = N ∧ ∀ l ∈ ll, l.length = N ∧ BndL k l
theorem BndL.snoc {k : Int} {l : List Int} {x : Int} (h : BndL k l) (h1 : -k ≤ x) (h2 : x ≤ k) : BndL k (l ++ [x]) := by
  intro y hy
  rcases List.mem_append.1 hy with hy | hy
  · exact h y hy
  · simp only [List.mem_cons, List.not_mem_nil, or_false] at hy; subst hy; exact ⟨h1, h2⟩
theorem BndL.at {k : Int} {l : List Int} (h : BndL k l) {i : Nat} (hi : i < l.length) : -k ≤ l.getD i 0 ∧ l.getD i 0 ≤ k := h _ (getD_mem hi)
theorem SqM.row {N : Nat} {k : Int} {ll : List (List Int)} (h : SqM N k ll) {i : Nat} (hi : i < N) : (ll.getD i []).length = N ∧ BndL k (ll.getD i []) := h.2 _ (getD_mem (by rw [h.1]; exact hi))
theorem mem_set' {α : Type} {l : List α} {i : Nat} {a x : α} (h : x ∈ l.set i a) : x ∈ l ∨ x = a := by
  rcases List.mem_or_eq_of_mem_set h with h | h
  · exact .inl h
  · exact .inr h
theorem BndL.set {k : Int} {l : List Int} {i : Nat} {x : Int} (h : BndL k l) (h1 : -k ≤ x) (h2 : x ≤ k) : BndL k (l.set i x) := by
  intro y hy
  rcases mem_set' hy with hy | hy
  · exact h y hy
  · subst hy; exact ⟨h1, h2⟩
theorem SqM.set {N : Nat} {k : Int} {ll : List (List Int)} (h : SqM N k ll) {i : Nat} {l : List Int} (h1 : l.length = N) (h2 : BndL k l) : SqM N k (ll.set i l) := by
  refine ⟨by simpa using h.1, fun r hr => ?_⟩
  rcases mem_set' hr with hr | hr
  · exact h.2 r hr
  · subst hr; exact ⟨h1, h2⟩
theorem BndL.le {k k' : Int} {l : List Int} (h : BndL k l) (hk : k ≤ k') : BndL k' l := fun x hx => by have := h x hx; omega
theorem SqM.le {N : Nat} {k k' : Int} {ll : List (List Int)} (h : SqM N k ll) (hk : k ≤ k') : SqM N k' ll := ⟨h.1, fun l hl => ⟨(h.2 l hl).1, (h.2 l hl).2.le hk⟩⟩

section
variable {bnd b : Nat} {h : AH}
set_option maxHeartbeats 1000000 in
theorem spec_l01DrawM (r : Rnd bnd b h) (hb : bnd ≤ b) (N : Nat) (most : Int) (hN : N ≤ 8) (h0 : 0 ≤ most) (h1 : most ≤ 1000) (n : Nat) (hn : b < n) :
    MQ Try.prog 86 [.ptr b 0, .int .i64 N, .int .i64 most] h n b (b + 1) fun v h' n' => ∃ vs ll, Rows true n n' h' v vs ll ∧ SqM N most ll ∧ Rnd bnd b h' ∧ ∀ j, j < n → j ≠ b → h' j = h j := by
  refine mq_intro Try.func86 k_spec_l01DrawM ?_
  simp (maxSteps := 2000000) -implicitDefEqProofs (disch := omega) only [c_spec_l01DrawM, xsW, xsC, xsD, xsE, fillA, reduceCtorEq, Nat.reduceAdd, Nat.reduceSub, Nat.reduceLeDiff, Nat.reduceMul, Int.reduceLT, Int.reduceLE, Int.reduceEq, Int.reduceNe, Int.reduceAdd, Int.reduceSub, Int.reduceMul, Int.reduceNeg, Int.reduceToNat]
  refine loop_for N 0 (fun k p => [.ptr b 0, .int .i64 N, .int .i64 most, .any, .any, .any, .nilsl, p.1, .int .i64 k, .any, .any, .any, .any, .any, .any, .any, .any, .any, .any, .any, .any, .any, .any, .any, .any, .any, .any, .any, .any, .any, .any, .any, .any, .any, .any, .any, .any, .any]) (fun k (p : AV × List AV × List (List Int) × AH) => p.2.2.2)
    (fun k p m => Grow n m p.2.2.2 p.2.2.2 29 p.1 p.2.1 p.2.2.1 ∧ p.2.2.1.length = k ∧ (∀ l ∈ p.2.2.1, l.length = N ∧ BndL most l) ∧ Rnd bnd b p.2.2.2 ∧ ∀ j, j < n → j ≠ b → p.2.2.2 j = h j) (.sl n 0 0 0, [], [], _) (Nat.zero_le _)
    ⟨(Grow.start0 (h := h) rfl).re (fun _ _ _ => rfl), rfl, by simp, r.keep (upd_other (by omega)) fun j hj => upd_other (by omega), fun j hj hne => upd_other (by omega)⟩ (by simp [LeL, Le1]) (fun _ _ h => h) ?_
  rintro i ⟨out, ws, ll, hp⟩ m - hi1 hm1 ⟨g, gl, ge, gr, go⟩
  simp only at g gl ge gr go
  simp (maxSteps := 2000000) -implicitDefEqProofs (disch := omega) only [xsW, xsC, xsD, xsE, fillA, reduceCtorEq, Nat.reduceAdd, Nat.reduceSub, Nat.reduceLeDiff, Nat.reduceMul, Int.reduceLT, Int.reduceLE, Int.reduceEq, Int.reduceNe, Int.reduceAdd, Int.reduceSub, Int.reduceMul, Int.reduceNeg, Int.reduceToNat]
  (refine cd_dec (fun c1 => ?_) (fun c1 => ?_) <;> simp (maxSteps := 2000000) -implicitDefEqProofs (disch := omega) only [xsW, xsC, xsD, xsE, fillA, reduceCtorEq, Nat.reduceAdd, Nat.reduceSub, Nat.reduceLeDiff, Nat.reduceMul, Int.reduceLT, Int.reduceLE, Int.reduceEq, Int.reduceNe, Int.reduceAdd, Int.reduceSub, Int.reduceMul, Int.reduceNeg, Int.reduceToNat,  c1])
  · have hi2 : i < N := by omega
    refine loop_for N 0 (fun k p => [.ptr b 0, .int .i64 N, .int .i64 most, .any, .any, .any, .nilsl, out, .int .i64 i, p.1, .int .i64 k, .any, .any, .any, .any, .any, .any, .any, .any, .any, .any, .any, .any, .any, .any, .any, .any, .any, .any, .any, .any, .any, .any, .any, .any, .any, .any, .any]) (fun k (p : AV × List Int × AH) => p.2.2)
      (fun k p m' => Acc m m' p.2.2 2 1 p.1 (ints p.2.1) ∧ p.2.1.length = k ∧ BndL most p.2.1 ∧ m ≤ m' ∧ Rnd bnd b p.2.2 ∧ ∀ j, j < m → j ≠ b → p.2.2 j = hp j) (.sl m 0 0 0, [], _) (Nat.zero_le _)
      ⟨Acc.empty (upd_same _ _ _) rfl (Nat.le_refl _) (by omega), rfl, by simp [BndL], by omega, gr.keep (upd_other (by omega)) fun j hj => upd_other (by omega), fun j hj hne => upd_other (by omega)⟩ (by simp [LeL, Le1]) (fun _ _ h => h) ?_
    rintro k ⟨row, l, hq⟩ mq - hk1 hm2 ⟨a, al, ab, hle, qr, qo⟩
    simp only at a al ab qr qo
    simp (maxSteps := 2000000) -implicitDefEqProofs (disch := omega) only [xsW, xsC, xsD, xsE, fillA, reduceCtorEq, Nat.reduceAdd, Nat.reduceSub, Nat.reduceLeDiff, Nat.reduceMul, Int.reduceLT, Int.reduceLE, Int.reduceEq, Int.reduceNe, Int.reduceAdd, Int.reduceSub, Int.reduceMul, Int.reduceNeg, Int.reduceToNat]
    (refine cd_dec (fun c2 => ?_) (fun c2 => ?_) <;> simp (maxSteps := 2000000) -implicitDefEqProofs (disch := omega) only [xsW, xsC, xsD, xsE, fillA, reduceCtorEq, Nat.reduceAdd, Nat.reduceSub, Nat.reduceLeDiff, Nat.reduceMul, Int.reduceLT, Int.reduceLE, Int.reduceEq, Int.reduceNe, Int.reduceAdd, Int.reduceSub, Int.reduceMul, Int.reduceNeg, Int.reduceToNat,  c2])
    · refine mq_use (spec_l01DrawPart qr hb most h0 (by omega) mq (by omega)) (fun i a c => .inr ⟨by omega, by omega⟩) fun x h1' n1 hn1 ⟨en, ⟨y, hy, y0, y1⟩, r1, sm1⟩ => ?_
      subst en; subst hy
      simp (maxSteps := 2000000) -implicitDefEqProofs (disch := omega) only [xsW, xsC, xsD, xsE, fillA, reduceCtorEq, Nat.reduceAdd, Nat.reduceSub, Nat.reduceLeDiff, Nat.reduceMul, Int.reduceLT, Int.reduceLE, Int.reduceEq, Int.reduceNe, Int.reduceAdd, Int.reduceSub, Int.reduceMul, Int.reduceNeg, Int.reduceToNat]
      refine mq_use (spec_l01Pick (b := b) (bnd := bnd) (w := true) (lo := n1) (hi := n1 + 1) (l := [0, 1, 1]) (r1.keep (upd_other (by omega)) fun j hj => upd_other (by omega)) hb (Sl.of_sl (upd_same _ _ _) rfl (Nat.le_refl _) (Nat.le_refl _) (by omega)) (by omega) (by simp) (by simp) _ (by omega)) (fun i a c => .inr ⟨by omega, by omega⟩) fun x2 h2 n2 hn2 ⟨en, ⟨z, hz, z0⟩, r2, sm2⟩ => ?_
      subst en; subst hz
      have hyz : -most ≤ y * z ∧ y * z ≤ most := by
        simp only [List.mem_cons, List.not_mem_nil, or_false] at z0
        rcases z0 with rfl | rfl | rfl <;> omega
      simp (maxSteps := 2000000) -implicitDefEqProofs (disch := omega) only [xsW, xsC, xsD, xsE, fillA, reduceCtorEq, Nat.reduceAdd, Nat.reduceSub, Nat.reduceLeDiff, Nat.reduceMul, Int.reduceLT, Int.reduceLE, Int.reduceEq, Int.reduceNe, Int.reduceAdd, Int.reduceSub, Int.reduceMul, Int.reduceNeg, Int.reduceToNat]
      refine app_int (y := y * z) ((a.keep fun j a1 a2 => ?_).wide (Nat.le_refl _) (by omega)) (by omega) (by omega) ⟨rfl, _, upd_same _ _ _, by simp, by simp [cutA]⟩ (by omega) fun v' h' n' q1 q2 q3 => ?_
      · rw [upd_other (by omega), sm2 j (by omega), upd_other (by omega), sm1 j (by omega)]
      simp (maxSteps := 2000000) -implicitDefEqProofs (disch := omega) only [xsW, xsC, xsD, xsE, fillA, reduceCtorEq, Nat.reduceAdd, Nat.reduceSub, Nat.reduceLeDiff, Nat.reduceMul, Int.reduceLT, Int.reduceLE, Int.reduceEq, Int.reduceNe, Int.reduceAdd, Int.reduceSub, Int.reduceMul, Int.reduceNeg, Int.reduceToNat]
      exact ⟨(v', l ++ [y * z], h'), ⟨q2, by simp [al], ab.snoc hyz.1 hyz.2, by omega, r2.keep (show h' b = h2 b by rw [q3 b (by omega), upd_other (by omega)]) fun j hj => (show h' j = h2 j by rw [q3 j (by omega), upd_other (by omega)]), fun j hj hne => by
        show h' j = hp j
        rw [q3 j hj, upd_other (by omega), sm2 j hne, upd_other (by omega), sm1 j hne, qo j hj hne]⟩, by omega, by omega, (by simp [LeL, Le1]), fun _ _ h => h⟩
    · have e : l.length = N := by omega
      have o1 := one_any a.any
      have o2 := sto_any a.any
      have o3 := cel_any a.any
      simp (maxSteps := 2000000) -implicitDefEqProofs (disch := omega) only [xsW, xsC, xsD, xsE, fillA, reduceCtorEq, Nat.reduceAdd, Nat.reduceSub, Nat.reduceLeDiff, Nat.reduceMul, Int.reduceLT, Int.reduceLE, Int.reduceEq, Int.reduceNe, Int.reduceAdd, Int.reduceSub, Int.reduceMul, Int.reduceNeg, Int.reduceToNat,  o1, o2, o3]
      have gB : Grow n m (upd hq mq (some ⟨29, [row], true, 0⟩)) (upd hq mq (some ⟨29, [row], true, 0⟩)) 29 out ws ll := g.re fun j a1 a2 => by rw [upd_other (by omega), qo j a2 (by omega)]
      refine gB.app (v1 := row) (l := l) (m1 := mq) (a.sl.keep (fun i _ hi9 => by simp (disch := omega) only [upd_other])) (fun _ _ => rfl) hle (by omega) (Nat.le_refl _) ⟨rfl, _, upd_same _ _ _, by simp, by simp [cutA]⟩ (by omega) fun out' h' n' q1 q2 => ?_
      simp (maxSteps := 2000000) -implicitDefEqProofs (disch := omega) only [xsW, xsC, xsD, xsE, fillA, reduceCtorEq, Nat.reduceAdd, Nat.reduceSub, Nat.reduceLeDiff, Nat.reduceMul, Int.reduceLT, Int.reduceLE, Int.reduceEq, Int.reduceNe, Int.reduceAdd, Int.reduceSub, Int.reduceMul, Int.reduceNeg, Int.reduceToNat]
      have qo2 := q2.old
      refine ⟨(out', ws ++ [row], ll ++ [l], h'), ⟨q2.re fun _ _ _ => rfl, by simp [gl], fun r hr => ?_, qr.keep (show h' b = hq b by rw [qo2 b hn, upd_other (by omega)]) fun j hj => (show h' j = hq j by rw [qo2 j (by omega), upd_other (by omega)]), fun j hj hne => ?_⟩, by omega, by omega, (by simp [LeL, Le1]), fun _ _ h => h⟩
      · rcases List.mem_append.1 hr with hr | hr
        · exact ge r hr
        · simp only [List.mem_cons, List.not_mem_nil, or_false] at hr; subst hr; exact ⟨e, ab⟩
      · have := g.le
        show h' j = h j
        rw [qo2 j hj, upd_other (by omega), qo j (by omega) hne, go j hj hne]
  · exact ⟨ws, ll, g.rowsOf fun _ _ _ => rfl, ⟨by omega, ge⟩, gr, go⟩
theorem set_get {ll : List (List Int)} {i j : Nat} {l : List Int} (h : i < ll.length) : (ll.set i l).getD j [] = if i = j then l else ll.getD j [] := by
  rw [getD_set]
  by_cases e : i = j
  · subst e; rw [if_pos ⟨rfl, h⟩, if_pos rfl]
  · rw [if_neg fun h => e h.1, if_neg e]
theorem below_row {lo hi : Nat} {h : AH} {v : AV} {vs : List AV} {ll : List (List Int)} (s : Rows true lo hi h v vs ll) {N : Nat} {k : Int} (q : SqM N k ll) {i : Nat} (hi' : i < N) : lo ≤ bid (vs.getD i .any) ∧ bid (vs.getD i .any) < hi := by
  have h1 := s.row i (by rw [q.1]; exact hi')
  exact Sl.below h1 (by rw [h1.slen, (q.row hi').1]; omega)
set_option maxHeartbeats 1000000 in
theorem spec_l01DrawP (r : Rnd bnd b h) (hb : bnd ≤ b) (N : Nat) (hN : N ≤ 8) (n : Nat) (hn : b < n) :
    MQ Try.prog 110 [.ptr b 0, .int .i64 N] h n b (b + 1) fun v h' n' => ∃ vs ll, Rows true n n' h' v vs ll ∧ SqM N 1000 ll ∧ Rnd bnd b h' ∧ ∀ j, j < n → j ≠ b → h' j = h j := by
  refine mq_intro Try.func110 k_spec_l01DrawP ?_
  simp (maxSteps := 2000000) -implicitDefEqProofs (disch := omega) only [c_spec_l01DrawP, xsW, xsC, xsD, xsE, fillA, reduceCtorEq, Nat.reduceAdd, Nat.reduceSub, Nat.reduceLeDiff, Nat.reduceMul, Int.reduceLT, Int.reduceLE, Int.reduceEq, Int.reduceNe, Int.reduceAdd, Int.reduceSub, Int.reduceMul, Int.reduceNeg, Int.reduceToNat]
  refine mq_use (spec_l01DrawM r hb N 3 hN (by omega) (by omega) n hn) (fun i a c => .inr ⟨by omega, by omega⟩) fun v h1 n1 hn1 ⟨vs, ll, s1, q1, r1, o1⟩ => ?_
  simp (maxSteps := 2000000) -implicitDefEqProofs (disch := omega) only [xsW, xsC, xsD, xsE, fillA, reduceCtorEq, Nat.reduceAdd, Nat.reduceSub, Nat.reduceLeDiff, Nat.reduceMul, Int.reduceLT, Int.reduceLE, Int.reduceEq, Int.reduceNe, Int.reduceAdd, Int.reduceSub, Int.reduceMul, Int.reduceNeg, Int.reduceToNat]
  refine loop_for N 0 (fun k p => [.ptr b 0, .int .i64 N, .any, .any, .nilsl, v, .int .i64 k, .any, .any, .any, .any, .any, .any, .any, .any, .any, .any, .any, .any, .any, .any, .any, .any, .any, .any, .any, .any, .any, .any, .any, .any, .any, .any, .any, .any, .any, .any, .any, .any, .any, .any, .any, .any, .any, .any, .any, .any, .any, .any, .any]) (fun k (p : List (List Int) × AH) => p.2)
    (fun k p m => Rows true n n1 p.2 v vs p.1 ∧ SqM N 1000 p.1 ∧ (∀ j, k ≤ j → j < N → BndL 3 (p.1.getD j [])) ∧ Rnd bnd b p.2 ∧ ∀ j, j < n → j ≠ b → p.2 j = h j) (ll, _) (Nat.zero_le _)
    ⟨s1, q1.le (by omega), fun j _ hj => (q1.row hj).2, r1, o1⟩ (by simp [LeL, Le1]) (fun _ _ h => h) ?_
  rintro i ⟨l2, hp⟩ m - hi1 hm1 ⟨s2, q2, w2, r2, o2⟩
  simp only at s2 q2 w2 r2 o2
  simp (maxSteps := 2000000) -implicitDefEqProofs (disch := omega) only [xsW, xsC, xsD, xsE, fillA, reduceCtorEq, Nat.reduceAdd, Nat.reduceSub, Nat.reduceLeDiff, Nat.reduceMul, Int.reduceLT, Int.reduceLE, Int.reduceEq, Int.reduceNe, Int.reduceAdd, Int.reduceSub, Int.reduceMul, Int.reduceNeg, Int.reduceToNat]
  (refine cd_dec (fun c1 => ?_) (fun c1 => ?_) <;> simp (maxSteps := 2000000) -implicitDefEqProofs (disch := omega) only [xsW, xsC, xsD, xsE, fillA, reduceCtorEq, Nat.reduceAdd, Nat.reduceSub, Nat.reduceLeDiff, Nat.reduceMul, Int.reduceLT, Int.reduceLE, Int.reduceEq, Int.reduceNe, Int.reduceAdd, Int.reduceSub, Int.reduceMul, Int.reduceNeg, Int.reduceToNat,  c1])
  · have hi2 : i < N := by omega
    have hil : i < l2.length := by rw [q2.1]; exact hi2
    have hrow := s2.row i hil
    have hlen := (q2.row hi2).1
    have hbw := below_row s2 q2 hi2
    have hout := s2.out.below (by rw [s2.slen, q2.1]; omega)
    have e1 := fun K => Ints.st hrow (k := i) (x := 0) (n0 := n) (n := m) (W := fun i => b ≤ i ∧ i < b + 1) (by omega) (fun i a b => .inl (by omega)) (by omega) K
    simp (maxSteps := 2000000) -implicitDefEqProofs (disch := omega) only [xsW, xsC, xsD, xsE, fillA, reduceCtorEq, Nat.reduceAdd, Nat.reduceSub, Nat.reduceLeDiff, Nat.reduceMul, Int.reduceLT, Int.reduceLE, Int.reduceEq, Int.reduceNe, Int.reduceAdd, Int.reduceSub, Int.reduceMul, Int.reduceNeg, Int.reduceToNat,  s2.ia, s2.ld, hrow.ia, e1, q2.1, hlen]
    have hrow0 := hrow.wr (k := i) (by omega) 0
    have s3 := s2.wr hil (k := i) (by omega) 0
    have w3 := w2 i (Nat.le_refl _) hi2
    generalize hx : (l2.getD i []).set i 0 = rw0 at hrow0 s3
    have hlen0 : rw0.length = N := by rw [← hx, List.length_set, hlen]
    have w4 : BndL 3 rw0 := by rw [← hx]; exact w3.set (by omega) (by omega)
    have r3 : Rnd bnd b (wr hp (bid (vs.getD i .any)) (boff (vs.getD i .any) + i) (.int .i64 0)) := r2.keep (wr_other (by omega)) fun j hj => wr_other (by omega)
    have o3 : ∀ j, j < n → j ≠ b → wr hp (bid (vs.getD i .any)) (boff (vs.getD i .any) + i) (.int .i64 0) j = h j := fun j hj hne => by rw [wr_other (by omega), o2 j hj hne]
    generalize wr hp (bid (vs.getD i .any)) (boff (vs.getD i .any) + i) (.int .i64 0) = hq at hrow0 s3 r3 o3 ⊢
    refine loop_for N 0 (fun k p => [.ptr b 0, .int .i64 N, .any, .any, .nilsl, v, .int .i64 i, vs.getD i .any, .int .i64 p, .int .i64 k, .any, .any, .any, .any, .any, .any, .any, .any, .any, .any, .any, .any, .any, .any, .any, .any, .any, .any, .any, .any, .any, .any, .any, .any, .any, .any, .any, .any, .any, .any, .any, .any, .any, .any, .any, .any, .any, .any, .any, .any]) (fun k _ => hq)
      (fun k (p : Int) m' => 1 ≤ p ∧ p ≤ 1 + 3 * k) 1 (Nat.zero_le _) ⟨by omega, by omega⟩ (by simp [LeL, Le1]) (fun _ _ h => h) ?_
    rintro k sum m2 - hk1 hm2 ⟨u1, u2⟩
    simp (maxSteps := 2000000) -implicitDefEqProofs (disch := omega) only [xsW, xsC, xsD, xsE, fillA, reduceCtorEq, Nat.reduceAdd, Nat.reduceSub, Nat.reduceLeDiff, Nat.reduceMul, Int.reduceLT, Int.reduceLE, Int.reduceEq, Int.reduceNe, Int.reduceAdd, Int.reduceSub, Int.reduceMul, Int.reduceNeg, Int.reduceToNat]
    (refine cd_dec (fun c2 => ?_) (fun c2 => ?_) <;> simp (maxSteps := 2000000) -implicitDefEqProofs (disch := omega) only [xsW, xsC, xsD, xsE, fillA, reduceCtorEq, Nat.reduceAdd, Nat.reduceSub, Nat.reduceLeDiff, Nat.reduceMul, Int.reduceLT, Int.reduceLE, Int.reduceEq, Int.reduceNe, Int.reduceAdd, Int.reduceSub, Int.reduceMul, Int.reduceNeg, Int.reduceToNat,  c2])
    · have hk2 : k < N := by omega
      have hx := w4.at (i := k) (by omega)
      simp (maxSteps := 2000000) -implicitDefEqProofs (disch := omega) only [xsW, xsC, xsD, xsE, fillA, reduceCtorEq, Nat.reduceAdd, Nat.reduceSub, Nat.reduceLeDiff, Nat.reduceMul, Int.reduceLT, Int.reduceLE, Int.reduceEq, Int.reduceNe, Int.reduceAdd, Int.reduceSub, Int.reduceMul, Int.reduceNeg, Int.reduceToNat,  hrow0.ia, hrow0.ld, hlen0]
      exact ⟨sum + max (rw0.getD k 0) (-rw0.getD k 0), ⟨by omega, by omega⟩, by omega, by omega, (by simp [LeL, Le1])⟩
    · refine mq_use (spec_l01Next r3 hb 3 m2 (by omega)) (fun i a c => .inr ⟨by omega, by omega⟩) fun x h4 n4 hn4 ⟨en, ⟨y, hy, y0, y1, _⟩, r4, sm4⟩ => ?_
      subst en; subst hy
      have y2 := y1 (by omega)
      have s4 := s3.keep (h' := h4) fun j a c => sm4 j (by omega)
      have hrow4 := hrow0.keep (h' := h4) fun j a c => sm4 j (by omega)
      have e2 := fun K => Ints.st hrow4 (k := i) (x := sum + y) (n0 := n) (n := n4) (W := fun i => b ≤ i ∧ i < b + 1) (by omega) (fun i a b => .inl (by omega)) (by omega) K
      simp (maxSteps := 2000000) -implicitDefEqProofs (disch := omega) only [xsW, xsC, xsD, xsE, fillA, reduceCtorEq, Nat.reduceAdd, Nat.reduceSub, Nat.reduceLeDiff, Nat.reduceMul, Int.reduceLT, Int.reduceLE, Int.reduceEq, Int.reduceNe, Int.reduceAdd, Int.reduceSub, Int.reduceMul, Int.reduceNeg, Int.reduceToNat,  hrow4.ia, hlen0, e2]
      have hil4 : i < (l2.set i rw0).length := by simpa using hil
      have ege : (l2.set i rw0).getD i [] = rw0 := by rw [set_get hil, if_pos rfl]
      have s5 := s4.wr hil4 (k := i) (by rw [ege]; omega) (sum + y)
      rw [ege, List.set_set] at s5
      refine ⟨(l2.set i (rw0.set i (sum + y)), _), ⟨s5, q2.set (by simpa using hlen0) ((w4.le (by omega)).set (by omega) (by omega)), fun j a c => ?_, r4.keep (wr_other (by omega)) fun j hj => wr_other (by omega), fun j hj hne => ?_⟩, by omega, by omega, (by simp [LeL, Le1]), fun _ _ h => h⟩
      · rw [set_get hil, if_neg (by omega)]; exact w2 j (by omega) c
      · show wr h4 _ _ _ j = h j
        rw [wr_other (by omega), sm4 j hne, o3 j hj hne]
  · exact ⟨vs, l2, s2.wide (Nat.le_refl _) (by omega), q2, r2, o2⟩
end
end Go.Proofs.Ytkpibnhddhdooaa.L
