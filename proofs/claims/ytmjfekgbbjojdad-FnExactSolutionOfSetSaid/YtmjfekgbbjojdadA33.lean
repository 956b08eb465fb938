/- Contracts: SolutionOfSet. -/
import Derived.Test.YtmjfekgbbjojdadA10
import Derived.Test.YtmjfekgbbjojdadA29
import Derived.Test.YtmjfekgbbjojdadA31
namespace Go.Proofs.Ytmjfekgbbjojdad.L
open Go
set_option linter.unusedSimpArgs false
set_option linter.unusedVariables false
def c_impl_only : F := ⟨(.seq (.reg false [⟨(some 4), (.mv (.c .nilsl)), none⟩]) (.seq (.reg false [⟨(some 7), (.mv (.t 0)), none⟩, ⟨(some 8), (.call (.f 80) [(.t 7)]), none⟩, ⟨(some 5), (.mv (.t 8)), none⟩]) (.seq (.seq (.reg false [⟨(some 9), (.mv (.t 5)), none⟩, ⟨(some 10), (.len (.t 9)), none⟩, ⟨(some 11), (.mv (.c (.int .i64 0))), none⟩]) (.block 0 (.loop (.seq (.reg false [⟨(some 12), (.bin .lss (.t 11) (.t 10)), none⟩]) (.seq (.cond (.t 12) .skip (.exit 0)) (.seq (.block 1 (.seq (.reg false [⟨(some 13), (.mv (.t 11)), none⟩, ⟨(some 6), (.mv (.t 13)), none⟩]) (.seq (.reg false [⟨(some 14), (.mv (.t 1)), none⟩, ⟨(some 15), (.mv (.t 6)), none⟩, ⟨(some 16), (.call (.f 81) [(.t 14), (.t 15)]), none⟩, ⟨(some 17), (.un .not (.t 16)), none⟩]) (.cond (.t 17) (.reg false [⟨(some 18), (.mv (.t 5)), none⟩, ⟨(some 19), (.mv (.t 6)), none⟩, ⟨(some 20), (.ia 1 (.t 18) (.t 19)), none⟩, ⟨none, (.st 1 (.t 20) (.c (.int .i64 0))), none⟩]) .skip)))) (.reg false [⟨(some 21), (.bin .add (.t 11) (.c (.int .i64 1))), none⟩, ⟨(some 11), (.mv (.t 21)), none⟩]))))))) (.seq (.reg false [⟨(some 22), (.mv (.t 5)), none⟩, ⟨(some 4), (.mv (.t 22)), none⟩]) .ret)))), 23, [(.t 4)]⟩
theorem k_impl_only : compF Try.prog Try.f50 = some c_impl_only := by kernel_rfl
def c_impl_SolutionOfSet : F := ⟨(.seq (.reg false [⟨(some 2), (.box 30 (.t 0)), none⟩, ⟨(some 4), (.mv (.c .nilsl)), none⟩, ⟨(some 5), (.mv (.c (.int .i64 0))), none⟩]) (.seq (.seq (.reg false [⟨(some 10), (.ld 2 (.t 2)), none⟩, ⟨(some 11), (.mv (.t 1)), none⟩, ⟨(some 12), (.call (.f 46) [(.t 10), (.t 11)]), none⟩, ⟨(some 6), (.mv (.t 12)), none⟩]) (.seq (.reg false [⟨(some 13), (.mv (.t 6)), none⟩, ⟨(some 14), (.bin .neq (.t 13) (.c (.int .i64 0))), none⟩]) (.cond (.t 14) (.seq (.reg false [⟨(some 15), (.mv (.t 6)), none⟩, ⟨(some 4), (.mv (.c .nilsl)), none⟩, ⟨(some 5), (.mv (.t 15)), none⟩]) .ret) .skip))) (.seq (.reg false [⟨(some 17), (.ld 2 (.t 2)), none⟩, ⟨(some 18), (.mv (.t 1)), none⟩, ⟨(some 19), (.call (.f 47) [(.t 17), (.t 18)]), none⟩, ⟨(some 16), (.mv (.t 19)), none⟩, ⟨(some 20), (.ext (.t 16) 0), none⟩, ⟨(some 21), (.ext (.t 16) 1), none⟩, ⟨(some 22), (.ext (.t 16) 2), none⟩, ⟨(some 7), (.mv (.t 20)), none⟩, ⟨(some 8), (.mv (.t 21)), none⟩, ⟨(some 9), (.mv (.t 22)), none⟩]) (.seq (.seq (.reg false [⟨(some 23), (.mv (.t 9)), none⟩, ⟨(some 24), (.un .not (.t 23)), none⟩, ⟨(some 25), (.mv (.t 24)), none⟩, ⟨(some 26), (.mv (.t 7)), (some (25, false))⟩, ⟨(some 27), (.call (.f 48) [(.t 26)]), (some (25, false))⟩, ⟨(some 28), (.un .not (.t 27)), (some (25, false))⟩, ⟨(some 29), (.pick (.t 25) (.c (.bool true)) (.t 28)), none⟩]) (.cond (.t 29) (.seq (.reg false [⟨(some 4), (.mv (.c .nilsl)), none⟩, ⟨(some 5), (.mv (.c (.int .i64 5))), none⟩]) .ret) .skip)) (.seq (.reg false [⟨(some 30), (.mv (.t 7)), none⟩, ⟨(some 31), (.mv (.t 1)), none⟩, ⟨(some 32), (.call (.f 50) [(.t 30), (.t 31)]), none⟩, ⟨(some 33), (.mv (.t 8)), none⟩, ⟨(some 34), (.call (.f 49) [(.t 32), (.t 33)]), none⟩, ⟨(some 35), (.ext (.t 34) 0), none⟩, ⟨(some 36), (.ext (.t 34) 1), none⟩, ⟨(some 4), (.mv (.t 35)), none⟩, ⟨(some 5), (.mv (.t 36)), none⟩]) .ret))))), 37, [(.t 4), (.t 5)]⟩
theorem k_impl_SolutionOfSet : compF Try.prog Try.f10 = some c_impl_SolutionOfSet := by kernel_rfl
def c_spec_l02Solution : F := ⟨(.seq (.reg false [⟨(some 2), (.box 30 (.t 0)), none⟩, ⟨(some 4), (.mv (.c .nilsl)), none⟩]) (.seq (.reg false [⟨(some 9), (.ld 2 (.t 2)), none⟩, ⟨(some 10), (.mv (.t 1)), none⟩, ⟨(some 11), (.call (.f 62) [(.t 9), (.t 10)]), none⟩, ⟨(some 8), (.mv (.t 11)), none⟩, ⟨(some 12), (.ext (.t 8) 0), none⟩, ⟨(some 13), (.ext (.t 8) 1), none⟩, ⟨(some 5), (.mv (.t 12)), none⟩, ⟨(some 6), (.mv (.t 13)), none⟩]) (.seq (.seq (.reg false [⟨(some 7), (.mv (.c (.int .i64 0))), none⟩]) (.block 0 (.loop (.seq (.seq (.reg false [⟨(some 14), (.mv (.t 7)), none⟩, ⟨(some 15), (.mv (.t 5)), none⟩, ⟨(some 16), (.len (.t 15)), none⟩, ⟨(some 17), (.bin .lss (.t 14) (.t 16)), none⟩]) (.cond (.t 17) .skip (.exit 0))) (.seq (.block 1 (.seq (.reg false [⟨(some 20), (.mv (.t 1)), none⟩, ⟨(some 21), (.mv (.t 7)), none⟩, ⟨(some 22), (.cvi .u64 (.t 21)), none⟩, ⟨(some 23), (.bin .shr (.t 20) (.t 22)), none⟩, ⟨(some 24), (.bin .and (.t 23) (.c (.int .i64 1))), none⟩, ⟨(some 25), (.bin .eql (.t 24) (.c (.int .i64 0))), none⟩]) (.cond (.t 25) (.reg false [⟨(some 26), (.mv (.t 5)), none⟩, ⟨(some 27), (.mv (.t 7)), none⟩, ⟨(some 28), (.build [(.int .i64 0), (.int .i64 0)] [(0, (1, (.c (.int .i64 0)))), (1, (1, (.c (.int .i64 1))))]), none⟩, ⟨(some 29), (.ia 2 (.t 26) (.t 27)), none⟩, ⟨none, (.st 2 (.t 29) (.t 28)), none⟩]) .skip))) (.reg false [⟨(some 18), (.mv (.t 7)), none⟩, ⟨(some 19), (.bin .add (.t 18) (.c (.int .i64 1))), none⟩, ⟨(some 7), (.mv (.t 19)), none⟩])))))) (.seq (.reg false [⟨(some 30), (.mv (.t 5)), none⟩, ⟨(some 4), (.mv (.t 30)), none⟩]) .ret)))), 31, [(.t 4)]⟩
theorem k_spec_l02Solution : compF Try.prog Try.f43 = some c_spec_l02Solution := by kernel_rfl
def c_spec_l02Told : F := ⟨(.seq (.reg false [⟨(some 2), (.mv (.c .nilsl)), none⟩, ⟨(some 3), (.mv (.c (.int .i64 0))), none⟩]) (.seq (.seq (.reg false [⟨(some 4), (.mv (.c (.int .i64 0))), none⟩]) (.block 0 (.loop (.seq (.seq (.reg false [⟨(some 5), (.mv (.t 4)), none⟩, ⟨(some 6), (.mv (.t 0)), none⟩, ⟨(some 7), (.len (.t 6)), none⟩, ⟨(some 8), (.bin .lss (.t 5) (.t 7)), none⟩]) (.cond (.t 8) .skip (.exit 0))) (.seq (.block 1 (.seq (.reg false [⟨(some 11), (.mv (.t 0)), none⟩, ⟨(some 12), (.mv (.t 4)), none⟩, ⟨(some 13), (.ia 2 (.t 11) (.t 12)), none⟩, ⟨(some 14), (.fa 0 (.t 13)), none⟩, ⟨(some 15), (.ld1 (.t 14)), none⟩, ⟨(some 16), (.call (.f 74) [(.t 15), (.c (.int .i64 (-1000000000))), (.c (.int .i64 1000000000))]), none⟩, ⟨(some 17), (.un .not (.t 16)), none⟩, ⟨(some 18), (.mv (.t 17)), none⟩, ⟨(some 19), (.mv (.t 0)), (some (18, false))⟩, ⟨(some 20), (.mv (.t 4)), (some (18, false))⟩, ⟨(some 21), (.ia 2 (.t 19) (.t 20)), (some (18, false))⟩, ⟨(some 22), (.fa 1 (.t 21)), (some (18, false))⟩, ⟨(some 23), (.ld1 (.t 22)), (some (18, false))⟩, ⟨(some 24), (.bin .gtr (.t 23) (.c (.int .i64 1000000000))), (some (18, false))⟩, ⟨(some 25), (.pick (.t 18) (.c (.bool true)) (.t 24)), none⟩]) (.cond (.t 25) (.seq (.reg false [⟨(some 2), (.mv (.c .nilsl)), none⟩, ⟨(some 3), (.mv (.c (.int .i64 3))), none⟩]) .ret) .skip))) (.reg false [⟨(some 9), (.mv (.t 4)), none⟩, ⟨(some 10), (.bin .add (.t 9) (.c (.int .i64 1))), none⟩, ⟨(some 4), (.mv (.t 10)), none⟩])))))) (.seq (.reg false [⟨(some 26), (.mv (.t 0)), none⟩, ⟨(some 2), (.mv (.t 26)), none⟩, ⟨(some 3), (.mv (.c (.int .i64 0))), none⟩]) .ret))), 27, [(.t 2), (.t 3)]⟩
theorem k_spec_l02Told : compF Try.prog Try.f42 = some c_spec_l02Told := by kernel_rfl
def c_spec_SolutionOfSet : F := ⟨(.seq (.reg false [⟨(some 2), (.box 30 (.t 0)), none⟩, ⟨(some 4), (.mv (.c .nilsl)), none⟩, ⟨(some 5), (.mv (.c (.int .i64 0))), none⟩]) (.seq (.seq (.reg false [⟨(some 9), (.ld 2 (.t 2)), none⟩, ⟨(some 10), (.mv (.t 1)), none⟩, ⟨(some 11), (.call (.f 40) [(.t 9), (.t 10)]), none⟩, ⟨(some 6), (.mv (.t 11)), none⟩]) (.seq (.reg false [⟨(some 12), (.mv (.t 6)), none⟩, ⟨(some 13), (.bin .neq (.t 12) (.c (.int .i64 0))), none⟩]) (.cond (.t 13) (.seq (.reg false [⟨(some 14), (.mv (.t 6)), none⟩, ⟨(some 4), (.mv (.c .nilsl)), none⟩, ⟨(some 5), (.mv (.t 14)), none⟩]) .ret) .skip))) (.seq (.seq (.reg false [⟨(some 15), (.ld 2 (.t 2)), none⟩, ⟨(some 16), (.mv (.t 1)), none⟩, ⟨(some 17), (.call (.f 41) [(.t 15), (.t 16)]), none⟩, ⟨(some 18), (.un .not (.t 17)), none⟩]) (.cond (.t 18) (.seq (.reg false [⟨(some 4), (.mv (.c .nilsl)), none⟩, ⟨(some 5), (.mv (.c (.int .i64 5))), none⟩]) .ret) .skip)) (.seq (.reg false [⟨(some 20), (.ld 2 (.t 2)), none⟩, ⟨(some 21), (.mv (.t 1)), none⟩, ⟨(some 22), (.call (.f 43) [(.t 20), (.t 21)]), none⟩, ⟨(some 23), (.call (.f 42) [(.t 22)]), none⟩, ⟨(some 19), (.mv (.t 23)), none⟩, ⟨(some 24), (.ext (.t 19) 0), none⟩, ⟨(some 25), (.ext (.t 19) 1), none⟩, ⟨(some 7), (.mv (.t 24)), none⟩, ⟨(some 8), (.mv (.t 25)), none⟩]) (.seq (.reg false [⟨(some 26), (.mv (.t 7)), none⟩, ⟨(some 27), (.mv (.t 8)), none⟩, ⟨(some 4), (.mv (.t 26)), none⟩, ⟨(some 5), (.mv (.t 27)), none⟩]) .ret))))), 28, [(.t 4), (.t 5)]⟩
theorem k_spec_SolutionOfSet : compF Try.prog Try.f8 = some c_spec_SolutionOfSet := by kernel_rfl
def c_laws_FnExactSolutionOfSet : F := ⟨(.seq (.reg false [⟨(some 2), (.box 25 (.t 0)), none⟩, ⟨(some 4), (.mv (.c (.bool false))), none⟩]) (.seq (.reg false [⟨(some 5), (.mv (.c (.int .i64 1048576))), none⟩]) (.seq (.reg false [⟨(some 16), (.ld 2 (.t 2)), none⟩, ⟨(some 17), (.mv (.t 5)), none⟩, ⟨(some 18), (.call (.f 7) [(.t 16), (.t 17)]), none⟩, ⟨(some 5), (.mv (.t 18)), none⟩]) (.seq (.seq (.reg false [⟨(some 19), (.mv (.t 5)), none⟩, ⟨(some 20), (.bin .lss (.t 19) (.c (.int .i64 0))), none⟩]) (.cond (.t 20) (.seq (.reg false [⟨(some 4), (.mv (.c (.bool true))), none⟩]) .ret) .skip)) (.seq (.reg false [⟨(some 22), (.ld 2 (.t 2)), none⟩, ⟨(some 23), (.call (.f 9) [(.t 22)]), none⟩, ⟨(some 24), (.mv (.t 1)), none⟩, ⟨(some 25), (.call (.f 8) [(.t 23), (.t 24)]), none⟩, ⟨(some 21), (.mv (.t 25)), none⟩, ⟨(some 26), (.ext (.t 21) 0), none⟩, ⟨(some 27), (.ext (.t 21) 1), none⟩, ⟨(some 6), (.mv (.t 26)), none⟩, ⟨(some 7), (.mv (.t 27)), none⟩]) (.seq (.reg false [⟨(some 28), (.ld 2 (.t 2)), none⟩, ⟨(some 29), (.call (.f 9) [(.t 28)]), none⟩, ⟨(some 8), (.alloc 30 [.nilsl, .nilsl]), none⟩, ⟨none, (.st 2 (.t 8) (.t 29)), none⟩]) (.seq (.reg false [⟨(some 31), (.ld 2 (.t 8)), none⟩, ⟨(some 32), (.mv (.t 1)), none⟩, ⟨(some 33), (.call (.f 10) [(.t 31), (.t 32)]), none⟩, ⟨(some 30), (.mv (.t 33)), none⟩, ⟨(some 34), (.ext (.t 30) 0), none⟩, ⟨(some 35), (.ext (.t 30) 1), none⟩, ⟨(some 9), (.mv (.t 34)), none⟩, ⟨(some 10), (.mv (.t 35)), none⟩]) (.seq (.seq (.reg false [⟨(some 36), (.mv (.t 9)), none⟩, ⟨(some 37), (.mv (.t 6)), none⟩, ⟨(some 38), (.call (.f 11) [(.t 36), (.t 37)]), none⟩, ⟨(some 39), (.un .not (.t 38)), none⟩, ⟨(some 40), (.mv (.t 39)), none⟩, ⟨(some 41), (.mv (.t 10)), (some (40, false))⟩, ⟨(some 42), (.mv (.t 7)), (some (40, false))⟩, ⟨(some 43), (.bin .neq (.t 41) (.t 42)), (some (40, false))⟩, ⟨(some 44), (.pick (.t 40) (.c (.bool true)) (.t 43)), none⟩]) (.cond (.t 44) (.seq (.reg false [⟨(some 4), (.mv (.c (.bool false))), none⟩]) .ret) .skip)) (.seq (.seq (.reg true [⟨(some 45), (.ld 2 (.t 8)), none⟩, ⟨(some 46), (.ld 2 (.t 2)), none⟩, ⟨(some 47), (.call (.f 9) [(.t 46)]), none⟩, ⟨(some 48), (.call (.f 12) [(.t 45), (.t 47)]), none⟩, ⟨(some 49), (.un .not (.t 48)), none⟩]) (.cond (.t 49) (.seq (.reg false [⟨(some 4), (.mv (.c (.bool false))), none⟩]) .ret) .skip)) (.seq (.reg false [⟨(some 11), (.mv (.c (.int .i64 1))), none⟩]) (.seq (.reg false [⟨(some 50), (.ld 2 (.t 8)), none⟩, ⟨(some 51), (.mv (.t 11)), none⟩, ⟨(some 52), (.call (.f 13) [(.t 50), (.t 51)]), none⟩, ⟨(some 11), (.mv (.t 52)), none⟩]) (.seq (.seq (.reg false [⟨(some 53), (.mv (.t 11)), none⟩, ⟨(some 54), (.bin .lss (.t 53) (.c (.int .i64 0))), none⟩, ⟨(some 55), (.mv (.t 54)), none⟩, ⟨(some 56), (.mv (.t 9)), (some (55, false))⟩, ⟨(some 57), (.mv (.t 6)), (some (55, false))⟩, ⟨(some 58), (.call (.f 11) [(.t 56), (.t 57)]), (some (55, false))⟩, ⟨(some 59), (.un .not (.t 58)), (some (55, false))⟩, ⟨(some 60), (.pick (.t 55) (.c (.bool true)) (.t 59)), none⟩, ⟨(some 61), (.mv (.t 60)), none⟩, ⟨(some 62), (.mv (.t 10)), (some (61, false))⟩, ⟨(some 63), (.mv (.t 7)), (some (61, false))⟩, ⟨(some 64), (.bin .neq (.t 62) (.t 63)), (some (61, false))⟩, ⟨(some 65), (.pick (.t 61) (.c (.bool true)) (.t 64)), none⟩]) (.cond (.t 65) (.seq (.reg false [⟨(some 4), (.mv (.c (.bool false))), none⟩]) .ret) .skip)) (.seq (.reg false [⟨(some 12), (.mv (.c (.int .i64 1))), none⟩]) (.seq (.reg false [⟨(some 66), (.mv (.t 9)), none⟩, ⟨(some 67), (.mv (.t 12)), none⟩, ⟨(some 68), (.call (.f 14) [(.t 66), (.t 67)]), none⟩, ⟨(some 12), (.mv (.t 68)), none⟩]) (.seq (.reg false [⟨(some 13), (.mv (.c (.int .i64 1))), none⟩]) (.seq (.reg false [⟨(some 69), (.mv (.t 9)), none⟩, ⟨(some 70), (.mv (.t 13)), none⟩, ⟨(some 71), (.call (.f 15) [(.t 69), (.t 70)]), none⟩, ⟨(some 13), (.mv (.t 71)), none⟩]) (.seq (.seq (.reg false [⟨(some 72), (.mv (.t 13)), none⟩, ⟨(some 73), (.bin .lss (.t 72) (.c (.int .i64 0))), none⟩]) (.cond (.t 73) (.seq (.reg false [⟨(some 4), (.mv (.c (.bool false))), none⟩]) .ret) .skip)) (.seq (.seq (.reg false [⟨(some 74), (.mv (.t 13)), none⟩, ⟨(some 75), (.mv (.t 12)), none⟩, ⟨(some 76), (.bin .neq (.t 74) (.t 75)), none⟩]) (.cond (.t 76) (.seq (.reg false [⟨(some 4), (.mv (.c (.bool false))), none⟩]) .ret) .skip)) (.seq (.reg false [⟨(some 78), (.ld 2 (.t 2)), none⟩, ⟨(some 79), (.call (.f 9) [(.t 78)]), none⟩, ⟨(some 80), (.mv (.t 1)), none⟩, ⟨(some 81), (.call (.f 10) [(.t 79), (.t 80)]), none⟩, ⟨(some 77), (.mv (.t 81)), none⟩, ⟨(some 82), (.ext (.t 77) 0), none⟩, ⟨(some 83), (.ext (.t 77) 1), none⟩, ⟨(some 14), (.mv (.t 82)), none⟩, ⟨(some 15), (.mv (.t 83)), none⟩]) (.seq (.seq (.reg false [⟨(some 84), (.mv (.t 14)), none⟩, ⟨(some 85), (.mv (.t 6)), none⟩, ⟨(some 86), (.call (.f 11) [(.t 84), (.t 85)]), none⟩, ⟨(some 87), (.un .not (.t 86)), none⟩, ⟨(some 88), (.mv (.t 87)), none⟩, ⟨(some 89), (.mv (.t 15)), (some (88, false))⟩, ⟨(some 90), (.mv (.t 7)), (some (88, false))⟩, ⟨(some 91), (.bin .neq (.t 89) (.t 90)), (some (88, false))⟩, ⟨(some 92), (.pick (.t 88) (.c (.bool true)) (.t 91)), none⟩]) (.cond (.t 92) (.seq (.reg false [⟨(some 4), (.mv (.c (.bool false))), none⟩]) .ret) .skip)) (.seq (.reg false [⟨(some 13), (.mv (.c (.int .i64 1))), none⟩]) (.seq (.reg false [⟨(some 93), (.mv (.t 9)), none⟩, ⟨(some 94), (.mv (.t 13)), none⟩, ⟨(some 95), (.call (.f 15) [(.t 93), (.t 94)]), none⟩, ⟨(some 13), (.mv (.t 95)), none⟩]) (.seq (.seq (.reg false [⟨(some 96), (.mv (.t 13)), none⟩, ⟨(some 97), (.bin .lss (.t 96) (.c (.int .i64 0))), none⟩]) (.cond (.t 97) (.seq (.reg false [⟨(some 4), (.mv (.c (.bool false))), none⟩]) .ret) .skip)) (.seq (.seq (.reg false [⟨(some 98), (.mv (.t 13)), none⟩, ⟨(some 99), (.mv (.t 12)), none⟩, ⟨(some 100), (.bin .neq (.t 98) (.t 99)), none⟩]) (.cond (.t 100) (.seq (.reg false [⟨(some 4), (.mv (.c (.bool false))), none⟩]) .ret) .skip)) (.seq (.reg false [⟨(some 4), (.mv (.c (.bool true))), none⟩]) .ret))))))))))))))))))))))))), 101, [(.t 4)]⟩
theorem k_laws_FnExactSolutionOfSet : compF Try.prog Try.f3 = some c_laws_FnExactSolutionOfSet := by kernel_rfl

def wr2 (h : AH) (i o : Nat) (cs : List AV) : AH := upd h i ((h i).map fun b => { b with cells := putA b.cells o cs })
theorem wr2_other {h : AH} {i o j : Nat} {cs : List AV} (e : j ≠ i) : wr2 h i o cs j = h j := upd_other e
theorem putA_two {z : List AV} {o : Nat} {x y : AV} (h : o + 2 ≤ z.length) : putA (putA z o [x]) (o + 1) [y] = putA z o [x, y] := by
  rw [putA_eq_set (by rw [putA_len (by omega)]; omega), putA_eq_set (by omega)]
  refine List.ext_getElem? fun i => ?_
  simp only [putA, List.getElem?_set, List.length_set, List.getElem?_append, List.length_append, List.length_take, List.length_cons, List.length_nil, List.getElem?_take, List.getElem?_drop]
  by_cases h1 : i < o
  · rw [if_neg (by omega), if_neg (by omega), if_pos (by omega), if_pos (by omega), if_pos h1]
  · by_cases h2 : i = o
    · subst h2; rw [if_neg (by omega), if_pos rfl, if_pos (by omega), if_pos (by omega), if_neg (by omega), show i - min i z.length = 0 by omega]; rfl
    · by_cases h3 : i = o + 1
      · subst h3; rw [if_pos rfl, if_pos (by omega), if_pos (by omega), if_neg (by omega), show o + 1 - min o z.length = 1 by omega]; rfl
      · rw [if_neg (by omega), if_neg (by omega), if_neg (by omega)]
        congr 1; omega
section
variable {lo hi : Nat} {h : AH} {v : AV} {l : List (Int × Int)}
theorem Fracs.st2 (s : Fracs true lo hi h v l) {k : Nat} (hk : k < l.length) {x y : Int} {n0 n : Nat} {W : Nat → Prop} (hW : ∀ i, lo ≤ i → i < hi → n0 ≤ i ∨ W i) (hn : hi ≤ n) (K : AV → AH → Nat → Prop) :
    S1 n0 W 2 (.ptr (bid v) (boff v + k * 2)) (.agg [.int .i64 x, .int .i64 y]) K h n = K .any (wr2 h (bid v) (boff v + k * 2) [.int .i64 x, .int .i64 y]) n := by
  rcases Sl.shape s with rfl | ⟨hw, _⟩ | ⟨h1, h2, h3, ⟨ty, cells, w, op⟩, hb, hw, hl, hcc⟩
  · have h0 : (0 : Nat) = l.length := Fracs.slen s
    omega
  · cases hw
  · have hw' : w = true := hw rfl
    subst hw'
    have hfl := fracs_len l
    have hl : boff v + (fracs l).length ≤ cells.length := hl
    rw [s1, hb, s2]
    simp only [wr2, hb, Option.map_some, AV.storable, AV.cells]
    refine propext ⟨fun h => h.2.2.2.2.2, fun h => ⟨by simp [AV.storable, one_int], by simp [AV.cells], by omega, by omega, hW _ h2 h3, h⟩⟩
theorem Fracs.wr2 (s : Fracs true lo hi h v l) {k : Nat} (hk : k < l.length) (x y : Int) : Fracs true lo hi (L.wr2 h (bid v) (boff v + k * 2) [.int .i64 x, .int .i64 y]) v (l.set k (x, y)) := by
  have h1 := (s.wrn hk x).wrd (k := k) (by simpa using hk) y
  have e1 : (l.set k (x, (l.getD k (0, 0)).2)).set k (((l.set k (x, (l.getD k (0, 0)).2)).getD k (0, 0)).1, y) = l.set k (x, y) := by
    rw [List.set_set, getD_set, if_pos ⟨rfl, hk⟩]
  rw [e1] at h1
  rcases Sl.shape s with rfl | ⟨hw, _⟩ | ⟨h2, h3, h4, ⟨ty, cells, w, op⟩, hb, hw, hl, hcc⟩
  · have h0 : (0 : Nat) = l.length := Fracs.slen s
    omega
  · cases hw
  · have hfl := fracs_len l
    have hl : boff v + (fracs l).length ≤ cells.length := hl
    have e2 : L.wr2 h (bid v) (boff v + k * 2) [.int .i64 x, .int .i64 y] = wr (wr h (bid v) (boff v + k * 2) (.int .i64 x)) (bid v) (boff v + k * 2 + 1) (.int .i64 y) := by
      funext i
      by_cases hi : i = bid v
      · subst hi
        simp only [L.wr2, wr, upd_same, hb, Option.map_some]
        rw [putA_two (by omega)]
      · rw [wr2_other hi, wr_other hi, wr_other hi]
    rw [e2]; exact h1
end
/-- What a set leaves of a list. -/
def onlyL (l : List Int) (a : Int) : List Int := rowOf l.length fun k => if hasB a k = true then l.getD k 0 else 0
def onlyF (l : List (Int × Int)) (a : Int) : List (Int × Int) := (List.range l.length).map fun k => if hasB a k = true then l.getD k (0, 0) else (0, 1)
theorem onlyF_len (l : List (Int × Int)) (a : Int) : (onlyF l a).length = l.length := by simp [onlyF]
theorem onlyF_get {l : List (Int × Int)} {a : Int} {k : Nat} (hk : k < l.length) : (onlyF l a).getD k (0, 0) = if hasB a k = true then l.getD k (0, 0) else (0, 1) := by
  simp [onlyF, List.getD, hk]
def solV (ll : List (List Int)) (q : List Int) (a : Int) : List (Int × Int) × Int :=
  if codeP ll q a = 0 then (if setP ll q feasT a.toNat = true then (if allFr (onlyF (ptF ll q a) a) = true then (onlyF (ptF ll q a) a, 0) else ([], 3)) else ([], 5)) else ([], codeP ll q a)
theorem solV_small (ll : List (List Int)) (q : List Int) (a : Int) : (solV ll q a).1.length ≤ 1048576 := by
  unfold solV
  split
  · rename_i hc
    have := ((isMat_iff ll).1 (isProb_facts (codeP_zero.1 hc).1).1).2.1
    split
    · split
      · simp only [onlyF_len, ptF_len]; omega
      · simp
    · simp
  · simp
theorem set_nat {n : Nat} {a : Int} (h : inSet n a = true) : ((a.toNat : Nat) : Int) = a := by
  have := of_decide_eq_true h; omega
theorem red_zero {d : Int} (hd : d ≠ 0) : red 0 d = (0, 1) := by
  simp only [red, Int.zero_mul, Int.gcd_zero_left]
  refine Prod.ext (by simp) ?_
  simp only
  exact Int.ediv_self (by omega)
theorem onlyF_sol {ll : List (List Int)} {q : List Int} {a : Int} (hd : dtS ll a ≠ 0) : ((onlyL (solL ll q a) a).map fun y => red y (dtS ll a).natAbs) = onlyF (ptF ll q a) a := by
  have h1 := ptF_sol ll q a hd
  have hl1 := solL_len ll q a
  have hl2 := ptF_len ll q a
  refine getD_ext (d := (0, 0)) (by simp [onlyL, rowOf_len, onlyF_len, hl1, hl2]) fun k hk => ?_
  simp only [List.length_map, onlyL, rowOf_len, hl1] at hk
  rw [getD_map _ _ _ 0 _ (by rw [onlyL, rowOf_len]; omega), onlyF_get (by omega), onlyL, rowOf_get (by omega)]
  have h2 : (ptF ll q a).getD k (0, 0) = red ((solL ll q a).getD k 0) (dtS ll a).natAbs := by rw [← h1, getD_map _ _ _ 0 _ (by omega)]
  split
  · exact h2.symm
  · exact red_zero (by omega)
/-- In lowest terms, told by whole words. -/
def Low (p : Int × Int) : Prop := 1 ≤ p.2 ∧ Int.gcd p.1 p.2 = 1 ∧ in64 p.1 ∧ in64 p.2
theorem red_low {x d : Int} (hd : d ≠ 0) : 1 ≤ (red x d).2 ∧ Int.gcd (red x d).1 (red x d).2 = 1 := by
  have hg : 0 < (Int.gcd x d : Int) := by have := Int.gcd_pos_of_ne_zero_right x hd; omega
  have hgd : (Int.gcd x d : Int) ∣ (d.natAbs : Int) := Int.dvd_natAbs.2 (Int.gcd_dvd_right ..)
  have e1 : Int.gcd (x * d.sign) (d.natAbs : Int) = Int.gcd x d := by
    rcases Int.lt_or_gt_of_ne hd with h | h
    · rw [Int.sign_eq_neg_one_of_neg h]; simp [Int.gcd]
    · rw [Int.sign_eq_one_of_pos h]; simp [Int.gcd]
  constructor
  · simp only [red]
    obtain ⟨c, hc⟩ := hgd
    have h2 : ((d.natAbs / Int.gcd x d : Nat) : Int) = c := by rw [Int.natCast_ediv, hc, Int.mul_ediv_cancel_left _ (by omega)]
    have h3 : 0 < (Int.gcd x d : Int) * c := by omega
    have h4 : 0 < c := by
      rcases Int.lt_or_le 0 c with h | h
      · exact h
      · have := Int.mul_le_mul_of_nonneg_left h (show 0 ≤ (Int.gcd x d : Int) by omega)
        rw [Int.mul_zero] at this; omega
    omega
  · have := Int.gcd_ediv_gcd_ediv_gcd (i := x * d.sign) (j := (d.natAbs : Int)) (by rw [e1]; omega)
    rw [e1] at this
    simpa only [red, Int.natCast_ediv] using this
theorem ptF_low {ll : List (List Int)} {q : List Int} {a : Int} (hp : isProb ll q = true) (hd : dtS ll a ≠ 0) {k : Nat} (hk : k < ll.length) : Low ((ptF ll q a).getD k (0, 0)) := by
  have h1 := ptF_b (s := a) hk hp hd
  have h2 := dtS_b hp a
  have e : (ptF ll q a).getD k (0, 0) = red (dtK ll q a k) (dtS ll a) := by rw [ptF, getD_map _ _ _ 0 _ (by rw [ptL_len]; exact hk), ptL, rowOf_get hk]
  rw [e] at h1 ⊢
  obtain ⟨h3, h4⟩ := red_low (x := dtK ll q a k) hd
  refine ⟨h3, h4, h1, ?_⟩
  have h5 : ((red (dtK ll q a k) (dtS ll a)).2 : Int) ≤ ((dtS ll a).natAbs : Int) := by
    simp only [red]
    exact Int.ofNat_le.2 (Nat.div_le_self _ _)
  unfold in64; omega
theorem onlyF_low {ll : List (List Int)} {q : List Int} {a : Int} (hp : isProb ll q = true) (hd : dtS ll a ≠ 0) {k : Nat} (hk : k < ll.length) : Low ((onlyF (ptF ll q a) a).getD k (0, 0)) := by
  rw [onlyF_get (by rw [ptF_len]; exact hk)]
  split
  · exact ptF_low hp hd hk
  · exact ⟨by decide, by decide, by unfold in64; decide, by unfold in64; decide⟩
/-- A list with the places before k that a set does not have put to nothing. -/
def stgL (l : List Int) (a : Int) (k : Nat) : List Int := rowOf l.length fun j => if j < k ∧ hasB a j = false then 0 else l.getD j 0
theorem stgL_len (l : List Int) (a : Int) (k : Nat) : (stgL l a k).length = l.length := rowOf_len _ _
theorem stgL_zero (l : List Int) (a : Int) : stgL l a 0 = l := getD_ext (d := 0) (stgL_len _ _ _) fun k hk => by
  rw [stgL, rowOf_get (by rw [stgL_len] at hk; exact hk), if_neg (by omega)]
theorem stgL_t {l : List Int} {a : Int} {k : Nat} (h : hasB a k = true) : stgL l a (k + 1) = stgL l a k := getD_ext (d := 0) (by simp [stgL_len]) fun j hj => by
  rw [stgL_len] at hj
  rw [stgL, stgL, rowOf_get hj, rowOf_get hj]
  by_cases e : j = k
  · subst e; rw [if_neg (by simp [h]), if_neg (by simp [h])]
  · by_cases e2 : j < k
    · simp [show j < k + 1 by omega, e2]
    · simp [show ¬ j < k + 1 by omega, e2]
theorem stgL_f {l : List Int} {a : Int} {k : Nat} (h : hasB a k = false) (hk : k < l.length) : stgL l a (k + 1) = (stgL l a k).set k 0 := getD_ext (d := 0) (by simp [stgL_len]) fun j hj => by
  rw [stgL_len] at hj
  rw [getD_set, stgL, stgL, rowOf_get hj, rowOf_get hj, rowOf_len]
  by_cases e : j = k
  · subst e; rw [if_pos ⟨by omega, h⟩, if_pos ⟨rfl, hk⟩]
  · rw [if_neg (c := k = j ∧ j < l.length) (fun h9 => e h9.1.symm)]
    by_cases e2 : j < k
    · simp [show j < k + 1 by omega, e2]
    · simp [show ¬ j < k + 1 by omega, e2]
theorem stgL_full (l : List Int) (a : Int) : stgL l a l.length = onlyL l a := getD_ext (d := 0) (by simp [stgL_len, onlyL, rowOf_len]) fun j hj => by
  rw [stgL_len] at hj
  rw [stgL, onlyL, rowOf_get hj, rowOf_get hj]
  cases h : hasB a j <;> simp [hj]
def stgF (l : List (Int × Int)) (a : Int) (k : Nat) : List (Int × Int) := (List.range l.length).map fun j => if j < k ∧ hasB a j = false then (0, 1) else l.getD j (0, 0)
theorem stgF_len (l : List (Int × Int)) (a : Int) (k : Nat) : (stgF l a k).length = l.length := by simp [stgF]
theorem stgF_get {l : List (Int × Int)} {a : Int} {k j : Nat} (hj : j < l.length) : (stgF l a k).getD j (0, 0) = if j < k ∧ hasB a j = false then (0, 1) else l.getD j (0, 0) := by
  simp [stgF, List.getD, hj]
theorem stgF_zero (l : List (Int × Int)) (a : Int) : stgF l a 0 = l := getD_ext (d := (0, 0)) (stgF_len _ _ _) fun k hk => by
  rw [stgF_get (by rw [stgF_len] at hk; exact hk), if_neg (by omega)]
theorem stgF_t {l : List (Int × Int)} {a : Int} {k : Nat} (h : hasB a k = true) : stgF l a (k + 1) = stgF l a k := getD_ext (d := (0, 0)) (by simp [stgF_len]) fun j hj => by
  rw [stgF_len] at hj
  rw [stgF_get hj, stgF_get hj]
  by_cases e : j = k
  · subst e; rw [if_neg (by simp [h]), if_neg (by simp [h])]
  · by_cases e2 : j < k
    · simp [show j < k + 1 by omega, e2]
    · simp [show ¬ j < k + 1 by omega, e2]
theorem stgF_f {l : List (Int × Int)} {a : Int} {k : Nat} (h : hasB a k = false) (hk : k < l.length) : stgF l a (k + 1) = (stgF l a k).set k (0, 1) := getD_ext (d := (0, 0)) (by simp [stgF_len]) fun j hj => by
  rw [stgF_len] at hj
  rw [getD_set, stgF_get hj, stgF_get hj, stgF_len]
  by_cases e : j = k
  · subst e; rw [if_pos ⟨by omega, h⟩, if_pos ⟨rfl, hk⟩]
  · rw [if_neg (c := k = j ∧ j < l.length) (fun h9 => e h9.1.symm)]
    by_cases e2 : j < k
    · simp [show j < k + 1 by omega, e2]
    · simp [show ¬ j < k + 1 by omega, e2]
theorem stgF_full (l : List (Int × Int)) (a : Int) : stgF l a l.length = onlyF l a := getD_ext (d := (0, 0)) (by simp [stgF_len, onlyF_len]) fun j hj => by
  rw [stgF_len] at hj
  rw [stgF_get hj, onlyF_get hj]
  cases h : hasB a j <;> simp [hj]
section
variable {w : Bool} {lo hi : Nat} {h : AH} {v u : AV} {vs : List AV} {ll : List (List Int)} {q : List Int} {l : List Int}
theorem impl_only (s : Ints true lo hi h v l) (hl : l.length ≤ 1048576) (a : Int) (n : Nat) (hn : hi ≤ n) :
    FQ Try.prog 50 [v, .int .i64 a] h n fun v' h' n' => Ints true n n' h' v' (onlyL l a) := by
  refine fq_intro Try.func50 k_impl_only ?_
  simp (maxSteps := 2000000) -implicitDefEqProofs (disch := omega) only [c_impl_only, xsW, xsC, if_true, if_false, ite_true, ite_false, forall_const, ne_eq, beq_self_eq_true, bne_self_eq_false, imp_self, true_implies, false_implies, implies_true, evP, evE, ev, setD, Nat.reduceAdd, Nat.reduceSub, reduceCtorEq, fillA, cutA, Nat.reduceLeDiff, Nat.reduceMul, Int.reduceLT, Int.reduceLE, Int.reduceEq, Int.reduceNe, Int.reduceAdd, Int.reduceSub, Int.reduceMul, Int.reduceNeg, Int.reduceToNat]
  refine fq_use (slices_Clone s hl n hn) fun v1 h1 n1 hn1 hs1 hv1 => ?_
  simp (maxSteps := 2000000) -implicitDefEqProofs (disch := omega) only [xsW, xsC, if_true, if_false, ite_true, ite_false, forall_const, ne_eq, beq_self_eq_true, bne_self_eq_false, imp_self, true_implies, false_implies, implies_true, evP, evE, ev, setD, Nat.reduceAdd, Nat.reduceSub, reduceCtorEq, fillA, cutA, Nat.reduceLeDiff, Nat.reduceMul, Int.reduceLT, Int.reduceLE, Int.reduceEq, Int.reduceNe, Int.reduceAdd, Int.reduceSub, Int.reduceMul, Int.reduceNeg, Int.reduceToNat,  hv1.ln]
  refine loop_for l.length 0 (fun k hp => [v, .int .i64 a, .any, .any, .nilsl, v1, .any, .any, .any, v1, .int .i64 l.length, .int .i64 k, .any, .any, .any, .any, .any, .any, .any, .any, .any, .any, .any]) (fun _ hp => hp)
    (fun k hp m => Ints true n n1 hp v1 (stgL l a k) ∧ (∀ j, j < n → hp j = h j)) h1 (Nat.zero_le _) ⟨by rw [stgL_zero]; exact hv1, hs1⟩ (by simp [LeL, Le1]) (fun _ _ h => h) ?_
  rintro k hp m - hk hm ⟨g1, g2⟩
  simp (maxSteps := 2000000) -implicitDefEqProofs (disch := omega) only [xsW, xsC, if_true, if_false, ite_true, ite_false, forall_const, ne_eq, beq_self_eq_true, bne_self_eq_false, imp_self, true_implies, false_implies, implies_true, evP, evE, ev, setD, Nat.reduceAdd, Nat.reduceSub, reduceCtorEq, fillA, cutA, Nat.reduceLeDiff, Nat.reduceMul, Int.reduceLT, Int.reduceLE, Int.reduceEq, Int.reduceNe, Int.reduceAdd, Int.reduceSub, Int.reduceMul, Int.reduceNeg, Int.reduceToNat]
  (refine cd_dec (fun c1 => ?_) (fun c1 => ?_) <;> simp (maxSteps := 2000000) -implicitDefEqProofs (disch := omega) only [xsW, xsC, if_true, if_false, ite_true, ite_false, forall_const, ne_eq, beq_self_eq_true, bne_self_eq_false, imp_self, true_implies, false_implies, implies_true, evP, evE, ev, setD, Nat.reduceAdd, Nat.reduceSub, reduceCtorEq, fillA, cutA, Nat.reduceLeDiff, Nat.reduceMul, Int.reduceLT, Int.reduceLE, Int.reduceEq, Int.reduceNe, Int.reduceAdd, Int.reduceSub, Int.reduceMul, Int.reduceNeg, Int.reduceToNat,  c1])
  · have hk2 : k < l.length := by omega
    refine q_use (impl_has _ _ _ _) fun n2 hn2 => ?_
    cases hb : hasB a k
    · have e1 := fun K => Ints.st g1 (k := k) (x := 0) (n0 := n) (n := n2) (W := none') (by rw [stgL_len]; exact hk2) (fun i a b => .inl (by omega)) (by omega) K
      have g3 := g1.wr (k := k) (by rw [stgL_len]; exact hk2) 0
      have hlen := stgL_len l a k
      have hown := Sl.below g1 (by rw [g1.slen]; omega)
      simp (maxSteps := 2000000) -implicitDefEqProofs (disch := omega) only [xsW, xsC, if_true, if_false, ite_true, ite_false, forall_const, ne_eq, beq_self_eq_true, bne_self_eq_false, imp_self, true_implies, false_implies, implies_true, evP, evE, ev, setD, Nat.reduceAdd, Nat.reduceSub, reduceCtorEq, fillA, cutA, Nat.reduceLeDiff, Nat.reduceMul, Int.reduceLT, Int.reduceLE, Int.reduceEq, Int.reduceNe, Int.reduceAdd, Int.reduceSub, Int.reduceMul, Int.reduceNeg, Int.reduceToNat,  g1.ia, e1]
      exact ⟨_, ⟨by rw [stgL_f hb hk2]; exact g3, fun j hj => (wr_other (by omega)).trans (g2 j hj)⟩, by omega, by omega, (by simp [LeL, Le1]), fun _ _ h => h⟩
    · simp (maxSteps := 2000000) -implicitDefEqProofs (disch := omega) only [xsW, xsC, if_true, if_false, ite_true, ite_false, forall_const, ne_eq, beq_self_eq_true, bne_self_eq_false, imp_self, true_implies, false_implies, implies_true, evP, evE, ev, setD, Nat.reduceAdd, Nat.reduceSub, reduceCtorEq, fillA, cutA, Nat.reduceLeDiff, Nat.reduceMul, Int.reduceLT, Int.reduceLE, Int.reduceEq, Int.reduceNe, Int.reduceAdd, Int.reduceSub, Int.reduceMul, Int.reduceNeg, Int.reduceToNat]
      exact ⟨hp, ⟨by rw [stgL_t hb]; exact g1, g2⟩, by omega, by omega, (by simp [LeL, Le1]), fun _ _ h => h⟩
  · have e : k = l.length := by omega
    subst e
    intro _ h2 hh
    rw [stgL_full] at g1
    exact (g1.keep fun i a b => hh i a (by omega)).wide (Nat.le_refl _) (by omega)
theorem impl_SolutionOfSet (s : Prob w lo hi h v u vs ll q) (hl : ll.length ≤ 1048576) (hll : ∀ l ∈ ll, l.length ≤ 1048576) (hq : q.length ≤ 1048576) (a : Int) (n : Nat) (hn : hi ≤ n) :
    FQ Try.prog 10 [.agg [v, u], .int .i64 a] h n fun x h' n' => ∃ v', x = .tup [v', .int .i64 (solV ll q a).2] ∧ Fracs true n n' h' v' (solV ll q a).1 := by
  refine fq_intro Try.func10 k_impl_SolutionOfSet ?_
  have o1 := one_any (Sl.any s.M.out)
  have o2 := one_any (Sl.any s.Q)
  simp (maxSteps := 2000000) -implicitDefEqProofs (disch := omega) only [c_impl_SolutionOfSet, o1, o2, xsW, xsC, if_true, if_false, ite_true, ite_false, forall_const, ne_eq, beq_self_eq_true, bne_self_eq_false, imp_self, true_implies, false_implies, implies_true, evP, evE, ev, setD, Nat.reduceAdd, Nat.reduceSub, reduceCtorEq, fillA, cutA, Nat.reduceLeDiff, Nat.reduceMul, Int.reduceLT, Int.reduceLE, Int.reduceEq, Int.reduceNe, Int.reduceAdd, Int.reduceSub, Int.reduceMul, Int.reduceNeg, Int.reduceToNat]
  refine q_use (impl_setCode (s.keep (fun i _ hi9 => by simp (disch := omega) only [upd_other])) hl hll hq a _ (by omega)) fun n1 hn1 => ?_
  simp (maxSteps := 2000000) -implicitDefEqProofs (disch := omega) only [xsW, xsC, if_true, if_false, ite_true, ite_false, forall_const, ne_eq, beq_self_eq_true, bne_self_eq_false, imp_self, true_implies, false_implies, implies_true, evP, evE, ev, setD, Nat.reduceAdd, Nat.reduceSub, reduceCtorEq, fillA, cutA, Nat.reduceLeDiff, Nat.reduceMul, Int.reduceLT, Int.reduceLE, Int.reduceEq, Int.reduceNe, Int.reduceAdd, Int.reduceSub, Int.reduceMul, Int.reduceNeg, Int.reduceToNat]
  (refine cd_dec (fun c1 => ?_) (fun c1 => ?_) <;> simp (maxSteps := 2000000) -implicitDefEqProofs (disch := omega) only [xsW, xsC, if_true, if_false, ite_true, ite_false, forall_const, ne_eq, beq_self_eq_true, bne_self_eq_false, imp_self, true_implies, false_implies, implies_true, evP, evE, ev, setD, Nat.reduceAdd, Nat.reduceSub, reduceCtorEq, fillA, cutA, Nat.reduceLeDiff, Nat.reduceMul, Int.reduceLT, Int.reduceLE, Int.reduceEq, Int.reduceNe, Int.reduceAdd, Int.reduceSub, Int.reduceMul, Int.reduceNeg, Int.reduceToNat,  c1])
  · intro _ h2 _
    exact ⟨.nilsl, by simp [solV, c1], by simp only [solV, if_neg c1]; exact Sl.nil⟩
  · have c2 : codeP ll q a = 0 := Decidable.not_not.1 c1
    have hp := (codeP_zero.1 c2).1
    have ha := set_nat (codeP_zero.1 c2).2
    have hN := ((isMat_iff ll).1 (isProb_facts hp).1).2.1
    refine fq_use (impl_point (s.keep (fun i _ hi9 => by simp (disch := omega) only [upd_other])) hp a n1 (by omega)) fun x1 h1 n2 hn2 hs1 hx1 => ?_
    rcases hx1 with ⟨d1, rfl⟩ | ⟨d1, v1, rfl, hv1⟩
    · have hf : setP ll q feasT a.toNat = false := by simp [setP, ha, d1]
      simp (maxSteps := 2000000) -implicitDefEqProofs (disch := omega) only [xsW, xsC, if_true, if_false, ite_true, ite_false, forall_const, ne_eq, beq_self_eq_true, bne_self_eq_false, imp_self, true_implies, false_implies, implies_true, evP, evE, ev, setD, Nat.reduceAdd, Nat.reduceSub, reduceCtorEq, fillA, cutA, Nat.reduceLeDiff, Nat.reduceMul, Int.reduceLT, Int.reduceLE, Int.reduceEq, Int.reduceNe, Int.reduceAdd, Int.reduceSub, Int.reduceMul, Int.reduceNeg, Int.reduceToNat]
      intro _ h2 _
      exact ⟨.nilsl, by simp [solV, c2, hf], by simp [solV, c2, hf]; exact Sl.nil⟩
    · have hlen := solL_len ll q a
      simp (maxSteps := 2000000) -implicitDefEqProofs (disch := omega) only [xsW, xsC, if_true, if_false, ite_true, ite_false, forall_const, ne_eq, beq_self_eq_true, bne_self_eq_false, imp_self, true_implies, false_implies, implies_true, evP, evE, ev, setD, Nat.reduceAdd, Nat.reduceSub, reduceCtorEq, fillA, cutA, Nat.reduceLeDiff, Nat.reduceMul, Int.reduceLT, Int.reduceLE, Int.reduceEq, Int.reduceNe, Int.reduceAdd, Int.reduceSub, Int.reduceMul, Int.reduceNeg, Int.reduceToNat]
      refine q_use (impl_isFeasible hv1 (by omega) n2) fun n3 hn3 => ?_
      cases hft : feasT (solL ll q a)
      · have hf : setP ll q feasT a.toNat = false := by simp [setP, ha, hft]
        simp (maxSteps := 2000000) -implicitDefEqProofs (disch := omega) only [xsW, xsC, if_true, if_false, ite_true, ite_false, forall_const, ne_eq, beq_self_eq_true, bne_self_eq_false, imp_self, true_implies, false_implies, implies_true, evP, evE, ev, setD, Nat.reduceAdd, Nat.reduceSub, reduceCtorEq, fillA, cutA, Nat.reduceLeDiff, Nat.reduceMul, Int.reduceLT, Int.reduceLE, Int.reduceEq, Int.reduceNe, Int.reduceAdd, Int.reduceSub, Int.reduceMul, Int.reduceNeg, Int.reduceToNat]
        intro _ h2 _
        exact ⟨.nilsl, by simp [solV, c2, hf], by simp [solV, c2, hf]; exact Sl.nil⟩
      · have hf : setP ll q feasT a.toNat = true := by simp [setP, ha, hft, d1]
        simp (maxSteps := 2000000) -implicitDefEqProofs (disch := omega) only [xsW, xsC, if_true, if_false, ite_true, ite_false, forall_const, ne_eq, beq_self_eq_true, bne_self_eq_false, imp_self, true_implies, false_implies, implies_true, evP, evE, ev, setD, Nat.reduceAdd, Nat.reduceSub, reduceCtorEq, fillA, cutA, Nat.reduceLeDiff, Nat.reduceMul, Int.reduceLT, Int.reduceLE, Int.reduceEq, Int.reduceNe, Int.reduceAdd, Int.reduceSub, Int.reduceMul, Int.reduceNeg, Int.reduceToNat]
        refine fq_use (impl_only hv1 (by omega) a n3 (by omega)) fun v2 h2 n4 hn4 hs2 hv2 => ?_
        simp (maxSteps := 2000000) -implicitDefEqProofs (disch := omega) only [xsW, xsC, if_true, if_false, ite_true, ite_false, forall_const, ne_eq, beq_self_eq_true, bne_self_eq_false, imp_self, true_implies, false_implies, implies_true, evP, evE, ev, setD, Nat.reduceAdd, Nat.reduceSub, reduceCtorEq, fillA, cutA, Nat.reduceLeDiff, Nat.reduceMul, Int.reduceLT, Int.reduceLE, Int.reduceEq, Int.reduceNe, Int.reduceAdd, Int.reduceSub, Int.reduceMul, Int.reduceNeg, Int.reduceToNat]
        have hol : (onlyL (solL ll q a) a).length = ll.length := by rw [onlyL, rowOf_len, hlen]
        have hdb := dtS_b hp a
        refine fq_use (impl_allReduced hv2 (by omega) (fun k hk => by
          rw [onlyL, rowOf_get (by omega)]
          have := solL_b hp a (k := k) (by omega)
          split <;> omega) ((dtS ll a).natAbs : Int) (by unfold in64; omega) (by omega) n4 (Nat.le_refl _)) fun x3 h3 n5 hn5 hs3 ⟨v3, hx3, hv3⟩ => ?_
        subst hx3
        simp (maxSteps := 2000000) -implicitDefEqProofs (disch := omega) only [xsW, xsC, if_true, if_false, ite_true, ite_false, forall_const, ne_eq, beq_self_eq_true, bne_self_eq_false, imp_self, true_implies, false_implies, implies_true, evP, evE, ev, setD, Nat.reduceAdd, Nat.reduceSub, reduceCtorEq, fillA, cutA, Nat.reduceLeDiff, Nat.reduceMul, Int.reduceLT, Int.reduceLE, Int.reduceEq, Int.reduceNe, Int.reduceAdd, Int.reduceSub, Int.reduceMul, Int.reduceNeg, Int.reduceToNat]
        intro _ h4 hh
        rw [onlyF_sol d1] at hv3 ⊢
        rw [← allFr] at hv3 ⊢
        refine ⟨v3, ?_, ?_⟩
        · cases hff : allFr (onlyF (ptF ll q a) a) <;> simp [solV, c2, hf, hff]
        · have e : (solV ll q a).1 = if allFr (onlyF (ptF ll q a) a) = true then onlyF (ptF ll q a) a else [] := by cases hff : allFr (onlyF (ptF ll q a) a) <;> simp [solV, c2, hf, hff]
          rw [e]
          exact (hv3.keep fun i a b => hh i (by omega) b).wide (by omega) (Nat.le_refl _)
theorem spec_l02Solution (s : Prob w lo hi h v u vs ll q) (hp : isProb ll q = true) (a : Int) (hd : dtS ll a ≠ 0) (ha : inSet ll.length a = true) (n : Nat) (hn : hi ≤ n) :
    FQ Try.prog 43 [.agg [v, u], .int .i64 a] h n fun v' h' n' => Fracs true n n' h' v' (onlyF (ptF ll q a) a) := by
  refine fq_intro Try.func43 k_spec_l02Solution ?_
  have o1 := one_any (Sl.any s.M.out)
  have o2 := one_any (Sl.any s.Q)
  have hN := ((isMat_iff ll).1 (isProb_facts hp).1).2.1
  have hpl := ptF_len ll q a
  simp (maxSteps := 2000000) -implicitDefEqProofs (disch := omega) only [c_spec_l02Solution, o1, o2, xsW, xsC, if_true, if_false, ite_true, ite_false, forall_const, ne_eq, beq_self_eq_true, bne_self_eq_false, imp_self, true_implies, false_implies, implies_true, evP, evE, ev, setD, Nat.reduceAdd, Nat.reduceSub, reduceCtorEq, fillA, cutA, Nat.reduceLeDiff, Nat.reduceMul, Int.reduceLT, Int.reduceLE, Int.reduceEq, Int.reduceNe, Int.reduceAdd, Int.reduceSub, Int.reduceMul, Int.reduceNeg, Int.reduceToNat]
  refine fq_use (spec_l01Point (s.keep (fun i _ hi9 => by simp (disch := omega) only [upd_other])) hp a _ (by omega)) fun x1 h1 n1 hn1 hs1 hx1 => ?_
  rcases hx1 with ⟨d1, rfl⟩ | ⟨d1, v1, rfl, hv1⟩
  · exact absurd d1 hd
  · simp (maxSteps := 2000000) -implicitDefEqProofs (disch := omega) only [xsW, xsC, if_true, if_false, ite_true, ite_false, forall_const, ne_eq, beq_self_eq_true, bne_self_eq_false, imp_self, true_implies, false_implies, implies_true, evP, evE, ev, setD, Nat.reduceAdd, Nat.reduceSub, reduceCtorEq, fillA, cutA, Nat.reduceLeDiff, Nat.reduceMul, Int.reduceLT, Int.reduceLE, Int.reduceEq, Int.reduceNe, Int.reduceAdd, Int.reduceSub, Int.reduceMul, Int.reduceNeg, Int.reduceToNat]
    refine loop_for ll.length 0 (fun k hp => [.agg [v, u], .int .i64 a, .ptr n 0, .any, .nilsl, v1, .bool true, .int .i64 k, .any, .any, .any, .any, .any, .any, .any, .any, .any, .any, .any, .any, .any, .any, .any, .any, .any, .any, .any, .any, .any, .any, .any]) (fun _ hp => hp)
      (fun k hp m => Fracs true (n + 1) n1 hp v1 (stgF (ptF ll q a) a k)) h1 (Nat.zero_le _) (by rw [stgF_zero]; exact hv1) (by simp [LeL, Le1]) (fun _ _ h => h) ?_
    rintro k hp' m - hk hm g1
    have hlen := stgF_len (ptF ll q a) a k
    simp (maxSteps := 2000000) -implicitDefEqProofs (disch := omega) only [xsW, xsC, if_true, if_false, ite_true, ite_false, forall_const, ne_eq, beq_self_eq_true, bne_self_eq_false, imp_self, true_implies, false_implies, implies_true, evP, evE, ev, setD, Nat.reduceAdd, Nat.reduceSub, reduceCtorEq, fillA, cutA, Nat.reduceLeDiff, Nat.reduceMul, Int.reduceLT, Int.reduceLE, Int.reduceEq, Int.reduceNe, Int.reduceAdd, Int.reduceSub, Int.reduceMul, Int.reduceNeg, Int.reduceToNat,  g1.ln, hlen, hpl, bitf]
    (refine cd_dec (fun c1 => ?_) (fun c1 => ?_) <;> simp (maxSteps := 2000000) -implicitDefEqProofs (disch := omega) only [xsW, xsC, if_true, if_false, ite_true, ite_false, forall_const, ne_eq, beq_self_eq_true, bne_self_eq_false, imp_self, true_implies, false_implies, implies_true, evP, evE, ev, setD, Nat.reduceAdd, Nat.reduceSub, reduceCtorEq, fillA, cutA, Nat.reduceLeDiff, Nat.reduceMul, Int.reduceLT, Int.reduceLE, Int.reduceEq, Int.reduceNe, Int.reduceAdd, Int.reduceSub, Int.reduceMul, Int.reduceNeg, Int.reduceToNat,  c1])
    · have hk2 : k < ll.length := by omega
      by_cases hb : bitI a k = 0
      · have hb' : hasB a k = false := hasB_f.2 hb
        have e1 := fun K => Fracs.st2 g1 (k := k) (x := 0) (y := 1) (n0 := n) (n := m) (W := none') (by omega) (fun i a b => .inl (by omega)) (by omega) K
        have g3 := g1.wr2 (k := k) (by omega) 0 1
        simp (maxSteps := 2000000) -implicitDefEqProofs (disch := omega) only [xsW, xsC, if_true, if_false, ite_true, ite_false, forall_const, ne_eq, beq_self_eq_true, bne_self_eq_false, imp_self, true_implies, false_implies, implies_true, evP, evE, ev, setD, Nat.reduceAdd, Nat.reduceSub, reduceCtorEq, fillA, cutA, Nat.reduceLeDiff, Nat.reduceMul, Int.reduceLT, Int.reduceLE, Int.reduceEq, Int.reduceNe, Int.reduceAdd, Int.reduceSub, Int.reduceMul, Int.reduceNeg, Int.reduceToNat,  g1.ia, e1, bitf, hb, hlen, hpl]
        exact ⟨_, by rw [stgF_f hb' (by omega)]; exact g3, by omega, by omega, (by simp [LeL, Le1]), fun _ _ h => h⟩
      · have hb' : hasB a k = true := hasB_t.2 ((bitI_or a k).resolve_left hb)
        simp (maxSteps := 2000000) -implicitDefEqProofs (disch := omega) only [xsW, xsC, if_true, if_false, ite_true, ite_false, forall_const, ne_eq, beq_self_eq_true, bne_self_eq_false, imp_self, true_implies, false_implies, implies_true, evP, evE, ev, setD, Nat.reduceAdd, Nat.reduceSub, reduceCtorEq, fillA, cutA, Nat.reduceLeDiff, Nat.reduceMul, Int.reduceLT, Int.reduceLE, Int.reduceEq, Int.reduceNe, Int.reduceAdd, Int.reduceSub, Int.reduceMul, Int.reduceNeg, Int.reduceToNat,  bitf, hb]
        exact ⟨hp', by rw [stgF_t hb']; exact g1, by omega, by omega, (by simp [LeL, Le1]), fun _ _ h => h⟩
    · have e : k = (ptF ll q a).length := by omega
      rw [e, stgF_full] at g1
      intro _ h2 hh
      exact (g1.keep fun i a b => hh i (by omega) (by omega)).wide (by omega) (by omega)
theorem spec_l02Told {f : List (Int × Int)} (s : Fracs w lo hi h v f) (hl : f.length ≤ 1048576) (hf : ∀ k, k < f.length → Low (f.getD k (0, 0))) (n : Nat) :
    Q Try.prog 42 [v] h n (if allFr f = true then .tup [v, .int .i64 0] else .tup [.nilsl, .int .i64 3]) := by
  refine q_intro Try.func42 k_spec_l02Told ?_
  simp (maxSteps := 2000000) -implicitDefEqProofs (disch := omega) only [c_spec_l02Told, xsW, xsC, if_true, if_false, ite_true, ite_false, forall_const, ne_eq, beq_self_eq_true, bne_self_eq_false, imp_self, true_implies, false_implies, implies_true, evP, evE, ev, setD, Nat.reduceAdd, Nat.reduceSub, reduceCtorEq, fillA, cutA, Nat.reduceLeDiff, Nat.reduceMul, Int.reduceLT, Int.reduceLE, Int.reduceEq, Int.reduceNe, Int.reduceAdd, Int.reduceSub, Int.reduceMul, Int.reduceNeg, Int.reduceToNat]
  refine loop_for f.length 0 (fun k (_ : Unit) => [v, .any, .nilsl, .int .i64 0, .int .i64 k, .any, .any, .any, .any, .any, .any, .any, .any, .any, .any, .any, .any, .any, .any, .any, .any, .any, .any, .any, .any, .any, .any]) (fun _ _ => h)
    (fun k _ m => ∀ j, j < k → isFr 1000000000 (f.getD j (0, 0)).1 (f.getD j (0, 0)).2 = true) () (Nat.zero_le _) (fun j hj => absurd hj (Nat.not_lt_zero _)) (by simp [LeL, Le1]) (fun _ _ h => h) ?_
  rintro k - m - hk hm hall
  simp (maxSteps := 2000000) -implicitDefEqProofs (disch := omega) only [xsW, xsC, if_true, if_false, ite_true, ite_false, forall_const, ne_eq, beq_self_eq_true, bne_self_eq_false, imp_self, true_implies, false_implies, implies_true, evP, evE, ev, setD, Nat.reduceAdd, Nat.reduceSub, reduceCtorEq, fillA, cutA, Nat.reduceLeDiff, Nat.reduceMul, Int.reduceLT, Int.reduceLE, Int.reduceEq, Int.reduceNe, Int.reduceAdd, Int.reduceSub, Int.reduceMul, Int.reduceNeg, Int.reduceToNat,  s.ln]
  (refine cd_dec (fun c1 => ?_) (fun c1 => ?_) <;> simp (maxSteps := 2000000) -implicitDefEqProofs (disch := omega) only [xsW, xsC, if_true, if_false, ite_true, ite_false, forall_const, ne_eq, beq_self_eq_true, bne_self_eq_false, imp_self, true_implies, false_implies, implies_true, evP, evE, ev, setD, Nat.reduceAdd, Nat.reduceSub, reduceCtorEq, fillA, cutA, Nat.reduceLeDiff, Nat.reduceMul, Int.reduceLT, Int.reduceLE, Int.reduceEq, Int.reduceNe, Int.reduceAdd, Int.reduceSub, Int.reduceMul, Int.reduceNeg, Int.reduceToNat,  c1])
  · have hk2 : k < f.length := by omega
    obtain ⟨b1, b2, b3, b4⟩ := hf k hk2
    have bad : ¬ ((-1000000000 ≤ (f.getD k (0, 0)).1 ∧ (f.getD k (0, 0)).1 ≤ 1000000000) ∧ (f.getD k (0, 0)).2 ≤ 1000000000) → allFr f = false := fun hb => by
      cases hx : allFr f
      · rfl
      · have := (allFr_iff f).1 hx k hk2
        simp only [isFr, decide_eq_true_eq] at this
        omega
    simp (maxSteps := 2000000) -implicitDefEqProofs (disch := omega) only [xsW, xsC, if_true, if_false, ite_true, ite_false, forall_const, ne_eq, beq_self_eq_true, bne_self_eq_false, imp_self, true_implies, false_implies, implies_true, evP, evE, ev, setD, Nat.reduceAdd, Nat.reduceSub, reduceCtorEq, fillA, cutA, Nat.reduceLeDiff, Nat.reduceMul, Int.reduceLT, Int.reduceLE, Int.reduceEq, Int.reduceNe, Int.reduceAdd, Int.reduceSub, Int.reduceMul, Int.reduceNeg, Int.reduceToNat,  s.ia, s.ldn]
    refine q_use (spec_l01In _ _ _ _ _) fun n3 hn3 => ?_
    simp (maxSteps := 2000000) -implicitDefEqProofs (disch := omega) only [xsW, xsC, if_true, if_false, ite_true, ite_false, forall_const, ne_eq, beq_self_eq_true, bne_self_eq_false, imp_self, true_implies, false_implies, implies_true, evP, evE, ev, setD, Nat.reduceAdd, Nat.reduceSub, reduceCtorEq, fillA, cutA, Nat.reduceLeDiff, Nat.reduceMul, Int.reduceLT, Int.reduceLE, Int.reduceEq, Int.reduceNe, Int.reduceAdd, Int.reduceSub, Int.reduceMul, Int.reduceNeg, Int.reduceToNat]
    (refine gd_dec (fun c2 => ?_) (fun c2 => ?_) <;> simp (maxSteps := 2000000) -implicitDefEqProofs (disch := omega) only [xsW, xsC, if_true, if_false, ite_true, ite_false, forall_const, ne_eq, beq_self_eq_true, bne_self_eq_false, imp_self, true_implies, false_implies, implies_true, evP, evE, ev, setD, Nat.reduceAdd, Nat.reduceSub, reduceCtorEq, fillA, cutA, Nat.reduceLeDiff, Nat.reduceMul, Int.reduceLT, Int.reduceLE, Int.reduceEq, Int.reduceNe, Int.reduceAdd, Int.reduceSub, Int.reduceMul, Int.reduceNeg, Int.reduceToNat,  c2])
    · simp [bad (by omega)]
    · simp (maxSteps := 2000000) -implicitDefEqProofs (disch := omega) only [xsW, xsC, if_true, if_false, ite_true, ite_false, forall_const, ne_eq, beq_self_eq_true, bne_self_eq_false, imp_self, true_implies, false_implies, implies_true, evP, evE, ev, setD, Nat.reduceAdd, Nat.reduceSub, reduceCtorEq, fillA, cutA, Nat.reduceLeDiff, Nat.reduceMul, Int.reduceLT, Int.reduceLE, Int.reduceEq, Int.reduceNe, Int.reduceAdd, Int.reduceSub, Int.reduceMul, Int.reduceNeg, Int.reduceToNat,  s.ia, s.ldd]
      (refine cd_dec (fun c3 => ?_) (fun c3 => ?_) <;> simp (maxSteps := 2000000) -implicitDefEqProofs (disch := omega) only [xsW, xsC, if_true, if_false, ite_true, ite_false, forall_const, ne_eq, beq_self_eq_true, bne_self_eq_false, imp_self, true_implies, false_implies, implies_true, evP, evE, ev, setD, Nat.reduceAdd, Nat.reduceSub, reduceCtorEq, fillA, cutA, Nat.reduceLeDiff, Nat.reduceMul, Int.reduceLT, Int.reduceLE, Int.reduceEq, Int.reduceNe, Int.reduceAdd, Int.reduceSub, Int.reduceMul, Int.reduceNeg, Int.reduceToNat,  c3])
      · simp [bad (by omega)]
      · exact ⟨(), fun j hj => (Nat.lt_succ_iff_lt_or_eq.1 hj).elim (hall j) (fun e => by
          rw [e]; simp only [isFr, decide_eq_true_eq]; omega), by omega, by omega, (by simp [LeL, Le1])⟩
  · have hyes : allFr f = true := (allFr_iff f).2 fun j hj => hall j (by omega)
    simp [hyes]
theorem spec_SolutionOfSet (s : Prob w lo hi h v u vs ll q) (hl : ll.length ≤ 1048576) (hll : ∀ l ∈ ll, l.length ≤ 1048576) (hq : q.length ≤ 1048576) (a : Int) (n : Nat) (hn : hi ≤ n) :
    FQ Try.prog 8 [.agg [v, u], .int .i64 a] h n fun x h' n' => ∃ v', x = .tup [v', .int .i64 (solV ll q a).2] ∧ Fracs true n n' h' v' (solV ll q a).1 := by
  refine fq_intro Try.func8 k_spec_SolutionOfSet ?_
  have o1 := one_any (Sl.any s.M.out)
  have o2 := one_any (Sl.any s.Q)
  simp (maxSteps := 2000000) -implicitDefEqProofs (disch := omega) only [c_spec_SolutionOfSet, o1, o2, xsW, xsC, if_true, if_false, ite_true, ite_false, forall_const, ne_eq, beq_self_eq_true, bne_self_eq_false, imp_self, true_implies, false_implies, implies_true, evP, evE, ev, setD, Nat.reduceAdd, Nat.reduceSub, reduceCtorEq, fillA, cutA, Nat.reduceLeDiff, Nat.reduceMul, Int.reduceLT, Int.reduceLE, Int.reduceEq, Int.reduceNe, Int.reduceAdd, Int.reduceSub, Int.reduceMul, Int.reduceNeg, Int.reduceToNat]
  refine q_use (spec_l02Code (s.keep (fun i _ hi9 => by simp (disch := omega) only [upd_other])) hl hll hq a _ (by omega)) fun n1 hn1 => ?_
  simp (maxSteps := 2000000) -implicitDefEqProofs (disch := omega) only [xsW, xsC, if_true, if_false, ite_true, ite_false, forall_const, ne_eq, beq_self_eq_true, bne_self_eq_false, imp_self, true_implies, false_implies, implies_true, evP, evE, ev, setD, Nat.reduceAdd, Nat.reduceSub, reduceCtorEq, fillA, cutA, Nat.reduceLeDiff, Nat.reduceMul, Int.reduceLT, Int.reduceLE, Int.reduceEq, Int.reduceNe, Int.reduceAdd, Int.reduceSub, Int.reduceMul, Int.reduceNeg, Int.reduceToNat]
  (refine cd_dec (fun c1 => ?_) (fun c1 => ?_) <;> simp (maxSteps := 2000000) -implicitDefEqProofs (disch := omega) only [xsW, xsC, if_true, if_false, ite_true, ite_false, forall_const, ne_eq, beq_self_eq_true, bne_self_eq_false, imp_self, true_implies, false_implies, implies_true, evP, evE, ev, setD, Nat.reduceAdd, Nat.reduceSub, reduceCtorEq, fillA, cutA, Nat.reduceLeDiff, Nat.reduceMul, Int.reduceLT, Int.reduceLE, Int.reduceEq, Int.reduceNe, Int.reduceAdd, Int.reduceSub, Int.reduceMul, Int.reduceNeg, Int.reduceToNat,  c1])
  · intro _ h2 _
    exact ⟨.nilsl, by simp [solV, c1], by simp only [solV, if_neg c1]; exact Sl.nil⟩
  · have c2 : codeP ll q a = 0 := Decidable.not_not.1 c1
    have hp := (codeP_zero.1 c2).1
    have hin := (codeP_zero.1 c2).2
    have ha := set_nat hin
    have hN := ((isMat_iff ll).1 (isProb_facts hp).1).2.1
    have hF := spec_l02Feasible (s.keep (h' := upd h n (some ⟨30, [v, u], true, 0⟩)) (fun i _ hi9 => by simp (disch := omega) only [upd_other])) hp a.toNat n1 (by omega)
    rw [ha] at hF
    refine q_use hF fun n2 hn2 => ?_
    cases hf : setP ll q feasT a.toNat
    · simp (maxSteps := 2000000) -implicitDefEqProofs (disch := omega) only [xsW, xsC, if_true, if_false, ite_true, ite_false, forall_const, ne_eq, beq_self_eq_true, bne_self_eq_false, imp_self, true_implies, false_implies, implies_true, evP, evE, ev, setD, Nat.reduceAdd, Nat.reduceSub, reduceCtorEq, fillA, cutA, Nat.reduceLeDiff, Nat.reduceMul, Int.reduceLT, Int.reduceLE, Int.reduceEq, Int.reduceNe, Int.reduceAdd, Int.reduceSub, Int.reduceMul, Int.reduceNeg, Int.reduceToNat]
      intro _ h2 _
      exact ⟨.nilsl, by simp [solV, c2, hf], by simp [solV, c2, hf]; exact Sl.nil⟩
    · have hd : dtS ll a ≠ 0 := by
        have := hf
        simp only [setP, Bool.and_eq_true, decide_eq_true_eq, ha] at this
        exact this.1
      simp (maxSteps := 2000000) -implicitDefEqProofs (disch := omega) only [xsW, xsC, if_true, if_false, ite_true, ite_false, forall_const, ne_eq, beq_self_eq_true, bne_self_eq_false, imp_self, true_implies, false_implies, implies_true, evP, evE, ev, setD, Nat.reduceAdd, Nat.reduceSub, reduceCtorEq, fillA, cutA, Nat.reduceLeDiff, Nat.reduceMul, Int.reduceLT, Int.reduceLE, Int.reduceEq, Int.reduceNe, Int.reduceAdd, Int.reduceSub, Int.reduceMul, Int.reduceNeg, Int.reduceToNat]
      refine fq_use (spec_l02Solution (s.keep (fun i _ hi9 => by simp (disch := omega) only [upd_other])) hp a hd hin n2 (by omega)) fun v1 h1 n3 hn3 hs1 hv1 => ?_
      simp (maxSteps := 2000000) -implicitDefEqProofs (disch := omega) only [xsW, xsC, if_true, if_false, ite_true, ite_false, forall_const, ne_eq, beq_self_eq_true, bne_self_eq_false, imp_self, true_implies, false_implies, implies_true, evP, evE, ev, setD, Nat.reduceAdd, Nat.reduceSub, reduceCtorEq, fillA, cutA, Nat.reduceLeDiff, Nat.reduceMul, Int.reduceLT, Int.reduceLE, Int.reduceEq, Int.reduceNe, Int.reduceAdd, Int.reduceSub, Int.reduceMul, Int.reduceNeg, Int.reduceToNat]
      have hol : (onlyF (ptF ll q a) a).length = ll.length := by rw [onlyF_len, ptF_len]
      refine q_use (spec_l02Told hv1 (by omega) (fun k hk => onlyF_low hp hd (by omega)) n3) fun n4 hn4 => ?_
      cases hff : allFr (onlyF (ptF ll q a) a)
      · simp (maxSteps := 2000000) -implicitDefEqProofs (disch := omega) only [xsW, xsC, if_true, if_false, ite_true, ite_false, forall_const, ne_eq, beq_self_eq_true, bne_self_eq_false, imp_self, true_implies, false_implies, implies_true, evP, evE, ev, setD, Nat.reduceAdd, Nat.reduceSub, reduceCtorEq, fillA, cutA, Nat.reduceLeDiff, Nat.reduceMul, Int.reduceLT, Int.reduceLE, Int.reduceEq, Int.reduceNe, Int.reduceAdd, Int.reduceSub, Int.reduceMul, Int.reduceNeg, Int.reduceToNat]
        intro _ h2 _
        exact ⟨.nilsl, by simp [solV, c2, hf, hff], by simp [solV, c2, hf, hff]; exact Sl.nil⟩
      · simp (maxSteps := 2000000) -implicitDefEqProofs (disch := omega) only [xsW, xsC, if_true, if_false, ite_true, ite_false, forall_const, ne_eq, beq_self_eq_true, bne_self_eq_false, imp_self, true_implies, false_implies, implies_true, evP, evE, ev, setD, Nat.reduceAdd, Nat.reduceSub, reduceCtorEq, fillA, cutA, Nat.reduceLeDiff, Nat.reduceMul, Int.reduceLT, Int.reduceLE, Int.reduceEq, Int.reduceNe, Int.reduceAdd, Int.reduceSub, Int.reduceMul, Int.reduceNeg, Int.reduceToNat]
        intro _ h2 hh
        have e : solV ll q a = (onlyF (ptF ll q a) a, 0) := by simp [solV, c2, hf, hff]
        rw [e]
        exact ⟨v1, by simp, (hv1.keep fun i a b => hh i (by omega) (by omega)).wide (by omega) (by omega)⟩
end
set_option maxHeartbeats 2000000 in
theorem laws_SolutionOfSet {h : AH} {w_p : Bool} {lo_p hi_p : Nat} {v_p u_p : AV} {vs_p : List AV} {p : List (List Int)} {q_p : List Int} (s_p : Prob w_p lo_p hi_p h v_p u_p vs_p p q_p) (hl_p : p.length ≤ 9223372036854775807) (hll_p : ∀ l ∈ p, l.length ≤ 9223372036854775807) (hlq_p : q_p.length ≤ 9223372036854775807) (a : Int) (w_a : in64 a) (n : Nat) (hn_p : hi_p ≤ n) :
    Q Try.prog 3 [.agg [v_p, u_p], .int .i64 a] h n (.bool true) := by
  refine q_intro Try.func3 k_laws_FnExactSolutionOfSet ?_
  have o1 := one_any (Sl.any s_p.M.out)
  have oq1 := sto_any (Sl.any s_p.M.out)
  have oc1 := cel_any (Sl.any s_p.M.out)
  have o2 := one_any (Sl.any s_p.Q)
  have oq2 := sto_any (Sl.any s_p.Q)
  have oc2 := cel_any (Sl.any s_p.Q)
  simp (maxSteps := 2000000) -implicitDefEqProofs (disch := omega) only [c_laws_FnExactSolutionOfSet, o1, oq1, oc1, o2, oq2, oc2, xsW, xsC, if_true, if_false, ite_true, ite_false, forall_const, ne_eq, beq_self_eq_true, bne_self_eq_false, imp_self, true_implies, false_implies, implies_true, evP, evE, ev, setD, Nat.reduceAdd, Nat.reduceSub, reduceCtorEq, fillA, cutA, Nat.reduceLeDiff, Nat.reduceMul, Int.reduceLT, Int.reduceLE, Int.reduceEq, Int.reduceNe, Int.reduceAdd, Int.reduceSub, Int.reduceMul, Int.reduceNeg, Int.reduceToNat]
  refine q_use_ex (laws_szProblem (s_p.keep (fun i _ hi9 => by simp (disch := omega) only [upd_other])) hl_p hll_p hlq_p 1048576 (by omega) (by omega) _ (by omega)) fun rz3 n3 hn3 ⟨hr3a, hr3b, hr3c⟩ => ?_
  simp (maxSteps := 2000000) -implicitDefEqProofs (disch := omega) only [xsW, xsC, if_true, if_false, ite_true, ite_false, forall_const, ne_eq, beq_self_eq_true, bne_self_eq_false, imp_self, true_implies, false_implies, implies_true, evP, evE, ev, setD, Nat.reduceAdd, Nat.reduceSub, reduceCtorEq, fillA, cutA, Nat.reduceLeDiff, Nat.reduceMul, Int.reduceLT, Int.reduceLE, Int.reduceEq, Int.reduceNe, Int.reduceAdd, Int.reduceSub, Int.reduceMul, Int.reduceNeg, Int.reduceToNat,  o1, oq1, oc1, o2, oq2, oc2]
  (refine cd_dec (fun cz3 => ?_) (fun cz3 => ?_) <;> simp (maxSteps := 2000000) -implicitDefEqProofs (disch := omega) only [xsW, xsC, if_true, if_false, ite_true, ite_false, forall_const, ne_eq, beq_self_eq_true, bne_self_eq_false, imp_self, true_implies, false_implies, implies_true, evP, evE, ev, setD, Nat.reduceAdd, Nat.reduceSub, reduceCtorEq, fillA, cutA, Nat.reduceLeDiff, Nat.reduceMul, Int.reduceLT, Int.reduceLE, Int.reduceEq, Int.reduceNe, Int.reduceAdd, Int.reduceSub, Int.reduceMul, Int.reduceNeg, Int.reduceToNat,  cz3])
  obtain ⟨hb_p, hbb_p⟩ := sz_len2 (by omega) (fun h0 => (hr3c h0).1) cz3
  have hbq_p : q_p.length ≤ 1048576 := by have := (hr3c (by omega)).2; omega
  refine fq_use (laws_toProblem (s_p.keep (fun i _ hi9 => by simp (disch := omega) only [upd_other])) hb_p hbb_p hbq_p _ (by omega)) fun x4 h4 n4 hn4 hs4 ⟨v4, u4, vs4, hx4, hv4⟩ => ?_
  subst hx4
  have o5 := one_any (Sl.any hv4.M.out)
  have oq5 := sto_any (Sl.any hv4.M.out)
  have oc5 := cel_any (Sl.any hv4.M.out)
  have o6 := one_any (Sl.any hv4.Q)
  have oq6 := sto_any (Sl.any hv4.Q)
  have oc6 := cel_any (Sl.any hv4.Q)
  simp (maxSteps := 2000000) -implicitDefEqProofs (disch := omega) only [xsW, xsC, if_true, if_false, ite_true, ite_false, forall_const, ne_eq, beq_self_eq_true, bne_self_eq_false, imp_self, true_implies, false_implies, implies_true, evP, evE, ev, setD, Nat.reduceAdd, Nat.reduceSub, reduceCtorEq, fillA, cutA, Nat.reduceLeDiff, Nat.reduceMul, Int.reduceLT, Int.reduceLE, Int.reduceEq, Int.reduceNe, Int.reduceAdd, Int.reduceSub, Int.reduceMul, Int.reduceNeg, Int.reduceToNat,  o1, oq1, oc1, o2, oq2, oc2, o5, oq5, oc5, o6, oq6, oc6, hs4]
  refine fq_use (spec_SolutionOfSet (hv4.keep (fun i _ hi9 => by simp (disch := omega) only [upd_other, hs4])) hb_p hbb_p hbq_p a _ (by omega)) fun x7 h7 n7 hn7 hs7 ⟨v7, hx7, hv7⟩ => ?_
  subst hx7
  simp (maxSteps := 2000000) -implicitDefEqProofs (disch := omega) only [xsW, xsC, if_true, if_false, ite_true, ite_false, forall_const, ne_eq, beq_self_eq_true, bne_self_eq_false, imp_self, true_implies, false_implies, implies_true, evP, evE, ev, setD, Nat.reduceAdd, Nat.reduceSub, reduceCtorEq, fillA, cutA, Nat.reduceLeDiff, Nat.reduceMul, Int.reduceLT, Int.reduceLE, Int.reduceEq, Int.reduceNe, Int.reduceAdd, Int.reduceSub, Int.reduceMul, Int.reduceNeg, Int.reduceToNat,  o1, oq1, oc1, o2, oq2, oc2, o5, oq5, oc5, o6, oq6, oc6, hs7, hs4]
  refine fq_use (laws_toProblem (s_p.keep (fun i _ hi9 => by simp (disch := omega) only [upd_other, hs7, hs4])) hb_p hbb_p hbq_p _ (by omega)) fun x8 h8 n8 hn8 hs8 ⟨v8, u8, vs8, hx8, hv8⟩ => ?_
  subst hx8
  have o9 := one_any (Sl.any hv8.M.out)
  have oq9 := sto_any (Sl.any hv8.M.out)
  have oc9 := cel_any (Sl.any hv8.M.out)
  have o10 := one_any (Sl.any hv8.Q)
  have oq10 := sto_any (Sl.any hv8.Q)
  have oc10 := cel_any (Sl.any hv8.Q)
  simp (maxSteps := 2000000) -implicitDefEqProofs (disch := omega) only [xsW, xsC, if_true, if_false, ite_true, ite_false, forall_const, ne_eq, beq_self_eq_true, bne_self_eq_false, imp_self, true_implies, false_implies, implies_true, evP, evE, ev, setD, Nat.reduceAdd, Nat.reduceSub, reduceCtorEq, fillA, cutA, Nat.reduceLeDiff, Nat.reduceMul, Int.reduceLT, Int.reduceLE, Int.reduceEq, Int.reduceNe, Int.reduceAdd, Int.reduceSub, Int.reduceMul, Int.reduceNeg, Int.reduceToNat,  o1, oq1, oc1, o2, oq2, oc2, o5, oq5, oc5, o6, oq6, oc6, o9, oq9, oc9, o10, oq10, oc10, hs8, hs7, hs4]
  refine fq_use (impl_SolutionOfSet (hv8.keep (fun i _ hi9 => by simp (disch := omega) only [upd_other, hs8, hs7, hs4])) hb_p hbb_p hbq_p a _ (by omega)) fun x11 h11 n11 hn11 hs11 ⟨v11, hx11, hv11⟩ => ?_
  subst hx11
  have hBR := solV_small p q_p a
  simp (maxSteps := 2000000) -implicitDefEqProofs (disch := omega) only [xsW, xsC, if_true, if_false, ite_true, ite_false, forall_const, ne_eq, beq_self_eq_true, bne_self_eq_false, imp_self, true_implies, false_implies, implies_true, evP, evE, ev, setD, Nat.reduceAdd, Nat.reduceSub, reduceCtorEq, fillA, cutA, Nat.reduceLeDiff, Nat.reduceMul, Int.reduceLT, Int.reduceLE, Int.reduceEq, Int.reduceNe, Int.reduceAdd, Int.reduceSub, Int.reduceMul, Int.reduceNeg, Int.reduceToNat,  o1, oq1, oc1, o2, oq2, oc2, o5, oq5, oc5, o6, oq6, oc6, o9, oq9, oc9, o10, oq10, oc10, hs11, hs8, hs7, hs4]
  refine q_use (laws_eqFracS (hv11.keep (fun i _ hi9 => by simp (disch := omega) only [upd_other, hs11, hs8, hs7, hs4])) (hv7.keep (fun i _ hi9 => by simp (disch := omega) only [upd_other, hs11, hs8, hs7, hs4])) hBR _) fun n12 hn12 => ?_
  simp (maxSteps := 2000000) -implicitDefEqProofs (disch := omega) only [xsW, xsC, if_true, if_false, ite_true, ite_false, forall_const, ne_eq, beq_self_eq_true, bne_self_eq_false, imp_self, true_implies, false_implies, implies_true, evP, evE, ev, setD, Nat.reduceAdd, Nat.reduceSub, reduceCtorEq, fillA, cutA, Nat.reduceLeDiff, Nat.reduceMul, Int.reduceLT, Int.reduceLE, Int.reduceEq, Int.reduceNe, Int.reduceAdd, Int.reduceSub, Int.reduceMul, Int.reduceNeg, Int.reduceToNat,  o1, oq1, oc1, o2, oq2, oc2, o5, oq5, oc5, o6, oq6, oc6, o9, oq9, oc9, o10, oq10, oc10, hs11, hs8, hs7, hs4]
  refine fq_use (laws_toProblem (s_p.keep (fun i _ hi9 => by simp (disch := omega) only [upd_other, hs11, hs8, hs7, hs4])) hb_p hbb_p hbq_p _ (by omega)) fun x13 h13 n13 hn13 hs13 ⟨v13, u13, vs13, hx13, hv13⟩ => ?_
  subst hx13
  have o14 := one_any (Sl.any hv13.M.out)
  have oq14 := sto_any (Sl.any hv13.M.out)
  have oc14 := cel_any (Sl.any hv13.M.out)
  have o15 := one_any (Sl.any hv13.Q)
  have oq15 := sto_any (Sl.any hv13.Q)
  have oc15 := cel_any (Sl.any hv13.Q)
  simp (maxSteps := 2000000) -implicitDefEqProofs (disch := omega) only [xsW, xsC, if_true, if_false, ite_true, ite_false, forall_const, ne_eq, beq_self_eq_true, bne_self_eq_false, imp_self, true_implies, false_implies, implies_true, evP, evE, ev, setD, Nat.reduceAdd, Nat.reduceSub, reduceCtorEq, fillA, cutA, Nat.reduceLeDiff, Nat.reduceMul, Int.reduceLT, Int.reduceLE, Int.reduceEq, Int.reduceNe, Int.reduceAdd, Int.reduceSub, Int.reduceMul, Int.reduceNeg, Int.reduceToNat,  o1, oq1, oc1, o2, oq2, oc2, o5, oq5, oc5, o6, oq6, oc6, o9, oq9, oc9, o10, oq10, oc10, o14, oq14, oc14, o15, oq15, oc15, hs13, hs11, hs8, hs7, hs4]
  refine q_use (laws_eqProblem (hv8.keep (fun i _ hi9 => by simp (disch := omega) only [upd_other, hs13, hs11, hs8, hs7, hs4])) (hv13.keep (fun i _ hi9 => by simp (disch := omega) only [upd_other, hs13, hs11, hs8, hs7, hs4])) hb_p hbb_p hbq_p _ (by omega) (by omega)) fun n16 hn16 => ?_
  simp (maxSteps := 2000000) -implicitDefEqProofs (disch := omega) only [xsW, xsC, if_true, if_false, ite_true, ite_false, forall_const, ne_eq, beq_self_eq_true, bne_self_eq_false, imp_self, true_implies, false_implies, implies_true, evP, evE, ev, setD, Nat.reduceAdd, Nat.reduceSub, reduceCtorEq, fillA, cutA, Nat.reduceLeDiff, Nat.reduceMul, Int.reduceLT, Int.reduceLE, Int.reduceEq, Int.reduceNe, Int.reduceAdd, Int.reduceSub, Int.reduceMul, Int.reduceNeg, Int.reduceToNat,  o1, oq1, oc1, o2, oq2, oc2, o5, oq5, oc5, o6, oq6, oc6, o9, oq9, oc9, o10, oq10, oc10, o14, oq14, oc14, o15, oq15, oc15, hs13, hs11, hs8, hs7, hs4]
  have ht_p := tot_bound p 1048576 hbb_p
  have hu_p : p.length * 1048576 ≤ 1048576 * 1048576 := Nat.mul_le_mul hb_p (Nat.le_refl _)
  refine mq_use (laws_markProblem (hv8.keep (fun i _ hi9 => by simp (disch := omega) only [upd_other, hs13, hs11, hs8, hs7, hs4])) _ (by omega) (by omega) hb_p _ (by omega)) (fun i a b => .inl (by omega)) fun x17 h17 n17 hn17 ⟨he17, hs17⟩ => ?_
  subst he17
  simp (maxSteps := 2000000) -implicitDefEqProofs (disch := omega) only [xsW, xsC, if_true, if_false, ite_true, ite_false, forall_const, ne_eq, beq_self_eq_true, bne_self_eq_false, imp_self, true_implies, false_implies, implies_true, evP, evE, ev, setD, Nat.reduceAdd, Nat.reduceSub, reduceCtorEq, fillA, cutA, Nat.reduceLeDiff, Nat.reduceMul, Int.reduceLT, Int.reduceLE, Int.reduceEq, Int.reduceNe, Int.reduceAdd, Int.reduceSub, Int.reduceMul, Int.reduceNeg, Int.reduceToNat,  o1, oq1, oc1, o2, oq2, oc2, o5, oq5, oc5, o6, oq6, oc6, o9, oq9, oc9, o10, oq10, oc10, o14, oq14, oc14, o15, oq15, oc15, hs17, hs13, hs11, hs8, hs7, hs4]
  refine q_use (laws_eqFracS (hv11.keep (fun i _ hi9 => by simp (disch := omega) only [upd_other, hs17, hs13, hs11, hs8, hs7, hs4])) (hv7.keep (fun i _ hi9 => by simp (disch := omega) only [upd_other, hs17, hs13, hs11, hs8, hs7, hs4])) hBR _) fun n18 hn18 => ?_
  simp (maxSteps := 2000000) -implicitDefEqProofs (disch := omega) only [xsW, xsC, if_true, if_false, ite_true, ite_false, forall_const, ne_eq, beq_self_eq_true, bne_self_eq_false, imp_self, true_implies, false_implies, implies_true, evP, evE, ev, setD, Nat.reduceAdd, Nat.reduceSub, reduceCtorEq, fillA, cutA, Nat.reduceLeDiff, Nat.reduceMul, Int.reduceLT, Int.reduceLE, Int.reduceEq, Int.reduceNe, Int.reduceAdd, Int.reduceSub, Int.reduceMul, Int.reduceNeg, Int.reduceToNat,  o1, oq1, oc1, o2, oq2, oc2, o5, oq5, oc5, o6, oq6, oc6, o9, oq9, oc9, o10, oq10, oc10, o14, oq14, oc14, o15, oq15, oc15, hs17, hs13, hs11, hs8, hs7, hs4]
  refine mq_use (laws_markFracS (hv11.keep (fun i _ hi9 => by simp (disch := omega) only [upd_other, hs17, hs13, hs11, hs8, hs7, hs4])) 1 (by omega) (by omega) _ (by omega)) (fun i a b => .inl (by omega)) fun x19 h19 n19 hn19 ⟨he19, hv19, hs19⟩ => ?_
  subst he19
  simp (maxSteps := 2000000) -implicitDefEqProofs (disch := omega) only [xsW, xsC, if_true, if_false, ite_true, ite_false, forall_const, ne_eq, beq_self_eq_true, bne_self_eq_false, imp_self, true_implies, false_implies, implies_true, evP, evE, ev, setD, Nat.reduceAdd, Nat.reduceSub, reduceCtorEq, fillA, cutA, Nat.reduceLeDiff, Nat.reduceMul, Int.reduceLT, Int.reduceLE, Int.reduceEq, Int.reduceNe, Int.reduceAdd, Int.reduceSub, Int.reduceMul, Int.reduceNeg, Int.reduceToNat,  o1, oq1, oc1, o2, oq2, oc2, o5, oq5, oc5, o6, oq6, oc6, o9, oq9, oc9, o10, oq10, oc10, o14, oq14, oc14, o15, oq15, oc15, hs19, hs17, hs13, hs11, hs8, hs7, hs4]
  refine q_use (laws_heldFracS (hv19.keep (fun i _ hi9 => by simp (disch := omega) only [upd_other, hs19, hs17, hs13, hs11, hs8, hs7, hs4])) (by omega) (by omega) _) fun n20 hn20 => ?_
  simp (maxSteps := 2000000) -implicitDefEqProofs (disch := omega) only [xsW, xsC, if_true, if_false, ite_true, ite_false, forall_const, ne_eq, beq_self_eq_true, bne_self_eq_false, imp_self, true_implies, false_implies, implies_true, evP, evE, ev, setD, Nat.reduceAdd, Nat.reduceSub, reduceCtorEq, fillA, cutA, Nat.reduceLeDiff, Nat.reduceMul, Int.reduceLT, Int.reduceLE, Int.reduceEq, Int.reduceNe, Int.reduceAdd, Int.reduceSub, Int.reduceMul, Int.reduceNeg, Int.reduceToNat,  o1, oq1, oc1, o2, oq2, oc2, o5, oq5, oc5, o6, oq6, oc6, o9, oq9, oc9, o10, oq10, oc10, o14, oq14, oc14, o15, oq15, oc15, hs19, hs17, hs13, hs11, hs8, hs7, hs4]
  refine fq_use (laws_toProblem (s_p.keep (fun i _ hi9 => by simp (disch := omega) only [upd_other, hs19, hs17, hs13, hs11, hs8, hs7, hs4])) hb_p hbb_p hbq_p _ (by omega)) fun x21 h21 n21 hn21 hs21 ⟨v21, u21, vs21, hx21, hv21⟩ => ?_
  subst hx21
  have o22 := one_any (Sl.any hv21.M.out)
  have oq22 := sto_any (Sl.any hv21.M.out)
  have oc22 := cel_any (Sl.any hv21.M.out)
  have o23 := one_any (Sl.any hv21.Q)
  have oq23 := sto_any (Sl.any hv21.Q)
  have oc23 := cel_any (Sl.any hv21.Q)
  simp (maxSteps := 2000000) -implicitDefEqProofs (disch := omega) only [xsW, xsC, if_true, if_false, ite_true, ite_false, forall_const, ne_eq, beq_self_eq_true, bne_self_eq_false, imp_self, true_implies, false_implies, implies_true, evP, evE, ev, setD, Nat.reduceAdd, Nat.reduceSub, reduceCtorEq, fillA, cutA, Nat.reduceLeDiff, Nat.reduceMul, Int.reduceLT, Int.reduceLE, Int.reduceEq, Int.reduceNe, Int.reduceAdd, Int.reduceSub, Int.reduceMul, Int.reduceNeg, Int.reduceToNat,  o1, oq1, oc1, o2, oq2, oc2, o5, oq5, oc5, o6, oq6, oc6, o9, oq9, oc9, o10, oq10, oc10, o14, oq14, oc14, o15, oq15, oc15, o22, oq22, oc22, o23, oq23, oc23, hs21, hs19, hs17, hs13, hs11, hs8, hs7, hs4]
  refine fq_use (impl_SolutionOfSet (hv21.keep (fun i _ hi9 => by simp (disch := omega) only [upd_other, hs21, hs19, hs17, hs13, hs11, hs8, hs7, hs4])) hb_p hbb_p hbq_p a _ (by omega)) fun x24 h24 n24 hn24 hs24 ⟨v24, hx24, hv24⟩ => ?_
  subst hx24
  simp (maxSteps := 2000000) -implicitDefEqProofs (disch := omega) only [xsW, xsC, if_true, if_false, ite_true, ite_false, forall_const, ne_eq, beq_self_eq_true, bne_self_eq_false, imp_self, true_implies, false_implies, implies_true, evP, evE, ev, setD, Nat.reduceAdd, Nat.reduceSub, reduceCtorEq, fillA, cutA, Nat.reduceLeDiff, Nat.reduceMul, Int.reduceLT, Int.reduceLE, Int.reduceEq, Int.reduceNe, Int.reduceAdd, Int.reduceSub, Int.reduceMul, Int.reduceNeg, Int.reduceToNat,  o1, oq1, oc1, o2, oq2, oc2, o5, oq5, oc5, o6, oq6, oc6, o9, oq9, oc9, o10, oq10, oc10, o14, oq14, oc14, o15, oq15, oc15, o22, oq22, oc22, o23, oq23, oc23, hs24, hs21, hs19, hs17, hs13, hs11, hs8, hs7, hs4]
  refine q_use (laws_eqFracS (hv24.keep (fun i _ hi9 => by simp (disch := omega) only [upd_other, hs24, hs21, hs19, hs17, hs13, hs11, hs8, hs7, hs4])) (hv7.keep (fun i _ hi9 => by simp (disch := omega) only [upd_other, hs24, hs21, hs19, hs17, hs13, hs11, hs8, hs7, hs4])) hBR _) fun n25 hn25 => ?_
  simp (maxSteps := 2000000) -implicitDefEqProofs (disch := omega) only [xsW, xsC, if_true, if_false, ite_true, ite_false, forall_const, ne_eq, beq_self_eq_true, bne_self_eq_false, imp_self, true_implies, false_implies, implies_true, evP, evE, ev, setD, Nat.reduceAdd, Nat.reduceSub, reduceCtorEq, fillA, cutA, Nat.reduceLeDiff, Nat.reduceMul, Int.reduceLT, Int.reduceLE, Int.reduceEq, Int.reduceNe, Int.reduceAdd, Int.reduceSub, Int.reduceMul, Int.reduceNeg, Int.reduceToNat,  o1, oq1, oc1, o2, oq2, oc2, o5, oq5, oc5, o6, oq6, oc6, o9, oq9, oc9, o10, oq10, oc10, o14, oq14, oc14, o15, oq15, oc15, o22, oq22, oc22, o23, oq23, oc23, hs24, hs21, hs19, hs17, hs13, hs11, hs8, hs7, hs4]
  refine q_use (laws_heldFracS (hv19.keep (fun i _ hi9 => by simp (disch := omega) only [upd_other, hs24, hs21, hs19, hs17, hs13, hs11, hs8, hs7, hs4])) (by omega) (by omega) _) fun n26 hn26 => ?_
  simp (maxSteps := 2000000) -implicitDefEqProofs (disch := omega) only [xsW, xsC, if_true, if_false, ite_true, ite_false, forall_const, ne_eq, beq_self_eq_true, bne_self_eq_false, imp_self, true_implies, false_implies, implies_true, evP, evE, ev, setD, Nat.reduceAdd, Nat.reduceSub, reduceCtorEq, fillA, cutA, Nat.reduceLeDiff, Nat.reduceMul, Int.reduceLT, Int.reduceLE, Int.reduceEq, Int.reduceNe, Int.reduceAdd, Int.reduceSub, Int.reduceMul, Int.reduceNeg, Int.reduceToNat,  o1, oq1, oc1, o2, oq2, oc2, o5, oq5, oc5, o6, oq6, oc6, o9, oq9, oc9, o10, oq10, oc10, o14, oq14, oc14, o15, oq15, oc15, o22, oq22, oc22, o23, oq23, oc23, hs24, hs21, hs19, hs17, hs13, hs11, hs8, hs7, hs4]
end Go.Proofs.Ytmjfekgbbjojdad.L
