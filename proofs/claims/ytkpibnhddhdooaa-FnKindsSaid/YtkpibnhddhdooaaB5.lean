/- Contracts: draws of matrices of many kinds. -/
import Derived.Test.YtkpibnhddhdooaaB4
set_option linter.unusedSimpArgs false
set_option linter.unusedVariables false
namespace Go.Proofs.Ytkpibnhddhdooaa.L
open Go
def c_spec_l03Draw : F := ⟨(.seq (.reg false [⟨some 2, .mv (.c .nilsl), none⟩]) (.seq (.reg false [⟨some 23, .mv (.t 0), none⟩, ⟨some 24, .lit 2 1 8 [(.int .i64 0)] [(0, (.c (.int .i64 1))), (1, (.c (.int .i64 2))), (2, (.c (.int .i64 2))), (3, (.c (.int .i64 3))), (4, (.c (.int .i64 3))), (5, (.c (.int .i64 3))), (6, (.c (.int .i64 4))), (7, (.c (.int .i64 5)))], none⟩, ⟨some 25, .call (.f 84) [(.t 23), (.t 24)], none⟩, ⟨some 3, .mv (.t 25), none⟩]) (.seq (.seq (.reg false [⟨some 26, .mv (.t 0), none⟩, ⟨some 27, .call (.f 82) [(.t 26), (.c (.int .i64 6))], none⟩]) (.block 0 (.seq (.reg false [⟨some 29, .bin .eql (.t 27) (.c (.int .i64 0)), none⟩, ⟨some 28, .mv (.t 29), none⟩]) (.cond (.t 28) (.seq (.reg false [⟨some 30, .mv (.t 0), none⟩, ⟨some 31, .mv (.t 3), none⟩, ⟨some 32, .call (.f 110) [(.t 30), (.t 31)], none⟩, ⟨some 2, .mv (.t 32), none⟩]) .ret) (.seq (.reg false [⟨some 34, .bin .eql (.t 27) (.c (.int .i64 1)), none⟩, ⟨some 33, .mv (.t 34), none⟩]) (.cond (.t 33) (.seq (.reg false [⟨some 35, .mv (.t 0), none⟩, ⟨some 36, .mv (.t 3), none⟩, ⟨some 37, .call (.f 110) [(.t 35), (.t 36)], none⟩, ⟨some 4, .mv (.t 37), none⟩]) (.seq (.seq (.reg false [⟨some 5, .mv (.c (.int .i64 0)), none⟩]) (.block 1 (.loop (.seq (.seq (.reg false [⟨some 38, .mv (.t 5), none⟩, ⟨some 39, .mv (.t 3), none⟩, ⟨some 40, .bin .lss (.t 38) (.t 39), none⟩]) (.cond (.t 40) .skip (.exit 1))) (.seq (.block 2 (.seq (.reg false [⟨some 43, .mv (.t 4), none⟩, ⟨some 44, .mv (.t 5), none⟩, ⟨some 45, .ia 1 (.t 43) (.t 44), none⟩, ⟨some 46, .ld1 (.t 45), none⟩, ⟨some 6, .mv (.t 46), none⟩]) (.seq (.seq (.reg false [⟨some 7, .mv (.c (.int .i64 0)), none⟩]) (.block 3 (.loop (.seq (.seq (.reg false [⟨some 47, .mv (.t 7), none⟩, ⟨some 48, .mv (.t 3), none⟩, ⟨some 49, .bin .lss (.t 47) (.t 48), none⟩]) (.cond (.t 49) .skip (.exit 3))) (.seq (.block 4 (.seq (.reg false [⟨some 52, .mv (.t 7), none⟩, ⟨some 53, .mv (.t 5), none⟩, ⟨some 54, .bin .neq (.t 52) (.t 53), none⟩]) (.cond (.t 54) (.reg true [⟨some 55, .mv (.t 6), none⟩, ⟨some 56, .mv (.t 7), none⟩, ⟨some 57, .mv (.t 6), none⟩, ⟨some 58, .mv (.t 7), none⟩, ⟨some 59, .ia 1 (.t 57) (.t 58), none⟩, ⟨some 60, .ld1 (.t 59), none⟩, ⟨some 61, .mv (.t 6), none⟩, ⟨some 62, .mv (.t 7), none⟩, ⟨some 63, .ia 1 (.t 61) (.t 62), none⟩, ⟨some 64, .ld1 (.t 63), none⟩, ⟨some 65, .un .neg (.t 64), none⟩, ⟨some 66, .mn [(.t 60), (.t 65)], none⟩, ⟨some 67, .ia 1 (.t 55) (.t 56), none⟩, ⟨none, .st 1 (.t 67) (.t 66), none⟩]) .skip))) (.reg false [⟨some 50, .mv (.t 7), none⟩, ⟨some 51, .bin .add (.t 50) (.c (.int .i64 1)), none⟩, ⟨some 7, .mv (.t 51), none⟩])))))) (.seq (.reg true [⟨some 68, .mv (.t 6), none⟩, ⟨some 69, .mv (.t 5), none⟩, ⟨some 70, .mv (.t 6), none⟩, ⟨some 71, .mv (.t 5), none⟩, ⟨some 72, .ia 1 (.t 70) (.t 71), none⟩, ⟨some 73, .ld1 (.t 72), none⟩, ⟨some 74, .mv (.t 0), none⟩, ⟨some 75, .callp (.f 82) [(.t 74), (.c (.int .i64 3))], none⟩, ⟨some 76, .bin .sub (.t 73) (.t 75), none⟩, ⟨some 77, .mx [(.t 76), (.c (.int .i64 0))], none⟩, ⟨some 78, .ia 1 (.t 68) (.t 69), none⟩, ⟨none, .st 1 (.t 78) (.t 77), none⟩]) (.chk [((.t 74), (.t 72))]))))) (.reg false [⟨some 41, .mv (.t 5), none⟩, ⟨some 42, .bin .add (.t 41) (.c (.int .i64 1)), none⟩, ⟨some 5, .mv (.t 42), none⟩])))))) (.seq (.reg false [⟨some 79, .mv (.t 4), none⟩, ⟨some 2, .mv (.t 79), none⟩]) .ret))) (.seq (.reg false [⟨some 81, .bin .eql (.t 27) (.c (.int .i64 2)), none⟩, ⟨some 80, .mv (.t 81), none⟩]) (.cond (.t 80) (.seq (.reg false [⟨some 82, .mv (.t 0), none⟩, ⟨some 83, .mv (.t 3), none⟩, ⟨some 84, .call (.f 86) [(.t 82), (.t 83), (.c (.int .i64 1))], none⟩, ⟨some 85, .lit 29 1 0 [.nilsl] [], none⟩, ⟨some 8, .mv (.t 84), none⟩, ⟨some 9, .mv (.t 85), none⟩]) (.seq (.seq (.reg false [⟨some 10, .mv (.c (.int .i64 0)), none⟩]) (.block 5 (.loop (.seq (.seq (.reg false [⟨some 86, .mv (.t 10), none⟩, ⟨some 87, .mv (.t 3), none⟩, ⟨some 88, .bin .lss (.t 86) (.t 87), none⟩]) (.cond (.t 88) .skip (.exit 5))) (.seq (.block 6 (.seq (.reg false [⟨some 91, .lit 2 1 0 [(.int .i64 0)] [], none⟩, ⟨some 11, .mv (.t 91), none⟩]) (.seq (.seq (.reg false [⟨some 12, .mv (.c (.int .i64 0)), none⟩]) (.block 7 (.loop (.seq (.seq (.reg false [⟨some 92, .mv (.t 12), none⟩, ⟨some 93, .mv (.t 3), none⟩, ⟨some 94, .bin .lss (.t 92) (.t 93), none⟩]) (.cond (.t 94) .skip (.exit 7))) (.seq (.block 8 (.seq (.reg false [⟨some 13, .mv (.c (.int .i64 0)), none⟩]) (.seq (.seq (.reg false [⟨some 14, .mv (.c (.int .i64 0)), none⟩]) (.block 9 (.loop (.seq (.seq (.reg false [⟨some 97, .mv (.t 14), none⟩, ⟨some 98, .mv (.t 3), none⟩, ⟨some 99, .bin .lss (.t 97) (.t 98), none⟩]) (.cond (.t 99) .skip (.exit 9))) (.seq (.block 10 (.reg true [⟨some 102, .mv (.t 13), none⟩, ⟨some 103, .mv (.t 8), none⟩, ⟨some 104, .mv (.t 10), none⟩, ⟨some 105, .ia 1 (.t 103) (.t 104), none⟩, ⟨some 106, .ld1 (.t 105), none⟩, ⟨some 107, .mv (.t 14), none⟩, ⟨some 108, .ia 1 (.t 106) (.t 107), none⟩, ⟨some 109, .ld1 (.t 108), none⟩, ⟨some 110, .mv (.t 8), none⟩, ⟨some 111, .mv (.t 12), none⟩, ⟨some 112, .ia 1 (.t 110) (.t 111), none⟩, ⟨some 113, .ld1 (.t 112), none⟩, ⟨some 114, .mv (.t 14), none⟩, ⟨some 115, .ia 1 (.t 113) (.t 114), none⟩, ⟨some 116, .ld1 (.t 115), none⟩, ⟨some 117, .bin .mul (.t 109) (.t 116), none⟩, ⟨some 118, .bin .add (.t 102) (.t 117), none⟩, ⟨some 13, .mv (.t 118), none⟩])) (.reg false [⟨some 100, .mv (.t 14), none⟩, ⟨some 101, .bin .add (.t 100) (.c (.int .i64 1)), none⟩, ⟨some 14, .mv (.t 101), none⟩])))))) (.reg false [⟨some 119, .mv (.t 11), none⟩, ⟨some 120, .mv (.t 13), none⟩, ⟨some 121, .lit 2 1 1 [(.int .i64 0)] [(0, (.t 120))], none⟩, ⟨some 122, .app 2 1 8 [(.int .i64 0)] (.t 119) (.t 121), none⟩, ⟨some 11, .mv (.t 122), none⟩])))) (.reg false [⟨some 95, .mv (.t 12), none⟩, ⟨some 96, .bin .add (.t 95) (.c (.int .i64 1)), none⟩, ⟨some 12, .mv (.t 96), none⟩])))))) (.reg false [⟨some 123, .mv (.t 9), none⟩, ⟨some 124, .mv (.t 11), none⟩, ⟨some 125, .lit 29 1 1 [.nilsl] [(0, (.t 124))], none⟩, ⟨some 126, .app 29 1 24 [.nilsl] (.t 123) (.t 125), none⟩, ⟨some 9, .mv (.t 126), none⟩])))) (.reg false [⟨some 89, .mv (.t 10), none⟩, ⟨some 90, .bin .add (.t 89) (.c (.int .i64 1)), none⟩, ⟨some 10, .mv (.t 90), none⟩])))))) (.seq (.reg false [⟨some 127, .mv (.t 9), none⟩, ⟨some 2, .mv (.t 127), none⟩]) .ret))) (.seq (.reg false [⟨some 129, .bin .eql (.t 27) (.c (.int .i64 3)), none⟩, ⟨some 128, .mv (.t 129), none⟩]) (.cond (.t 128) (.seq (.reg false [⟨some 130, .mv (.t 0), none⟩, ⟨some 131, .mv (.t 3), none⟩, ⟨some 132, .mv (.t 0), none⟩, ⟨some 133, .lit 2 1 3 [(.int .i64 0)] [(0, (.c (.int .i64 2))), (1, (.c (.int .i64 5))), (2, (.c (.int .i64 20)))], none⟩, ⟨some 134, .call (.f 84) [(.t 132), (.t 133)], none⟩, ⟨some 135, .call (.f 86) [(.t 130), (.t 131), (.t 134)], none⟩, ⟨some 15, .mv (.t 135), none⟩]) (.seq (.seq (.reg false [⟨some 16, .mv (.c (.int .i64 0)), none⟩]) (.block 11 (.loop (.seq (.seq (.reg false [⟨some 136, .mv (.t 16), none⟩, ⟨some 137, .mv (.t 3), none⟩, ⟨some 138, .bin .lss (.t 136) (.t 137), none⟩]) (.cond (.t 138) .skip (.exit 11))) (.seq (.block 12 (.seq (.reg false [⟨some 141, .mv (.t 15), none⟩, ⟨some 142, .mv (.t 16), none⟩, ⟨some 143, .ia 1 (.t 141) (.t 142), none⟩, ⟨some 144, .ld1 (.t 143), none⟩, ⟨some 17, .mv (.t 144), none⟩]) (.seq (.reg false [⟨some 18, .mv (.c (.int .i64 0)), none⟩]) (.block 13 (.loop (.seq (.seq (.reg false [⟨some 145, .mv (.t 18), none⟩, ⟨some 146, .mv (.t 3), none⟩, ⟨some 147, .bin .lss (.t 145) (.t 146), none⟩]) (.cond (.t 147) .skip (.exit 13))) (.seq (.block 14 (.seq (.reg false [⟨some 150, .mv (.t 0), none⟩, ⟨some 151, .call (.f 82) [(.t 150), (.c (.int .i64 9))], none⟩, ⟨some 152, .bin .gtr (.t 151) (.c (.int .i64 0)), none⟩]) (.cond (.t 152) (.reg true [⟨some 153, .mv (.t 17), none⟩, ⟨some 154, .mv (.t 18), none⟩, ⟨some 155, .mv (.t 17), none⟩, ⟨some 156, .mv (.t 18), none⟩, ⟨some 157, .ia 1 (.t 155) (.t 156), none⟩, ⟨some 158, .ld1 (.t 157), none⟩, ⟨some 159, .mv (.t 17), none⟩, ⟨some 160, .mv (.t 18), none⟩, ⟨some 161, .ia 1 (.t 159) (.t 160), none⟩, ⟨some 162, .ld1 (.t 161), none⟩, ⟨some 163, .un .neg (.t 162), none⟩, ⟨some 164, .mx [(.t 158), (.t 163)], none⟩, ⟨some 165, .ia 1 (.t 153) (.t 154), none⟩, ⟨none, .st 1 (.t 165) (.t 164), none⟩]) .skip))) (.reg false [⟨some 148, .mv (.t 18), none⟩, ⟨some 149, .bin .add (.t 148) (.c (.int .i64 1)), none⟩, ⟨some 18, .mv (.t 149), none⟩])))))))) (.reg false [⟨some 139, .mv (.t 16), none⟩, ⟨some 140, .bin .add (.t 139) (.c (.int .i64 1)), none⟩, ⟨some 16, .mv (.t 140), none⟩])))))) (.seq (.reg false [⟨some 166, .mv (.t 15), none⟩, ⟨some 2, .mv (.t 166), none⟩]) .ret))) (.seq (.reg false [⟨some 168, .bin .eql (.t 27) (.c (.int .i64 4)), none⟩, ⟨some 167, .mv (.t 168), none⟩]) (.cond (.t 167) (.seq (.reg false [⟨some 169, .mv (.t 0), none⟩, ⟨some 170, .mv (.t 3), none⟩, ⟨some 171, .call (.f 86) [(.t 169), (.t 170), (.c (.int .i64 9))], none⟩, ⟨some 19, .mv (.t 171), none⟩]) (.seq (.seq (.reg false [⟨some 20, .mv (.c (.int .i64 0)), none⟩]) (.block 15 (.loop (.seq (.seq (.reg false [⟨some 172, .mv (.t 20), none⟩, ⟨some 173, .mv (.t 3), none⟩, ⟨some 174, .bin .lss (.t 172) (.t 173), none⟩]) (.cond (.t 174) .skip (.exit 15))) (.seq (.block 16 (.seq (.reg false [⟨some 177, .mv (.t 19), none⟩, ⟨some 178, .mv (.t 20), none⟩, ⟨some 179, .ia 1 (.t 177) (.t 178), none⟩, ⟨some 180, .ld1 (.t 179), none⟩, ⟨some 21, .mv (.t 180), none⟩]) (.seq (.reg false [⟨some 22, .mv (.c (.int .i64 0)), none⟩]) (.block 17 (.loop (.seq (.seq (.reg false [⟨some 181, .mv (.t 22), none⟩, ⟨some 182, .mv (.t 20), none⟩, ⟨some 183, .bin .lss (.t 181) (.t 182), none⟩]) (.cond (.t 183) .skip (.exit 17))) (.seq (.block 18 (.reg false [⟨some 186, .mv (.t 21), none⟩, ⟨some 187, .mv (.t 22), none⟩, ⟨some 188, .ia 1 (.t 186) (.t 187), none⟩, ⟨none, .st 1 (.t 188) (.c (.int .i64 0)), none⟩])) (.reg false [⟨some 184, .mv (.t 22), none⟩, ⟨some 185, .bin .add (.t 184) (.c (.int .i64 1)), none⟩, ⟨some 22, .mv (.t 185), none⟩])))))))) (.reg false [⟨some 175, .mv (.t 20), none⟩, ⟨some 176, .bin .add (.t 175) (.c (.int .i64 1)), none⟩, ⟨some 20, .mv (.t 176), none⟩])))))) (.seq (.reg false [⟨some 189, .mv (.t 19), none⟩, ⟨some 2, .mv (.t 189), none⟩]) .ret))) .skip)))))))))))) (.seq (.reg false [⟨some 190, .mv (.t 0), none⟩, ⟨some 191, .mv (.t 3), none⟩, ⟨some 192, .mv (.t 0), none⟩, ⟨some 193, .lit 2 1 4 [(.int .i64 0)] [(0, (.c (.int .i64 1))), (1, (.c (.int .i64 2))), (2, (.c (.int .i64 5))), (3, (.c (.int .i64 20)))], none⟩, ⟨some 194, .call (.f 84) [(.t 192), (.t 193)], none⟩, ⟨some 195, .call (.f 86) [(.t 190), (.t 191), (.t 194)], none⟩, ⟨some 2, .mv (.t 195), none⟩]) .ret)))), 196, [(.t 2)]⟩
theorem k_spec_l03Draw : compF Try.prog Try.f64 = some c_spec_l03Draw := by kernel_rfl

structure St (bnd b : Nat) (h : AH) (lo hi N : Nat) (v : AV) (vs : List AV) (ll : List (List Int)) (hp : AH) : Prop where
  s : Rows true lo hi hp v vs ll
  q : SqM N 1000 ll
  r : Rnd bnd b hp
  o : ∀ j, j < lo → j ≠ b → hp j = h j
section
variable {bnd b : Nat} {h : AH} {lo hi N : Nat} {v : AV} {vs : List AV} {ll : List (List Int)} {hp : AH}
theorem St.store (t : St bnd b h lo hi N v vs ll hp) (hb : bnd ≤ b) (hl : b < lo) {i k : Nat} (hi' : i < N) (hk : k < N) {x : Int} (h1 : -1000 ≤ x) (h2 : x ≤ 1000) :
    St bnd b h lo hi N v vs (ll.set i ((ll.getD i []).set k x)) (wr hp (bid (vs.getD i .any)) (boff (vs.getD i .any) + k) (.int .i64 x)) := by
  have hb1 := below_row t.s t.q hi'
  have hr := t.q.row hi'
  exact ⟨t.s.wr (by rw [t.q.1]; exact hi') (by rw [hr.1]; exact hk) x, t.q.set (by rw [List.length_set, hr.1]) (hr.2.set h1 h2), t.r.keep (wr_other (by omega)) fun j hj => wr_other (by omega), fun j hj hne => by rw [wr_other (by omega), t.o j hj hne]⟩
theorem St.draw (t : St bnd b h lo hi N v vs ll hp) (hl : b < lo) {h' : AH} (r : Rnd bnd b h') (sm : Same b h' hp) : St bnd b h lo hi N v vs ll h' :=
  ⟨t.s.keep fun j a c => sm j (by omega), t.q, r, fun j hj hne => by rw [sm j hne, t.o j hj hne]⟩
theorem St.row (t : St bnd b h lo hi N v vs ll hp) {i : Nat} (hi' : i < N) : Ints true lo hi hp (vs.getD i .any) (ll.getD i []) := t.s.row i (by rw [t.q.1]; exact hi')
theorem St.below (t : St bnd b h lo hi N v vs ll hp) {i : Nat} (hi' : i < N) : lo ≤ bid (vs.getD i .any) ∧ bid (vs.getD i .any) < hi := below_row t.s t.q hi'
theorem St.num (t : St bnd b h lo hi N v vs ll hp) {i k : Nat} (hi' : i < N) (hk : k < N) : -1000 ≤ (ll.getD i []).getD k 0 ∧ (ll.getD i []).getD k 0 ≤ 1000 := by
  have h1 := t.q.row hi'
  exact h1.2.at (by rw [h1.1]; exact hk)
end
theorem small_mul {y z : Int} (h1 : -1 ≤ y ∧ y ≤ 1) (h2 : -1 ≤ z ∧ z ≤ 1) : -1 ≤ y * z ∧ y * z ≤ 1 := by
  have : y = -1 ∨ y = 0 ∨ y = 1 := by omega
  rcases this with rfl | rfl | rfl <;> omega
section
variable {bnd b : Nat} {h : AH}
set_option maxRecDepth 100000 in
set_option maxHeartbeats 4000000 in
theorem spec_l03Draw (r : Rnd bnd b h) (hb : bnd ≤ b) (n : Nat) (hn : b < n) :
    MQ Try.prog 64 [.ptr b 0] h n b (b + 1) fun v h' n' => ∃ vs ll N, 1 ≤ N ∧ N ≤ 5 ∧ Rows true n n' h' v vs ll ∧ SqM N 1000 ll ∧ Rnd bnd b h' ∧ ∀ j, j < n → j ≠ b → h' j = h j := by
  refine mq_intro Try.func64 k_spec_l03Draw ?_
  simp (maxSteps := 2000000) -implicitDefEqProofs (disch := omega) only [c_spec_l03Draw, xsW, xsC, xsD, xsE, fillA, reduceCtorEq, Nat.reduceAdd, Nat.reduceSub, Nat.reduceLeDiff, Nat.reduceMul, Int.reduceLT, Int.reduceLE, Int.reduceEq, Int.reduceNe, Int.reduceAdd, Int.reduceSub, Int.reduceMul, Int.reduceNeg, Int.reduceToNat]
  refine mq_use (spec_l01Pick (b := b) (bnd := bnd) (w := true) (lo := n) (hi := n + 1) (l := [1, 2, 2, 3, 3, 3, 4, 5]) (r.keep (upd_other (by omega)) fun j hj => upd_other (by omega)) hb (Sl.of_sl (upd_same _ _ _) rfl (Nat.le_refl _) (Nat.le_refl _) (by omega)) (by omega) (by simp) (by simp) _ (by omega)) (fun i a c => .inr ⟨by omega, by omega⟩) fun x1 h1 n1 hn1 ⟨en, ⟨z, hz, z0⟩, r1, sm1⟩ => ?_
  subst en; subst hz
  obtain ⟨N, rfl, hN1, hN5⟩ : ∃ N : Nat, z = N ∧ 1 ≤ N ∧ N ≤ 5 := by
    simp only [List.mem_cons, List.not_mem_nil, or_false] at z0
    exact ⟨z.toNat, by omega, by omega, by omega⟩
  have o1 : ∀ j, j < n → j ≠ b → h1 j = h j := fun j hj hne => by rw [sm1 j hne, upd_other (by omega)]
  simp (maxSteps := 2000000) -implicitDefEqProofs (disch := omega) only [xsW, xsC, xsD, xsE, fillA, reduceCtorEq, Nat.reduceAdd, Nat.reduceSub, Nat.reduceLeDiff, Nat.reduceMul, Int.reduceLT, Int.reduceLE, Int.reduceEq, Int.reduceNe, Int.reduceAdd, Int.reduceSub, Int.reduceMul, Int.reduceNeg, Int.reduceToNat]
  refine mq_use (spec_l01Next r1 hb 6 _ (by omega)) (fun i a c => .inr ⟨by omega, by omega⟩) fun x2 h2 n2 hn2 ⟨en, ⟨y, hy, y0, y1, _⟩, r2, sm2⟩ => ?_
  subst en; subst hy
  have y2 := y1 (by omega)
  have o2 : ∀ j, j < n → j ≠ b → h2 j = h j := fun j hj hne => by rw [sm2 j hne, o1 j hj hne]
  simp (maxSteps := 2000000) -implicitDefEqProofs (disch := omega) only [xsW, xsC, xsD, xsE, fillA, reduceCtorEq, Nat.reduceAdd, Nat.reduceSub, Nat.reduceLeDiff, Nat.reduceMul, Int.reduceLT, Int.reduceLE, Int.reduceEq, Int.reduceNe, Int.reduceAdd, Int.reduceSub, Int.reduceMul, Int.reduceNeg, Int.reduceToNat]
  (refine cd_dec (fun c0 => ?_) (fun c0 => ?_) <;> simp (maxSteps := 2000000) -implicitDefEqProofs (disch := omega) only [xsW, xsC, xsD, xsE, fillA, reduceCtorEq, Nat.reduceAdd, Nat.reduceSub, Nat.reduceLeDiff, Nat.reduceMul, Int.reduceLT, Int.reduceLE, Int.reduceEq, Int.reduceNe, Int.reduceAdd, Int.reduceSub, Int.reduceMul, Int.reduceNeg, Int.reduceToNat,  c0])
  · -- great numbers on the diagonal
    refine mq_use (spec_l01DrawP r2 hb N (by omega) _ (by omega)) (fun i a c => .inr ⟨by omega, by omega⟩) fun v h3 n3 hn3 ⟨vs, ll, s3, q3, r3, o3⟩ => ?_
    simp (maxSteps := 2000000) -implicitDefEqProofs (disch := omega) only [xsW, xsC, xsD, xsE, fillA, reduceCtorEq, Nat.reduceAdd, Nat.reduceSub, Nat.reduceLeDiff, Nat.reduceMul, Int.reduceLT, Int.reduceLE, Int.reduceEq, Int.reduceNe, Int.reduceAdd, Int.reduceSub, Int.reduceMul, Int.reduceNeg, Int.reduceToNat]
    exact ⟨vs, ll, N, hN1, hN5, s3.wide (by omega) (Nat.le_refl _), q3, r3, fun j hj hne => by rw [o3 j (by omega) hne, o2 j hj hne]⟩
  (refine cd_dec (fun c0 => ?_) (fun c0 => ?_) <;> simp (maxSteps := 2000000) -implicitDefEqProofs (disch := omega) only [xsW, xsC, xsD, xsE, fillA, reduceCtorEq, Nat.reduceAdd, Nat.reduceSub, Nat.reduceLeDiff, Nat.reduceMul, Int.reduceLT, Int.reduceLE, Int.reduceEq, Int.reduceNe, Int.reduceAdd, Int.reduceSub, Int.reduceMul, Int.reduceNeg, Int.reduceToNat,  c0])
  · -- numbers at most 0 but on the diagonal
    refine mq_use (spec_l01DrawP r2 hb N (by omega) _ (by omega)) (fun i a c => .inr ⟨by omega, by omega⟩) fun v h3 n3 hn3 ⟨vs, ll, s3, q3, r3, o3⟩ => ?_
    simp (maxSteps := 2000000) -implicitDefEqProofs (disch := omega) only [xsW, xsC, xsD, xsE, fillA, reduceCtorEq, Nat.reduceAdd, Nat.reduceSub, Nat.reduceLeDiff, Nat.reduceMul, Int.reduceLT, Int.reduceLE, Int.reduceEq, Int.reduceNe, Int.reduceAdd, Int.reduceSub, Int.reduceMul, Int.reduceNeg, Int.reduceToNat]
    refine loop_for N 0 (fun k p => [.ptr b 0, .any, .nilsl, .int .i64 N, v, .int .i64 k, .any, .any, .any, .any, .any, .any, .any, .any, .any, .any, .any, .any, .any, .any, .any, .any, .any, .any, .any, .any, .any, .any, .any, .any, .any, .any, .any, .any, .any, .any, .any, .any, .any, .any, .any, .any, .any, .any, .any, .any, .any, .any, .any, .any, .any, .any, .any, .any, .any, .any, .any, .any, .any, .any, .any, .any, .any, .any, .any, .any, .any, .any, .any, .any, .any, .any, .any, .any, .any, .any, .any, .any, .any, .any, .any, .any, .any, .any, .any, .any, .any, .any, .any, .any, .any, .any, .any, .any, .any, .any, .any, .any, .any, .any, .any, .any, .any, .any, .any, .any, .any, .any, .any, .any, .any, .any, .any, .any, .any, .any, .any, .any, .any, .any, .any, .any, .any, .any, .any, .any, .any, .any, .any, .any, .any, .any, .any, .any, .any, .any, .any, .any, .any, .any, .any, .any, .any, .any, .any, .any, .any, .any, .any, .any, .any, .any, .any, .any, .any, .any, .any, .any, .any, .any, .any, .any, .any, .any, .any, .any, .any, .any, .any, .any, .any, .any, .any, .any, .any, .any, .any, .any, .any, .any, .any, .any, .any, .any, .any, .any, .any, .any, .any, .any, .any, .any, .any, .any, .any, .any]) (fun k (p : List (List Int) × AH) => p.2)
      (fun k p m => St bnd b h2 (n + 1) n3 N v vs p.1 p.2) (ll, _) (Nat.zero_le _) ⟨s3, q3, r3, o3⟩ (by simp [LeL, Le1]) (fun _ _ h => h) ?_
    rintro i ⟨l4, hp⟩ m - hi1 hm1 t
    simp only at t
    simp (maxSteps := 2000000) -implicitDefEqProofs (disch := omega) only [xsW, xsC, xsD, xsE, fillA, reduceCtorEq, Nat.reduceAdd, Nat.reduceSub, Nat.reduceLeDiff, Nat.reduceMul, Int.reduceLT, Int.reduceLE, Int.reduceEq, Int.reduceNe, Int.reduceAdd, Int.reduceSub, Int.reduceMul, Int.reduceNeg, Int.reduceToNat]
    (refine cd_dec (fun c1 => ?_) (fun c1 => ?_) <;> simp (maxSteps := 2000000) -implicitDefEqProofs (disch := omega) only [xsW, xsC, xsD, xsE, fillA, reduceCtorEq, Nat.reduceAdd, Nat.reduceSub, Nat.reduceLeDiff, Nat.reduceMul, Int.reduceLT, Int.reduceLE, Int.reduceEq, Int.reduceNe, Int.reduceAdd, Int.reduceSub, Int.reduceMul, Int.reduceNeg, Int.reduceToNat,  c1])
    · have hi2 : i < N := by omega
      have hout := t.s.out.below (by rw [t.s.slen, t.q.1]; omega)
      have hlen4 := t.q.1
      simp (maxSteps := 2000000) -implicitDefEqProofs (disch := omega) only [xsW, xsC, xsD, xsE, fillA, reduceCtorEq, Nat.reduceAdd, Nat.reduceSub, Nat.reduceLeDiff, Nat.reduceMul, Int.reduceLT, Int.reduceLE, Int.reduceEq, Int.reduceNe, Int.reduceAdd, Int.reduceSub, Int.reduceMul, Int.reduceNeg, Int.reduceToNat,  t.s.ia, t.s.ld, t.q.1]
      refine loop_for N 0 (fun k p => [.ptr b 0, .any, .nilsl, .int .i64 N, v, .int .i64 i, vs.getD i .any, .int .i64 k, .any, .any, .any, .any, .any, .any, .any, .any, .any, .any, .any, .any, .any, .any, .any, .any, .any, .any, .any, .any, .any, .any, .any, .any, .any, .any, .any, .any, .any, .any, .any, .any, .any, .any, .any, .any, .any, .any, .any, .any, .any, .any, .any, .any, .any, .any, .any, .any, .any, .any, .any, .any, .any, .any, .any, .any, .any, .any, .any, .any, .any, .any, .any, .any, .any, .any, .any, .any, .any, .any, .any, .any, .any, .any, .any, .any, .any, .any, .any, .any, .any, .any, .any, .any, .any, .any, .any, .any, .any, .any, .any, .any, .any, .any, .any, .any, .any, .any, .any, .any, .any, .any, .any, .any, .any, .any, .any, .any, .any, .any, .any, .any, .any, .any, .any, .any, .any, .any, .any, .any, .any, .any, .any, .any, .any, .any, .any, .any, .any, .any, .any, .any, .any, .any, .any, .any, .any, .any, .any, .any, .any, .any, .any, .any, .any, .any, .any, .any, .any, .any, .any, .any, .any, .any, .any, .any, .any, .any, .any, .any, .any, .any, .any, .any, .any, .any, .any, .any, .any, .any, .any, .any, .any, .any, .any, .any, .any, .any, .any, .any, .any, .any, .any, .any, .any, .any, .any, .any]) (fun k (p : List (List Int) × AH) => p.2)
        (fun k p m => St bnd b h2 (n + 1) n3 N v vs p.1 p.2) (l4, hp) (Nat.zero_le _) t (by simp [LeL, Le1]) (fun _ _ h => h) ?_
      rintro k ⟨l5, hq⟩ m2 - hk1 hm2 t5
      simp only at t5
      have hbw := t5.below hi2
      have hrow := t5.row hi2
      have hlen := (t5.q.row hi2).1
      simp (maxSteps := 2000000) -implicitDefEqProofs (disch := omega) only [xsW, xsC, xsD, xsE, fillA, reduceCtorEq, Nat.reduceAdd, Nat.reduceSub, Nat.reduceLeDiff, Nat.reduceMul, Int.reduceLT, Int.reduceLE, Int.reduceEq, Int.reduceNe, Int.reduceAdd, Int.reduceSub, Int.reduceMul, Int.reduceNeg, Int.reduceToNat]
      (refine cd_dec (fun c2 => ?_) (fun c2 => ?_) <;> simp (maxSteps := 2000000) -implicitDefEqProofs (disch := omega) only [xsW, xsC, xsD, xsE, fillA, reduceCtorEq, Nat.reduceAdd, Nat.reduceSub, Nat.reduceLeDiff, Nat.reduceMul, Int.reduceLT, Int.reduceLE, Int.reduceEq, Int.reduceNe, Int.reduceAdd, Int.reduceSub, Int.reduceMul, Int.reduceNeg, Int.reduceToNat,  c2])
      · have hk2 : k < N := by omega
        have hx := t5.num hi2 hk2
        (refine cd_dec (fun c3 => ?_) (fun c3 => ?_) <;> simp (maxSteps := 2000000) -implicitDefEqProofs (disch := omega) only [xsW, xsC, xsD, xsE, fillA, reduceCtorEq, Nat.reduceAdd, Nat.reduceSub, Nat.reduceLeDiff, Nat.reduceMul, Int.reduceLT, Int.reduceLE, Int.reduceEq, Int.reduceNe, Int.reduceAdd, Int.reduceSub, Int.reduceMul, Int.reduceNeg, Int.reduceToNat,  c3])
        · have e1 := fun K => Ints.st hrow (k := k) (x := min ((l5.getD i []).getD k 0) (-(l5.getD i []).getD k 0)) (n0 := n) (n := m2) (W := fun i => b ≤ i ∧ i < b + 1) (by omega) (fun i a b => .inl (by omega)) (by omega) K
          simp (maxSteps := 2000000) -implicitDefEqProofs (disch := omega) only [xsW, xsC, xsD, xsE, fillA, reduceCtorEq, Nat.reduceAdd, Nat.reduceSub, Nat.reduceLeDiff, Nat.reduceMul, Int.reduceLT, Int.reduceLE, Int.reduceEq, Int.reduceNe, Int.reduceAdd, Int.reduceSub, Int.reduceMul, Int.reduceNeg, Int.reduceToNat,  hrow.ia, hrow.ld, hlen, e1]
          exact ⟨(_, _), t5.store hb (by omega) hi2 hk2 (x := min ((l5.getD i []).getD k 0) (-(l5.getD i []).getD k 0)) (by omega) (by omega), by omega, by omega, (by simp [LeL, Le1]), fun _ _ h => h⟩
        · exact ⟨(l5, hq), t5, by omega, by omega, (by simp [LeL, Le1]), fun _ _ h => h⟩
      · have hx := t5.num hi2 hi2
        obtain ⟨bl, hbl, hbw'⟩ := t5.r.blk
        simp (maxSteps := 2000000) -implicitDefEqProofs (disch := omega) only [xsW, xsC, xsD, xsE, fillA, reduceCtorEq, Nat.reduceAdd, Nat.reduceSub, Nat.reduceLeDiff, Nat.reduceMul, Int.reduceLT, Int.reduceLE, Int.reduceEq, Int.reduceNe, Int.reduceAdd, Int.reduceSub, Int.reduceMul, Int.reduceNeg, Int.reduceToNat,  hrow.ia, hrow.ld, hlen]
        refine mqp_use (spec_l01Next t5.r hb 3 m2 (by omega)) hbl hbw' (by omega) (.inr ⟨by omega, by omega⟩) (fun v' h' n' hR => ⟨hR.1, hR.2.2.2⟩) fun x4 h4 ⟨_, ⟨y4, hy, y0, y1, _⟩, r4, sm4⟩ => ?_
        subst hy
        have y4' := y1 (by omega)
        have t6 := t5.draw (by omega) r4 sm4
        have hrow6 := t6.row hi2
        have e1 := fun K => Ints.st hrow6 (k := i) (x := max ((l5.getD i []).getD i 0 - y4) 0) (n0 := n) (n := m2) (W := fun i => b ≤ i ∧ i < b + 1) (by omega) (fun i a b => .inl (by omega)) (by omega) K
        simp (maxSteps := 2000000) -implicitDefEqProofs (disch := omega) only [xsW, xsC, xsD, xsE, fillA, reduceCtorEq, Nat.reduceAdd, Nat.reduceSub, Nat.reduceLeDiff, Nat.reduceMul, Int.reduceLT, Int.reduceLE, Int.reduceEq, Int.reduceNe, Int.reduceAdd, Int.reduceSub, Int.reduceMul, Int.reduceNeg, Int.reduceToNat,  hrow6.ia, hlen, e1]
        exact ⟨by omega, (_, _), t6.store hb (by omega) hi2 hi2 (x := max ((l5.getD i []).getD i 0 - y4) 0) (by omega) (by omega), by omega, by omega, (by simp [LeL, Le1]), fun _ _ h => h⟩
    · exact ⟨vs, l4, N, hN1, hN5, t.s.wide (by omega) (by omega), t.q, t.r, fun j hj hne => by rw [t.o j (by omega) hne, o2 j hj hne]⟩
  (refine cd_dec (fun c0 => ?_) (fun c0 => ?_) <;> simp (maxSteps := 2000000) -implicitDefEqProofs (disch := omega) only [xsW, xsC, xsD, xsE, fillA, reduceCtorEq, Nat.reduceAdd, Nat.reduceSub, Nat.reduceLeDiff, Nat.reduceMul, Int.reduceLT, Int.reduceLE, Int.reduceEq, Int.reduceNe, Int.reduceAdd, Int.reduceSub, Int.reduceMul, Int.reduceNeg, Int.reduceToNat,  c0])
  · -- the product of rows with themselves
    refine mq_use (spec_l01DrawM r2 hb N 1 (by omega) (by omega) (by omega) _ (by omega)) (fun i a c => .inr ⟨by omega, by omega⟩) fun v h3 n3 hn3 ⟨vs, ll, s3, q3, r3, o3⟩ => ?_
    simp (maxSteps := 2000000) -implicitDefEqProofs (disch := omega) only [xsW, xsC, xsD, xsE, fillA, reduceCtorEq, Nat.reduceAdd, Nat.reduceSub, Nat.reduceLeDiff, Nat.reduceMul, Int.reduceLT, Int.reduceLE, Int.reduceEq, Int.reduceNe, Int.reduceAdd, Int.reduceSub, Int.reduceMul, Int.reduceNeg, Int.reduceToNat]
    have o3' : ∀ j, j < n → j ≠ b → h3 j = h j := fun j hj hne => by rw [o3 j (by omega) hne, o2 j hj hne]
    refine loop_for N 0 (fun k p => [.ptr b 0, .any, .nilsl, .int .i64 N, .any, .any, .any, .any, v, p.1, .int .i64 k, .any, .any, .any, .any, .any, .any, .any, .any, .any, .any, .any, .any, .any, .any, .any, .any, .any, .any, .any, .any, .any, .any, .any, .any, .any, .any, .any, .any, .any, .any, .any, .any, .any, .any, .any, .any, .any, .any, .any, .any, .any, .any, .any, .any, .any, .any, .any, .any, .any, .any, .any, .any, .any, .any, .any, .any, .any, .any, .any, .any, .any, .any, .any, .any, .any, .any, .any, .any, .any, .any, .any, .any, .any, .any, .any, .any, .any, .any, .any, .any, .any, .any, .any, .any, .any, .any, .any, .any, .any, .any, .any, .any, .any, .any, .any, .any, .any, .any, .any, .any, .any, .any, .any, .any, .any, .any, .any, .any, .any, .any, .any, .any, .any, .any, .any, .any, .any, .any, .any, .any, .any, .any, .any, .any, .any, .any, .any, .any, .any, .any, .any, .any, .any, .any, .any, .any, .any, .any, .any, .any, .any, .any, .any, .any, .any, .any, .any, .any, .any, .any, .any, .any, .any, .any, .any, .any, .any, .any, .any, .any, .any, .any, .any, .any, .any, .any, .any, .any, .any, .any, .any, .any, .any, .any, .any, .any, .any, .any, .any, .any, .any, .any, .any, .any, .any]) (fun k (p : AV × List AV × List (List Int) × AH) => p.2.2.2)
      (fun k p m => Grow n3 m h3 p.2.2.2 29 p.1 p.2.1 p.2.2.1 ∧ p.2.2.1.length = k ∧ ∀ l ∈ p.2.2.1, l.length = N ∧ BndL 1000 l) (.sl n3 0 0 0, [], [], _) (Nat.zero_le _) ⟨Grow.start0 rfl, rfl, by simp⟩ (by simp [LeL, Le1]) (fun _ _ h => h) ?_
    rintro i ⟨out, ws, l4, hp⟩ m - hi1 hm1 ⟨g, gl, ge⟩
    simp only at g gl ge
    have hold := g.old
    simp (maxSteps := 2000000) -implicitDefEqProofs (disch := omega) only [xsW, xsC, xsD, xsE, fillA, reduceCtorEq, Nat.reduceAdd, Nat.reduceSub, Nat.reduceLeDiff, Nat.reduceMul, Int.reduceLT, Int.reduceLE, Int.reduceEq, Int.reduceNe, Int.reduceAdd, Int.reduceSub, Int.reduceMul, Int.reduceNeg, Int.reduceToNat]
    (refine cd_dec (fun c1 => ?_) (fun c1 => ?_) <;> simp (maxSteps := 2000000) -implicitDefEqProofs (disch := omega) only [xsW, xsC, xsD, xsE, fillA, reduceCtorEq, Nat.reduceAdd, Nat.reduceSub, Nat.reduceLeDiff, Nat.reduceMul, Int.reduceLT, Int.reduceLE, Int.reduceEq, Int.reduceNe, Int.reduceAdd, Int.reduceSub, Int.reduceMul, Int.reduceNeg, Int.reduceToNat,  c1])
    · have hi2 : i < N := by omega
      refine loop_for N 0 (fun k p => [.ptr b 0, .any, .nilsl, .int .i64 N, .any, .any, .any, .any, v, out, .int .i64 i, p.1, .int .i64 k, .any, .any, .any, .any, .any, .any, .any, .any, .any, .any, .any, .any, .any, .any, .any, .any, .any, .any, .any, .any, .any, .any, .any, .any, .any, .any, .any, .any, .any, .any, .any, .any, .any, .any, .any, .any, .any, .any, .any, .any, .any, .any, .any, .any, .any, .any, .any, .any, .any, .any, .any, .any, .any, .any, .any, .any, .any, .any, .any, .any, .any, .any, .any, .any, .any, .any, .any, .any, .any, .any, .any, .any, .any, .any, .any, .any, .any, .any, .any, .any, .any, .any, .any, .any, .any, .any, .any, .any, .any, .any, .any, .any, .any, .any, .any, .any, .any, .any, .any, .any, .any, .any, .any, .any, .any, .any, .any, .any, .any, .any, .any, .any, .any, .any, .any, .any, .any, .any, .any, .any, .any, .any, .any, .any, .any, .any, .any, .any, .any, .any, .any, .any, .any, .any, .any, .any, .any, .any, .any, .any, .any, .any, .any, .any, .any, .any, .any, .any, .any, .any, .any, .any, .any, .any, .any, .any, .any, .any, .any, .any, .any, .any, .any, .any, .any, .any, .any, .any, .any, .any, .any, .any, .any, .any, .any, .any, .any, .any, .any, .any, .any, .any, .any]) (fun k (p : AV × List Int × AH) => p.2.2)
        (fun k p m' => Acc m m' p.2.2 2 1 p.1 (ints p.2.1) ∧ p.2.1.length = k ∧ BndL 1000 p.2.1 ∧ m ≤ m' ∧ ∀ j, j < m → p.2.2 j = hp j) (.sl m 0 0 0, [], _) (Nat.zero_le _)
        ⟨Acc.empty (upd_same _ _ _) rfl (Nat.le_refl _) (by omega), rfl, by simp [BndL], by omega, fun j hj => upd_other (by omega)⟩ (by simp [LeL, Le1]) (fun _ _ h => h) ?_
      rintro k ⟨row, l, hq⟩ mq - hk1 hm2 ⟨a, al, ab, hle, qo⟩
      simp only at a al ab qo
      simp (maxSteps := 2000000) -implicitDefEqProofs (disch := omega) only [xsW, xsC, xsD, xsE, fillA, reduceCtorEq, Nat.reduceAdd, Nat.reduceSub, Nat.reduceLeDiff, Nat.reduceMul, Int.reduceLT, Int.reduceLE, Int.reduceEq, Int.reduceNe, Int.reduceAdd, Int.reduceSub, Int.reduceMul, Int.reduceNeg, Int.reduceToNat]
      (refine cd_dec (fun c2 => ?_) (fun c2 => ?_) <;> simp (maxSteps := 2000000) -implicitDefEqProofs (disch := omega) only [xsW, xsC, xsD, xsE, fillA, reduceCtorEq, Nat.reduceAdd, Nat.reduceSub, Nat.reduceLeDiff, Nat.reduceMul, Int.reduceLT, Int.reduceLE, Int.reduceEq, Int.reduceNe, Int.reduceAdd, Int.reduceSub, Int.reduceMul, Int.reduceNeg, Int.reduceToNat,  c2])
      · have hk2 : k < N := by omega
        have hgl := g.le
        have hout := s3.out.below (by rw [s3.slen, q3.1]; omega)
        have bi := below_row s3 q3 hi2
        have bk := below_row s3 q3 hk2
        have hri := s3.row i (by rw [q3.1]; exact hi2)
        have hrk := s3.row k (by rw [q3.1]; exact hk2)
        have li := q3.row hi2
        have lk := q3.row hk2
        have hq3 := q3.1
        have hz : ∀ j, n + 1 ≤ j → j < n3 → hq j = h3 j := fun j a1 a2 => by rw [qo j (by omega), hold j a2]
        refine loop_for N 0 (fun k' p => [.ptr b 0, .any, .nilsl, .int .i64 N, .any, .any, .any, .any, v, out, .int .i64 i, row, .int .i64 k, .int .i64 p, .int .i64 k', .any, .any, .any, .any, .any, .any, .any, .any, .any, .any, .any, .any, .any, .any, .any, .any, .any, .any, .any, .any, .any, .any, .any, .any, .any, .any, .any, .any, .any, .any, .any, .any, .any, .any, .any, .any, .any, .any, .any, .any, .any, .any, .any, .any, .any, .any, .any, .any, .any, .any, .any, .any, .any, .any, .any, .any, .any, .any, .any, .any, .any, .any, .any, .any, .any, .any, .any, .any, .any, .any, .any, .any, .any, .any, .any, .any, .any, .any, .any, .any, .any, .any, .any, .any, .any, .any, .any, .any, .any, .any, .any, .any, .any, .any, .any, .any, .any, .any, .any, .any, .any, .any, .any, .any, .any, .any, .any, .any, .any, .any, .any, .any, .any, .any, .any, .any, .any, .any, .any, .any, .any, .any, .any, .any, .any, .any, .any, .any, .any, .any, .any, .any, .any, .any, .any, .any, .any, .any, .any, .any, .any, .any, .any, .any, .any, .any, .any, .any, .any, .any, .any, .any, .any, .any, .any, .any, .any, .any, .any, .any, .any, .any, .any, .any, .any, .any, .any, .any, .any, .any, .any, .any, .any, .any, .any, .any, .any, .any, .any, .any, .any]) (fun k _ => hq)
          (fun k' (p : Int) m' => -(k' : Int) ≤ p ∧ p ≤ k') 0 (Nat.zero_le _) ⟨by omega, by omega⟩ (by simp [LeL, Le1]) (fun _ _ h => h) ?_
        rintro j sum m3 - hj1 hm3 ⟨u1, u2⟩
        simp (maxSteps := 2000000) -implicitDefEqProofs (disch := omega) only [xsW, xsC, xsD, xsE, fillA, reduceCtorEq, Nat.reduceAdd, Nat.reduceSub, Nat.reduceLeDiff, Nat.reduceMul, Int.reduceLT, Int.reduceLE, Int.reduceEq, Int.reduceNe, Int.reduceAdd, Int.reduceSub, Int.reduceMul, Int.reduceNeg, Int.reduceToNat]
        (refine cd_dec (fun c3 => ?_) (fun c3 => ?_) <;> simp (maxSteps := 2000000) -implicitDefEqProofs (disch := omega) only [xsW, xsC, xsD, xsE, fillA, reduceCtorEq, Nat.reduceAdd, Nat.reduceSub, Nat.reduceLeDiff, Nat.reduceMul, Int.reduceLT, Int.reduceLE, Int.reduceEq, Int.reduceNe, Int.reduceAdd, Int.reduceSub, Int.reduceMul, Int.reduceNeg, Int.reduceToNat,  c3])
        · have hj2 : j < N := by omega
          have xi := li.2.at (i := j) (by omega)
          have xk := lk.2.at (i := j) (by omega)
          have hm := small_mul xi xk
          have hs3 := s3.keep hz
          have hri' := hri.keep hz
          have hrk' := hrk.keep hz
          simp (maxSteps := 2000000) -implicitDefEqProofs (disch := omega) only [xsW, xsC, xsD, xsE, fillA, reduceCtorEq, Nat.reduceAdd, Nat.reduceSub, Nat.reduceLeDiff, Nat.reduceMul, Int.reduceLT, Int.reduceLE, Int.reduceEq, Int.reduceNe, Int.reduceAdd, Int.reduceSub, Int.reduceMul, Int.reduceNeg, Int.reduceToNat,  hs3.ia, hs3.ld, hri'.ia, hri'.ld, hrk'.ia, hrk'.ld, q3.1, li.1, lk.1]
          exact ⟨sum + (ll.getD i []).getD j 0 * (ll.getD k []).getD j 0, ⟨by omega, by omega⟩, by omega, by omega, (by simp [LeL, Le1])⟩
        · refine app_int (y := sum) (a.keep (fun i _ hi9 => by simp (disch := omega) only [upd_other]) |>.wide (Nat.le_refl _) (by omega)) (by omega) (by omega) ⟨rfl, _, upd_same _ _ _, by simp, by simp [cutA]⟩ (by omega) fun v' h' n' q1 q2 q3 => ?_
          simp (maxSteps := 2000000) -implicitDefEqProofs (disch := omega) only [xsW, xsC, xsD, xsE, fillA, reduceCtorEq, Nat.reduceAdd, Nat.reduceSub, Nat.reduceLeDiff, Nat.reduceMul, Int.reduceLT, Int.reduceLE, Int.reduceEq, Int.reduceNe, Int.reduceAdd, Int.reduceSub, Int.reduceMul, Int.reduceNeg, Int.reduceToNat]
          exact ⟨(v', l ++ [sum], h'), ⟨q2, by simp [al], ab.snoc (by omega) (by omega), by omega, fun j hj => by
            show h' j = hp j
            rw [q3 j hj, upd_other (by omega), qo j hj]⟩, by omega, by omega, (by simp [LeL, Le1]), fun _ _ h => h⟩
      · have e : l.length = N := by omega
        have o1 := one_any a.any
        have o2 := sto_any a.any
        have o3 := cel_any a.any
        simp (maxSteps := 2000000) -implicitDefEqProofs (disch := omega) only [xsW, xsC, xsD, xsE, fillA, reduceCtorEq, Nat.reduceAdd, Nat.reduceSub, Nat.reduceLeDiff, Nat.reduceMul, Int.reduceLT, Int.reduceLE, Int.reduceEq, Int.reduceNe, Int.reduceAdd, Int.reduceSub, Int.reduceMul, Int.reduceNeg, Int.reduceToNat,  o1, o2, o3]
        refine g.app (hB := upd hq mq _) (l := l) (a.sl.keep (fun i _ hi9 => by simp (disch := omega) only [upd_other])) (fun i hi9 => by simp (disch := omega) only [upd_other, qo]) hle (by omega) (by omega) ⟨rfl, _, upd_same _ _ _, by simp, by simp [cutA]⟩ (by omega) fun out' h' n' q1 q2 => ?_
        simp (maxSteps := 2000000) -implicitDefEqProofs (disch := omega) only [xsW, xsC, xsD, xsE, fillA, reduceCtorEq, Nat.reduceAdd, Nat.reduceSub, Nat.reduceLeDiff, Nat.reduceMul, Int.reduceLT, Int.reduceLE, Int.reduceEq, Int.reduceNe, Int.reduceAdd, Int.reduceSub, Int.reduceMul, Int.reduceNeg, Int.reduceToNat]
        refine ⟨(out', ws ++ [row], l4 ++ [l], h'), ⟨q2, by simp [gl], fun r hr => ?_⟩, by omega, by omega, (by simp [LeL, Le1]), fun _ _ h => h⟩
        rcases List.mem_append.1 hr with hr | hr
        · exact ge r hr
        · simp only [List.mem_cons, List.not_mem_nil, or_false] at hr; subst hr; exact ⟨e, ab⟩
    · exact ⟨ws, l4, N, hN1, hN5, (g.rowsOf fun _ _ _ => rfl).wide (by omega) (by omega), ⟨by omega, ge⟩, r3.keep (hold b (by omega)) fun j hj => hold j (by omega), fun j hj hne => by rw [hold j (by omega), o3' j hj hne]⟩
  (refine cd_dec (fun c0 => ?_) (fun c0 => ?_) <;> simp (maxSteps := 2000000) -implicitDefEqProofs (disch := omega) only [xsW, xsC, xsD, xsE, fillA, reduceCtorEq, Nat.reduceAdd, Nat.reduceSub, Nat.reduceLeDiff, Nat.reduceMul, Int.reduceLT, Int.reduceLE, Int.reduceEq, Int.reduceNe, Int.reduceAdd, Int.reduceSub, Int.reduceMul, Int.reduceNeg, Int.reduceToNat,  c0])
  · -- numbers of at least 0, mostly
    refine mq_use (spec_l01Pick (b := b) (bnd := bnd) (w := true) (lo := n + 1) (hi := n + 1 + 1) (l := [2, 5, 20]) (r2.keep (upd_other (by omega)) fun j hj => upd_other (by omega)) hb (Sl.of_sl (upd_same _ _ _) rfl (Nat.le_refl _) (Nat.le_refl _) (by omega)) (by omega) (by simp) (by simp) _ (by omega)) (fun i a c => .inr ⟨by omega, by omega⟩) fun x4 h4 n4 hn4 ⟨en, ⟨z4, hz, z5⟩, r4, sm4⟩ => ?_
    subst en; subst hz
    simp only [List.mem_cons, List.not_mem_nil, or_false] at z5
    have o4 : ∀ j, j < n → j ≠ b → h4 j = h j := fun j hj hne => by rw [sm4 j hne, upd_other (by omega), o2 j hj hne]
    simp (maxSteps := 2000000) -implicitDefEqProofs (disch := omega) only [xsW, xsC, xsD, xsE, fillA, reduceCtorEq, Nat.reduceAdd, Nat.reduceSub, Nat.reduceLeDiff, Nat.reduceMul, Int.reduceLT, Int.reduceLE, Int.reduceEq, Int.reduceNe, Int.reduceAdd, Int.reduceSub, Int.reduceMul, Int.reduceNeg, Int.reduceToNat]
    refine mq_use (spec_l01DrawM r4 hb N z4 (by omega) (by omega) (by omega) _ (by omega)) (fun i a c => .inr ⟨by omega, by omega⟩) fun v h3 n3 hn3 ⟨vs, ll, s3, q3, r3, o3⟩ => ?_
    simp (maxSteps := 2000000) -implicitDefEqProofs (disch := omega) only [xsW, xsC, xsD, xsE, fillA, reduceCtorEq, Nat.reduceAdd, Nat.reduceSub, Nat.reduceLeDiff, Nat.reduceMul, Int.reduceLT, Int.reduceLE, Int.reduceEq, Int.reduceNe, Int.reduceAdd, Int.reduceSub, Int.reduceMul, Int.reduceNeg, Int.reduceToNat]
    refine loop_for N 0 (fun k p => [.ptr b 0, .any, .nilsl, .int .i64 N, .any, .any, .any, .any, .any, .any, .any, .any, .any, .any, .any, v, .int .i64 k, .any, .any, .any, .any, .any, .any, .any, .any, .any, .any, .any, .any, .any, .any, .any, .any, .any, .any, .any, .any, .any, .any, .any, .any, .any, .any, .any, .any, .any, .any, .any, .any, .any, .any, .any, .any, .any, .any, .any, .any, .any, .any, .any, .any, .any, .any, .any, .any, .any, .any, .any, .any, .any, .any, .any, .any, .any, .any, .any, .any, .any, .any, .any, .any, .any, .any, .any, .any, .any, .any, .any, .any, .any, .any, .any, .any, .any, .any, .any, .any, .any, .any, .any, .any, .any, .any, .any, .any, .any, .any, .any, .any, .any, .any, .any, .any, .any, .any, .any, .any, .any, .any, .any, .any, .any, .any, .any, .any, .any, .any, .any, .any, .any, .any, .any, .any, .any, .any, .any, .any, .any, .any, .any, .any, .any, .any, .any, .any, .any, .any, .any, .any, .any, .any, .any, .any, .any, .any, .any, .any, .any, .any, .any, .any, .any, .any, .any, .any, .any, .any, .any, .any, .any, .any, .any, .any, .any, .any, .any, .any, .any, .any, .any, .any, .any, .any, .any, .any, .any, .any, .any, .any, .any, .any, .any, .any, .any, .any, .any]) (fun k (p : List (List Int) × AH) => p.2)
      (fun k p m => St bnd b h4 (n + 1 + 1) n3 N v vs p.1 p.2) (ll, _) (Nat.zero_le _) ⟨s3, q3.le (by omega), r3, o3⟩ (by simp [LeL, Le1]) (fun _ _ h => h) ?_
    rintro i ⟨l4, hp⟩ m - hi1 hm1 t
    simp only at t
    simp (maxSteps := 2000000) -implicitDefEqProofs (disch := omega) only [xsW, xsC, xsD, xsE, fillA, reduceCtorEq, Nat.reduceAdd, Nat.reduceSub, Nat.reduceLeDiff, Nat.reduceMul, Int.reduceLT, Int.reduceLE, Int.reduceEq, Int.reduceNe, Int.reduceAdd, Int.reduceSub, Int.reduceMul, Int.reduceNeg, Int.reduceToNat]
    (refine cd_dec (fun c1 => ?_) (fun c1 => ?_) <;> simp (maxSteps := 2000000) -implicitDefEqProofs (disch := omega) only [xsW, xsC, xsD, xsE, fillA, reduceCtorEq, Nat.reduceAdd, Nat.reduceSub, Nat.reduceLeDiff, Nat.reduceMul, Int.reduceLT, Int.reduceLE, Int.reduceEq, Int.reduceNe, Int.reduceAdd, Int.reduceSub, Int.reduceMul, Int.reduceNeg, Int.reduceToNat,  c1])
    · have hi2 : i < N := by omega
      have hout := t.s.out.below (by rw [t.s.slen, t.q.1]; omega)
      have hlen4 := t.q.1
      simp (maxSteps := 2000000) -implicitDefEqProofs (disch := omega) only [xsW, xsC, xsD, xsE, fillA, reduceCtorEq, Nat.reduceAdd, Nat.reduceSub, Nat.reduceLeDiff, Nat.reduceMul, Int.reduceLT, Int.reduceLE, Int.reduceEq, Int.reduceNe, Int.reduceAdd, Int.reduceSub, Int.reduceMul, Int.reduceNeg, Int.reduceToNat,  t.s.ia, t.s.ld, t.q.1]
      refine loop_for N 0 (fun k p => [.ptr b 0, .any, .nilsl, .int .i64 N, .any, .any, .any, .any, .any, .any, .any, .any, .any, .any, .any, v, .int .i64 i, vs.getD i .any, .int .i64 k, .any, .any, .any, .any, .any, .any, .any, .any, .any, .any, .any, .any, .any, .any, .any, .any, .any, .any, .any, .any, .any, .any, .any, .any, .any, .any, .any, .any, .any, .any, .any, .any, .any, .any, .any, .any, .any, .any, .any, .any, .any, .any, .any, .any, .any, .any, .any, .any, .any, .any, .any, .any, .any, .any, .any, .any, .any, .any, .any, .any, .any, .any, .any, .any, .any, .any, .any, .any, .any, .any, .any, .any, .any, .any, .any, .any, .any, .any, .any, .any, .any, .any, .any, .any, .any, .any, .any, .any, .any, .any, .any, .any, .any, .any, .any, .any, .any, .any, .any, .any, .any, .any, .any, .any, .any, .any, .any, .any, .any, .any, .any, .any, .any, .any, .any, .any, .any, .any, .any, .any, .any, .any, .any, .any, .any, .any, .any, .any, .any, .any, .any, .any, .any, .any, .any, .any, .any, .any, .any, .any, .any, .any, .any, .any, .any, .any, .any, .any, .any, .any, .any, .any, .any, .any, .any, .any, .any, .any, .any, .any, .any, .any, .any, .any, .any, .any, .any, .any, .any, .any, .any, .any, .any, .any, .any, .any, .any]) (fun k (p : List (List Int) × AH) => p.2)
        (fun k p m => St bnd b h4 (n + 1 + 1) n3 N v vs p.1 p.2) (l4, hp) (Nat.zero_le _) t (by simp [LeL, Le1]) (fun _ _ h => h) ?_
      rintro k ⟨l5, hq⟩ m2 - hk1 hm2 t5
      simp only at t5
      simp (maxSteps := 2000000) -implicitDefEqProofs (disch := omega) only [xsW, xsC, xsD, xsE, fillA, reduceCtorEq, Nat.reduceAdd, Nat.reduceSub, Nat.reduceLeDiff, Nat.reduceMul, Int.reduceLT, Int.reduceLE, Int.reduceEq, Int.reduceNe, Int.reduceAdd, Int.reduceSub, Int.reduceMul, Int.reduceNeg, Int.reduceToNat]
      (refine cd_dec (fun c2 => ?_) (fun c2 => ?_) <;> simp (maxSteps := 2000000) -implicitDefEqProofs (disch := omega) only [xsW, xsC, xsD, xsE, fillA, reduceCtorEq, Nat.reduceAdd, Nat.reduceSub, Nat.reduceLeDiff, Nat.reduceMul, Int.reduceLT, Int.reduceLE, Int.reduceEq, Int.reduceNe, Int.reduceAdd, Int.reduceSub, Int.reduceMul, Int.reduceNeg, Int.reduceToNat,  c2])
      · have hk2 : k < N := by omega
        refine mq_use (spec_l01Next t5.r hb 9 m2 (by omega)) (fun i a c => .inr ⟨by omega, by omega⟩) fun x6 h6 n6 hn6 ⟨en, ⟨y6, hy, _, _, _⟩, r6, sm6⟩ => ?_
        subst en; subst hy
        have t6 := t5.draw (by omega) r6 sm6
        have hbw := t6.below hi2
        have hrow := t6.row hi2
        have hlen := (t6.q.row hi2).1
        have hx := t6.num hi2 hk2
        simp (maxSteps := 2000000) -implicitDefEqProofs (disch := omega) only [xsW, xsC, xsD, xsE, fillA, reduceCtorEq, Nat.reduceAdd, Nat.reduceSub, Nat.reduceLeDiff, Nat.reduceMul, Int.reduceLT, Int.reduceLE, Int.reduceEq, Int.reduceNe, Int.reduceAdd, Int.reduceSub, Int.reduceMul, Int.reduceNeg, Int.reduceToNat]
        (refine cd_dec (fun c3 => ?_) (fun c3 => ?_) <;> simp (maxSteps := 2000000) -implicitDefEqProofs (disch := omega) only [xsW, xsC, xsD, xsE, fillA, reduceCtorEq, Nat.reduceAdd, Nat.reduceSub, Nat.reduceLeDiff, Nat.reduceMul, Int.reduceLT, Int.reduceLE, Int.reduceEq, Int.reduceNe, Int.reduceAdd, Int.reduceSub, Int.reduceMul, Int.reduceNeg, Int.reduceToNat,  c3])
        · have e1 := fun K => Ints.st hrow (k := k) (x := max ((l5.getD i []).getD k 0) (-(l5.getD i []).getD k 0)) (n0 := n) (n := n6) (W := fun i => b ≤ i ∧ i < b + 1) (by omega) (fun i a b => .inl (by omega)) (by omega) K
          simp (maxSteps := 2000000) -implicitDefEqProofs (disch := omega) only [xsW, xsC, xsD, xsE, fillA, reduceCtorEq, Nat.reduceAdd, Nat.reduceSub, Nat.reduceLeDiff, Nat.reduceMul, Int.reduceLT, Int.reduceLE, Int.reduceEq, Int.reduceNe, Int.reduceAdd, Int.reduceSub, Int.reduceMul, Int.reduceNeg, Int.reduceToNat,  hrow.ia, hrow.ld, hlen, e1]
          exact ⟨(_, _), t6.store hb (by omega) hi2 hk2 (x := max ((l5.getD i []).getD k 0) (-(l5.getD i []).getD k 0)) (by omega) (by omega), by omega, by omega, (by simp [LeL, Le1]), fun _ _ h => h⟩
        · exact ⟨(l5, h6), t6, by omega, by omega, (by simp [LeL, Le1]), fun _ _ h => h⟩
      · exact ⟨(l5, hq), t5, by omega, by omega, (by simp [LeL, Le1]), fun _ _ h => h⟩
    · exact ⟨vs, l4, N, hN1, hN5, t.s.wide (by omega) (by omega), t.q, t.r, fun j hj hne => by rw [t.o j (by omega) hne, o4 j hj hne]⟩
  (refine cd_dec (fun c0 => ?_) (fun c0 => ?_) <;> simp (maxSteps := 2000000) -implicitDefEqProofs (disch := omega) only [xsW, xsC, xsD, xsE, fillA, reduceCtorEq, Nat.reduceAdd, Nat.reduceSub, Nat.reduceLeDiff, Nat.reduceMul, Int.reduceLT, Int.reduceLE, Int.reduceEq, Int.reduceNe, Int.reduceAdd, Int.reduceSub, Int.reduceMul, Int.reduceNeg, Int.reduceToNat,  c0])
  · -- triangular
    refine mq_use (spec_l01DrawM r2 hb N 9 (by omega) (by omega) (by omega) _ (by omega)) (fun i a c => .inr ⟨by omega, by omega⟩) fun v h3 n3 hn3 ⟨vs, ll, s3, q3, r3, o3⟩ => ?_
    simp (maxSteps := 2000000) -implicitDefEqProofs (disch := omega) only [xsW, xsC, xsD, xsE, fillA, reduceCtorEq, Nat.reduceAdd, Nat.reduceSub, Nat.reduceLeDiff, Nat.reduceMul, Int.reduceLT, Int.reduceLE, Int.reduceEq, Int.reduceNe, Int.reduceAdd, Int.reduceSub, Int.reduceMul, Int.reduceNeg, Int.reduceToNat]
    refine loop_for N 0 (fun k p => [.ptr b 0, .any, .nilsl, .int .i64 N, .any, .any, .any, .any, .any, .any, .any, .any, .any, .any, .any, .any, .any, .any, .any, v, .int .i64 k, .any, .any, .any, .any, .any, .any, .any, .any, .any, .any, .any, .any, .any, .any, .any, .any, .any, .any, .any, .any, .any, .any, .any, .any, .any, .any, .any, .any, .any, .any, .any, .any, .any, .any, .any, .any, .any, .any, .any, .any, .any, .any, .any, .any, .any, .any, .any, .any, .any, .any, .any, .any, .any, .any, .any, .any, .any, .any, .any, .any, .any, .any, .any, .any, .any, .any, .any, .any, .any, .any, .any, .any, .any, .any, .any, .any, .any, .any, .any, .any, .any, .any, .any, .any, .any, .any, .any, .any, .any, .any, .any, .any, .any, .any, .any, .any, .any, .any, .any, .any, .any, .any, .any, .any, .any, .any, .any, .any, .any, .any, .any, .any, .any, .any, .any, .any, .any, .any, .any, .any, .any, .any, .any, .any, .any, .any, .any, .any, .any, .any, .any, .any, .any, .any, .any, .any, .any, .any, .any, .any, .any, .any, .any, .any, .any, .any, .any, .any, .any, .any, .any, .any, .any, .any, .any, .any, .any, .any, .any, .any, .any, .any, .any, .any, .any, .any, .any, .any, .any, .any, .any, .any, .any, .any, .any]) (fun k (p : List (List Int) × AH) => p.2)
      (fun k p m => St bnd b h2 (n + 1) n3 N v vs p.1 p.2) (ll, _) (Nat.zero_le _) ⟨s3, q3.le (by omega), r3, o3⟩ (by simp [LeL, Le1]) (fun _ _ h => h) ?_
    rintro i ⟨l4, hp⟩ m - hi1 hm1 t
    simp only at t
    simp (maxSteps := 2000000) -implicitDefEqProofs (disch := omega) only [xsW, xsC, xsD, xsE, fillA, reduceCtorEq, Nat.reduceAdd, Nat.reduceSub, Nat.reduceLeDiff, Nat.reduceMul, Int.reduceLT, Int.reduceLE, Int.reduceEq, Int.reduceNe, Int.reduceAdd, Int.reduceSub, Int.reduceMul, Int.reduceNeg, Int.reduceToNat]
    (refine cd_dec (fun c1 => ?_) (fun c1 => ?_) <;> simp (maxSteps := 2000000) -implicitDefEqProofs (disch := omega) only [xsW, xsC, xsD, xsE, fillA, reduceCtorEq, Nat.reduceAdd, Nat.reduceSub, Nat.reduceLeDiff, Nat.reduceMul, Int.reduceLT, Int.reduceLE, Int.reduceEq, Int.reduceNe, Int.reduceAdd, Int.reduceSub, Int.reduceMul, Int.reduceNeg, Int.reduceToNat,  c1])
    · have hi2 : i < N := by omega
      have hout := t.s.out.below (by rw [t.s.slen, t.q.1]; omega)
      have hlen4 := t.q.1
      simp (maxSteps := 2000000) -implicitDefEqProofs (disch := omega) only [xsW, xsC, xsD, xsE, fillA, reduceCtorEq, Nat.reduceAdd, Nat.reduceSub, Nat.reduceLeDiff, Nat.reduceMul, Int.reduceLT, Int.reduceLE, Int.reduceEq, Int.reduceNe, Int.reduceAdd, Int.reduceSub, Int.reduceMul, Int.reduceNeg, Int.reduceToNat,  t.s.ia, t.s.ld, t.q.1]
      refine loop_for i 0 (fun k p => [.ptr b 0, .any, .nilsl, .int .i64 N, .any, .any, .any, .any, .any, .any, .any, .any, .any, .any, .any, .any, .any, .any, .any, v, .int .i64 i, vs.getD i .any, .int .i64 k, .any, .any, .any, .any, .any, .any, .any, .any, .any, .any, .any, .any, .any, .any, .any, .any, .any, .any, .any, .any, .any, .any, .any, .any, .any, .any, .any, .any, .any, .any, .any, .any, .any, .any, .any, .any, .any, .any, .any, .any, .any, .any, .any, .any, .any, .any, .any, .any, .any, .any, .any, .any, .any, .any, .any, .any, .any, .any, .any, .any, .any, .any, .any, .any, .any, .any, .any, .any, .any, .any, .any, .any, .any, .any, .any, .any, .any, .any, .any, .any, .any, .any, .any, .any, .any, .any, .any, .any, .any, .any, .any, .any, .any, .any, .any, .any, .any, .any, .any, .any, .any, .any, .any, .any, .any, .any, .any, .any, .any, .any, .any, .any, .any, .any, .any, .any, .any, .any, .any, .any, .any, .any, .any, .any, .any, .any, .any, .any, .any, .any, .any, .any, .any, .any, .any, .any, .any, .any, .any, .any, .any, .any, .any, .any, .any, .any, .any, .any, .any, .any, .any, .any, .any, .any, .any, .any, .any, .any, .any, .any, .any, .any, .any, .any, .any, .any, .any, .any, .any, .any, .any, .any, .any]) (fun k (p : List (List Int) × AH) => p.2)
        (fun k p m => St bnd b h2 (n + 1) n3 N v vs p.1 p.2) (l4, hp) (Nat.zero_le _) t (by simp [LeL, Le1]) (fun _ _ h => h) ?_
      rintro k ⟨l5, hq⟩ m2 - hk1 hm2 t5
      simp only at t5
      have hbw := t5.below hi2
      have hrow := t5.row hi2
      have hlen := (t5.q.row hi2).1
      simp (maxSteps := 2000000) -implicitDefEqProofs (disch := omega) only [xsW, xsC, xsD, xsE, fillA, reduceCtorEq, Nat.reduceAdd, Nat.reduceSub, Nat.reduceLeDiff, Nat.reduceMul, Int.reduceLT, Int.reduceLE, Int.reduceEq, Int.reduceNe, Int.reduceAdd, Int.reduceSub, Int.reduceMul, Int.reduceNeg, Int.reduceToNat]
      (refine cd_dec (fun c2 => ?_) (fun c2 => ?_) <;> simp (maxSteps := 2000000) -implicitDefEqProofs (disch := omega) only [xsW, xsC, xsD, xsE, fillA, reduceCtorEq, Nat.reduceAdd, Nat.reduceSub, Nat.reduceLeDiff, Nat.reduceMul, Int.reduceLT, Int.reduceLE, Int.reduceEq, Int.reduceNe, Int.reduceAdd, Int.reduceSub, Int.reduceMul, Int.reduceNeg, Int.reduceToNat,  c2])
      · have hk2 : k < N := by omega
        have e1 := fun K => Ints.st hrow (k := k) (x := 0) (n0 := n) (n := m2) (W := fun i => b ≤ i ∧ i < b + 1) (by omega) (fun i a b => .inl (by omega)) (by omega) K
        simp (maxSteps := 2000000) -implicitDefEqProofs (disch := omega) only [xsW, xsC, xsD, xsE, fillA, reduceCtorEq, Nat.reduceAdd, Nat.reduceSub, Nat.reduceLeDiff, Nat.reduceMul, Int.reduceLT, Int.reduceLE, Int.reduceEq, Int.reduceNe, Int.reduceAdd, Int.reduceSub, Int.reduceMul, Int.reduceNeg, Int.reduceToNat,  hrow.ia, hrow.ld, hlen, e1]
        exact ⟨(_, _), t5.store hb (by omega) hi2 hk2 (x := 0) (by omega) (by omega), by omega, by omega, (by simp [LeL, Le1]), fun _ _ h => h⟩
      · exact ⟨(l5, hq), t5, by omega, by omega, (by simp [LeL, Le1]), fun _ _ h => h⟩
    · exact ⟨vs, l4, N, hN1, hN5, t.s.wide (by omega) (by omega), t.q, t.r, fun j hj hne => by rw [t.o j (by omega) hne, o2 j hj hne]⟩
  refine mq_use (spec_l01Pick (b := b) (bnd := bnd) (w := true) (lo := n + 1) (hi := n + 1 + 1) (l := [1, 2, 5, 20]) (r2.keep (upd_other (by omega)) fun j hj => upd_other (by omega)) hb (Sl.of_sl (upd_same _ _ _) rfl (Nat.le_refl _) (Nat.le_refl _) (by omega)) (by omega) (by simp) (by simp) _ (by omega)) (fun i a c => .inr ⟨by omega, by omega⟩) fun x4 h4 n4 hn4 ⟨en, ⟨z4, hz, z5⟩, r4, sm4⟩ => ?_
  subst en; subst hz
  simp only [List.mem_cons, List.not_mem_nil, or_false] at z5
  simp (maxSteps := 2000000) -implicitDefEqProofs (disch := omega) only [xsW, xsC, xsD, xsE, fillA, reduceCtorEq, Nat.reduceAdd, Nat.reduceSub, Nat.reduceLeDiff, Nat.reduceMul, Int.reduceLT, Int.reduceLE, Int.reduceEq, Int.reduceNe, Int.reduceAdd, Int.reduceSub, Int.reduceMul, Int.reduceNeg, Int.reduceToNat]
  refine mq_use (spec_l01DrawM r4 hb N z4 (by omega) (by omega) (by omega) _ (by omega)) (fun i a c => .inr ⟨by omega, by omega⟩) fun v h3 n3 hn3 ⟨vs, ll, s3, q3, r3, o3⟩ => ?_
  simp (maxSteps := 2000000) -implicitDefEqProofs (disch := omega) only [xsW, xsC, xsD, xsE, fillA, reduceCtorEq, Nat.reduceAdd, Nat.reduceSub, Nat.reduceLeDiff, Nat.reduceMul, Int.reduceLT, Int.reduceLE, Int.reduceEq, Int.reduceNe, Int.reduceAdd, Int.reduceSub, Int.reduceMul, Int.reduceNeg, Int.reduceToNat]
  exact ⟨vs, ll, N, hN1, hN5, s3.wide (by omega) (Nat.le_refl _), q3.le (by omega), r3, fun j hj hne => by rw [o3 j (by omega) hne, sm4 j hne, upd_other (by omega), o2 j hj hne]⟩
end
def c_spec_l03Bad : F := ⟨(.seq (.reg false [⟨some 4, .mv (.c .nilsl), none⟩]) (.seq (.seq (.reg false [⟨some 8, .mv (.t 0), none⟩, ⟨some 9, .call (.f 82) [(.t 8), (.c (.int .i64 50))], none⟩]) (.block 0 (.seq (.reg false [⟨some 11, .bin .eql (.t 9) (.c (.int .i64 0)), none⟩, ⟨some 10, .mv (.t 11), none⟩]) (.cond (.t 10) (.seq (.reg false [⟨some 12, .lit 29 1 0 [.nilsl] [], none⟩, ⟨some 4, .mv (.t 12), none⟩]) .ret) (.seq (.reg false [⟨some 14, .bin .eql (.t 9) (.c (.int .i64 1)), none⟩, ⟨some 13, .mv (.t 14), none⟩]) (.cond (.t 13) (.seq (.reg false [⟨some 15, .lit 29 1 0 [.nilsl] [], none⟩, ⟨some 5, .mv (.t 15), none⟩]) (.seq (.seq (.reg false [⟨some 6, .mv (.c (.int .i64 0)), none⟩]) (.block 1 (.loop (.seq (.seq (.reg false [⟨some 16, .mv (.t 6), none⟩, ⟨some 17, .mv (.t 1), none⟩, ⟨some 18, .len (.t 17), none⟩, ⟨some 19, .bin .lss (.t 16) (.t 18), none⟩]) (.cond (.t 19) .skip (.exit 1))) (.seq (.block 2 (.reg false [⟨some 22, .mv (.t 5), none⟩, ⟨some 23, .mv (.t 1), none⟩, ⟨some 24, .mv (.t 6), none⟩, ⟨some 25, .ia 1 (.t 23) (.t 24), none⟩, ⟨some 26, .ld1 (.t 25), none⟩, ⟨some 27, .call (.f 88) [(.t 26)], none⟩, ⟨some 28, .lit 29 1 1 [.nilsl] [(0, (.t 27))], none⟩, ⟨some 29, .app 29 1 24 [.nilsl] (.t 22) (.t 28), none⟩, ⟨some 5, .mv (.t 29), none⟩])) (.reg false [⟨some 20, .mv (.t 6), none⟩, ⟨some 21, .bin .add (.t 20) (.c (.int .i64 1)), none⟩, ⟨some 6, .mv (.t 21), none⟩])))))) (.seq (.reg false [⟨some 30, .mv (.t 5), none⟩, ⟨some 31, .ia 1 (.t 30) (.c (.int .i64 0)), none⟩, ⟨some 32, .ld1 (.t 31), none⟩, ⟨some 7, .mv (.t 32), none⟩]) (.seq (.reg false [⟨some 33, .mv (.t 7), none⟩, ⟨some 34, .mv (.t 0), none⟩, ⟨some 35, .lit 2 1 2 [(.int .i64 0)] [(0, (.c (.int .i64 21))), (1, (.c (.int .i64 (-21))))], none⟩, ⟨some 36, .call (.f 84) [(.t 34), (.t 35)], none⟩, ⟨some 37, .ia 1 (.t 33) (.c (.int .i64 0)), none⟩, ⟨none, .st 1 (.t 37) (.t 36), none⟩]) (.seq (.reg false [⟨some 38, .mv (.t 5), none⟩, ⟨some 4, .mv (.t 38), none⟩]) .ret))))) (.seq (.reg false [⟨some 40, .bin .eql (.t 9) (.c (.int .i64 2)), none⟩, ⟨some 39, .mv (.t 40), none⟩]) (.cond (.t 39) (.seq (.reg false [⟨some 41, .lit 29 1 0 [.nilsl] [], none⟩, ⟨some 42, .mv (.t 1), none⟩, ⟨some 43, .app 29 1 24 [.nilsl] (.t 41) (.t 42), none⟩, ⟨some 44, .lit 2 1 1 [(.int .i64 0)] [(0, (.c (.int .i64 0)))], none⟩, ⟨some 45, .lit 29 1 1 [.nilsl] [(0, (.t 44))], none⟩, ⟨some 46, .app 29 1 24 [.nilsl] (.t 43) (.t 45), none⟩, ⟨some 4, .mv (.t 46), none⟩]) .ret) .skip)))))))) (.seq (.reg false [⟨some 47, .mv (.t 1), none⟩, ⟨some 4, .mv (.t 47), none⟩]) .ret))), 48, [(.t 4)]⟩
theorem k_spec_l03Bad : compF Try.prog Try.f66 = some c_spec_l03Bad := by kernel_rfl
def c_spec_l03Spoil : F := ⟨(.seq (.reg false [⟨some 2, .mv (.c .nilsl), none⟩]) (.seq (.reg false [⟨some 3, .mv (.t 0), none⟩, ⟨some 4, .mv (.t 0), none⟩, ⟨some 5, .call (.f 64) [(.t 4)], none⟩, ⟨some 6, .call (.f 66) [(.t 3), (.t 5)], none⟩, ⟨some 2, .mv (.t 6), none⟩]) .ret)), 7, [(.t 2)]⟩
theorem k_spec_l03Spoil : compF Try.prog Try.f74 = some c_spec_l03Spoil := by kernel_rfl

def Few (ll : List (List Int)) : Prop := ll.length ≤ 6 ∧ ∀ l ∈ ll, l.length ≤ 6
theorem SqM.few {N : Nat} {k : Int} {ll : List (List Int)} (h : SqM N k ll) (hN : N ≤ 5) : Few ll := ⟨by rw [h.1]; omega, fun l hl => by rw [(h.2 l hl).1]; omega⟩
theorem rowsv_one {w : Bool} {lo hi : Nat} {h : AH} {vs : List AV} {ll : List (List Int)} (s : RowsV w lo hi h vs ll) : vs.all AV.one = true := by
  simp only [List.all_eq_true]
  intro x hx
  obtain ⟨k, hk, rfl⟩ := List.getElem_of_mem hx
  have := one_any (Sl.any (s.row k (by rw [← s.len]; exact hk)))
  rwa [List.getD_eq_getElem?_getD, List.getElem?_eq_getElem hk, Option.getD_some] at this
theorem RowsV.snoc2 {lo mid hi : Nat} {h h' : AH} {vs : List AV} {ll : List (List Int)} {v : AV} {l : List Int} (s : RowsV true lo mid h vs ll) (hk : ∀ k, k < ll.length → isSl (vs.getD k .any) = true → h' (bid (vs.getD k .any)) = h (bid (vs.getD k .any))) (hv : Ints true mid hi h' v l) (h1 : lo ≤ mid) (h2 : mid ≤ hi) :
    RowsV true lo hi h' (vs ++ [v]) (ll ++ [l]) := (s.keep1 hk).snoc (fun _ _ _ => rfl) hv h1 h2
section
variable {bnd b lo hi : Nat} {h : AH} {v : AV} {vs : List AV} {ll : List (List Int)}
set_option maxHeartbeats 1000000 in
theorem spec_l03Bad (r : Rnd bnd b h) (hb : bnd ≤ b) (s : Rows true lo hi h v vs ll) (hlo : b < lo) {N : Nat} (hN : 1 ≤ N) (hN5 : N ≤ 5) (q : SqM N 1000 ll) (n : Nat) (hn : hi ≤ n) (hln : lo ≤ n) :
    MQ Try.prog 66 [.ptr b 0, v] h n b (b + 1) fun v' h' n' => ∃ vs' ll', Rows true lo n' h' v' vs' ll' ∧ Few ll' ∧ Rnd bnd b h' ∧ ∀ j, j < n → j ≠ b → h' j = h j := by
  refine mq_intro Try.func66 k_spec_l03Bad ?_
  have hq1 := q.1
  simp (maxSteps := 2000000) -implicitDefEqProofs (disch := omega) only [c_spec_l03Bad, xsW, xsC, xsD, xsE, fillA, reduceCtorEq, Nat.reduceAdd, Nat.reduceSub, Nat.reduceLeDiff, Nat.reduceMul, Int.reduceLT, Int.reduceLE, Int.reduceEq, Int.reduceNe, Int.reduceAdd, Int.reduceSub, Int.reduceMul, Int.reduceNeg, Int.reduceToNat]
  refine mq_use (spec_l01Next r hb 50 n (by omega)) (fun i a c => .inr ⟨by omega, by omega⟩) fun x h1 n1 hn1 ⟨en, ⟨y, hy, y0, y1, _⟩, r1, sm1⟩ => ?_
  subst en; subst hy
  have y2 := y1 (by omega)
  have s1 := s.keep (h' := h1) fun j a c => sm1 j (by omega)
  have o1 : ∀ j, j < n1 → j ≠ b → h1 j = h j := fun j _ hne => sm1 j hne
  simp (maxSteps := 2000000) -implicitDefEqProofs (disch := omega) only [xsW, xsC, xsD, xsE, fillA, reduceCtorEq, Nat.reduceAdd, Nat.reduceSub, Nat.reduceLeDiff, Nat.reduceMul, Int.reduceLT, Int.reduceLE, Int.reduceEq, Int.reduceNe, Int.reduceAdd, Int.reduceSub, Int.reduceMul, Int.reduceNeg, Int.reduceToNat]
  (refine cd_dec (fun c0 => ?_) (fun c0 => ?_) <;> simp (maxSteps := 2000000) -implicitDefEqProofs (disch := omega) only [xsW, xsC, xsD, xsE, fillA, reduceCtorEq, Nat.reduceAdd, Nat.reduceSub, Nat.reduceLeDiff, Nat.reduceMul, Int.reduceLT, Int.reduceLE, Int.reduceEq, Int.reduceNe, Int.reduceAdd, Int.reduceSub, Int.reduceMul, Int.reduceNeg, Int.reduceToNat,  c0])
  · refine ⟨[], [], (Grow.rowsOf (Grow.start0 (ty := 0) (h := h1) (b := ⟨29, [], true, 0⟩) rfl) fun _ _ _ => rfl).wide (by omega) (by omega), ⟨by simp, by simp⟩, r1.keep (upd_other (by omega)) fun j hj => upd_other (by omega), fun j hj hne => by rw [upd_other (by omega), o1 j hj hne]⟩
  (refine cd_dec (fun c0 => ?_) (fun c0 => ?_) <;> simp (maxSteps := 2000000) -implicitDefEqProofs (disch := omega) only [xsW, xsC, xsD, xsE, fillA, reduceCtorEq, Nat.reduceAdd, Nat.reduceSub, Nat.reduceLeDiff, Nat.reduceMul, Int.reduceLT, Int.reduceLE, Int.reduceEq, Int.reduceNe, Int.reduceAdd, Int.reduceSub, Int.reduceMul, Int.reduceNeg, Int.reduceToNat,  c0])
  · -- a copy with one number that is too great
    refine loop_for ll.length 0 (fun k p => [.ptr b 0, v, .any, .any, .nilsl, p.1, .int .i64 k, .any, .any, .any, .any, .any, .any, .any, .any, .any, .any, .any, .any, .any, .any, .any, .any, .any, .any, .any, .any, .any, .any, .any, .any, .any, .any, .any, .any, .any, .any, .any, .any, .any, .any, .any, .any, .any, .any, .any, .any, .any]) (fun k (p : AV × List AV × AH) => p.2.2)
      (fun k p m => Grow n1 m h1 p.2.2 29 p.1 p.2.1 (ll.take k)) (.sl n1 0 0 0, [], _) (Nat.zero_le _) (Grow.start0 rfl) (by simp [LeL, Le1]) (fun _ _ h => h) ?_
    rintro k ⟨out, ws, hp⟩ m - hk hm g
    simp only at g
    have hold := g.old
    simp (maxSteps := 2000000) -implicitDefEqProofs (disch := omega) only [xsW, xsC, xsD, xsE, fillA, reduceCtorEq, Nat.reduceAdd, Nat.reduceSub, Nat.reduceLeDiff, Nat.reduceMul, Int.reduceLT, Int.reduceLE, Int.reduceEq, Int.reduceNe, Int.reduceAdd, Int.reduceSub, Int.reduceMul, Int.reduceNeg, Int.reduceToNat,  s1.ln]
    (refine cd_dec (fun c1 => ?_) (fun c1 => ?_) <;> simp (maxSteps := 2000000) -implicitDefEqProofs (disch := omega) only [xsW, xsC, xsD, xsE, fillA, reduceCtorEq, Nat.reduceAdd, Nat.reduceSub, Nat.reduceLeDiff, Nat.reduceMul, Int.reduceLT, Int.reduceLE, Int.reduceEq, Int.reduceNe, Int.reduceAdd, Int.reduceSub, Int.reduceMul, Int.reduceNeg, Int.reduceToNat,  c1])
    · have hk' : k < ll.length := by omega
      have hbw := s1.out.below (by rw [s1.slen]; omega)
      simp (maxSteps := 2000000) -implicitDefEqProofs (disch := omega) only [xsW, xsC, xsD, xsE, fillA, reduceCtorEq, Nat.reduceAdd, Nat.reduceSub, Nat.reduceLeDiff, Nat.reduceMul, Int.reduceLT, Int.reduceLE, Int.reduceEq, Int.reduceNe, Int.reduceAdd, Int.reduceSub, Int.reduceMul, Int.reduceNeg, Int.reduceToNat,  s1.ia, hold, s1.ld]
      refine fq_use (spec_l01Own ((s1.row k hk').keep (fun i _ hi9 => by simp (disch := omega) only [upd_other, hold])) (by rw [(q.2 _ (getD_mem hk')).1]; omega) m (by omega)) fun v1 h2 n2 hn2 hs2 hv1 => ?_
      have x1 := one_any (Sl.any hv1)
      have x2 := sto_any (Sl.any hv1)
      have x3 := cel_any (Sl.any hv1)
      simp (maxSteps := 2000000) -implicitDefEqProofs (disch := omega) only [xsW, xsC, xsD, xsE, fillA, reduceCtorEq, Nat.reduceAdd, Nat.reduceSub, Nat.reduceLeDiff, Nat.reduceMul, Int.reduceLT, Int.reduceLE, Int.reduceEq, Int.reduceNe, Int.reduceAdd, Int.reduceSub, Int.reduceMul, Int.reduceNeg, Int.reduceToNat,  x1, x2, x3]
      refine g.app (hv1.keep (fun i _ hi9 => by simp (disch := omega) only [upd_other])) (fun i hi9 => by simp (disch := omega) only [upd_other, hs2]) hn2 (by omega) (by omega) ⟨rfl, _, upd_same _ _ _, by simp, by simp [cutA]⟩ (by simp; omega) fun out' h' n' q1 q2 => ?_
      simp (maxSteps := 2000000) -implicitDefEqProofs (disch := omega) only [xsW, xsC, xsD, xsE, fillA, reduceCtorEq, Nat.reduceAdd, Nat.reduceSub, Nat.reduceLeDiff, Nat.reduceMul, Int.reduceLT, Int.reduceLE, Int.reduceEq, Int.reduceNe, Int.reduceAdd, Int.reduceSub, Int.reduceMul, Int.reduceNeg, Int.reduceToNat]
      exact ⟨(out', ws ++ [v1], h'), by rw [take_succ_getD (d := []) hk']; exact q2, by omega, by omega, (by simp [LeL, Le1]), fun _ _ h => h⟩
    · have e : k = ll.length := by omega
      subst e
      rw [List.take_length] at g
      have s2 : Rows true n1 m hp out ws ll := g.rowsOf fun _ _ _ => rfl
      have l0 := (q.row (i := 0) (by omega)).1
      have hout := s2.out.below (by rw [s2.slen]; omega)
      have hbw := below_row s2 q (i := 0) (by omega)
      simp (maxSteps := 2000000) -implicitDefEqProofs (disch := omega) only [xsW, xsC, xsD, xsE, fillA, reduceCtorEq, Nat.reduceAdd, Nat.reduceSub, Nat.reduceLeDiff, Nat.reduceMul, Int.reduceLT, Int.reduceLE, Int.reduceEq, Int.reduceNe, Int.reduceAdd, Int.reduceSub, Int.reduceMul, Int.reduceNeg, Int.reduceToNat,  s2.ia, s2.ld, s2.ld0]
      have r2 : Rnd bnd b hp := r1.keep (hold b (by omega)) fun j hj => hold j (by omega)
      refine mq_use (spec_l01Pick (b := b) (bnd := bnd) (w := true) (lo := m) (hi := m + 1) (l := [21, -21]) (r2.keep (upd_other (by omega)) fun j hj => upd_other (by omega)) hb (Sl.of_sl (upd_same _ _ _) rfl (Nat.le_refl _) (Nat.le_refl _) (by omega)) (by omega) (by simp) (by simp) _ (by omega)) (fun i a c => .inr ⟨by omega, by omega⟩) fun x3 h3 n3 hn3 ⟨en, ⟨z, hz, z0⟩, r3, sm3⟩ => ?_
      subst en; subst hz
      have s3 := s2.keep (h' := h3) fun j a c => by rw [sm3 j (by omega), upd_other (by omega)]
      have hrow := s3.row 0 (by omega)
      have e1 := fun K => Ints.st hrow (k := 0) (x := z) (n0 := n1) (n := m + 1) (W := fun i => b ≤ i ∧ i < b + 1) (by omega) (fun i a b => .inl (by omega)) (by omega) K
      simp only [Nat.add_zero] at e1
      simp (maxSteps := 2000000) -implicitDefEqProofs (disch := omega) only [xsW, xsC, xsD, xsE, fillA, reduceCtorEq, Nat.reduceAdd, Nat.reduceSub, Nat.reduceLeDiff, Nat.reduceMul, Int.reduceLT, Int.reduceLE, Int.reduceEq, Int.reduceNe, Int.reduceAdd, Int.reduceSub, Int.reduceMul, Int.reduceNeg, Int.reduceToNat,  hrow.ia, e1]
      have s4 := s3.wr (i := 0) (k := 0) (by omega) (by omega) z
      simp only [Nat.add_zero] at s4
      refine ⟨ws, _, s4.wide (by omega) (by omega), ⟨by rw [List.length_set]; omega, fun l hl => ?_⟩, r3.keep (wr_other (by omega)) fun j hj => wr_other (by omega), fun j hj hne => by rw [wr_other (by omega), sm3 j hne, upd_other (by omega), hold j (by omega), o1 j hj hne]⟩
      rcases mem_set' hl with hl | hl
      · rw [(q.2 l hl).1]; omega
      · subst hl; rw [List.length_set]; omega
  (refine cd_dec (fun c0 => ?_) (fun c0 => ?_) <;> simp (maxSteps := 2000000) -implicitDefEqProofs (disch := omega) only [xsW, xsC, xsD, xsE, fillA, reduceCtorEq, Nat.reduceAdd, Nat.reduceSub, Nat.reduceLeDiff, Nat.reduceMul, Int.reduceLT, Int.reduceLE, Int.reduceEq, Int.reduceNe, Int.reduceAdd, Int.reduceSub, Int.reduceMul, Int.reduceNeg, Int.reduceToNat,  c0])
  · -- a row too many
    have g0 : Acc n1 (n1 + 1) (upd h1 n1 (some ⟨29, [], true, 0⟩)) 29 1 (.sl n1 0 0 0) [] := Acc.empty (upd_same _ _ _) rfl (Nat.le_refl _) (by omega)
    refine app_acc g0 (by omega) (by omega) (Sl.src (s1.out.keep (fun i _ hi9 => by simp (disch := omega) only [upd_other]))) (by rw [s1.out.len]) (rowsv_one s1.rows) (by rw [s1.slen]; simp [slen]; omega) fun v2 h2 n2 k1 k2 k3 k4 k5 k6 => ?_
    simp (maxSteps := 2000000) -implicitDefEqProofs (disch := omega) only [xsW, xsC, xsD, xsE, fillA, reduceCtorEq, Nat.reduceAdd, Nat.reduceSub, Nat.reduceLeDiff, Nat.reduceMul, Int.reduceLT, Int.reduceLE, Int.reduceEq, Int.reduceNe, Int.reduceAdd, Int.reduceSub, Int.reduceMul, Int.reduceNeg, Int.reduceToNat]
    have hk5 : ∀ j, j < n1 → h2 j = h1 j := fun j hj => by rw [k5 j hj, upd_other (by omega)]
    have k3' : Acc n1 n2 h2 29 1 v2 vs := by simpa using k3
    have hsl : slen v2 = ll.length := by have := k3'.len; have := s1.len; omega
    refine app_acc (k3'.keep (fun i _ hi9 => by simp (disch := omega) only [upd_other]) |>.wide (Nat.le_refl _) (show n2 ≤ n2 + 1 + 1 by omega)) (by omega) (by omega) (xs := [.sl n2 0 1 1]) ⟨rfl, _, upd_same _ _ _, by simp, by simp [cutA]⟩ rfl rfl (by omega) fun v' h' n' p1 p2 p3 p4 p5 p6 => ?_
    simp (maxSteps := 2000000) -implicitDefEqProofs (disch := omega) only [xsW, xsC, xsD, xsE, fillA, reduceCtorEq, Nat.reduceAdd, Nat.reduceSub, Nat.reduceLeDiff, Nat.reduceMul, Int.reduceLT, Int.reduceLE, Int.reduceEq, Int.reduceNe, Int.reduceAdd, Int.reduceSub, Int.reduceMul, Int.reduceNeg, Int.reduceToNat]
    have hx : ∀ j, j < n1 → h' j = h1 j := fun j hj => by rw [p5 j hj, upd_other (by omega), upd_other (by omega), hk5 j hj]
    have hn2 : h' n2 = some ⟨2, [.int .i64 0], true, 0⟩ := by
      rw [p4 n2 (by omega) fun hs => by have := (k3'.own hs).2; omega, upd_other (by omega), upd_same]
    have hv1 : Ints true n2 n' h' (.sl n2 0 1 1) [0] := Sl.of_sl hn2 rfl (Nat.le_refl _) (Nat.le_refl _) (by omega)
    have hr : RowsV true lo n' h' (vs ++ [.sl n2 0 1 1]) (ll ++ [[0]]) := (s1.rows.wide (Nat.le_refl _) (show hi ≤ n2 by omega)).snoc2 (fun k hk hs => hx _ (by have := (Sl.own (s1.row k hk) hs).2; omega)) hv1 (by omega) (by omega)
    refine ⟨_, _, ⟨p3.sl.wide (by omega) (Nat.le_refl _), hr, fun _ k hk hs => ?_⟩, ⟨by simp; omega, fun l hl => ?_⟩, r1.keep (hx b (by omega)) fun j hj => hx j (by omega), fun j hj hne => by rw [hx j (by omega), o1 j hj hne]⟩
    · intro e
      have ho : isSl v' = true := by
        rcases p6 with ⟨rfl, _⟩ | ⟨h, _⟩
        · rcases p3.any with h | h | h
          · exfalso; have := p3.len; rw [h] at this; simp [slen] at this
          · exfalso; have := p3.len; rw [h] at this; simp [slen] at this
          · exact h
        · exact h
      have b1 := p3.own ho
      simp only [List.length_append, List.length_cons, List.length_nil] at hk
      have hlen := s1.len
      by_cases ek : k < ll.length
      · rw [getD_snoc_lt (by omega)] at hs e
        have := (Sl.own (s1.row k ek) hs).2
        omega
      · rw [getD_snoc_eq (by omega)] at hs e
        change n2 = bid v' at e
        rcases p6 with ⟨rfl, _⟩ | ⟨_, h⟩
        · have := (k3'.own ho).2
          omega
        · omega
    · rcases List.mem_append.1 hl with hl | hl
      · rw [(q.2 l hl).1]; omega
      · simp only [List.mem_cons, List.not_mem_nil, or_false] at hl; subst hl; simp
  exact ⟨vs, ll, s1.wide (Nat.le_refl _) hn, q.few hN5, r1, o1⟩
theorem spec_l03Spoil (r : Rnd bnd b h) (hb : bnd ≤ b) (n : Nat) (hn : b < n) :
    MQ Try.prog 74 [.ptr b 0] h n b (b + 1) fun v' h' n' => ∃ vs' ll', Rows true n n' h' v' vs' ll' ∧ Few ll' ∧ Rnd bnd b h' ∧ ∀ j, j < n → j ≠ b → h' j = h j := by
  refine mq_intro Try.func74 k_spec_l03Spoil ?_
  simp (maxSteps := 2000000) -implicitDefEqProofs (disch := omega) only [c_spec_l03Spoil, xsW, xsC, xsD, xsE, fillA, reduceCtorEq, Nat.reduceAdd, Nat.reduceSub, Nat.reduceLeDiff, Nat.reduceMul, Int.reduceLT, Int.reduceLE, Int.reduceEq, Int.reduceNe, Int.reduceAdd, Int.reduceSub, Int.reduceMul, Int.reduceNeg, Int.reduceToNat]
  refine mq_use (spec_l03Draw r hb n hn) (fun i a c => .inr ⟨by omega, by omega⟩) fun v1 h1 n1 hn1 ⟨vs, ll, N, hN1, hN5, s1, q1, r1, o1⟩ => ?_
  simp (maxSteps := 2000000) -implicitDefEqProofs (disch := omega) only [xsW, xsC, xsD, xsE, fillA, reduceCtorEq, Nat.reduceAdd, Nat.reduceSub, Nat.reduceLeDiff, Nat.reduceMul, Int.reduceLT, Int.reduceLE, Int.reduceEq, Int.reduceNe, Int.reduceAdd, Int.reduceSub, Int.reduceMul, Int.reduceNeg, Int.reduceToNat]
  refine mq_use (spec_l03Bad r1 hb s1 hn hN1 hN5 q1 n1 (Nat.le_refl _) hn1) (fun i a c => .inr ⟨by omega, by omega⟩) fun v2 h2 n2 hn2 ⟨vs2, ll2, s2, q2, r2, o2⟩ => ?_
  simp (maxSteps := 2000000) -implicitDefEqProofs (disch := omega) only [xsW, xsC, xsD, xsE, fillA, reduceCtorEq, Nat.reduceAdd, Nat.reduceSub, Nat.reduceLeDiff, Nat.reduceMul, Int.reduceLT, Int.reduceLE, Int.reduceEq, Int.reduceNe, Int.reduceAdd, Int.reduceSub, Int.reduceMul, Int.reduceNeg, Int.reduceToNat]
  exact ⟨vs2, ll2, s2, q2, r2, fun j hj hne => by rw [o2 j (by omega) hne, o1 j hj hne]⟩
end
section
variable {hi : Nat} {h : AH} {v : AV} {code : List Int}
end
def c_laws_big : F := ⟨(.seq (.reg false [⟨some 2, .mv (.c (.bool false)), none⟩]) (.seq (.reg false [⟨some 3, .mv (.t 0), none⟩, ⟨some 4, .len (.t 3), none⟩, ⟨some 5, .bin .gtr (.t 4) (.c (.int .i64 4096)), none⟩, ⟨some 2, .mv (.t 5), none⟩]) .ret)), 6, [(.t 2)]⟩
theorem k_laws_big : compF Try.prog Try.f18 = some c_laws_big := by kernel_rfl
def c_laws_likeInts : F := ⟨(.seq (.reg false [⟨some 4, .mv (.c (.bool false)), none⟩]) (.seq (.seq (.reg false [⟨some 6, .mv (.t 0), none⟩, ⟨some 7, .len (.t 6), none⟩, ⟨some 8, .mv (.t 1), none⟩, ⟨some 9, .len (.t 8), none⟩, ⟨some 10, .bin .neq (.t 7) (.t 9), none⟩]) (.cond (.t 10) (.seq (.reg false [⟨some 4, .mv (.c (.bool false)), none⟩]) .ret) .skip)) (.seq (.seq (.reg false [⟨some 5, .mv (.c (.int .i64 0)), none⟩]) (.block 0 (.loop (.seq (.seq (.reg false [⟨some 11, .mv (.t 5), none⟩, ⟨some 12, .mv (.t 0), none⟩, ⟨some 13, .len (.t 12), none⟩, ⟨some 14, .bin .lss (.t 11) (.t 13), none⟩]) (.cond (.t 14) .skip (.exit 0))) (.seq (.block 1 (.seq (.reg true [⟨some 17, .mv (.t 0), none⟩, ⟨some 18, .mv (.t 5), none⟩, ⟨some 19, .ia 1 (.t 17) (.t 18), none⟩, ⟨some 20, .ld1 (.t 19), none⟩, ⟨some 21, .mv (.t 1), none⟩, ⟨some 22, .mv (.t 5), none⟩, ⟨some 23, .ia 1 (.t 21) (.t 22), none⟩, ⟨some 24, .ld1 (.t 23), none⟩, ⟨some 25, .bin .neq (.t 20) (.t 24), none⟩]) (.cond (.t 25) (.seq (.reg false [⟨some 4, .mv (.c (.bool false)), none⟩]) .ret) .skip))) (.reg false [⟨some 15, .mv (.t 5), none⟩, ⟨some 16, .bin .add (.t 15) (.c (.int .i64 1)), none⟩, ⟨some 5, .mv (.t 16), none⟩])))))) (.seq (.reg false [⟨some 4, .mv (.c (.bool true)), none⟩]) .ret)))), 26, [(.t 4)]⟩
theorem k_laws_likeInts : compF Try.prog Try.f43 = some c_laws_likeInts := by kernel_rfl
theorem laws_big {lo hi : Nat} {h : AH} {v : AV} {code : List Int} (s : Sl false lo hi h 1 v (bytesA code)) (n : Nat) : Q Try.prog 18 [v] h n (.bool (decide (4096 < code.length))) := by
  refine q_intro Try.func18 k_laws_big ?_
  have hsl : slen v = code.length := by have := s.len; rw [bytesA_len] at this; omega
  simp (maxSteps := 2000000) -implicitDefEqProofs (disch := omega) only [c_laws_big, s.ln, hsl, xsW, xsC, xsD, xsE, fillA, reduceCtorEq, Nat.reduceAdd, Nat.reduceSub, Nat.reduceLeDiff, Nat.reduceMul, Int.reduceLT, Int.reduceLE, Int.reduceEq, Int.reduceNe, Int.reduceAdd, Int.reduceSub, Int.reduceMul, Int.reduceNeg, Int.reduceToNat]
  rw [show decide ((code.length : Int) > 4096) = decide (4096 < code.length) from decide_eq_decide.2 (by omega)]
theorem laws_likeInts {w w' : Bool} {lo hi lo' hi' : Nat} {h : AH} {v v' : AV} {l l' : List Int} (s : Ints w lo hi h v l) (s' : Ints w' lo' hi' h v' l') (hl : l.length ≤ 1048576) (n : Nat) :
    Q Try.prog 43 [v, v'] h n (.bool (decide (l = l'))) := by
  refine q_intro Try.func43 k_laws_likeInts ?_
  simp (maxSteps := 2000000) -implicitDefEqProofs (disch := omega) only [c_laws_likeInts, s.ln, s'.ln, xsW, xsC, xsD, xsE, fillA, reduceCtorEq, Nat.reduceAdd, Nat.reduceSub, Nat.reduceLeDiff, Nat.reduceMul, Int.reduceLT, Int.reduceLE, Int.reduceEq, Int.reduceNe, Int.reduceAdd, Int.reduceSub, Int.reduceMul, Int.reduceNeg, Int.reduceToNat]
  (refine cd_dec (fun h1 => ?_) (fun h1 => ?_) <;> simp (maxSteps := 2000000) -implicitDefEqProofs (disch := omega) only [xsW, xsC, xsD, xsE, fillA, reduceCtorEq, Nat.reduceAdd, Nat.reduceSub, Nat.reduceLeDiff, Nat.reduceMul, Int.reduceLT, Int.reduceLE, Int.reduceEq, Int.reduceNe, Int.reduceAdd, Int.reduceSub, Int.reduceMul, Int.reduceNeg, Int.reduceToNat,  h1])
  · rw [decide_eq_false fun e => h1 (by rw [e])]
  refine loop_for l.length 0 (fun k (_ : Unit) => [v, v', .any, .any, .bool false, .int .i64 k, .any, .any, .any, .any, .any, .any, .any, .any, .any, .any, .any, .any, .any, .any, .any, .any, .any, .any, .any, .any]) (fun k _ => h)
    (fun k _ _ => ∀ j, j < k → l.getD j 0 = l'.getD j 0) () (Nat.zero_le _) (fun j hj => absurd hj (Nat.not_lt_zero _)) (by simp [LeL, Le1]) (fun _ _ h => h) ?_
  rintro k - n1 - hk hn1 he
  simp (maxSteps := 2000000) -implicitDefEqProofs (disch := omega) only [xsW, xsC, xsD, xsE, fillA, reduceCtorEq, Nat.reduceAdd, Nat.reduceSub, Nat.reduceLeDiff, Nat.reduceMul, Int.reduceLT, Int.reduceLE, Int.reduceEq, Int.reduceNe, Int.reduceAdd, Int.reduceSub, Int.reduceMul, Int.reduceNeg, Int.reduceToNat,  s.ln, s'.ln]
  (refine cd_dec (fun h2 => ?_) (fun h2 => ?_) <;> simp (maxSteps := 2000000) -implicitDefEqProofs (disch := omega) only [xsW, xsC, xsD, xsE, fillA, reduceCtorEq, Nat.reduceAdd, Nat.reduceSub, Nat.reduceLeDiff, Nat.reduceMul, Int.reduceLT, Int.reduceLE, Int.reduceEq, Int.reduceNe, Int.reduceAdd, Int.reduceSub, Int.reduceMul, Int.reduceNeg, Int.reduceToNat,  h2])
  · have hk' : k < l.length := by omega
    have hk2 : k < l'.length := by omega
    simp (maxSteps := 2000000) -implicitDefEqProofs (disch := omega) only [xsW, xsC, xsD, xsE, fillA, reduceCtorEq, Nat.reduceAdd, Nat.reduceSub, Nat.reduceLeDiff, Nat.reduceMul, Int.reduceLT, Int.reduceLE, Int.reduceEq, Int.reduceNe, Int.reduceAdd, Int.reduceSub, Int.reduceMul, Int.reduceNeg, Int.reduceToNat,  s.ia, s.ld, s'.ia, s'.ld]
    (refine cd_dec (fun h3 => ?_) (fun h3 => ?_) <;> simp (maxSteps := 2000000) -implicitDefEqProofs (disch := omega) only [xsW, xsC, xsD, xsE, fillA, reduceCtorEq, Nat.reduceAdd, Nat.reduceSub, Nat.reduceLeDiff, Nat.reduceMul, Int.reduceLT, Int.reduceLE, Int.reduceEq, Int.reduceNe, Int.reduceAdd, Int.reduceSub, Int.reduceMul, Int.reduceNeg, Int.reduceToNat,  h3])
    · rw [decide_eq_false fun e => h3 (by rw [e])]
    · exact ⟨(), fun j hj => (Nat.lt_succ_iff_lt_or_eq.1 hj).elim (he j) (fun e => by rw [e]; omega), by omega, by omega, (by simp [LeL, Le1])⟩
  · rw [decide_eq_true (getD_ext (d := 0) (by omega) fun j hj => he j (by omega))]
theorem laws_likeInts_eq {w w' : Bool} {lo hi lo' hi' : Nat} {h : AH} {v v' : AV} {l : List Int} (s : Ints w lo hi h v l) (s' : Ints w' lo' hi' h v' l) (hl : l.length ≤ 1048576) (n : Nat) :
    Q Try.prog 43 [v, v'] h n (.bool true) := by
  have q := laws_likeInts s s' hl n
  rwa [decide_eq_true rfl] at q
theorem mem_iff_getD {l : List Int} {x : Int} : x ∈ l ↔ ∃ j, j < l.length ∧ l.getD j 0 = x := by
  constructor
  · intro h
    obtain ⟨j, hj, rfl⟩ := List.getElem_of_mem h
    exact ⟨j, hj, by simp [List.getD, hj]⟩
  · rintro ⟨j, hj, rfl⟩
    exact getD_mem hj
theorem bits_all : ∀ p0 p1 p2 p3 p4 : Bool, ∃ s : Fin 32, hasB (s.val : Int) 0 = p0 ∧ hasB (s.val : Int) 1 = p1 ∧ hasB (s.val : Int) 2 = p2 ∧ hasB (s.val : Int) 3 = p3 ∧ hasB (s.val : Int) 4 = p4 := by decide +kernel
theorem small_all : ∀ n : Fin 6, ∀ s : Fin 32, (∀ i : Fin 5, n.val ≤ i.val → hasB (s.val : Int) i.val = false) → s.val < pw n.val := by decide +kernel
theorem sorted_eq {α : Type} : ∀ {l m : List Nat}, l.Pairwise (· < ·) → m.Pairwise (· < ·) → (∀ x, x ∈ l ↔ x ∈ m) → l = m
  | [], [], _, _, _ => rfl
  | [], y :: m, _, _, h => absurd ((h y).2 (by simp)) (by simp)
  | x :: l, [], _, _, h => absurd ((h x).1 (by simp)) (by simp)
  | x :: l, y :: m, h1, h2, h => by
    rw [List.pairwise_cons] at h1 h2
    have e : x = y := by
      have a := (h x).1 (by simp)
      have b := (h y).2 (by simp)
      rcases List.mem_cons.1 a with a | a
      · exact a
      · rcases List.mem_cons.1 b with b | b
        · exact b.symm
        · have := h1.1 y b
          have := h2.1 x a
          omega
    subst e
    congr 1
    refine sorted_eq (α := α) h1.2 h2.2 fun z => ?_
    have := h z
    simp only [List.mem_cons] at this
    constructor
    · intro hz
      rcases this.1 (.inr hz) with e | e
      · subst e; have := h1.1 z hz; omega
      · exact e
    · intro hz
      rcases this.2 (.inr hz) with e | e
      · subst e; have := h2.1 z hz; omega
      · exact e
theorem sel_set {n m : Nat} (hn : n ≤ 5) {g : Nat → Nat} (h : Sel m n g) : ∃ s, s < pw n ∧ places (s : Int) n = (List.range m).map g := by
  let p : Nat → Bool := fun i => decide (i ∈ (List.range m).map g)
  obtain ⟨s, h0, h1, h2, h3, h4⟩ := bits_all (p 0) (p 1) (p 2) (p 3) (p 4)
  have hb : ∀ i, i < 5 → hasB (s.val : Int) i = p i := fun i hi => by
    match i, hi with
    | 0, _ => exact h0
    | 1, _ => exact h1
    | 2, _ => exact h2
    | 3, _ => exact h3
    | 4, _ => exact h4
  have hlt : ∀ x ∈ (List.range m).map g, x < n := fun x hx => by
    rw [List.mem_map] at hx
    obtain ⟨a, ha, rfl⟩ := hx
    exact h.lt a (by simpa using ha)
  refine ⟨s.val, small_all ⟨n, by omega⟩ s fun i hi => ?_, ?_⟩
  · rw [hb i.val i.isLt]
    simp only [p]
    exact decide_eq_false fun hx => by have := hlt _ hx; simp only at hi; omega
  · refine sorted_eq (α := Nat) ?_ ?_ fun x => ?_
    · exact (List.pairwise_lt_range).filter _
    · rw [List.pairwise_map]
      rw [List.pairwise_iff_getElem]
      intro i j hi hj hij
      simp only [List.length_range] at hi hj
      simp only [List.getElem_range]
      exact h.up i j hij hj
    · simp only [places, List.mem_filter, List.mem_range]
      constructor
      · rintro ⟨h1, h2⟩
        rw [hb x (by omega)] at h2
        exact of_decide_eq_true h2
      · intro hx
        have := hlt x hx
        exact ⟨this, by rw [hb x (by omega)]; exact decide_eq_true hx⟩
theorem set_sel (s n : Nat) : Sel (places (s : Int) n).length n fun a => (places (s : Int) n).getD a 0 := by
  have hp : (places (s : Int) n).Pairwise (· < ·) := (List.pairwise_lt_range).filter _
  refine ⟨fun a ha => getD_places_lt ha, fun a b hab hb => ?_⟩
  rw [List.pairwise_iff_getElem] at hp
  have := hp a b (by omega) hb hab
  simpa [List.getD, hb, show a < (places (s : Int) n).length by omega] using this
theorem minor_set (ll : List (List Int)) (s : Nat) : minorOf ll (s : Int) (s : Int) = det (places (s : Int) ll.length).length (sub (mx ll) fun a => (places (s : Int) ll.length).getD a 0) := by
  unfold minorOf
  exact det_congr fun r c hr hc => by simp only [mx, sub]; rw [partL_at ll _ _ hr hc]
theorem minor_sel {ll : List (List Int)} {m s : Nat} {g : Nat → Nat} (h : places (s : Int) ll.length = (List.range m).map g) : minorOf ll (s : Int) (s : Int) = det m (sub (mx ll) g) := by
  rw [minor_set, h]
  simp only [List.length_map, List.length_range]
  exact det_congr fun r c hr hc => by simp only [sub]; rw [getD_range_map hr, getD_range_map hc]
theorem pB_iff {ll : List (List Int)} (b : Int) : pB ll b = true ↔ ∀ s, s < pw ll.length → b ≤ minorOf ll (s : Int) (s : Int) := by
  unfold pB
  rw [decide_eq_true_eq, minL_ge (by intro e; have := minorsL_len ll; rw [e] at this; have h2 : 0 < pw ll.length := Nat.pow_pos (by omega); simp only [List.length_nil] at this; omega)]
  constructor
  · intro h s hs
    exact h _ (by rw [minorsL, rowOf, List.mem_map]; exact ⟨s, by simpa using hs, rfl⟩)
  · intro h x hx
    rw [minorsL, rowOf, List.mem_map] at hx
    obtain ⟨s, hs, rfl⟩ := hx
    exact h s (by simpa using hs)
theorem pB_pm {ll : List (List Int)} (hn : ll.length ≤ 5) (h : pB ll 1 = true) : PM ll.length (mx ll) := fun m g s => by
  obtain ⟨t, ht, e⟩ := sel_set hn s
  have := (pB_iff 1).1 h t ht
  rw [minor_sel e] at this; omega
theorem pB_pm0 {ll : List (List Int)} (hn : ll.length ≤ 5) (h : pB ll 0 = true) : PM0 ll.length (mx ll) := fun m g s => by
  obtain ⟨t, ht, e⟩ := sel_set hn s
  have := (pB_iff 0).1 h t ht
  rw [minor_sel e] at this; omega
theorem pm_pB {ll : List (List Int)} (h : PM ll.length (mx ll)) : pB ll 1 = true := (pB_iff 1).2 fun s _ => by
  have := h _ _ (set_sel s ll.length)
  rw [minor_set]; omega
theorem pm0_pB {ll : List (List Int)} (h : PM0 ll.length (mx ll)) : pB ll 0 = true := (pB_iff 0).2 fun s _ => by
  have := h _ _ (set_sel s ll.length)
  rw [minor_set]; omega
theorem cof_adj (n : Nat) (A : Mx) (i k : Nat) : cof (n + 1) A i k = adjc n A i k := by
  unfold cof adjc
  rw [sg_even, Nat.add_sub_cancel]
  split <;> omega
theorem badS_iff {ll : List (List Int)} {b : Int} {m s : Nat} {g : Nat → Nat} (h : places (s : Int) ll.length = (List.range (m + 1)).map g) :
    badS ll b s = true ↔ det (m + 1) (sub (mx ll) g) < b ∧ ∀ i c, i < m + 1 → c < m + 1 → b ≤ adjc m (sub (mx ll) g) i c := by
  unfold badS
  rw [Bool.and_eq_true, decide_eq_true_eq, decide_eq_true_eq, minor_sel h]
  have hl : (places (s : Int) ll.length).length = m + 1 := by rw [h]; simp
  have e : ∀ i c, i < m + 1 → c < m + 1 → cof (m + 1) (mx (partL ll (s : Int) (s : Int))) i c = adjc m (sub (mx ll) g) i c := fun i c hi hc => by
    rw [cof_adj]
    unfold adjc
    congr 1
    refine det_congr fun r k hr hk => ?_
    simp only [mi, mx, sub]
    rw [partL_at ll _ _ (by rw [hl]; exact sk_lt hr) (by rw [hl]; exact sk_lt hk), h, getD_range_map (sk_lt hr), getD_range_map (sk_lt hk)]
  rw [hl, minL_ge (by intro e; have := cofR_len (m + 1) (mx (partL ll (s : Int) (s : Int))) (m + 1); rw [e] at this; simp at this)]
  refine and_congr_right fun _ => ?_
  constructor
  · intro h1 i c hi hc
    rw [← e i c hi hc]
    exact h1 _ (cofR_mem.2 ⟨i, c, hi, hc, rfl⟩)
  · intro h1 x hx
    obtain ⟨i, c, hi, hc, rfl⟩ := cofR_mem.1 hx
    rw [e i c hi hc]; exact h1 i c hi hc
theorem copB_no {ll : List (List Int)} {b : Int} (hn : ll.length ≤ 5) (h : copB ll b = true) : ∀ m g, Sel (m + 1) ll.length g → ¬(det (m + 1) (sub (mx ll) g) < b ∧ ∀ i c, i < m + 1 → c < m + 1 → b ≤ adjc m (sub (mx ll) g) i c) := by
  intro m g s hb
  obtain ⟨t, ht, e⟩ := sel_set hn s
  have h1 : 1 ≤ t := by
    rcases Nat.eq_zero_or_pos t with h0 | h0
    · subst h0
      exfalso
      have z : ∀ n : Fin 6, places ((0 : Nat) : Int) n.val = [] := by decide +kernel
      have := z ⟨ll.length, by omega⟩
      simp only at this
      rw [this] at e
      have := congrArg List.length e
      simp at this
    · exact h0
  simp only [copB, List.all_eq_true, List.mem_range, Bool.or_eq_true, decide_eq_true_eq, Bool.not_eq_true'] at h
  rcases h t ht with h0 | h0
  · omega
  · rw [(badS_iff e).2 hb] at h0; cases h0
theorem no_copB {ll : List (List Int)} {b : Int} (hn : ll.length ≤ 5) (h : ∀ m g, Sel (m + 1) ll.length g → ¬(det (m + 1) (sub (mx ll) g) < b ∧ ∀ i c, i < m + 1 → c < m + 1 → b ≤ adjc m (sub (mx ll) g) i c)) : copB ll b = true := by
  refine copB_t fun s h1 h2 => ?_
  cases e : badS ll b s with
  | false => rfl
  | true =>
    exfalso
    have hp := pop_pos hn h2 h1
    obtain ⟨m, hm⟩ : ∃ m, (places (s : Int) ll.length).length = m + 1 := ⟨(places (s : Int) ll.length).length - 1, by omega⟩
    have hs := set_sel s ll.length
    rw [hm] at hs
    refine h m _ hs ((badS_iff ?_).1 e)
    refine ext_getD (d := 0) (by simp [hm]) fun i hi => ?_
    rw [getD_range_map (by omega)]
section
variable {ll : List (List Int)}
theorem symF_at {i k : Nat} (hi : i < ll.length) (hk : k < ll.length) : mx (symF ll) i k = mx ll i k + mx ll k i := by
  unfold mx symF; rw [rowsOf_at hi hk]
theorem symF_len' : (symF ll).length = ll.length := rowsOf_len _ _
theorem symF_symm : Symm ll.length (mx (symF ll)) := fun i k hi hk => by rw [symF_at hi hk, symF_at hk hi]; omega
theorem symF_frm {m : Nat} {g : Nat → Nat} (s : Sel m ll.length g) (x : Nat → Int) : frm m (sub (mx (symF ll)) g) x = 2 * frm m (sub (mx ll) g) x := by
  have e : bil m (sub (mx (symF ll)) g) x x = bil m (fun i k => sub (mx ll) g i k + sub (mx ll) g k i) x x := bil_congr (fun i k hi hk => symF_at (s.lt i hi) (s.lt k hk)) (fun _ _ => rfl) fun _ _ => rfl
  have e2 : bil m (fun i k => sub (mx ll) g k i) x x = bil m (sub (mx ll) g) x x := (bil_T m (sub (mx ll) g) x x).symm
  unfold frm
  rw [e, frm_add, e2]; omega
theorem Sel.comp {n m k : Nat} {g f : Nat → Nat} (s : Sel m n g) (t : Sel k m f) : Sel k n fun a => g (f a) := ⟨fun a ha => s.lt _ (t.lt a ha), fun a b hab hb => s.up _ _ (t.up a b hab hb) (t.lt b hb)⟩
theorem pos_form (hn : ll.length ≤ 5) (h : pB (symF ll) 1 = true) {m : Nat} {g : Nat → Nat} (s : Sel m ll.length g) : PosF m (sub (mx ll) g) := fun x hx => by
  have h1 := pB_pm (ll := symF ll) (by rw [symF_len']; exact hn) h
  rw [symF_len'] at h1
  have h2 := pm_pos m (sub (mx (symF ll)) g) (symF_symm.sub s) (fun k f t => h1 k _ (s.comp t)) x hx
  rw [symF_frm s] at h2; omega
theorem non_form (hn : ll.length ≤ 5) (h : pB (symF ll) 0 = true) {m : Nat} {g : Nat → Nat} (s : Sel m ll.length g) : NonF m (sub (mx ll) g) := fun x => by
  have h1 := pB_pm0 (ll := symF ll) (by rw [symF_len']; exact hn) h
  rw [symF_len'] at h1
  have h2 := pm_non m (sub (mx (symF ll)) g) (symF_symm.sub s) (fun k f t => h1 k _ (s.comp t)) x
  rw [symF_frm s] at h2; omega
theorem def_p (hn : ll.length ≤ 5) (h : pB (symF ll) 1 = true) : pB ll 1 = true := pm_pB fun m g s => pos_det m _ (pos_form hn h s)
theorem semi_p0 (hn : ll.length ≤ 5) (h : pB (symF ll) 0 = true) : pB ll 0 = true := pm0_pB fun m g s => non_det m _ (non_form hn h s)
theorem def_strict (hn : ll.length ≤ 5) (h : pB (symF ll) 1 = true) : copB (symF ll) 1 = true := by
  refine no_copB (by rw [symF_len']; exact hn) fun m g s hb => ?_
  have := pB_pm (ll := symF ll) (by rw [symF_len']; exact hn) h _ _ s
  omega
theorem semi_cop (hn : ll.length ≤ 5) (h : pB (symF ll) 0 = true) : copB (symF ll) 0 = true := by
  refine no_copB (by rw [symF_len']; exact hn) fun m g s hb => ?_
  have := pB_pm0 (ll := symF ll) (by rw [symF_len']; exact hn) h _ _ s
  omega
theorem strict_form (hn : ll.length ≤ 5) (h : copB (symF ll) 1 = true) : ∀ m g, Sel m ll.length g → ∀ y, NN m y → (∃ i, i < m ∧ y i ≠ 0) → 0 < frm m (sub (mx (symF ll)) g) y := by
  have h1 := copB_no (by rw [symF_len']; exact hn) h
  rw [symF_len'] at h1
  exact strict_crit symF_symm fun m g s ⟨a, b⟩ => h1 m g s ⟨by omega, fun i c hi hc => by have := b i c hi hc; omega⟩
theorem cop_form (hn : ll.length ≤ 5) (h : copB (symF ll) 0 = true) : ∀ m g, Sel m ll.length g → ∀ y, NN m y → 0 ≤ frm m (sub (mx (symF ll)) g) y := by
  have h1 := copB_no (by rw [symF_len']; exact hn) h
  rw [symF_len'] at h1
  exact cop_crit symF_symm h1
theorem strict_cop (hn : ll.length ≤ 5) (h : copB (symF ll) 1 = true) : copB (symF ll) 0 = true := by
  refine no_copB (by rw [symF_len']; exact hn) fun m g s => ?_
  rw [symF_len'] at s
  exact strict_no fun y hy hne => strict_form hn h _ _ s y hy hne
theorem p_p0 (h : pB ll 1 = true) : pB ll 0 = true := (pB_iff 0).2 fun s hs => by have := (pB_iff 1).1 h s hs; omega
theorem k_h (hn : ll.length ≤ 5) (hz : zB ll = true) (h : pB ll 1 = true) : pB (cmpF2 ll) 1 = true := by
  have hp := pB_pm hn h
  refine pm_pB ?_
  rw [show (cmpF2 ll).length = ll.length from rowsOf_len _ _]
  intro m g s
  have e : det m (sub (mx (cmpF2 ll)) g) = det m (sub (mx ll) g) := det_congr fun r c hr hc => by
    have h1 := s.lt r hr
    have h2 := s.lt c hc
    simp only [sub, mx]
    rw [cmpF2, rowsOf_at h1 h2]
    unfold cmp2
    by_cases e : g r = g c
    · rw [if_pos e]
      have := hp 1 (fun _ => g r) ⟨fun _ _ => h1, fun _ _ _ _ => by omega⟩
      rw [det_one] at this
      simp only [sub, mx] at this
      rw [← e]; omega
    · rw [if_neg e]
      have := allF_iff.1 hz (g r) (g c) h1 h2
      rw [Bool.or_eq_true, decide_eq_true_eq, decide_eq_true_eq] at this
      rcases this with h | h
      · exact absurd h e
      · omega
  rw [e]
  exact hp m g s
theorem dom_h (h : domB ll = true) : pB (cmpF2 ll) 1 = true := by
  refine pm_pB ?_
  rw [show (cmpF2 ll).length = ll.length from rowsOf_len _ _]
  intro m g s
  refine dom_sub (n := ll.length) (fun i hi => ?_) s
  simp only [domB, List.all_eq_true, List.mem_range, decide_eq_true_eq] at h
  have h1 := h i hi
  have e1 : mx (cmpF2 ll) i i = (at2 ll i i).natAbs := by unfold mx cmpF2; rw [rowsOf_at hi hi]; unfold cmp2; rw [if_pos rfl]
  have e2 : off ll.length (mx (cmpF2 ll)) i = othV ll i := by
    unfold off othV
    refine sumTo_congr fun k hk => ?_
    by_cases e : k = i
    · rw [if_pos e, if_pos e]
    · rw [if_neg e, if_neg e]
      unfold mx cmpF2; rw [rowsOf_at hi hk]; unfold cmp2; rw [if_neg (fun h => e h.symm)]
      omega
  rw [e1, e2]; omega
theorem kinds_have (hn : ll.length ≤ 5) :
    (kindB ll 0 = true → kindB ll 1 = true) ∧ (kindB ll 3 = true → kindB ll 0 = true) ∧ (kindB ll 3 = true → kindB ll 2 = true) ∧ (kindB ll 3 = true → kindB ll 4 = true) ∧ (kindB ll 5 = true → kindB ll 0 = true) ∧
    (kindB ll 5 = true → kindB ll 8 = true) ∧ (kindB ll 6 = true → kindB ll 7 = true) ∧ (kindB ll 6 = true → kindB ll 1 = true) ∧ (kindB ll 8 = true → kindB ll 7 = true) ∧ (kindB ll 10 = true → kindB ll 4 = true) := by
  have k0 : kindB ll 0 = pB ll 1 := rfl
  have k1 : kindB ll 1 = pB ll 0 := rfl
  have k2 : kindB ll 2 = zB ll := rfl
  have k3 : kindB ll 3 = (zB ll && pB ll 1) := rfl
  have k4 : kindB ll 4 = pB (cmpF2 ll) 1 := rfl
  have k5 : kindB ll 5 = pB (symF ll) 1 := rfl
  have k6 : kindB ll 6 = pB (symF ll) 0 := rfl
  have k7 : kindB ll 7 = copB (symF ll) 0 := rfl
  have k8 : kindB ll 8 = copB (symF ll) 1 := rfl
  have k10 : kindB ll 10 = domB ll := rfl
  rw [k0, k1, k2, k3, k4, k5, k6, k7, k8, k10, Bool.and_eq_true]
  exact ⟨p_p0, fun h => h.2, fun h => h.1, fun h => k_h hn h.1 h.2, def_p hn, def_strict hn, semi_cop hn, semi_p0 hn, strict_cop hn, dom_h⟩
theorem form_frm (l : List Int) : formOf ll l = frm ll.length (sub (mx ll) fun a => a) fun i => l.getD i 0 := rfl
theorem form_said (hn : ll.length ≤ 5) {l l' : List Int} (hl : l.length = ll.length) (hl' : l'.length = ll.length) (ha : ∀ i, i < ll.length → l'.getD i 0 = (l.getD i 0).natAbs) :
    (kindB ll 6 = true → 0 ≤ formOf ll l) ∧ (kindB ll 7 = true → 0 ≤ formOf ll l') ∧ ((∃ i, i < ll.length ∧ l.getD i 0 ≠ 0) → (kindB ll 5 = true → 0 < formOf ll l) ∧ (kindB ll 8 = true → 0 < formOf ll l')) := by
  have k5 : kindB ll 5 = pB (symF ll) 1 := rfl
  have k6 : kindB ll 6 = pB (symF ll) 0 := rfl
  have k7 : kindB ll 7 = copB (symF ll) 0 := rfl
  have k8 : kindB ll 8 = copB (symF ll) 1 := rfl
  have s := Sel.self ll.length
  have hy : NN ll.length fun i => l'.getD i 0 := fun i hi => by have := ha i hi; simp only [this]; omega
  rw [k5, k6, k7, k8, form_frm, form_frm]
  refine ⟨fun h => non_form hn h s _, fun h => ?_, fun ⟨i, hi, hne⟩ => ⟨fun h => pos_form hn h s _ ⟨i, hi, hne⟩, fun h => ?_⟩⟩
  · have := cop_form hn h _ _ s _ hy
    rw [symF_frm s] at this; omega
  · have := strict_form hn h _ _ s _ hy ⟨i, hi, by have := ha i hi; omega⟩
    rw [symF_frm s] at this; omega
end
def c_laws_roll : F := ⟨(.seq (.reg false [⟨some 4, .mv (.c .nilptr), none⟩]) (.seq (.reg false [⟨some 7, .mv (.t 0), none⟩, ⟨some 8, .mv (.t 1), none⟩, ⟨some 9, .bin .mul (.t 8) (.c (.int .u64 8353)), none⟩, ⟨some 10, .mv (.t 0), none⟩, ⟨some 11, .len (.t 10), none⟩, ⟨some 12, .cvi .u64 (.t 11), none⟩, ⟨some 13, .bin .add (.t 9) (.t 12), none⟩, ⟨some 14, .build [.nilsl, (.int .i64 0), (.int .u64 0)] [(0, (1, (.t 7))), (2, (1, (.t 13)))], none⟩, ⟨some 15, .box 78 (.t 14), none⟩, ⟨some 5, .mv (.t 15), none⟩]) (.seq (.seq (.reg false [⟨some 6, .mv (.c (.int .i64 0)), none⟩]) (.block 0 (.loop (.seq (.seq (.reg false [⟨some 16, .mv (.t 6), none⟩, ⟨some 17, .mv (.t 0), none⟩, ⟨some 18, .len (.t 17), none⟩, ⟨some 19, .bin .lss (.t 16) (.t 18), none⟩]) (.cond (.t 19) .skip (.exit 0))) (.seq (.block 1 (.reg true [⟨some 22, .mv (.t 5), none⟩, ⟨some 23, .mv (.t 5), none⟩, ⟨some 24, .nck (.t 23), none⟩, ⟨some 25, .fa 2 (.t 24), none⟩, ⟨some 26, .ld1 (.t 25), none⟩, ⟨some 27, .bin .mul (.t 26) (.c (.int .u64 1099511628211)), none⟩, ⟨some 28, .mv (.t 0), none⟩, ⟨some 29, .mv (.t 6), none⟩, ⟨some 30, .ia 1 (.t 28) (.t 29), none⟩, ⟨some 31, .ld1 (.t 30), none⟩, ⟨some 32, .cvi .u64 (.t 31), none⟩, ⟨some 33, .bin .add (.t 27) (.t 32), none⟩, ⟨some 34, .bin .add (.t 33) (.c (.int .u64 5)), none⟩, ⟨some 35, .nck (.t 22), none⟩, ⟨some 36, .fa 2 (.t 35), none⟩, ⟨none, .st 1 (.t 36) (.t 34), none⟩])) (.reg false [⟨some 20, .mv (.t 6), none⟩, ⟨some 21, .bin .add (.t 20) (.c (.int .i64 1)), none⟩, ⟨some 6, .mv (.t 21), none⟩])))))) (.seq (.reg false [⟨some 37, .mv (.t 5), none⟩, ⟨some 4, .mv (.t 37), none⟩]) .ret)))), 38, [(.t 4)]⟩
theorem k_laws_roll : compF Try.prog Try.f49 = some c_laws_roll := by kernel_rfl
def c_laws_dice_below : F := ⟨(.seq (.reg false [⟨some 4, .mv (.c (.int .i64 0)), none⟩]) (.seq (.seq (.reg false [⟨some 6, .mv (.t 1), none⟩, ⟨some 7, .bin .lss (.t 6) (.c (.int .i64 1)), none⟩]) (.cond (.t 7) (.seq (.reg false [⟨some 4, .mv (.c (.int .i64 0)), none⟩]) .ret) .skip)) (.seq (.reg false [⟨some 8, .mv (.t 0), none⟩, ⟨some 9, .mv (.t 0), none⟩, ⟨some 10, .nck (.t 9), none⟩, ⟨some 11, .fa 2 (.t 10), none⟩, ⟨some 12, .ld1 (.t 11), none⟩, ⟨some 13, .bin .mul (.t 12) (.c (.int .u64 6364136223846793005)), none⟩, ⟨some 14, .bin .add (.t 13) (.c (.int .u64 1442695040888963407)), none⟩, ⟨some 15, .nck (.t 8), none⟩, ⟨some 16, .fa 2 (.t 15), none⟩, ⟨none, .st 1 (.t 16) (.t 14), none⟩]) (.seq (.reg false [⟨some 17, .mv (.t 0), none⟩, ⟨some 18, .nck (.t 17), none⟩, ⟨some 19, .fa 2 (.t 18), none⟩, ⟨some 20, .ld1 (.t 19), none⟩, ⟨some 21, .bin .shr (.t 20) (.c (.int .u64 33)), none⟩, ⟨some 22, .bin .and (.t 21) (.c (.int .u64 16777215)), none⟩, ⟨some 23, .cvi .i64 (.t 22), none⟩, ⟨some 5, .mv (.t 23), none⟩]) (.seq (.seq (.reg true [⟨some 24, .mv (.t 0), none⟩, ⟨some 25, .nck (.t 24), none⟩, ⟨some 26, .fa 1 (.t 25), none⟩, ⟨some 27, .ld1 (.t 26), none⟩, ⟨some 28, .mv (.t 0), none⟩, ⟨some 29, .nck (.t 28), none⟩, ⟨some 30, .fa 0 (.t 29), none⟩, ⟨some 31, .ld1 (.t 30), none⟩, ⟨some 32, .len (.t 31), none⟩, ⟨some 33, .bin .lss (.t 27) (.t 32), none⟩]) (.cond (.t 33) (.seq (.reg true [⟨some 34, .mv (.t 5), none⟩, ⟨some 35, .mv (.t 0), none⟩, ⟨some 36, .nck (.t 35), none⟩, ⟨some 37, .fa 0 (.t 36), none⟩, ⟨some 38, .ld1 (.t 37), none⟩, ⟨some 39, .mv (.t 0), none⟩, ⟨some 40, .nck (.t 39), none⟩, ⟨some 41, .fa 1 (.t 40), none⟩, ⟨some 42, .ld1 (.t 41), none⟩, ⟨some 43, .ia 1 (.t 38) (.t 42), none⟩, ⟨some 44, .ld1 (.t 43), none⟩, ⟨some 45, .cvi .i64 (.t 44), none⟩, ⟨some 46, .bin .add (.t 34) (.t 45), none⟩, ⟨some 5, .mv (.t 46), none⟩]) (.reg false [⟨some 47, .mv (.t 0), none⟩, ⟨some 48, .mv (.t 0), none⟩, ⟨some 49, .nck (.t 48), none⟩, ⟨some 50, .fa 1 (.t 49), none⟩, ⟨some 51, .ld1 (.t 50), none⟩, ⟨some 52, .bin .add (.t 51) (.c (.int .i64 1)), none⟩, ⟨some 53, .nck (.t 47), none⟩, ⟨some 54, .fa 1 (.t 53), none⟩, ⟨none, .st 1 (.t 54) (.t 52), none⟩])) .skip)) (.seq (.reg false [⟨some 55, .mv (.t 5), none⟩, ⟨some 56, .mv (.t 1), none⟩, ⟨some 57, .bin .rem (.t 55) (.t 56), none⟩, ⟨some 4, .mv (.t 57), none⟩]) .ret)))))), 58, [(.t 4)]⟩
theorem k_laws_dice_below : compF Try.prog Try.f50 = some c_laws_dice_below := by kernel_rfl
def c_spec_DrawKindsOf : F := ⟨(.seq (.reg false [⟨some 2, .mv (.c .nilsl), none⟩]) (.seq (.reg false [⟨some 3, .mv (.t 0), none⟩, ⟨some 4, .call (.f 63) [(.t 3)], none⟩, ⟨some 5, .call (.f 74) [(.t 4)], none⟩, ⟨some 2, .mv (.t 5), none⟩]) .ret)), 6, [(.t 2)]⟩
theorem k_spec_DrawKindsOf : compF Try.prog Try.f44 = some c_spec_DrawKindsOf := by kernel_rfl
def c_spec_DrawIsOfKind : F := ⟨(.seq (.reg false [⟨some 2, .mv (.c .nilsl), none⟩, ⟨some 3, .mv (.c (.int .i64 0)), none⟩]) (.seq (.reg false [⟨some 6, .mv (.t 0), none⟩, ⟨some 7, .call (.f 63) [(.t 6)], none⟩, ⟨some 4, .mv (.t 7), none⟩]) (.seq (.reg false [⟨some 8, .mv (.t 4), none⟩, ⟨some 9, .call (.f 74) [(.t 8)], none⟩, ⟨some 5, .mv (.t 9), none⟩]) (.seq (.reg false [⟨some 10, .mv (.t 5), none⟩, ⟨some 11, .mv (.t 4), none⟩, ⟨some 12, .call (.f 65) [(.t 11), (.c (.int .i64 11))], none⟩, ⟨some 2, .mv (.t 10), none⟩, ⟨some 3, .mv (.t 12), none⟩]) .ret)))), 13, [(.t 2), (.t 3)]⟩
theorem k_spec_DrawIsOfKind : compF Try.prog Try.f52 = some c_spec_DrawIsOfKind := by kernel_rfl
def c_spec_DrawFormAt : F := ⟨(.seq (.reg false [⟨some 2, .mv (.c .nilsl), none⟩, ⟨some 3, .mv (.c .nilsl), none⟩]) (.seq (.reg false [⟨some 9, .mv (.t 0), none⟩, ⟨some 10, .call (.f 63) [(.t 9)], none⟩, ⟨some 4, .mv (.t 10), none⟩]) (.seq (.reg false [⟨some 11, .mv (.t 4), none⟩, ⟨some 12, .call (.f 64) [(.t 11)], none⟩, ⟨some 13, .lit 2 1 0 [(.int .i64 0)] [], none⟩, ⟨some 14, .mv (.t 4), none⟩, ⟨some 15, .lit 2 1 3 [(.int .i64 0)] [(0, (.c (.int .i64 2))), (1, (.c (.int .i64 9))), (2, (.c (.int .i64 1000)))], none⟩, ⟨some 16, .call (.f 84) [(.t 14), (.t 15)], none⟩, ⟨some 5, .mv (.t 12), none⟩, ⟨some 6, .mv (.t 13), none⟩, ⟨some 7, .mv (.t 16), none⟩]) (.seq (.seq (.reg false [⟨some 8, .mv (.c (.int .i64 0)), none⟩]) (.block 0 (.loop (.seq (.seq (.reg false [⟨some 17, .mv (.t 8), none⟩, ⟨some 18, .mv (.t 5), none⟩, ⟨some 19, .len (.t 18), none⟩, ⟨some 20, .bin .lss (.t 17) (.t 19), none⟩]) (.cond (.t 20) .skip (.exit 0))) (.seq (.block 1 (.reg false [⟨some 23, .mv (.t 6), none⟩, ⟨some 24, .mv (.t 4), none⟩, ⟨some 25, .mv (.t 7), none⟩, ⟨some 26, .call (.f 95) [(.t 24), (.t 25)], none⟩, ⟨some 27, .lit 2 1 1 [(.int .i64 0)] [(0, (.t 26))], none⟩, ⟨some 28, .app 2 1 8 [(.int .i64 0)] (.t 23) (.t 27), none⟩, ⟨some 6, .mv (.t 28), none⟩])) (.reg false [⟨some 21, .mv (.t 8), none⟩, ⟨some 22, .bin .add (.t 21) (.c (.int .i64 1)), none⟩, ⟨some 8, .mv (.t 22), none⟩])))))) (.seq (.seq (.reg false [⟨some 29, .mv (.t 4), none⟩, ⟨some 30, .call (.f 82) [(.t 29), (.c (.int .i64 20))], none⟩]) (.block 2 (.seq (.reg false [⟨some 32, .bin .eql (.t 30) (.c (.int .i64 0)), none⟩, ⟨some 31, .mv (.t 32), none⟩]) (.cond (.t 31) (.reg false [⟨some 33, .mv (.t 6), none⟩, ⟨some 34, .mv (.t 4), none⟩, ⟨some 35, .lit 2 1 2 [(.int .i64 0)] [(0, (.c (.int .i64 1001))), (1, (.c (.int .i64 (-1001))))], none⟩, ⟨some 36, .call (.f 84) [(.t 34), (.t 35)], none⟩, ⟨some 37, .ia 1 (.t 33) (.c (.int .i64 0)), none⟩, ⟨none, .st 1 (.t 37) (.t 36), none⟩]) (.seq (.reg false [⟨some 39, .bin .eql (.t 30) (.c (.int .i64 1)), none⟩, ⟨some 38, .mv (.t 39), none⟩]) (.cond (.t 38) (.reg false [⟨some 40, .mv (.t 6), none⟩, ⟨some 41, .lit 2 1 1 [(.int .i64 0)] [(0, (.c (.int .i64 0)))], none⟩, ⟨some 42, .app 2 1 8 [(.int .i64 0)] (.t 40) (.t 41), none⟩, ⟨some 6, .mv (.t 42), none⟩]) .skip)))))) (.seq (.reg false [⟨some 43, .mv (.t 4), none⟩, ⟨some 44, .mv (.t 5), none⟩, ⟨some 45, .call (.f 66) [(.t 43), (.t 44)], none⟩, ⟨some 46, .mv (.t 6), none⟩, ⟨some 2, .mv (.t 45), none⟩, ⟨some 3, .mv (.t 46), none⟩]) .ret)))))), 47, [(.t 2), (.t 3)]⟩
theorem k_spec_DrawFormAt : compF Try.prog Try.f53 = some c_spec_DrawFormAt := by kernel_rfl

def Dice (bnd b : Nat) (h : AH) : Prop := ∃ (vc : AV) (code : List Int) (a : Nat) (hash : Int), h b = some ⟨78, [vc, .int .i64 a, .int .u64 hash], true, 0⟩ ∧ Sl false 0 bnd h 1 vc (bytesA code) ∧ code.length ≤ 4096 ∧ (∀ x ∈ code, 0 ≤ x ∧ x ≤ 255) ∧ a ≤ code.length
theorem Dice.keep {bnd b : Nat} {h h' : AH} (r : Dice bnd b h) (hb : h' b = h b) (k : ∀ j, j < bnd → h' j = h j) : Dice bnd b h' := by
  obtain ⟨vc, code, a, hash, h1, h2, h3⟩ := r
  exact ⟨vc, code, a, hash, by rw [hb]; exact h1, h2.keep fun j _ hj => k j hj, h3⟩
theorem and_small2 (x : Int) : 0 ≤ bitv .and .u64 x 16777215 ∧ bitv .and .u64 x 16777215 ≤ 16777215 := by
  simp only [bitv]
  have h : (BitVec.ofInt IntKind.u64.bits x &&& BitVec.ofInt IntKind.u64.bits 16777215).toNat ≤ 16777215 := by
    rw [BitVec.toNat_and]
    refine Nat.le_trans Nat.and_le_right ?_
    decide
  generalize (BitVec.ofInt IntKind.u64.bits x &&& BitVec.ofInt IntKind.u64.bits 16777215).toNat = m at h
  have : IntKind.u64.wrap (m : Int) = m := by simp [IntKind.wrap, IntKind.bits, IntKind.signed]; omega
  rw [this]
  omega
section
variable {bnd b : Nat} {h : AH}
theorem laws_below (r : Dice bnd b h) (hb : bnd ≤ b) (k : Int) (n : Nat) (hn : b < n) :
    MQ Try.prog 50 [.ptr b 0, .int .i64 k] h n b (b + 1) fun x h' n' => n' = n ∧ NextP k x ∧ Dice bnd b h' ∧ Same b h' h := by
  refine mq_intro Try.func50 k_laws_dice_below ?_
  obtain ⟨vc, code, a, hash, h1, h2, h3, h4, h5⟩ := r
  have r0 : Dice bnd b h := ⟨vc, code, a, hash, h1, h2, h3, h4, h5⟩
  simp (maxSteps := 2000000) -implicitDefEqProofs (disch := omega) only [c_laws_dice_below, xsW, xsC, xsD, xsE, fillA, reduceCtorEq, Nat.reduceAdd, Nat.reduceSub, Nat.reduceLeDiff, Nat.reduceMul, Int.reduceLT, Int.reduceLE, Int.reduceEq, Int.reduceNe, Int.reduceAdd, Int.reduceSub, Int.reduceMul, Int.reduceNeg, Int.reduceToNat]
  (refine cd_dec (fun c1 => ?_) (fun c1 => ?_) <;> simp (maxSteps := 2000000) -implicitDefEqProofs (disch := omega) only [xsW, xsC, xsD, xsE, fillA, reduceCtorEq, Nat.reduceAdd, Nat.reduceSub, Nat.reduceLeDiff, Nat.reduceMul, Int.reduceLT, Int.reduceLE, Int.reduceEq, Int.reduceNe, Int.reduceAdd, Int.reduceSub, Int.reduceMul, Int.reduceNeg, Int.reduceToNat,  c1])
  · exact ⟨⟨0, rfl, by omega, fun h => by omega, fun _ => rfl⟩, r0, fun _ _ => rfl⟩
  · simp (maxSteps := 2000000) -implicitDefEqProofs (disch := omega) only [xsW, xsC, xsD, xsE, fillA, reduceCtorEq, Nat.reduceAdd, Nat.reduceSub, Nat.reduceLeDiff, Nat.reduceMul, Int.reduceLT, Int.reduceLE, Int.reduceEq, Int.reduceNe, Int.reduceAdd, Int.reduceSub, Int.reduceMul, Int.reduceNeg, Int.reduceToNat,  h1]
    refine ⟨hn, .inr (by omega), ?_⟩
    generalize IntKind.u64.wrap (IntKind.u64.wrap (hash * 6364136223846793005) + 1442695040888963407) = hash2
    have hx := and_small2 (hash2.fdiv (2 ^ min 33 IntKind.u64.bits))
    generalize bitv BinOp.and IntKind.u64 (hash2.fdiv (2 ^ min 33 IntKind.u64.bits)) 16777215 = X at hx ⊢
    have hup : ∀ (a' : Nat) (hash' : Int) (h2' : AH), (∀ j, j ≠ b → h2' j = h j) → h2' b = some ⟨78, [vc, .int .i64 a', .int .u64 hash'], true, 0⟩ → a' ≤ code.length → Dice bnd b h2' := fun a' hash' h2' e1 e2 e3 =>
      ⟨vc, code, a', hash', e2, h2.keep fun j _ hj => e1 j (by omega), h3, h4, e3⟩
    have fin : ∀ y : Int, 0 ≤ y → NextP k (.int .i64 (y.tmod k)) := fun y hy => ⟨_, rfl, Int.tmod_nonneg _ hy, fun _ => Int.tmod_lt_of_pos _ (by omega), fun _ => by omega⟩
    have hsl : slen vc = code.length := by have := h2.len; rw [bytesA_len] at this; omega
    refine ⟨by unfold in64; omega, ?_⟩
    simp (maxSteps := 2000000) -implicitDefEqProofs (disch := omega) only [xsW, xsC, xsD, xsE, fillA, reduceCtorEq, Nat.reduceAdd, Nat.reduceSub, Nat.reduceLeDiff, Nat.reduceMul, Int.reduceLT, Int.reduceLE, Int.reduceEq, Int.reduceNe, Int.reduceAdd, Int.reduceSub, Int.reduceMul, Int.reduceNeg, Int.reduceToNat,  h2.ln, hsl]
    (refine cd_dec (fun c2 => ?_) (fun c2 => ?_) <;> simp (maxSteps := 2000000) -implicitDefEqProofs (disch := omega) only [xsW, xsC, xsD, xsE, fillA, reduceCtorEq, Nat.reduceAdd, Nat.reduceSub, Nat.reduceLeDiff, Nat.reduceMul, Int.reduceLT, Int.reduceLE, Int.reduceEq, Int.reduceNe, Int.reduceAdd, Int.reduceSub, Int.reduceMul, Int.reduceNeg, Int.reduceToNat,  c2])
    · have ha : a < code.length := by omega
      have hby := h4 _ (getD_mem (d := 0) ha)
      have hbel := h2.below (by omega)
      have hld := fun (K : AV → AH → Nat → Prop) (h' : AH) (n : Nat) => h2.ld (k := a) (by rw [bytesA_len]; exact ha) K h' n
      rw [bytesA_get code a ha] at hld
      simp (maxSteps := 2000000) -implicitDefEqProofs (disch := omega) only [xsW, xsC, xsD, xsE, fillA, reduceCtorEq, Nat.reduceAdd, Nat.reduceSub, Nat.reduceLeDiff, Nat.reduceMul, Int.reduceLT, Int.reduceLE, Int.reduceEq, Int.reduceNe, Int.reduceAdd, Int.reduceSub, Int.reduceMul, Int.reduceNeg, Int.reduceToNat,  h2.ia, hsl, hld]
      exact ⟨hn, .inr (by omega), fin _ (by omega), hup (a + 1) hash2 _ (fun j hj => upd_other hj) (by rw [upd_same, Int.natCast_add]; rfl) (by omega), fun j hj => upd_other hj⟩
    · exact ⟨fin _ (by omega), hup a hash2 _ (fun j hj => upd_other hj) (by rw [upd_same]) (by omega), fun j hj => upd_other hj⟩
theorem laws_roll {hi : Nat} {v : AV} {code : List Int} (s : Sl false 0 hi h 1 v (bytesA code)) (hl : code.length ≤ 4096) (hc : ∀ x ∈ code, 0 ≤ x ∧ x ≤ 255) (seed : Int) (n : Nat) (hn : hi ≤ n) :
    FQ Try.prog 49 [v, .int .u64 seed] h n fun x h' n' => x = .ptr n 0 ∧ n < n' ∧ Dice hi n (fun j => if j = n then h' j else h j) := by
  refine fq_intro Try.func49 k_laws_roll ?_
  have hsl : slen v = code.length := by have := s.len; rw [bytesA_len] at this; omega
  have x1 := one_any s.any
  have x2 := sto_any s.any
  have x3 := cel_any s.any
  simp (maxSteps := 2000000) -implicitDefEqProofs (disch := omega) only [c_laws_roll, s.ln, hsl, x1, x2, x3, xsW, xsC, xsD, xsE, fillA, reduceCtorEq, Nat.reduceAdd, Nat.reduceSub, Nat.reduceLeDiff, Nat.reduceMul, Int.reduceLT, Int.reduceLE, Int.reduceEq, Int.reduceNe, Int.reduceAdd, Int.reduceSub, Int.reduceMul, Int.reduceNeg, Int.reduceToNat]
  refine loop_for code.length 0 (fun k _ => [v, .int .u64 seed, .any, .any, .nilptr, .ptr n 0, .int .i64 k, .any, .any, .any, .any, .any, .any, .any, .any, .any, .any, .any, .any, .any, .any, .any, .any, .any, .any, .any, .any, .any, .any, .any, .any, .any, .any, .any, .any, .any, .any, .any]) (fun _ (hash : Int) => upd h n (some ⟨78, [v, .int .i64 0, .int .u64 hash], true, 0⟩))
    (fun _ _ _ => True) _ (Nat.zero_le _) trivial (by simp [LeL, Le1]) (fun _ _ h => h) ?_
  rintro k hash n1 - hk hn1 -
  simp (maxSteps := 2000000) -implicitDefEqProofs (disch := omega) only [xsW, xsC, xsD, xsE, fillA, reduceCtorEq, Nat.reduceAdd, Nat.reduceSub, Nat.reduceLeDiff, Nat.reduceMul, Int.reduceLT, Int.reduceLE, Int.reduceEq, Int.reduceNe, Int.reduceAdd, Int.reduceSub, Int.reduceMul, Int.reduceNeg, Int.reduceToNat,  s.ln, hsl]
  (refine cd_dec (fun c1 => ?_) (fun c1 => ?_) <;> simp (maxSteps := 2000000) -implicitDefEqProofs (disch := omega) only [xsW, xsC, xsD, xsE, fillA, reduceCtorEq, Nat.reduceAdd, Nat.reduceSub, Nat.reduceLeDiff, Nat.reduceMul, Int.reduceLT, Int.reduceLE, Int.reduceEq, Int.reduceNe, Int.reduceAdd, Int.reduceSub, Int.reduceMul, Int.reduceNeg, Int.reduceToNat,  c1])
  · have hk2 : k < code.length := by omega
    have hby := hc _ (getD_mem (d := 0) hk2)
    have hbel := s.below (by omega)
    have hld := fun (K : AV → AH → Nat → Prop) (h' : AH) (n : Nat) => s.ld (k := k) (by rw [bytesA_len]; exact hk2) K h' n
    rw [bytesA_get code k hk2] at hld
    simp (maxSteps := 2000000) -implicitDefEqProofs (disch := omega) only [xsW, xsC, xsD, xsE, fillA, reduceCtorEq, Nat.reduceAdd, Nat.reduceSub, Nat.reduceLeDiff, Nat.reduceMul, Int.reduceLT, Int.reduceLE, Int.reduceEq, Int.reduceNe, Int.reduceAdd, Int.reduceSub, Int.reduceMul, Int.reduceNeg, Int.reduceToNat,  s.ia, hsl, hld]
    exact ⟨_, by omega, by omega, (by simp [LeL, Le1]), fun _ _ h => h⟩
  · intro h0 h2 hh
    refine ⟨by omega, v, code, 0, hash, ?_, s.keep fun j _ hj => if_neg (by omega), hl, hc, Nat.zero_le _⟩
    show (if n = n then h2 n else h n) = _
    rw [if_pos rfl, hh n (Nat.le_refl _) (by omega), upd_same]
    rfl
end
section
variable {hi : Nat} {h : AH} {v : AV} {code : List Int}
theorem from_use' {n0 n : Nat} {W : Nat → Prop} {d : Bool} {K : AV → AH → Nat → Prop} (s : Sl false 0 hi h 1 v (bytesA code)) (hl : code.length ≤ 4096) (hc : ∀ x ∈ code, 0 ≤ x ∧ x ≤ 255) (hn : hi ≤ n)
    (k : ∀ h' n', n < n' → (∀ i, i < n → h' i = h i) → Rnd hi n h' → K (.ptr n 0) h' n') : CallC Try.prog n0 W d 63 [v] h n K :=
  fq_use (spec_l01From s hl hc n hn) fun x h1 n1 hn1 hs ⟨e, hlt, r⟩ => by
    subst e
    exact k h1 n1 hlt hs (r.keep (show h1 n = if n = n then h1 n else h n by rw [if_pos rfl]) fun j hj => (show h1 j = if j = n then h1 j else h j by rw [if_neg (by omega)]; exact hs j (by omega)))
theorem spec_DrawKindsOf (s : Sl false 0 hi h 1 v (bytesA code)) (hl : code.length ≤ 4096) (hc : ∀ x ∈ code, 0 ≤ x ∧ x ≤ 255) (n : Nat) (hn : hi ≤ n) :
    FQ Try.prog 44 [v] h n fun v' h' n' => ∃ vs' ll', Rows true n n' h' v' vs' ll' ∧ Few ll' := by
  refine fq_intro Try.func44 k_spec_DrawKindsOf ?_
  simp (maxSteps := 2000000) -implicitDefEqProofs (disch := omega) only [c_spec_DrawKindsOf, xsW, xsC, xsD, xsE, fillA, reduceCtorEq, Nat.reduceAdd, Nat.reduceSub, Nat.reduceLeDiff, Nat.reduceMul, Int.reduceLT, Int.reduceLE, Int.reduceEq, Int.reduceNe, Int.reduceAdd, Int.reduceSub, Int.reduceMul, Int.reduceNeg, Int.reduceToNat]
  refine from_use' s hl hc hn fun h1 n1 hn1 hs1 r1 => ?_
  simp (maxSteps := 2000000) -implicitDefEqProofs (disch := omega) only [xsW, xsC, xsD, xsE, fillA, reduceCtorEq, Nat.reduceAdd, Nat.reduceSub, Nat.reduceLeDiff, Nat.reduceMul, Int.reduceLT, Int.reduceLE, Int.reduceEq, Int.reduceNe, Int.reduceAdd, Int.reduceSub, Int.reduceMul, Int.reduceNeg, Int.reduceToNat]
  refine mq_use (spec_l03Spoil r1 hn n1 hn1) (fun i a c => .inl (by omega)) fun v2 h2 n2 hn2 ⟨vs2, ll2, s2, q2, r2, o2⟩ => ?_
  simp (maxSteps := 2000000) -implicitDefEqProofs (disch := omega) only [xsW, xsC, xsD, xsE, fillA, reduceCtorEq, Nat.reduceAdd, Nat.reduceSub, Nat.reduceLeDiff, Nat.reduceMul, Int.reduceLT, Int.reduceLE, Int.reduceEq, Int.reduceNe, Int.reduceAdd, Int.reduceSub, Int.reduceMul, Int.reduceNeg, Int.reduceToNat]
  intro _ h3 hh
  exact ⟨vs2, ll2, (s2.keep fun i a c => hh i (by omega) c).wide (by omega) (Nat.le_refl _), q2⟩
theorem spec_DrawIsOfKind (s : Sl false 0 hi h 1 v (bytesA code)) (hl : code.length ≤ 4096) (hc : ∀ x ∈ code, 0 ≤ x ∧ x ≤ 255) (n : Nat) (hn : hi ≤ n) :
    FQ Try.prog 52 [v] h n fun x h' n' => ∃ v' vs' ll' a, x = .tup [v', .int .i64 a] ∧ Rows true n n' h' v' vs' ll' ∧ Few ll' := by
  refine fq_intro Try.func52 k_spec_DrawIsOfKind ?_
  simp (maxSteps := 2000000) -implicitDefEqProofs (disch := omega) only [c_spec_DrawIsOfKind, xsW, xsC, xsD, xsE, fillA, reduceCtorEq, Nat.reduceAdd, Nat.reduceSub, Nat.reduceLeDiff, Nat.reduceMul, Int.reduceLT, Int.reduceLE, Int.reduceEq, Int.reduceNe, Int.reduceAdd, Int.reduceSub, Int.reduceMul, Int.reduceNeg, Int.reduceToNat]
  refine from_use' s hl hc hn fun h1 n1 hn1 hs1 r1 => ?_
  simp (maxSteps := 2000000) -implicitDefEqProofs (disch := omega) only [xsW, xsC, xsD, xsE, fillA, reduceCtorEq, Nat.reduceAdd, Nat.reduceSub, Nat.reduceLeDiff, Nat.reduceMul, Int.reduceLT, Int.reduceLE, Int.reduceEq, Int.reduceNe, Int.reduceAdd, Int.reduceSub, Int.reduceMul, Int.reduceNeg, Int.reduceToNat]
  refine mq_use (spec_l03Spoil r1 hn n1 hn1) (fun i a c => .inl (by omega)) fun v2 h2 n2 hn2 ⟨vs2, ll2, s2, q2, r2, o2⟩ => ?_
  simp (maxSteps := 2000000) -implicitDefEqProofs (disch := omega) only [xsW, xsC, xsD, xsE, fillA, reduceCtorEq, Nat.reduceAdd, Nat.reduceSub, Nat.reduceLeDiff, Nat.reduceMul, Int.reduceLT, Int.reduceLE, Int.reduceEq, Int.reduceNe, Int.reduceAdd, Int.reduceSub, Int.reduceMul, Int.reduceNeg, Int.reduceToNat]
  refine mq_use (spec_l01Near r2 hn 11 (by omega) (by omega) n2 (by omega)) (fun i a c => .inl (by omega)) fun x3 h3 n3 hn3 ⟨⟨z, hz, z0, z1⟩, r3, o3, _⟩ => ?_
  subst hz
  simp (maxSteps := 2000000) -implicitDefEqProofs (disch := omega) only [xsW, xsC, xsD, xsE, fillA, reduceCtorEq, Nat.reduceAdd, Nat.reduceSub, Nat.reduceLeDiff, Nat.reduceMul, Int.reduceLT, Int.reduceLE, Int.reduceEq, Int.reduceNe, Int.reduceAdd, Int.reduceSub, Int.reduceMul, Int.reduceNeg, Int.reduceToNat]
  intro _ h4 hh
  exact ⟨v2, vs2, ll2, z, ⟨rfl, rfl⟩, (s2.keep fun i a c => by rw [hh i (by omega) (by omega), o3 i c (by omega)]).wide (by omega) (by omega), q2⟩
set_option maxHeartbeats 1000000 in
theorem spec_DrawFormAt (s : Sl false 0 hi h 1 v (bytesA code)) (hl : code.length ≤ 4096) (hc : ∀ x ∈ code, 0 ≤ x ∧ x ≤ 255) (n : Nat) (hn : hi ≤ n) :
    FQ Try.prog 53 [v] h n fun x h' n' => ∃ v' vs' ll' u' l', x = .tup [v', u'] ∧ Rows true n n' h' v' vs' ll' ∧ Few ll' ∧ Ints true n n' h' u' l' ∧ l'.length ≤ 6 := by
  refine fq_intro Try.func53 k_spec_DrawFormAt ?_
  simp (maxSteps := 2000000) -implicitDefEqProofs (disch := omega) only [c_spec_DrawFormAt, xsW, xsC, xsD, xsE, fillA, reduceCtorEq, Nat.reduceAdd, Nat.reduceSub, Nat.reduceLeDiff, Nat.reduceMul, Int.reduceLT, Int.reduceLE, Int.reduceEq, Int.reduceNe, Int.reduceAdd, Int.reduceSub, Int.reduceMul, Int.reduceNeg, Int.reduceToNat]
  refine from_use' s hl hc hn fun h1 n1 hn1 hs1 r1 => ?_
  simp (maxSteps := 2000000) -implicitDefEqProofs (disch := omega) only [xsW, xsC, xsD, xsE, fillA, reduceCtorEq, Nat.reduceAdd, Nat.reduceSub, Nat.reduceLeDiff, Nat.reduceMul, Int.reduceLT, Int.reduceLE, Int.reduceEq, Int.reduceNe, Int.reduceAdd, Int.reduceSub, Int.reduceMul, Int.reduceNeg, Int.reduceToNat]
  refine mq_use (spec_l03Draw r1 hn n1 hn1) (fun i a c => .inl (by omega)) fun v2 h2 n2 hn2 ⟨vs2, ll2, N, hN, hN5, s2, q2, r2, o2⟩ => ?_
  have hll := q2.1
  simp (maxSteps := 2000000) -implicitDefEqProofs (disch := omega) only [xsW, xsC, xsD, xsE, fillA, reduceCtorEq, Nat.reduceAdd, Nat.reduceSub, Nat.reduceLeDiff, Nat.reduceMul, Int.reduceLT, Int.reduceLE, Int.reduceEq, Int.reduceNe, Int.reduceAdd, Int.reduceSub, Int.reduceMul, Int.reduceNeg, Int.reduceToNat]
  refine mq_use (spec_l01Pick (b := n) (bnd := hi) (w := true) (lo := n2 + 1) (hi := n2 + 1 + 1) (l := [2, 9, 1000]) (r2.keep (by simp (disch := omega) only [upd_other]) fun j hj => by simp (disch := omega) only [upd_other]) hn (Sl.of_sl (upd_same _ _ _) rfl (Nat.le_refl _) (Nat.le_refl _) (by omega)) (by omega) (by simp) (by simp) _ (by omega)) (fun i a c => .inl (by omega)) fun x3 h3 n3 hn3 ⟨en, ⟨most, hz, z0⟩, r3, sm3⟩ => ?_
  subst en; subst hz
  simp only [List.mem_cons, List.not_mem_nil, or_false] at z0
  have s3 := s2.keep (h' := h3) fun j a c => by rw [sm3 j (by omega), upd_other (by omega), upd_other (by omega)]
  have g3 : h3 n2 = some ⟨2, [], true, 0⟩ := by rw [sm3 n2 (by omega), upd_other (by omega), upd_same]
  simp (maxSteps := 2000000) -implicitDefEqProofs (disch := omega) only [xsW, xsC, xsD, xsE, fillA, reduceCtorEq, Nat.reduceAdd, Nat.reduceSub, Nat.reduceLeDiff, Nat.reduceMul, Int.reduceLT, Int.reduceLE, Int.reduceEq, Int.reduceNe, Int.reduceAdd, Int.reduceSub, Int.reduceMul, Int.reduceNeg, Int.reduceToNat]
  refine loop_for N 0 (fun k p => [v, .any, .nilsl, .nilsl, .ptr n 0, v2, p.1, .int .i64 most, .int .i64 k, .any, .any, .any, .any, .any, .any, .any, .any, .any, .any, .any, .any, .any, .any, .any, .any, .any, .any, .any, .any, .any, .any, .any, .any, .any, .any, .any, .any, .any, .any, .any, .any, .any, .any, .any, .any, .any, .any]) (fun k (p : AV × List Int × AH) => p.2.2)
    (fun k p m => Acc n2 m p.2.2 2 1 p.1 (ints p.2.1) ∧ p.2.1.length = k ∧ Rows true n1 n2 p.2.2 v2 vs2 ll2 ∧ Rnd hi n p.2.2) (.sl n2 0 0 0, [], _) (Nat.zero_le _)
    ⟨Acc.empty g3 rfl (Nat.le_refl _) (by omega), rfl, s3, r3⟩ (by simp [LeL, Le1]) (fun _ _ h => h) ?_
  rintro k ⟨out, l, hq⟩ m - hk hm ⟨a, al, sq, rq⟩
  simp only at a al sq rq
  simp (maxSteps := 2000000) -implicitDefEqProofs (disch := omega) only [xsW, xsC, xsD, xsE, fillA, reduceCtorEq, Nat.reduceAdd, Nat.reduceSub, Nat.reduceLeDiff, Nat.reduceMul, Int.reduceLT, Int.reduceLE, Int.reduceEq, Int.reduceNe, Int.reduceAdd, Int.reduceSub, Int.reduceMul, Int.reduceNeg, Int.reduceToNat,  s2.ln]
  (refine cd_dec (fun c1 => ?_) (fun c1 => ?_) <;> simp (maxSteps := 2000000) -implicitDefEqProofs (disch := omega) only [xsW, xsC, xsD, xsE, fillA, reduceCtorEq, Nat.reduceAdd, Nat.reduceSub, Nat.reduceLeDiff, Nat.reduceMul, Int.reduceLT, Int.reduceLE, Int.reduceEq, Int.reduceNe, Int.reduceAdd, Int.reduceSub, Int.reduceMul, Int.reduceNeg, Int.reduceToNat,  c1])
  · refine mq_use (spec_l01DrawPart rq hn most (by omega) (by omega) m (by omega)) (fun i a c => .inl (by omega)) fun x4 h4 n4 hn4 ⟨en, ⟨y, hy, y0, y1⟩, r4, sm4⟩ => ?_
    subst en; subst hy
    simp (maxSteps := 2000000) -implicitDefEqProofs (disch := omega) only [xsW, xsC, xsD, xsE, fillA, reduceCtorEq, Nat.reduceAdd, Nat.reduceSub, Nat.reduceLeDiff, Nat.reduceMul, Int.reduceLT, Int.reduceLE, Int.reduceEq, Int.reduceNe, Int.reduceAdd, Int.reduceSub, Int.reduceMul, Int.reduceNeg, Int.reduceToNat]
    refine app_int (y := y) ((a.keep fun j a1 a2 => ?_).wide (Nat.le_refl _) (by omega)) (by omega) (by omega) ⟨rfl, _, upd_same _ _ _, by simp, by simp [cutA]⟩ (by omega) fun v' h' n' k1 k2 k3 => ?_
    · rw [upd_other (by omega), sm4 j (by omega)]
    simp (maxSteps := 2000000) -implicitDefEqProofs (disch := omega) only [xsW, xsC, xsD, xsE, fillA, reduceCtorEq, Nat.reduceAdd, Nat.reduceSub, Nat.reduceLeDiff, Nat.reduceMul, Int.reduceLT, Int.reduceLE, Int.reduceEq, Int.reduceNe, Int.reduceAdd, Int.reduceSub, Int.reduceMul, Int.reduceNeg, Int.reduceToNat]
    exact ⟨(v', l ++ [y], h'), ⟨k2, by simp [al], sq.keep fun j a1 a2 => (show h' j = hq j by rw [k3 j (by omega), upd_other (by omega), sm4 j (by omega)]), r4.keep (show h' n = h4 n by rw [k3 n (by omega), upd_other (by omega)]) fun j hj => (show h' j = h4 j by rw [k3 j (by omega), upd_other (by omega)])⟩, by omega, by omega, (by simp [LeL, Le1]), fun _ _ h => h⟩
  · have e : l.length = N := by omega
    refine mq_use (spec_l01Next rq hn 20 m (by omega)) (fun i a c => .inl (by omega)) fun x5 h5 n5 hn5 ⟨en, ⟨y5, hy, _, _, _⟩, r5, sm5⟩ => ?_
    subst en; subst hy
    have s5 := sq.keep (h' := h5) fun j a c => sm5 j (by omega)
    have a5 := a.keep (h' := h5) fun j a c => sm5 j (by omega)
    simp (maxSteps := 2000000) -implicitDefEqProofs (disch := omega) only [xsW, xsC, xsD, xsE, fillA, reduceCtorEq, Nat.reduceAdd, Nat.reduceSub, Nat.reduceLeDiff, Nat.reduceMul, Int.reduceLT, Int.reduceLE, Int.reduceEq, Int.reduceNe, Int.reduceAdd, Int.reduceSub, Int.reduceMul, Int.reduceNeg, Int.reduceToNat]
    (refine cd_dec (fun c2 => ?_) (fun c2 => ?_) <;> simp (maxSteps := 2000000) -implicitDefEqProofs (disch := omega) only [xsW, xsC, xsD, xsE, fillA, reduceCtorEq, Nat.reduceAdd, Nat.reduceSub, Nat.reduceLeDiff, Nat.reduceMul, Int.reduceLT, Int.reduceLE, Int.reduceEq, Int.reduceNe, Int.reduceAdd, Int.reduceSub, Int.reduceMul, Int.reduceNeg, Int.reduceToNat,  c2])
    · refine mq_use (spec_l01Pick (b := n) (bnd := hi) (w := true) (lo := n5) (hi := n5 + 1) (l := [1001, -1001]) (r5.keep (upd_other (by omega)) fun j hj => upd_other (by omega)) hn (Sl.of_sl (upd_same _ _ _) rfl (Nat.le_refl _) (Nat.le_refl _) (by omega)) (by omega) (by simp) (by simp) _ (by omega)) (fun i a c => .inl (by omega)) fun x6 h6 n6 hn6 ⟨en, ⟨z, hz, z0⟩, r6, sm6⟩ => ?_
      subst en; subst hz
      have q6 : Ints true n2 n5 h6 out l := (a5.keep fun j a c => by rw [sm6 j (by omega), upd_other (by omega)]).sl
      have s6 := s5.keep (h' := h6) fun j a c => by rw [sm6 j (by omega), upd_other (by omega)]
      have hbo := Sl.below q6 (by rw [q6.slen]; omega)
      have e1 := fun K => Ints.st q6 (k := 0) (x := z) (n0 := n) (n := n5 + 1) (W := none') (by omega) (fun i a b => .inl (by omega)) (by omega) K
      simp only [Nat.add_zero] at e1
      simp (maxSteps := 2000000) -implicitDefEqProofs (disch := omega) only [xsW, xsC, xsD, xsE, fillA, reduceCtorEq, Nat.reduceAdd, Nat.reduceSub, Nat.reduceLeDiff, Nat.reduceMul, Int.reduceLT, Int.reduceLE, Int.reduceEq, Int.reduceNe, Int.reduceAdd, Int.reduceSub, Int.reduceMul, Int.reduceNeg, Int.reduceToNat,  q6.ia, e1]
      have q7 := Ints.wr q6 (k := 0) (by omega) z
      simp only [Nat.add_zero] at q7
      refine mq_use (spec_l03Bad (h := L.wr h6 (bid out) (boff out) (.int .i64 z)) (r6.keep (wr_other (by omega)) fun j hj => wr_other (by omega)) hn (s6.keep fun j a c => wr_other (by omega)) hn1 hN hN5 q2 (n5 + 1) (by omega) (by omega)) (fun i a c => .inl (by omega)) fun v8 h8 n8 hn8 ⟨vs8, ll8, s8, q8, r8, o8⟩ => ?_
      simp (maxSteps := 2000000) -implicitDefEqProofs (disch := omega) only [xsW, xsC, xsD, xsE, fillA, reduceCtorEq, Nat.reduceAdd, Nat.reduceSub, Nat.reduceLeDiff, Nat.reduceMul, Int.reduceLT, Int.reduceLE, Int.reduceEq, Int.reduceNe, Int.reduceAdd, Int.reduceSub, Int.reduceMul, Int.reduceNeg, Int.reduceToNat]
      intro _ h9 hh
      exact ⟨v8, vs8, ll8, out, _, ⟨rfl, rfl⟩, (s8.keep fun i a c => hh i (by omega) (by omega)).wide (by omega) (by omega), q8, (q7.keep fun i a c => by rw [hh i (by omega) (by omega), o8 i (by omega) (by omega)]).wide (by omega) (by omega), by simp; omega⟩
    (refine cd_dec (fun c3 => ?_) (fun c3 => ?_) <;> simp (maxSteps := 2000000) -implicitDefEqProofs (disch := omega) only [xsW, xsC, xsD, xsE, fillA, reduceCtorEq, Nat.reduceAdd, Nat.reduceSub, Nat.reduceLeDiff, Nat.reduceMul, Int.reduceLT, Int.reduceLE, Int.reduceEq, Int.reduceNe, Int.reduceAdd, Int.reduceSub, Int.reduceMul, Int.reduceNeg, Int.reduceToNat,  c3])
    · refine app_int (y := 0) ((a5.keep fun j a1 a2 => ?_).wide (Nat.le_refl _) (show n5 ≤ n5 + 1 by omega)) (by omega) (by omega) ⟨rfl, _, upd_same _ _ _, by simp, by simp [cutA]⟩ (by omega) fun v' h' n' k1 k2 k3 => ?_
      · rw [upd_other (by omega)]
      simp (maxSteps := 2000000) -implicitDefEqProofs (disch := omega) only [xsW, xsC, xsD, xsE, fillA, reduceCtorEq, Nat.reduceAdd, Nat.reduceSub, Nat.reduceLeDiff, Nat.reduceMul, Int.reduceLT, Int.reduceLE, Int.reduceEq, Int.reduceNe, Int.reduceAdd, Int.reduceSub, Int.reduceMul, Int.reduceNeg, Int.reduceToNat]
      refine mq_use (spec_l03Bad (h := h') (r5.keep (by rw [k3 n (by omega), upd_other (by omega)]) fun j hj => by rw [k3 j (by omega), upd_other (by omega)]) hn (s5.keep fun j a c => by rw [k3 j (by omega), upd_other (by omega)]) hn1 hN hN5 q2 _ (by omega) (by omega)) (fun i a c => .inl (by omega)) fun v8 h8 n8 hn8 ⟨vs8, ll8, s8, q8, r8, o8⟩ => ?_
      simp (maxSteps := 2000000) -implicitDefEqProofs (disch := omega) only [xsW, xsC, xsD, xsE, fillA, reduceCtorEq, Nat.reduceAdd, Nat.reduceSub, Nat.reduceLeDiff, Nat.reduceMul, Int.reduceLT, Int.reduceLE, Int.reduceEq, Int.reduceNe, Int.reduceAdd, Int.reduceSub, Int.reduceMul, Int.reduceNeg, Int.reduceToNat]
      intro _ h9 hh
      exact ⟨v8, vs8, ll8, v', _, ⟨rfl, rfl⟩, (s8.keep fun i a c => hh i (by omega) (by omega)).wide (by omega) (by omega), q8, (k2.sl.keep fun i a c => by rw [hh i (by omega) (by omega), o8 i (by omega) (by omega)]).wide (by omega) (by omega), by simp; omega⟩
    · refine mq_use (spec_l03Bad r5 hn s5 hn1 hN hN5 q2 _ (by omega) (by omega)) (fun i a c => .inl (by omega)) fun v8 h8 n8 hn8 ⟨vs8, ll8, s8, q8, r8, o8⟩ => ?_
      simp (maxSteps := 2000000) -implicitDefEqProofs (disch := omega) only [xsW, xsC, xsD, xsE, fillA, reduceCtorEq, Nat.reduceAdd, Nat.reduceSub, Nat.reduceLeDiff, Nat.reduceMul, Int.reduceLT, Int.reduceLE, Int.reduceEq, Int.reduceNe, Int.reduceAdd, Int.reduceSub, Int.reduceMul, Int.reduceNeg, Int.reduceToNat]
      intro _ h9 hh
      exact ⟨v8, vs8, ll8, out, _, ⟨rfl, rfl⟩, (s8.keep fun i a c => hh i (by omega) (by omega)).wide (by omega) (by omega), q8, (a5.sl.keep fun i a c => by rw [hh i (by omega) (by omega), o8 i (by omega) (by omega)]).wide (by omega) (by omega), by omega⟩
end
end Go.Proofs.Ytkpibnhddhdooaa.L
