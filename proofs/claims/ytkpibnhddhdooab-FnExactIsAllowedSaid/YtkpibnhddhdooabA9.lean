/- Contracts: the form of a matrix at a point. -/
import Derived.Test.YtkpibnhddhdooabA7
import Derived.Test.YtkpibnhddhdooabM1
namespace Go.Proofs.Ytkpibnhddhdooab.L
open Go
set_option linter.unusedSimpArgs false
set_option linter.unusedVariables false
def c_impl_sum : F := ⟨(.seq (.reg false [⟨(some 4), (.mv (.c (.int .i64 0))), none⟩]) (.seq (.reg false [⟨(some 5), (.mv (.c (.int .i64 0))), none⟩]) (.seq (.seq (.reg false [⟨(some 8), (.mv (.t 0)), none⟩, ⟨(some 9), (.len (.t 8)), none⟩, ⟨(some 10), (.mv (.c (.int .i64 0))), none⟩]) (.block 0 (.loop (.seq (.reg false [⟨(some 11), (.bin .lss (.t 10) (.t 9)), none⟩]) (.seq (.cond (.t 11) .skip (.exit 0)) (.seq (.block 1 (.seq (.reg false [⟨(some 12), (.mv (.t 10)), none⟩, ⟨(some 13), (.ia 1 (.t 8) (.t 10)), none⟩, ⟨(some 14), (.ld1 (.t 13)), none⟩, ⟨(some 6), (.mv (.t 12)), none⟩, ⟨(some 7), (.mv (.t 14)), none⟩]) (.reg false [⟨(some 15), (.mv (.t 5)), none⟩, ⟨(some 16), (.mv (.t 7)), none⟩, ⟨(some 17), (.mv (.t 1)), none⟩, ⟨(some 18), (.mv (.t 6)), none⟩, ⟨(some 19), (.ia 1 (.t 17) (.t 18)), none⟩, ⟨(some 20), (.ld1 (.t 19)), none⟩, ⟨(some 21), (.bin .mul (.t 16) (.t 20)), none⟩, ⟨(some 22), (.bin .add (.t 15) (.t 21)), none⟩, ⟨(some 5), (.mv (.t 22)), none⟩]))) (.reg false [⟨(some 23), (.bin .add (.t 10) (.c (.int .i64 1))), none⟩, ⟨(some 10), (.mv (.t 23)), none⟩]))))))) (.seq (.reg false [⟨(some 24), (.mv (.t 5)), none⟩, ⟨(some 4), (.mv (.t 24)), none⟩]) .ret)))), 25, [(.t 4)]⟩
theorem k_impl_sum : compF Try.prog Try.f122 = some c_impl_sum := by kernel_rfl

theorem impl_sum {w w' : Bool} {lo hi lo' hi' : Nat} {h : AH} {v v' : AV} {l l' : List Int} (s : Ints w lo hi h v l) (s' : Ints w' lo' hi' h v' l') (hl : l.length ≤ l'.length) (B : Int) (hB : 0 ≤ B) (hn : l.length * B ≤ 4611686018427387904) (hm : l.length ≤ 1048576)
    (hb : ∀ i, i < l.length → -B ≤ l.getD i 0 * l'.getD i 0 ∧ l.getD i 0 * l'.getD i 0 ≤ B) (n : Nat) :
    Q Try.prog 122 [v, v'] h n (.int .i64 (sumTo l.length fun i => l.getD i 0 * l'.getD i 0)) := by
  refine q_intro Try.func122 k_impl_sum ?_
  have hs := fun k hk => sumTo_small (n := l.length) (k := k) (f := fun i => l.getD i 0 * l'.getD i 0) hb hk hB hn
  simp (maxSteps := 2000000) -implicitDefEqProofs (disch := omega) only [c_impl_sum, s.ln, xsW, xsC, if_true, if_false, ite_true, ite_false, forall_const, ne_eq, beq_self_eq_true, bne_self_eq_false, imp_self, true_implies, false_implies, implies_true, evP, evE, ev, setD, Nat.reduceAdd, Nat.reduceSub, reduceCtorEq, fillA, cutA, Nat.reduceLeDiff, Nat.reduceMul, Int.reduceLT, Int.reduceLE, Int.reduceEq, Int.reduceNe, Int.reduceAdd, Int.reduceSub, Int.reduceMul, Int.reduceNeg, Int.reduceToNat]
  refine loop_for l.length 0 (fun k (_ : Unit) => [v, v', .any, .any, .int .i64 0, .int .i64 (sumTo k fun i => l.getD i 0 * l'.getD i 0), .any, .any, v, .int .i64 l.length, .int .i64 k, .any, .any, .any, .any, .any, .any, .any, .any, .any, .any, .any, .any, .any, .any]) (fun k _ => h)
    (fun k _ _ => True) () (Nat.zero_le _) trivial (by simp [LeL, Le1, sumTo]) (fun _ _ h => h) ?_
  rintro k - n1 - hk hn1 -
  simp (maxSteps := 2000000) -implicitDefEqProofs (disch := omega) only [xsW, xsC, if_true, if_false, ite_true, ite_false, forall_const, ne_eq, beq_self_eq_true, bne_self_eq_false, imp_self, true_implies, false_implies, implies_true, evP, evE, ev, setD, Nat.reduceAdd, Nat.reduceSub, reduceCtorEq, fillA, cutA, Nat.reduceLeDiff, Nat.reduceMul, Int.reduceLT, Int.reduceLE, Int.reduceEq, Int.reduceNe, Int.reduceAdd, Int.reduceSub, Int.reduceMul, Int.reduceNeg, Int.reduceToNat]
  (refine cd_dec (fun h1 => ?_) (fun h1 => ?_) <;> simp (maxSteps := 2000000) -implicitDefEqProofs (disch := omega) only [xsW, xsC, if_true, if_false, ite_true, ite_false, forall_const, ne_eq, beq_self_eq_true, bne_self_eq_false, imp_self, true_implies, false_implies, implies_true, evP, evE, ev, setD, Nat.reduceAdd, Nat.reduceSub, reduceCtorEq, fillA, cutA, Nat.reduceLeDiff, Nat.reduceMul, Int.reduceLT, Int.reduceLE, Int.reduceEq, Int.reduceNe, Int.reduceAdd, Int.reduceSub, Int.reduceMul, Int.reduceNeg, Int.reduceToNat,  h1])
  · have hk' : k < l.length := by omega
    have b1 := hb k hk'
    have b2 := hs k hk
    have b3 := hs (k + 1) hk'
    rw [sumTo_succ] at b3
    have hB2 := Int.mul_le_mul_of_nonneg_right (show (1 : Int) ≤ l.length by omega) hB
    simp (maxSteps := 2000000) -implicitDefEqProofs (disch := omega) only [xsW, xsC, if_true, if_false, ite_true, ite_false, forall_const, ne_eq, beq_self_eq_true, bne_self_eq_false, imp_self, true_implies, false_implies, implies_true, evP, evE, ev, setD, Nat.reduceAdd, Nat.reduceSub, reduceCtorEq, fillA, cutA, Nat.reduceLeDiff, Nat.reduceMul, Int.reduceLT, Int.reduceLE, Int.reduceEq, Int.reduceNe, Int.reduceAdd, Int.reduceSub, Int.reduceMul, Int.reduceNeg, Int.reduceToNat,  s.ia, s.ld, s'.ia, s'.ld]
    exact ⟨(), by omega, by omega, by simp [LeL, Le1, sumTo]⟩
  · rw [show k = l.length by omega]
def formOf (ll : List (List Int)) (l : List Int) : Int := sumTo ll.length fun i => l.getD i 0 * sumTo ll.length fun k => (ll.getD i []).getD k 0 * l.getD k 0
section
variable {w w' : Bool} {lo hi lo' hi' : Nat} {h : AH} {v u : AV} {vs : List AV} {ll : List (List Int)} {l : List Int}
theorem form_bounds (hm : isMat ll = true) (hl : l.length = ll.length) (hw : within 1000 l = true) :
    ll.length ≤ 5 ∧ ∀ i, i < ll.length → (-1000 ≤ l.getD i 0 ∧ l.getD i 0 ≤ 1000) ∧ (ll.getD i []).length = ll.length ∧ ∀ k, k < ll.length → (-20000 ≤ (ll.getD i []).getD k 0 * l.getD k 0 ∧ (ll.getD i []).getD k 0 * l.getD k 0 ≤ 20000) := by
  rw [isMat_iff] at hm
  rw [within_iff] at hw
  refine ⟨hm.2.1, fun i hi => ⟨hw i (by omega), (hm.2.2 i hi).1, fun k hk => ?_⟩⟩
  have h1 := (hm.2.2 i hi).2
  rw [within_iff] at h1
  exact mul_bound (A := 20) (B := 1000) (h1 k (by rw [(hm.2.2 i hi).1]; exact hk)) (hw k (by omega))
def formAt (ll : List (List Int)) (l : List Int) : AV := if isMat ll = true then (if l.length = ll.length ∧ within 1000 l = true then .tup [.int .i64 (formOf ll l), .int .i64 0] else .tup [.int .i64 0, .int .i64 2]) else .tup [.int .i64 0, .int .i64 1]
def cell3 (ll : List (List Int)) (l : List Int) (i k : Nat) : Int := l.getD i 0 * (ll.getD i []).getD k 0 * l.getD k 0
theorem formOf_eq (ll : List (List Int)) (l : List Int) : (sumTo ll.length fun i => sumTo ll.length fun k => cell3 ll l i k) = formOf ll l := by
  unfold formOf cell3
  exact sumTo_congr fun i _ => by rw [sumTo_mul]; exact sumTo_congr fun k _ => Int.mul_assoc ..
end
end Go.Proofs.Ytkpibnhddhdooab.L
