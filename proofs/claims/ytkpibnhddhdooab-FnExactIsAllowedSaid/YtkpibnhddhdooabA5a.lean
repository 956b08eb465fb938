/- Contracts: lists of fractions that are fractions. -/
import Derived.Test.YtkpibnhddhdooabA2
import Derived.Test.YtkpibnhddhdooabA4
import Derived.Test.YtkpibnhddhdooabL20
namespace Go.Proofs.Ytkpibnhddhdooab.L
open Go
set_option linter.unusedSimpArgs false
set_option linter.unusedVariables false
def c_impl_areFracs : F := ⟨(.seq (.reg false [⟨(some 2), (.mv (.c (.bool false))), none⟩]) (.seq (.reg false [⟨(some 3), (.mv (.t 0)), none⟩, ⟨(some 4), (.call (.f 47) [(.t 3), (.f 148)]), none⟩, ⟨(some 5), (.un .not (.t 4)), none⟩, ⟨(some 2), (.mv (.t 5)), none⟩]) .ret)), 6, [(.t 2)]⟩
theorem k_impl_areFracs : compF Try.prog Try.f119 = some c_impl_areFracs := by kernel_rfl
def c_impl_areFracs_1 : F := ⟨(.seq (.reg false [⟨(some 1), (.box 60 (.t 0)), none⟩, ⟨(some 2), (.mv (.c (.bool false))), none⟩]) (.seq (.reg false [⟨(some 3), (.ld 2 (.t 1)), none⟩, ⟨(some 4), (.call (.f 143) [(.t 3)]), none⟩, ⟨(some 5), (.un .not (.t 4)), none⟩, ⟨(some 2), (.mv (.t 5)), none⟩]) .ret)), 6, [(.t 2)]⟩
theorem k_impl_areFracs_1 : compF Try.prog Try.f148 = some c_impl_areFracs_1 := by kernel_rfl

theorem impl_areFracs1 (a b : Int) (h : AH) (n : Nat) : Q Try.prog 148 [fr a b] h n (.bool (!isFr 1000000000 a b)) := by
  refine q_intro Try.func148 k_impl_areFracs_1 ?_
  simp (maxSteps := 2000000) -implicitDefEqProofs (disch := omega) only [c_impl_areFracs_1, fr, xsW, xsC, if_true, if_false, ite_true, ite_false, forall_const, ne_eq, beq_self_eq_true, bne_self_eq_false, imp_self, true_implies, false_implies, implies_true, evP, evE, ev, setD, Nat.reduceAdd, Nat.reduceSub, reduceCtorEq, fillA, cutA, Nat.reduceLeDiff, Nat.reduceMul, Int.reduceLT, Int.reduceLE, Int.reduceEq, Int.reduceNe, Int.reduceAdd, Int.reduceSub, Int.reduceMul, Int.reduceNeg, Int.reduceToNat]
  refine q_use (impl_IsFrac _ _ _ _) fun n1 hn1 => ?_
  simp (maxSteps := 2000000) -implicitDefEqProofs (disch := omega) only [xsW, xsC, if_true, if_false, ite_true, ite_false, forall_const, ne_eq, beq_self_eq_true, bne_self_eq_false, imp_self, true_implies, false_implies, implies_true, evP, evE, ev, setD, Nat.reduceAdd, Nat.reduceSub, reduceCtorEq, fillA, cutA, Nat.reduceLeDiff, Nat.reduceMul, Int.reduceLT, Int.reduceLE, Int.reduceEq, Int.reduceNe, Int.reduceAdd, Int.reduceSub, Int.reduceMul, Int.reduceNeg, Int.reduceToNat]
theorem impl_areFracs {w : Bool} {lo hi : Nat} {h : AH} {v : AV} {l : List (Int × Int)} (s : Sl w lo hi h 2 v (fracs l)) (hl : l.length ≤ 1048576) (n : Nat) :
    Q Try.prog 119 [v] h n (.bool (l.all fun p => isFr 1000000000 p.1 p.2)) := by
  have hs : slen v = l.length := by have := s.len; rw [fracs_len] at this; omega
  refine q_intro Try.func119 k_impl_areFracs ?_
  simp (maxSteps := 2000000) -implicitDefEqProofs (disch := omega) only [c_impl_areFracs, xsW, xsC, if_true, if_false, ite_true, ite_false, forall_const, ne_eq, beq_self_eq_true, bne_self_eq_false, imp_self, true_implies, false_implies, implies_true, evP, evE, ev, setD, Nat.reduceAdd, Nat.reduceSub, reduceCtorEq, fillA, cutA, Nat.reduceLeDiff, Nat.reduceMul, Int.reduceLT, Int.reduceLE, Int.reduceEq, Int.reduceNe, Int.reduceAdd, Int.reduceSub, Int.reduceMul, Int.reduceNeg, Int.reduceToNat]
  refine q_use (has_fracs s (by omega) _ _ (fun k => !isFr 1000000000 (l.getD k (0, 0)).1 (l.getD k (0, 0)).2) _ fun k n' hk _ => ?_) fun n1 hn1 => ?_
  · rw [fracs_cut l k (by omega)]; exact impl_areFracs1 _ _ _ _
  · simp (maxSteps := 2000000) -implicitDefEqProofs (disch := omega) only [xsW, xsC, if_true, if_false, ite_true, ite_false, forall_const, ne_eq, beq_self_eq_true, bne_self_eq_false, imp_self, true_implies, false_implies, implies_true, evP, evE, ev, setD, Nat.reduceAdd, Nat.reduceSub, reduceCtorEq, fillA, cutA, Nat.reduceLeDiff, Nat.reduceMul, Int.reduceLT, Int.reduceLE, Int.reduceEq, Int.reduceNe, Int.reduceAdd, Int.reduceSub, Int.reduceMul, Int.reduceNeg, Int.reduceToNat]
    rw [hs, Bool.eq_iff_iff]
    simp only [Bool.not_eq_true', List.any_eq_false, List.mem_range, List.all_eq_true]
    constructor
    · intro hx p hp
      obtain ⟨k, hk, rfl⟩ := List.mem_iff_getElem.1 hp
      simpa [List.getD, hk] using hx k hk
    · intro hx k hk
      have := hx _ (getD_mem (d := (0, 0)) hk)
      simpa using this
theorem mulb {a b : Int} (ha : -1000000000 ≤ a ∧ a ≤ 1000000000) (hb : -1000000000 ≤ b ∧ b ≤ 1000000000) : -1000000000000000000 ≤ a * b ∧ a * b ≤ 1000000000000000000 := by
  have h1 : a.natAbs ≤ 1000000000 := by omega
  have h2 : b.natAbs ≤ 1000000000 := by omega
  have h3 := Nat.mul_le_mul h1 h2
  rw [← Int.natAbs_mul] at h3
  omega
theorem isFr_b {a b : Int} (h : isFr 1000000000 a b = true) : (-1000000000 ≤ a ∧ a ≤ 1000000000) ∧ (1 ≤ b ∧ b ≤ 1000000000) := by
  simp only [isFr, decide_eq_true_eq] at h; omega
end Go.Proofs.Ytkpibnhddhdooab.L
