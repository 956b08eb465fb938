/- Contracts: sets, parts of matrices, minors. -/
import Derived.Test.YtkpibnhddhdooabA7
import Derived.Test.YtkpibnhddhdooabA12
import Derived.Test.YtkpibnhddhdooabA18
namespace Go.Proofs.Ytkpibnhddhdooab.L
open Go
set_option linter.unusedSimpArgs false
set_option linter.unusedVariables false
def c_impl_has : F := ⟨(.seq (.reg false [⟨(some 4), (.mv (.c (.bool false))), none⟩]) (.seq (.reg false [⟨(some 5), (.mv (.t 0)), none⟩, ⟨(some 6), (.mv (.t 1)), none⟩, ⟨(some 7), (.bin .shr (.t 5) (.t 6)), none⟩, ⟨(some 8), (.bin .and (.t 7) (.c (.int .i64 1))), none⟩, ⟨(some 9), (.bin .eql (.t 8) (.c (.int .i64 1))), none⟩, ⟨(some 4), (.mv (.t 9)), none⟩]) .ret)), 10, [(.t 4)]⟩
theorem k_impl_has : compF Try.prog Try.f107 = some c_impl_has := by kernel_rfl
def c_impl_isSet : F := ⟨(.seq (.reg false [⟨(some 4), (.mv (.c (.bool false))), none⟩]) (.seq (.reg false [⟨(some 5), (.mv (.t 0)), none⟩, ⟨(some 6), (.mv (.t 1)), none⟩, ⟨(some 7), (.bin .shl (.c (.int .i64 1)) (.t 6)), none⟩, ⟨(some 8), (.bin .sub (.t 7) (.c (.int .i64 1))), none⟩, ⟨(some 9), (.call (.f 141) [(.t 5), (.c (.int .i64 0)), (.t 8)]), none⟩, ⟨(some 4), (.mv (.t 9)), none⟩]) .ret)), 10, [(.t 4)]⟩
theorem k_impl_isSet : compF Try.prog Try.f102 = some c_impl_isSet := by kernel_rfl

def pw (n : Nat) : Nat := 2 ^ n
theorem pw_le {n : Nat} (h : n ≤ 5) : 1 ≤ pw n ∧ pw n ≤ 32 := by
  match n, h with
  | 0, _ | 1, _ | 2, _ | 3, _ | 4, _ | 5, _ => decide
theorem shl1 {n : Nat} (h : n ≤ 5) : (1 : Int) * 2 ^ (min n IntKind.i64.bits) = (pw n : Int) := by
  match n, h with
  | 0, _ | 1, _ | 2, _ | 3, _ | 4, _ | 5, _ => decide
theorem bitf (s : Int) (i : Nat) : bitv .and .i64 (s.fdiv (2 ^ (min i IntKind.i64.bits))) 1 = bitI s i := rfl
def inSet (n : Nat) (s : Int) : Bool := decide (0 ≤ s ∧ s ≤ (pw n : Int) - 1)
theorem impl_has (s : Int) (i : Nat) (h : AH) (n : Nat) : Q Try.prog 107 [.int .i64 s, .int .i64 i] h n (.bool (hasB s i)) := by
  refine q_intro Try.func107 k_impl_has ?_
  simp (maxSteps := 2000000) -implicitDefEqProofs (disch := omega) only [c_impl_has, bitf, xsW, xsC, if_true, if_false, ite_true, ite_false, forall_const, ne_eq, beq_self_eq_true, bne_self_eq_false, imp_self, true_implies, false_implies, implies_true, evP, evE, ev, setD, Nat.reduceAdd, Nat.reduceSub, reduceCtorEq, fillA, cutA, Nat.reduceLeDiff, Nat.reduceMul, Int.reduceLT, Int.reduceLE, Int.reduceEq, Int.reduceNe, Int.reduceAdd, Int.reduceSub, Int.reduceMul, Int.reduceNeg, Int.reduceToNat]
  rfl
theorem impl_isSet (s : Int) (N : Nat) (hN : N ≤ 5) (h : AH) (n : Nat) : Q Try.prog 102 [.int .i64 s, .int .i64 N] h n (.bool (inSet N s)) := by
  refine q_intro Try.func102 k_impl_isSet ?_
  have hp := pw_le hN
  simp (maxSteps := 2000000) -implicitDefEqProofs (disch := omega) only [c_impl_isSet, shl1, xsW, xsC, if_true, if_false, ite_true, ite_false, forall_const, ne_eq, beq_self_eq_true, bne_self_eq_false, imp_self, true_implies, false_implies, implies_true, evP, evE, ev, setD, Nat.reduceAdd, Nat.reduceSub, reduceCtorEq, fillA, cutA, Nat.reduceLeDiff, Nat.reduceMul, Int.reduceLT, Int.reduceLE, Int.reduceEq, Int.reduceNe, Int.reduceAdd, Int.reduceSub, Int.reduceMul, Int.reduceNeg, Int.reduceToNat]
  refine q_use (impl_within _ _ _ _ _) fun n1 hn1 => ?_
  simp (maxSteps := 2000000) -implicitDefEqProofs (disch := omega) only [xsW, xsC, if_true, if_false, ite_true, ite_false, forall_const, ne_eq, beq_self_eq_true, bne_self_eq_false, imp_self, true_implies, false_implies, implies_true, evP, evE, ev, setD, Nat.reduceAdd, Nat.reduceSub, reduceCtorEq, fillA, cutA, Nat.reduceLeDiff, Nat.reduceMul, Int.reduceLT, Int.reduceLE, Int.reduceEq, Int.reduceNe, Int.reduceAdd, Int.reduceSub, Int.reduceMul, Int.reduceNeg, Int.reduceToNat]
  rfl
def codeM (ll : List (List Int)) (l : List Int) : Int := if isMat ll = true then (if l.all (inSet ll.length) = true then 0 else 2) else 1
/-- The part as far as the row i. -/
def prt (ll : List (List Int)) (s t : Int) (i : Nat) : List (List Int) := (places s i).map fun r => (places t ll.length).map fun k => at2 ll r k
theorem prt_t {ll : List (List Int)} {s t : Int} {i : Nat} (h : hasB s i = true) : prt ll s t (i + 1) = prt ll s t i ++ [(places t ll.length).map fun k => at2 ll i k] := by simp [prt, places_succ, h]
theorem prt_f {ll : List (List Int)} {s t : Int} {i : Nat} (h : hasB s i = false) : prt ll s t (i + 1) = prt ll s t i := by simp [prt, places_succ, h]
theorem prt_len (ll : List (List Int)) (s t : Int) (i : Nat) : (prt ll s t i).length ≤ i := by simp only [prt, List.length_map]; exact places_len s i
def prw (ll : List (List Int)) (t : Int) (i k : Nat) : List Int := (places t k).map fun k => at2 ll i k
theorem prw_t {ll : List (List Int)} {t : Int} {i k : Nat} (h : hasB t k = true) : prw ll t i (k + 1) = prw ll t i k ++ [at2 ll i k] := by simp [prw, places_succ, h]
theorem prw_f {ll : List (List Int)} {t : Int} {i k : Nat} (h : hasB t k = false) : prw ll t i (k + 1) = prw ll t i k := by simp [prw, places_succ, h]
theorem prw_len (ll : List (List Int)) (t : Int) (i k : Nat) : (prw ll t i k).length ≤ k := by simp only [prw, List.length_map]; exact places_len t k
def minorOf (ll : List (List Int)) (a b : Int) : Int := det (places a ll.length).length (mx (partL ll a b))
theorem isMat_sq {ll : List (List Int)} (hm : isMat ll = true) : ll.length ≤ 5 ∧ Sq ll.length ll ∧ ∃ q, Lim q ll.length (mx ll) := by
  have h := (isMat_iff ll).1 hm
  refine ⟨h.2.1, ⟨rfl, fun k hk => (h.2.2 k hk).1⟩, 0, fun r c hr hc => ?_⟩
  have h1 := h.2.2 r hr
  have h2 := (within_iff _ _).1 h1.2 c (by omega)
  unfold mx at2
  split <;> omega
end Go.Proofs.Ytkpibnhddhdooab.L
