/- Contracts: pivots by minors, and the statement. -/
import Derived.Test.YtmjfekgbbjojdacA25
namespace Go.Proofs.Ytmjfekgbbjojdac.L
open Go
set_option linter.unusedSimpArgs false
set_option linter.unusedVariables false

def pivV (ll : List (List Int)) (q : List Int) (a b : Int) : Int × Int × Int :=
  if isProb ll q = true then (if inSet ll.length a = true ∧ inSet ll.length b = true then
    (if minorOf ll a a = 0 then (0, 0, 5) else (minorOf ll (bitv .xor .i64 a b) (bitv .xor .i64 a b), minorOf ll a a, 0)) else (0, 0, 2)) else (0, 0, 1)
section
variable {w : Bool} {lo hi : Nat} {h : AH} {v u : AV} {vs : List AV} {ll : List (List Int)} {q : List Int}
theorem impl_PivotMinor (s : Prob w lo hi h v u vs ll q) (hl : ll.length ≤ 1048576) (hll : ∀ l ∈ ll, l.length ≤ 1048576) (hq : q.length ≤ 1048576) (a b : Int) (n : Nat) (hn : hi ≤ n) :
    Q Try.prog 27 [.agg [v, u], .int .i64 a, .int .i64 b] h n (.tup [.int .i64 (pivV ll q a b).1, .int .i64 (pivV ll q a b).2.1, .int .i64 (pivV ll q a b).2.2]) := by
  refine q_intro Try.func27 k_impl_PivotMinor ?_
  have o1 := one_any (Sl.any s.M.out)
  have o2 := one_any (Sl.any s.Q)
  simp (maxSteps := 2000000) -implicitDefEqProofs (disch := omega) only [c_impl_PivotMinor, o1, o2, xsW, xsC, if_true, if_false, ite_true, ite_false, forall_const, ne_eq, beq_self_eq_true, bne_self_eq_false, imp_self, true_implies, false_implies, implies_true, evP, evE, ev, setD, Nat.reduceAdd, Nat.reduceSub, reduceCtorEq, fillA, cutA, Nat.reduceLeDiff, Nat.reduceMul, Int.reduceLT, Int.reduceLE, Int.reduceEq, Int.reduceNe, Int.reduceAdd, Int.reduceSub, Int.reduceMul, Int.reduceNeg, Int.reduceToNat]
  refine q_use (impl_IsProblem (s.keep (fun i _ hi9 => by simp (disch := omega) only [upd_other])) hl hll hq _ (by omega)) fun n1 hn1 => ?_
  cases hp : isProb ll q
  · simp (maxSteps := 2000000) -implicitDefEqProofs (disch := omega) only [xsW, xsC, if_true, if_false, ite_true, ite_false, forall_const, ne_eq, beq_self_eq_true, bne_self_eq_false, imp_self, true_implies, false_implies, implies_true, evP, evE, ev, setD, Nat.reduceAdd, Nat.reduceSub, reduceCtorEq, fillA, cutA, Nat.reduceLeDiff, Nat.reduceMul, Int.reduceLT, Int.reduceLE, Int.reduceEq, Int.reduceNe, Int.reduceAdd, Int.reduceSub, Int.reduceMul, Int.reduceNeg, Int.reduceToNat]
    simp [pivV, hp]
  · obtain ⟨hm, hlq, _⟩ := isProb_facts hp
    obtain ⟨hN, hs, hlim⟩ := isMat_sq hm
    have sM := s.M.keep (h' := upd h n (some ⟨29, [v, u], true, 0⟩)) (fun i _ hi9 => by simp (disch := omega) only [upd_other])
    simp (maxSteps := 2000000) -implicitDefEqProofs (disch := omega) only [xsW, xsC, if_true, if_false, ite_true, ite_false, forall_const, ne_eq, beq_self_eq_true, bne_self_eq_false, imp_self, true_implies, false_implies, implies_true, evP, evE, ev, setD, Nat.reduceAdd, Nat.reduceSub, reduceCtorEq, fillA, cutA, Nat.reduceLeDiff, Nat.reduceMul, Int.reduceLT, Int.reduceLE, Int.reduceEq, Int.reduceNe, Int.reduceAdd, Int.reduceSub, Int.reduceMul, Int.reduceNeg, Int.reduceToNat,  s.Q.ln, hlq]
    refine q_use (impl_isSet _ _ hN _ _) fun n2 hn2 => ?_
    cases ha : inSet ll.length a
    · simp (maxSteps := 2000000) -implicitDefEqProofs (disch := omega) only [xsW, xsC, if_true, if_false, ite_true, ite_false, forall_const, ne_eq, beq_self_eq_true, bne_self_eq_false, imp_self, true_implies, false_implies, implies_true, evP, evE, ev, setD, Nat.reduceAdd, Nat.reduceSub, reduceCtorEq, fillA, cutA, Nat.reduceLeDiff, Nat.reduceMul, Int.reduceLT, Int.reduceLE, Int.reduceEq, Int.reduceNe, Int.reduceAdd, Int.reduceSub, Int.reduceMul, Int.reduceNeg, Int.reduceToNat]
      simp [pivV, hp, ha]
    · simp (maxSteps := 2000000) -implicitDefEqProofs (disch := omega) only [xsW, xsC, if_true, if_false, ite_true, ite_false, forall_const, ne_eq, beq_self_eq_true, bne_self_eq_false, imp_self, true_implies, false_implies, implies_true, evP, evE, ev, setD, Nat.reduceAdd, Nat.reduceSub, reduceCtorEq, fillA, cutA, Nat.reduceLeDiff, Nat.reduceMul, Int.reduceLT, Int.reduceLE, Int.reduceEq, Int.reduceNe, Int.reduceAdd, Int.reduceSub, Int.reduceMul, Int.reduceNeg, Int.reduceToNat,  s.Q.ln, hlq]
      refine q_use (impl_isSet _ _ hN _ _) fun n3 hn3 => ?_
      cases hb : inSet ll.length b
      · simp (maxSteps := 2000000) -implicitDefEqProofs (disch := omega) only [xsW, xsC, if_true, if_false, ite_true, ite_false, forall_const, ne_eq, beq_self_eq_true, bne_self_eq_false, imp_self, true_implies, false_implies, implies_true, evP, evE, ev, setD, Nat.reduceAdd, Nat.reduceSub, reduceCtorEq, fillA, cutA, Nat.reduceLeDiff, Nat.reduceMul, Int.reduceLT, Int.reduceLE, Int.reduceEq, Int.reduceNe, Int.reduceAdd, Int.reduceSub, Int.reduceMul, Int.reduceNeg, Int.reduceToNat]
        simp [pivV, hp, ha, hb]
      · simp (maxSteps := 2000000) -implicitDefEqProofs (disch := omega) only [xsW, xsC, if_true, if_false, ite_true, ite_false, forall_const, ne_eq, beq_self_eq_true, bne_self_eq_false, imp_self, true_implies, false_implies, implies_true, evP, evE, ev, setD, Nat.reduceAdd, Nat.reduceSub, reduceCtorEq, fillA, cutA, Nat.reduceLeDiff, Nat.reduceMul, Int.reduceLT, Int.reduceLE, Int.reduceEq, Int.reduceNe, Int.reduceAdd, Int.reduceSub, Int.reduceMul, Int.reduceNeg, Int.reduceToNat]
        refine q_use (impl_minor sM hN hs hlim a n3 (by omega)) fun n4 hn4 => ?_
        simp (maxSteps := 2000000) -implicitDefEqProofs (disch := omega) only [xsW, xsC, if_true, if_false, ite_true, ite_false, forall_const, ne_eq, beq_self_eq_true, bne_self_eq_false, imp_self, true_implies, false_implies, implies_true, evP, evE, ev, setD, Nat.reduceAdd, Nat.reduceSub, reduceCtorEq, fillA, cutA, Nat.reduceLeDiff, Nat.reduceMul, Int.reduceLT, Int.reduceLE, Int.reduceEq, Int.reduceNe, Int.reduceAdd, Int.reduceSub, Int.reduceMul, Int.reduceNeg, Int.reduceToNat]
        (refine cd_dec (fun c1 => ?_) (fun c1 => ?_) <;> simp (maxSteps := 2000000) -implicitDefEqProofs (disch := omega) only [xsW, xsC, if_true, if_false, ite_true, ite_false, forall_const, ne_eq, beq_self_eq_true, bne_self_eq_false, imp_self, true_implies, false_implies, implies_true, evP, evE, ev, setD, Nat.reduceAdd, Nat.reduceSub, reduceCtorEq, fillA, cutA, Nat.reduceLeDiff, Nat.reduceMul, Int.reduceLT, Int.reduceLE, Int.reduceEq, Int.reduceNe, Int.reduceAdd, Int.reduceSub, Int.reduceMul, Int.reduceNeg, Int.reduceToNat,  c1])
        · simp [pivV, hp, ha, hb, c1]
        · refine q_use (impl_minor sM hN hs hlim _ n4 (by omega)) fun n5 hn5 => ?_
          simp (maxSteps := 2000000) -implicitDefEqProofs (disch := omega) only [xsW, xsC, if_true, if_false, ite_true, ite_false, forall_const, ne_eq, beq_self_eq_true, bne_self_eq_false, imp_self, true_implies, false_implies, implies_true, evP, evE, ev, setD, Nat.reduceAdd, Nat.reduceSub, reduceCtorEq, fillA, cutA, Nat.reduceLeDiff, Nat.reduceMul, Int.reduceLT, Int.reduceLE, Int.reduceEq, Int.reduceNe, Int.reduceAdd, Int.reduceSub, Int.reduceMul, Int.reduceNeg, Int.reduceToNat]
          simp [pivV, hp, ha, hb, c1]
theorem spec_PivotMinor (s : Prob w lo hi h v u vs ll q) (hl : ll.length ≤ 1048576) (hll : ∀ l ∈ ll, l.length ≤ 1048576) (hq : q.length ≤ 1048576) (a b : Int) (n : Nat) (hn : hi ≤ n) :
    Q Try.prog 26 [.agg [v, u], .int .i64 a, .int .i64 b] h n (.tup [.int .i64 (pivV ll q a b).1, .int .i64 (pivV ll q a b).2.1, .int .i64 (pivV ll q a b).2.2]) := by
  refine q_intro Try.func26 k_spec_PivotMinor ?_
  have o1 := one_any (Sl.any s.M.out)
  have o2 := one_any (Sl.any s.Q)
  simp (maxSteps := 2000000) -implicitDefEqProofs (disch := omega) only [c_spec_PivotMinor, o1, o2, xsW, xsC, if_true, if_false, ite_true, ite_false, forall_const, ne_eq, beq_self_eq_true, bne_self_eq_false, imp_self, true_implies, false_implies, implies_true, evP, evE, ev, setD, Nat.reduceAdd, Nat.reduceSub, reduceCtorEq, fillA, cutA, Nat.reduceLeDiff, Nat.reduceMul, Int.reduceLT, Int.reduceLE, Int.reduceEq, Int.reduceNe, Int.reduceAdd, Int.reduceSub, Int.reduceMul, Int.reduceNeg, Int.reduceToNat]
  refine q_use (spec_l02Code (s.keep (fun i _ hi9 => by simp (disch := omega) only [upd_other])) hl hll hq a _ (by omega)) fun n1 hn1 => ?_
  simp (maxSteps := 2000000) -implicitDefEqProofs (disch := omega) only [xsW, xsC, if_true, if_false, ite_true, ite_false, forall_const, ne_eq, beq_self_eq_true, bne_self_eq_false, imp_self, true_implies, false_implies, implies_true, evP, evE, ev, setD, Nat.reduceAdd, Nat.reduceSub, reduceCtorEq, fillA, cutA, Nat.reduceLeDiff, Nat.reduceMul, Int.reduceLT, Int.reduceLE, Int.reduceEq, Int.reduceNe, Int.reduceAdd, Int.reduceSub, Int.reduceMul, Int.reduceNeg, Int.reduceToNat]
  have fin : ∀ (x : Int) (n1 : Nat), n + 1 ≤ n1 → x = (if codeP ll q a = 0 then codeP ll q b else codeP ll q a) → (x = 0 → isProb ll q = true ∧ inSet ll.length a = true ∧ inSet ll.length b = true) ∧ (x ≠ 0 → pivV ll q a b = (0, 0, x)) := by
    intro x n1 _ hx
    refine ⟨fun h0 => ?_, fun h0 => ?_⟩
    · by_cases c : codeP ll q a = 0
      · rw [if_pos c] at hx
        have h1 := codeP_zero.1 c
        have h2 := codeP_zero.1 (hx.symm.trans h0)
        exact ⟨h1.1, h1.2, h2.2⟩
      · rw [if_neg c] at hx; omega
    · unfold codeP at hx
      unfold pivV
      cases hp : isProb ll q <;> cases ha : inSet ll.length a <;> cases hb : inSet ll.length b <;> simp [hp, ha, hb] at hx ⊢ <;> omega
  (refine cd_dec (fun c1 => ?_) (fun c1 => ?_) <;> simp (maxSteps := 2000000) -implicitDefEqProofs (disch := omega) only [xsW, xsC, if_true, if_false, ite_true, ite_false, forall_const, ne_eq, beq_self_eq_true, bne_self_eq_false, imp_self, true_implies, false_implies, implies_true, evP, evE, ev, setD, Nat.reduceAdd, Nat.reduceSub, reduceCtorEq, fillA, cutA, Nat.reduceLeDiff, Nat.reduceMul, Int.reduceLT, Int.reduceLE, Int.reduceEq, Int.reduceNe, Int.reduceAdd, Int.reduceSub, Int.reduceMul, Int.reduceNeg, Int.reduceToNat,  c1])
  · refine q_use (spec_l02Code (s.keep (fun i _ hi9 => by simp (disch := omega) only [upd_other])) hl hll hq b _ (by omega)) fun n2 hn2 => ?_
    simp (maxSteps := 2000000) -implicitDefEqProofs (disch := omega) only [xsW, xsC, if_true, if_false, ite_true, ite_false, forall_const, ne_eq, beq_self_eq_true, bne_self_eq_false, imp_self, true_implies, false_implies, implies_true, evP, evE, ev, setD, Nat.reduceAdd, Nat.reduceSub, reduceCtorEq, fillA, cutA, Nat.reduceLeDiff, Nat.reduceMul, Int.reduceLT, Int.reduceLE, Int.reduceEq, Int.reduceNe, Int.reduceAdd, Int.reduceSub, Int.reduceMul, Int.reduceNeg, Int.reduceToNat]
    have F := fin (codeP ll q b) n2 (by omega) (by rw [if_pos c1])
    (refine cd_dec (fun c2 => ?_) (fun c2 => ?_) <;> simp (maxSteps := 2000000) -implicitDefEqProofs (disch := omega) only [xsW, xsC, if_true, if_false, ite_true, ite_false, forall_const, ne_eq, beq_self_eq_true, bne_self_eq_false, imp_self, true_implies, false_implies, implies_true, evP, evE, ev, setD, Nat.reduceAdd, Nat.reduceSub, reduceCtorEq, fillA, cutA, Nat.reduceLeDiff, Nat.reduceMul, Int.reduceLT, Int.reduceLE, Int.reduceEq, Int.reduceNe, Int.reduceAdd, Int.reduceSub, Int.reduceMul, Int.reduceNeg, Int.reduceToNat,  c2])
    · simp [F.2 c2]
    · obtain ⟨hp, ha, hb⟩ := F.1 (Decidable.not_not.1 c2)
      obtain ⟨hm, hlq, _⟩ := isProb_facts hp
      obtain ⟨hN, hs, hlim⟩ := isMat_sq hm
      have sM := s.M.keep (h' := upd h n (some ⟨29, [v, u], true, 0⟩)) (fun i _ hi9 => by simp (disch := omega) only [upd_other])
      refine fq_use (spec_l01Part sM hN hs a a n2 (by omega)) fun v1 h1 n3 hn3 hs1 ⟨vs1, hv1⟩ => ?_
      simp (maxSteps := 2000000) -implicitDefEqProofs (disch := omega) only [xsW, xsC, if_true, if_false, ite_true, ite_false, forall_const, ne_eq, beq_self_eq_true, bne_self_eq_false, imp_self, true_implies, false_implies, implies_true, evP, evE, ev, setD, Nat.reduceAdd, Nat.reduceSub, reduceCtorEq, fillA, cutA, Nat.reduceLeDiff, Nat.reduceMul, Int.reduceLT, Int.reduceLE, Int.reduceEq, Int.reduceNe, Int.reduceAdd, Int.reduceSub, Int.reduceMul, Int.reduceNeg, Int.reduceToNat]
      refine q_use (spec_l01Det _ hv1 (by have := places_len a ll.length; omega) (partL_sq ll a a rfl) (by obtain ⟨q', hq'⟩ := hlim; exact partL_lim ll a a rfl hq') n3 (Nat.le_refl _)) fun n4 hn4 => ?_
      rw [show det (places a ll.length).length (mx (partL ll a a)) = minorOf ll a a from rfl]
      simp (maxSteps := 2000000) -implicitDefEqProofs (disch := omega) only [xsW, xsC, if_true, if_false, ite_true, ite_false, forall_const, ne_eq, beq_self_eq_true, bne_self_eq_false, imp_self, true_implies, false_implies, implies_true, evP, evE, ev, setD, Nat.reduceAdd, Nat.reduceSub, reduceCtorEq, fillA, cutA, Nat.reduceLeDiff, Nat.reduceMul, Int.reduceLT, Int.reduceLE, Int.reduceEq, Int.reduceNe, Int.reduceAdd, Int.reduceSub, Int.reduceMul, Int.reduceNeg, Int.reduceToNat]
      (refine cd_dec (fun c3 => ?_) (fun c3 => ?_) <;> simp (maxSteps := 2000000) -implicitDefEqProofs (disch := omega) only [xsW, xsC, if_true, if_false, ite_true, ite_false, forall_const, ne_eq, beq_self_eq_true, bne_self_eq_false, imp_self, true_implies, false_implies, implies_true, evP, evE, ev, setD, Nat.reduceAdd, Nat.reduceSub, reduceCtorEq, fillA, cutA, Nat.reduceLeDiff, Nat.reduceMul, Int.reduceLT, Int.reduceLE, Int.reduceEq, Int.reduceNe, Int.reduceAdd, Int.reduceSub, Int.reduceMul, Int.reduceNeg, Int.reduceToNat,  c3])
      · simp [pivV, hp, ha, hb, c3]
      · have hbox : h1 n = some ⟨29, [v, u], true, 0⟩ := by rw [hs1 n (by omega), upd_same]
        simp (maxSteps := 2000000) -implicitDefEqProofs (disch := omega) only [xsW, xsC, if_true, if_false, ite_true, ite_false, forall_const, ne_eq, beq_self_eq_true, bne_self_eq_false, imp_self, true_implies, false_implies, implies_true, evP, evE, ev, setD, Nat.reduceAdd, Nat.reduceSub, reduceCtorEq, fillA, cutA, Nat.reduceLeDiff, Nat.reduceMul, Int.reduceLT, Int.reduceLE, Int.reduceEq, Int.reduceNe, Int.reduceAdd, Int.reduceSub, Int.reduceMul, Int.reduceNeg, Int.reduceToNat,  hbox]
        refine fq_use (spec_l01Part (sM.keep (h' := h1) (fun i _ hi9 => by simp (disch := omega) only [upd_other, hs1])) hN hs (bitv .xor .i64 a b) (bitv .xor .i64 a b) n4 (by omega)) fun v2 h2 n5 hn5 hs2 ⟨vs2, hv2⟩ => ?_
        simp (maxSteps := 2000000) -implicitDefEqProofs (disch := omega) only [xsW, xsC, if_true, if_false, ite_true, ite_false, forall_const, ne_eq, beq_self_eq_true, bne_self_eq_false, imp_self, true_implies, false_implies, implies_true, evP, evE, ev, setD, Nat.reduceAdd, Nat.reduceSub, reduceCtorEq, fillA, cutA, Nat.reduceLeDiff, Nat.reduceMul, Int.reduceLT, Int.reduceLE, Int.reduceEq, Int.reduceNe, Int.reduceAdd, Int.reduceSub, Int.reduceMul, Int.reduceNeg, Int.reduceToNat]
        refine q_use (spec_l01Det _ hv2 (by have := places_len (bitv .xor .i64 a b) ll.length; omega) (partL_sq ll _ _ rfl) (by obtain ⟨q', hq'⟩ := hlim; exact partL_lim ll _ _ rfl hq') n5 (Nat.le_refl _)) fun n6 hn6 => ?_
        rw [show det (places (bitv .xor .i64 a b) ll.length).length (mx (partL ll (bitv .xor .i64 a b) (bitv .xor .i64 a b))) = minorOf ll (bitv .xor .i64 a b) (bitv .xor .i64 a b) from rfl]
        simp (maxSteps := 2000000) -implicitDefEqProofs (disch := omega) only [xsW, xsC, if_true, if_false, ite_true, ite_false, forall_const, ne_eq, beq_self_eq_true, bne_self_eq_false, imp_self, true_implies, false_implies, implies_true, evP, evE, ev, setD, Nat.reduceAdd, Nat.reduceSub, reduceCtorEq, fillA, cutA, Nat.reduceLeDiff, Nat.reduceMul, Int.reduceLT, Int.reduceLE, Int.reduceEq, Int.reduceNe, Int.reduceAdd, Int.reduceSub, Int.reduceMul, Int.reduceNeg, Int.reduceToNat]
        simp [pivV, hp, ha, hb, c3]
  · have F := fin (codeP ll q a) n1 (by omega) (by rw [if_neg c1])
    simp [F.2 c1]
end
set_option maxHeartbeats 2000000 in
theorem laws_PivotMinor {h : AH} {w_p : Bool} {lo_p hi_p : Nat} {v_p u_p : AV} {vs_p : List AV} {p : List (List Int)} {q_p : List Int} (s_p : Prob w_p lo_p hi_p h v_p u_p vs_p p q_p) (hl_p : p.length ≤ 9223372036854775807) (hll_p : ∀ l ∈ p, l.length ≤ 9223372036854775807) (hlq_p : q_p.length ≤ 9223372036854775807) (a : Int) (w_a : in64 a) (b : Int) (w_b : in64 b) (n : Nat) (hn_p : hi_p ≤ n) :
    Q Try.prog 5 [.agg [v_p, u_p], .int .i64 a, .int .i64 b] h n (.bool true) := by
  refine q_intro Try.func5 k_laws_FnExactPivotMinor ?_
  have o1 := one_any (Sl.any s_p.M.out)
  have oq1 := sto_any (Sl.any s_p.M.out)
  have oc1 := cel_any (Sl.any s_p.M.out)
  have o2 := one_any (Sl.any s_p.Q)
  have oq2 := sto_any (Sl.any s_p.Q)
  have oc2 := cel_any (Sl.any s_p.Q)
  simp (maxSteps := 2000000) -implicitDefEqProofs (disch := omega) only [c_laws_FnExactPivotMinor, o1, oq1, oc1, o2, oq2, oc2, xsW, xsC, if_true, if_false, ite_true, ite_false, forall_const, ne_eq, beq_self_eq_true, bne_self_eq_false, imp_self, true_implies, false_implies, implies_true, evP, evE, ev, setD, Nat.reduceAdd, Nat.reduceSub, reduceCtorEq, fillA, cutA, Nat.reduceLeDiff, Nat.reduceMul, Int.reduceLT, Int.reduceLE, Int.reduceEq, Int.reduceNe, Int.reduceAdd, Int.reduceSub, Int.reduceMul, Int.reduceNeg, Int.reduceToNat]
  refine q_use_ex (laws_szProblem (s_p.keep (fun i _ hi9 => by simp (disch := omega) only [upd_other])) hl_p hll_p hlq_p 1048576 (by omega) (by omega) _ (by omega)) fun rz3 n3 hn3 ⟨hr3a, hr3b, hr3c⟩ => ?_
  simp (maxSteps := 2000000) -implicitDefEqProofs (disch := omega) only [xsW, xsC, if_true, if_false, ite_true, ite_false, forall_const, ne_eq, beq_self_eq_true, bne_self_eq_false, imp_self, true_implies, false_implies, implies_true, evP, evE, ev, setD, Nat.reduceAdd, Nat.reduceSub, reduceCtorEq, fillA, cutA, Nat.reduceLeDiff, Nat.reduceMul, Int.reduceLT, Int.reduceLE, Int.reduceEq, Int.reduceNe, Int.reduceAdd, Int.reduceSub, Int.reduceMul, Int.reduceNeg, Int.reduceToNat,  o1, oq1, oc1, o2, oq2, oc2]
  (refine cd_dec (fun cz3 => ?_) (fun cz3 => ?_) <;> simp (maxSteps := 2000000) -implicitDefEqProofs (disch := omega) only [xsW, xsC, if_true, if_false, ite_true, ite_false, forall_const, ne_eq, beq_self_eq_true, bne_self_eq_false, imp_self, true_implies, false_implies, implies_true, evP, evE, ev, setD, Nat.reduceAdd, Nat.reduceSub, reduceCtorEq, fillA, cutA, Nat.reduceLeDiff, Nat.reduceMul, Int.reduceLT, Int.reduceLE, Int.reduceEq, Int.reduceNe, Int.reduceAdd, Int.reduceSub, Int.reduceMul, Int.reduceNeg, Int.reduceToNat,  cz3])
  obtain ⟨hb_p, hbb_p⟩ := sz_len2 (by omega) (fun h0 => (hr3c h0).1) cz3
  have hbq_p : q_p.length ≤ 1048576 := by have := (hr3c (by omega)).2; omega
  refine fq_use (laws_toProblem (s_p.keep (fun i _ hi9 => by simp (disch := omega) only [upd_other])) hb_p hbb_p hbq_p _ (by omega)) fun x4 h4 n4 hn4 hs4 ⟨v4, u4, vs4, hx4, hv4⟩ => ?_
  subst hx4
  have o5 := one_any (Sl.any hv4.M.out)
  have oq5 := sto_any (Sl.any hv4.M.out)
  have oc5 := cel_any (Sl.any hv4.M.out)
  have o6 := one_any (Sl.any hv4.Q)
  have oq6 := sto_any (Sl.any hv4.Q)
  have oc6 := cel_any (Sl.any hv4.Q)
  simp (maxSteps := 2000000) -implicitDefEqProofs (disch := omega) only [xsW, xsC, if_true, if_false, ite_true, ite_false, forall_const, ne_eq, beq_self_eq_true, bne_self_eq_false, imp_self, true_implies, false_implies, implies_true, evP, evE, ev, setD, Nat.reduceAdd, Nat.reduceSub, reduceCtorEq, fillA, cutA, Nat.reduceLeDiff, Nat.reduceMul, Int.reduceLT, Int.reduceLE, Int.reduceEq, Int.reduceNe, Int.reduceAdd, Int.reduceSub, Int.reduceMul, Int.reduceNeg, Int.reduceToNat,  o1, oq1, oc1, o2, oq2, oc2, o5, oq5, oc5, o6, oq6, oc6, hs4]
  refine q_use (spec_PivotMinor (hv4.keep (fun i _ hi9 => by simp (disch := omega) only [upd_other, hs4])) hb_p hbb_p hbq_p a b _ (by omega)) fun n7 hn7 => ?_
  simp (maxSteps := 2000000) -implicitDefEqProofs (disch := omega) only [xsW, xsC, if_true, if_false, ite_true, ite_false, forall_const, ne_eq, beq_self_eq_true, bne_self_eq_false, imp_self, true_implies, false_implies, implies_true, evP, evE, ev, setD, Nat.reduceAdd, Nat.reduceSub, reduceCtorEq, fillA, cutA, Nat.reduceLeDiff, Nat.reduceMul, Int.reduceLT, Int.reduceLE, Int.reduceEq, Int.reduceNe, Int.reduceAdd, Int.reduceSub, Int.reduceMul, Int.reduceNeg, Int.reduceToNat,  o1, oq1, oc1, o2, oq2, oc2, o5, oq5, oc5, o6, oq6, oc6, hs4]
  refine fq_use (laws_toProblem (s_p.keep (fun i _ hi9 => by simp (disch := omega) only [upd_other, hs4])) hb_p hbb_p hbq_p _ (by omega)) fun x8 h8 n8 hn8 hs8 ⟨v8, u8, vs8, hx8, hv8⟩ => ?_
  subst hx8
  have o9 := one_any (Sl.any hv8.M.out)
  have oq9 := sto_any (Sl.any hv8.M.out)
  have oc9 := cel_any (Sl.any hv8.M.out)
  have o10 := one_any (Sl.any hv8.Q)
  have oq10 := sto_any (Sl.any hv8.Q)
  have oc10 := cel_any (Sl.any hv8.Q)
  simp (maxSteps := 2000000) -implicitDefEqProofs (disch := omega) only [xsW, xsC, if_true, if_false, ite_true, ite_false, forall_const, ne_eq, beq_self_eq_true, bne_self_eq_false, imp_self, true_implies, false_implies, implies_true, evP, evE, ev, setD, Nat.reduceAdd, Nat.reduceSub, reduceCtorEq, fillA, cutA, Nat.reduceLeDiff, Nat.reduceMul, Int.reduceLT, Int.reduceLE, Int.reduceEq, Int.reduceNe, Int.reduceAdd, Int.reduceSub, Int.reduceMul, Int.reduceNeg, Int.reduceToNat,  o1, oq1, oc1, o2, oq2, oc2, o5, oq5, oc5, o6, oq6, oc6, o9, oq9, oc9, o10, oq10, oc10, hs8, hs4]
  refine q_use (impl_PivotMinor (hv8.keep (fun i _ hi9 => by simp (disch := omega) only [upd_other, hs8, hs4])) hb_p hbb_p hbq_p a b _ (by omega)) fun n11 hn11 => ?_
  simp (maxSteps := 2000000) -implicitDefEqProofs (disch := omega) only [xsW, xsC, if_true, if_false, ite_true, ite_false, forall_const, ne_eq, beq_self_eq_true, bne_self_eq_false, imp_self, true_implies, false_implies, implies_true, evP, evE, ev, setD, Nat.reduceAdd, Nat.reduceSub, reduceCtorEq, fillA, cutA, Nat.reduceLeDiff, Nat.reduceMul, Int.reduceLT, Int.reduceLE, Int.reduceEq, Int.reduceNe, Int.reduceAdd, Int.reduceSub, Int.reduceMul, Int.reduceNeg, Int.reduceToNat,  o1, oq1, oc1, o2, oq2, oc2, o5, oq5, oc5, o6, oq6, oc6, o9, oq9, oc9, o10, oq10, oc10, hs8, hs4]
  refine fq_use (laws_toProblem (s_p.keep (fun i _ hi9 => by simp (disch := omega) only [upd_other, hs8, hs4])) hb_p hbb_p hbq_p _ (by omega)) fun x12 h12 n12 hn12 hs12 ⟨v12, u12, vs12, hx12, hv12⟩ => ?_
  subst hx12
  have o13 := one_any (Sl.any hv12.M.out)
  have oq13 := sto_any (Sl.any hv12.M.out)
  have oc13 := cel_any (Sl.any hv12.M.out)
  have o14 := one_any (Sl.any hv12.Q)
  have oq14 := sto_any (Sl.any hv12.Q)
  have oc14 := cel_any (Sl.any hv12.Q)
  simp (maxSteps := 2000000) -implicitDefEqProofs (disch := omega) only [xsW, xsC, if_true, if_false, ite_true, ite_false, forall_const, ne_eq, beq_self_eq_true, bne_self_eq_false, imp_self, true_implies, false_implies, implies_true, evP, evE, ev, setD, Nat.reduceAdd, Nat.reduceSub, reduceCtorEq, fillA, cutA, Nat.reduceLeDiff, Nat.reduceMul, Int.reduceLT, Int.reduceLE, Int.reduceEq, Int.reduceNe, Int.reduceAdd, Int.reduceSub, Int.reduceMul, Int.reduceNeg, Int.reduceToNat,  o1, oq1, oc1, o2, oq2, oc2, o5, oq5, oc5, o6, oq6, oc6, o9, oq9, oc9, o10, oq10, oc10, o13, oq13, oc13, o14, oq14, oc14, hs12, hs8, hs4]
  refine q_use (laws_eqProblem (hv8.keep (fun i _ hi9 => by simp (disch := omega) only [upd_other, hs12, hs8, hs4])) (hv12.keep (fun i _ hi9 => by simp (disch := omega) only [upd_other, hs12, hs8, hs4])) hb_p hbb_p hbq_p _ (by omega) (by omega)) fun n15 hn15 => ?_
  simp (maxSteps := 2000000) -implicitDefEqProofs (disch := omega) only [xsW, xsC, if_true, if_false, ite_true, ite_false, forall_const, ne_eq, beq_self_eq_true, bne_self_eq_false, imp_self, true_implies, false_implies, implies_true, evP, evE, ev, setD, Nat.reduceAdd, Nat.reduceSub, reduceCtorEq, fillA, cutA, Nat.reduceLeDiff, Nat.reduceMul, Int.reduceLT, Int.reduceLE, Int.reduceEq, Int.reduceNe, Int.reduceAdd, Int.reduceSub, Int.reduceMul, Int.reduceNeg, Int.reduceToNat,  o1, oq1, oc1, o2, oq2, oc2, o5, oq5, oc5, o6, oq6, oc6, o9, oq9, oc9, o10, oq10, oc10, o13, oq13, oc13, o14, oq14, oc14, hs12, hs8, hs4]
end Go.Proofs.Ytmjfekgbbjojdac.L
