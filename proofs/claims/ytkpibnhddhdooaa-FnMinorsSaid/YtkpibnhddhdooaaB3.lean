/- Contracts: determinants by elimination (the program's). -/
import Derived.Test.YtkpibnhddhdooaaB2
namespace Go.Proofs.Ytkpibnhddhdooaa.L
open Go
set_option linter.unusedSimpArgs false
set_option linter.unusedVariables false
def c_impl_determinant : F := ⟨(.seq (.reg false [⟨(some 2), (.mv (.c (.int .i64 0))), none⟩]) (.seq (.reg false [⟨(some 12), (.mv (.t 0)), none⟩, ⟨(some 13), (.call (.f 87) [(.t 12)]), none⟩, ⟨(some 3), (.mv (.t 13)), none⟩]) (.seq (.reg false [⟨(some 4), (.mv (.c (.int .i64 1))), none⟩, ⟨(some 5), (.mv (.c (.int .i64 1))), none⟩]) (.seq (.seq (.reg false [⟨(some 14), (.mv (.t 3)), none⟩, ⟨(some 15), (.len (.t 14)), none⟩, ⟨(some 16), (.mv (.c (.int .i64 0))), none⟩]) (.block 0 (.loop (.seq (.reg false [⟨(some 17), (.bin .lss (.t 16) (.t 15)), none⟩]) (.seq (.cond (.t 17) .skip (.exit 0)) (.seq (.block 1 (.seq (.reg false [⟨(some 18), (.mv (.t 16)), none⟩, ⟨(some 6), (.alloc 3 [(.int .i64 0)]), none⟩, ⟨none, (.st 1 (.t 6) (.t 18)), none⟩]) (.seq (.reg false [⟨(some 19), (.mv (.t 3)), none⟩, ⟨(some 20), (.ld1 (.t 6)), none⟩, ⟨(some 21), (.slc 1 (.t 19) (some (.t 20)) none none), none⟩, ⟨(some 22), (.mkf 117 [(.t 6)]), none⟩, ⟨(some 23), (.call (.f 116) [(.t 21), (.t 22)]), none⟩, ⟨(some 7), (.mv (.t 23)), none⟩]) (.seq (.seq (.reg false [⟨(some 24), (.mv (.t 7)), none⟩, ⟨(some 25), (.bin .lss (.t 24) (.c (.int .i64 0))), none⟩]) (.cond (.t 25) (.seq (.reg false [⟨(some 2), (.mv (.c (.int .i64 0))), none⟩]) .ret) .skip)) (.seq (.seq (.reg false [⟨(some 26), (.mv (.t 7)), none⟩, ⟨(some 27), (.bin .gtr (.t 26) (.c (.int .i64 0))), none⟩]) (.cond (.t 27) (.seq (.seq (.reg true [⟨(some 28), (.mv (.t 3)), none⟩, ⟨(some 29), (.ld1 (.t 6)), none⟩, ⟨(some 30), (.mv (.t 3)), none⟩, ⟨(some 31), (.ld1 (.t 6)), none⟩, ⟨(some 32), (.mv (.t 7)), none⟩, ⟨(some 33), (.bin .add (.t 31) (.t 32)), none⟩, ⟨(some 34), (.mv (.t 3)), none⟩, ⟨(some 35), (.ld1 (.t 6)), none⟩, ⟨(some 36), (.mv (.t 7)), none⟩, ⟨(some 37), (.bin .add (.t 35) (.t 36)), none⟩, ⟨(some 38), (.ia 1 (.t 34) (.t 37)), none⟩, ⟨(some 39), (.ld1 (.t 38)), none⟩, ⟨(some 40), (.mv (.t 3)), none⟩, ⟨(some 41), (.ld1 (.t 6)), none⟩, ⟨(some 42), (.ia 1 (.t 40) (.t 41)), none⟩, ⟨(some 43), (.ld1 (.t 42)), none⟩, ⟨(some 44), (.ia 1 (.t 28) (.t 29)), none⟩, ⟨none, (.st 1 (.t 44) (.t 39)), none⟩, ⟨(some 45), (.ia 1 (.t 30) (.t 33)), none⟩, ⟨none, (.st 1 (.t 45) (.t 43)), none⟩]) (.chk [((.t 44), (.t 6))])) (.reg false [⟨(some 46), (.mv (.t 5)), none⟩, ⟨(some 47), (.un .neg (.t 46)), none⟩, ⟨(some 5), (.mv (.t 47)), none⟩])) .skip)) (.seq (.seq (.reg false [⟨(some 48), (.mv (.t 3)), none⟩, ⟨(some 49), (.ld1 (.t 6)), none⟩, ⟨(some 50), (.bin .add (.t 49) (.c (.int .i64 1))), none⟩, ⟨(some 51), (.slc 1 (.t 48) (some (.t 50)) none none), none⟩, ⟨(some 52), (.len (.t 51)), none⟩, ⟨(some 53), (.mv (.c (.int .i64 0))), none⟩]) (.block 2 (.loop (.seq (.reg false [⟨(some 54), (.bin .lss (.t 53) (.t 52)), none⟩]) (.seq (.cond (.t 54) .skip (.exit 2)) (.seq (.block 3 (.seq (.reg false [⟨(some 55), (.ia 1 (.t 51) (.t 53)), none⟩, ⟨(some 56), (.ld1 (.t 55)), none⟩, ⟨(some 9), (.mv (.t 56)), none⟩]) (.seq (.reg false [⟨(some 57), (.mv (.t 9)), none⟩, ⟨(some 58), (.ld1 (.t 6)), none⟩, ⟨(some 59), (.ia 1 (.t 57) (.t 58)), none⟩, ⟨(some 60), (.ld1 (.t 59)), none⟩, ⟨(some 10), (.mv (.t 60)), none⟩]) (.seq (.reg false [⟨(some 61), (.ld1 (.t 6)), none⟩, ⟨(some 11), (.mv (.t 61)), none⟩]) (.block 4 (.loop (.seq (.seq (.reg false [⟨(some 62), (.mv (.t 11)), none⟩, ⟨(some 63), (.mv (.t 9)), none⟩, ⟨(some 64), (.len (.t 63)), none⟩, ⟨(some 65), (.bin .lss (.t 62) (.t 64)), none⟩]) (.cond (.t 65) .skip (.exit 4))) (.seq (.block 5 (.reg true [⟨(some 68), (.mv (.t 9)), none⟩, ⟨(some 69), (.mv (.t 11)), none⟩, ⟨(some 70), (.mv (.t 9)), none⟩, ⟨(some 71), (.mv (.t 11)), none⟩, ⟨(some 72), (.ia 1 (.t 70) (.t 71)), none⟩, ⟨(some 73), (.ld1 (.t 72)), none⟩, ⟨(some 74), (.mv (.t 3)), none⟩, ⟨(some 75), (.ld1 (.t 6)), none⟩, ⟨(some 76), (.ia 1 (.t 74) (.t 75)), none⟩, ⟨(some 77), (.ld1 (.t 76)), none⟩, ⟨(some 78), (.ld1 (.t 6)), none⟩, ⟨(some 79), (.ia 1 (.t 77) (.t 78)), none⟩, ⟨(some 80), (.ld1 (.t 79)), none⟩, ⟨(some 81), (.bin .mul (.t 73) (.t 80)), none⟩, ⟨(some 82), (.mv (.t 10)), none⟩, ⟨(some 83), (.mv (.t 3)), none⟩, ⟨(some 84), (.ld1 (.t 6)), none⟩, ⟨(some 85), (.ia 1 (.t 83) (.t 84)), none⟩, ⟨(some 86), (.ld1 (.t 85)), none⟩, ⟨(some 87), (.mv (.t 11)), none⟩, ⟨(some 88), (.ia 1 (.t 86) (.t 87)), none⟩, ⟨(some 89), (.ld1 (.t 88)), none⟩, ⟨(some 90), (.bin .mul (.t 82) (.t 89)), none⟩, ⟨(some 91), (.bin .sub (.t 81) (.t 90)), none⟩, ⟨(some 92), (.mv (.t 4)), none⟩, ⟨(some 93), (.bin .quo (.t 91) (.t 92)), none⟩, ⟨(some 94), (.ia 1 (.t 68) (.t 69)), none⟩, ⟨none, (.st 1 (.t 94) (.t 93)), none⟩])) (.reg false [⟨(some 66), (.mv (.t 11)), none⟩, ⟨(some 67), (.bin .add (.t 66) (.c (.int .i64 1))), none⟩, ⟨(some 11), (.mv (.t 67)), none⟩]))))))))) (.reg false [⟨(some 95), (.bin .add (.t 53) (.c (.int .i64 1))), none⟩, ⟨(some 53), (.mv (.t 95)), none⟩]))))))) (.reg true [⟨(some 96), (.mv (.t 3)), none⟩, ⟨(some 97), (.ld1 (.t 6)), none⟩, ⟨(some 98), (.ia 1 (.t 96) (.t 97)), none⟩, ⟨(some 99), (.ld1 (.t 98)), none⟩, ⟨(some 100), (.ld1 (.t 6)), none⟩, ⟨(some 101), (.ia 1 (.t 99) (.t 100)), none⟩, ⟨(some 102), (.ld1 (.t 101)), none⟩, ⟨(some 4), (.mv (.t 102)), none⟩]))))))) (.reg false [⟨(some 103), (.bin .add (.t 16) (.c (.int .i64 1))), none⟩, ⟨(some 16), (.mv (.t 103)), none⟩]))))))) (.seq (.reg false [⟨(some 104), (.mv (.t 5)), none⟩, ⟨(some 105), (.mv (.t 4)), none⟩, ⟨(some 106), (.bin .mul (.t 104) (.t 105)), none⟩, ⟨(some 2), (.mv (.t 106)), none⟩]) .ret))))), 107, [(.t 2)]⟩
theorem k_impl_determinant : compF Try.prog Try.f71 = some c_impl_determinant := by kernel_rfl
def c_impl_determinant_1 : F := ⟨(.seq (.reg false [⟨(some 3), (.mv (.c (.bool false))), none⟩]) (.seq (.reg false [⟨(some 4), (.mv (.t 0)), none⟩, ⟨(some 5), (.ld1 (.t 1)), none⟩, ⟨(some 6), (.ia 1 (.t 4) (.t 5)), none⟩, ⟨(some 7), (.ld1 (.t 6)), none⟩, ⟨(some 8), (.bin .neq (.t 7) (.c (.int .i64 0))), none⟩, ⟨(some 3), (.mv (.t 8)), none⟩]) .ret)), 9, [(.t 3)]⟩
theorem k_impl_determinant_1 : compF Try.prog Try.f117 = some c_impl_determinant_1 := by kernel_rfl

/-- Two rows change their places. -/
def swL (ll : List (List Int)) (i j : Nat) : List (List Int) := (ll.set i (ll.getD j [])).set j (ll.getD i [])
theorem swL_len (ll : List (List Int)) (i j : Nat) : (swL ll i j).length = ll.length := by simp [swL]
theorem set2_get {α : Type} (l : List α) (d : α) (i j k : Nat) (hk : k < l.length) : ((l.set i (l.getD j d)).set j (l.getD i d)).getD k d = l.getD (swp i j k) d := by
  rw [getD_set, getD_set]
  simp only [List.length_set]
  unfold swp
  by_cases e1 : j = k
  · subst e1
    rw [if_pos ⟨rfl, hk⟩]
    by_cases e2 : j = i
    · subst e2; simp
    · rw [if_neg e2, if_pos rfl]
  · rw [if_neg fun h => e1 h.1]
    by_cases e2 : i = k
    · subst e2
      rw [if_pos ⟨rfl, hk⟩, if_pos rfl]
    · rw [if_neg fun h => e2 h.1, if_neg fun h => e2 h.symm, if_neg fun h => e1 h.symm]
theorem swL_get (ll : List (List Int)) (i j k : Nat) (hk : k < ll.length) : (swL ll i j).getD k [] = ll.getD (swp i j k) [] := set2_get ll [] i j k hk
theorem swp_lt {n i j k : Nat} (hi : i < n) (hj : j < n) (hk : k < n) : swp i j k < n := by unfold swp; split <;> (try split) <;> omega
theorem swp_inj {i j a b : Nat} (h : swp i j a = swp i j b) : a = b := by unfold swp at h; grind
theorem Rows.swap {lo hi : Nat} {h h2 : AH} {v : AV} {vs vs' : List AV} {ll : List (List Int)} (s : Rows true lo hi h v vs ll) {i j : Nat} (hi' : i < ll.length) (hj : j < ll.length) (hout : Sl true lo hi h2 1 v vs') (hh : ∀ k, k ≠ bid v → h2 k = h k)
    (hv : ∀ k, k < ll.length → vs'.getD k .any = vs.getD (swp i j k) .any) (hvl : vs'.length = vs.length) : Rows true lo hi h2 v vs' (swL ll i j) := by
  refine ⟨hout, ⟨by rw [swL_len, hvl, s.len], fun k hk => ?_, fun _ a b ha hb hne h1 h2 => ?_⟩, fun _ k hk h1 => ?_⟩
  · rw [swL_len] at hk
    rw [hv k hk, swL_get _ _ _ _ hk]
    have := swp_lt hi' hj hk
    exact Sl.keep1 (s.row _ this) fun hs => hh _ (s.outer rfl _ this hs)
  · rw [swL_len] at ha hb
    rw [hv a ha] at h1 ⊢
    rw [hv b hb] at h2 ⊢
    exact s.rows.apart rfl _ _ (swp_lt hi' hj ha) (swp_lt hi' hj hb) (fun e => hne (swp_inj e)) h1 h2
  · rw [swL_len] at hk
    rw [hv k hk] at h1 ⊢
    exact s.outer rfl _ (swp_lt hi' hj hk) h1
theorem impl_determinant1 {w : Bool} {lo hi : Nat} {h : AH} {v : AV} {l : List Int} (s : Ints w lo hi h v l) {i b n : Nat} {op : Nat} {wr : Bool} {ty : Nat} (hb : h b = some ⟨ty, [.int .i64 i], wr, op⟩) (hi2 : i < l.length) :
    Q Try.prog 117 [v, .ptr b 0] h n (.bool (decide (¬ l.getD i 0 = 0))) := by
  refine q_intro Try.func117 k_impl_determinant_1 ?_
  simp (maxSteps := 2000000) -implicitDefEqProofs (disch := omega) only [c_impl_determinant_1, hb, s.ia, s.ld, xsW, xsC, if_true, if_false, ite_true, ite_false, forall_const, ne_eq, beq_self_eq_true, bne_self_eq_false, imp_self, true_implies, false_implies, implies_true, evP, evE, ev, setD, Nat.reduceAdd, Nat.reduceSub, reduceCtorEq, fillA, cutA, Nat.reduceLeDiff, Nat.reduceMul, Int.reduceLT, Int.reduceLE, Int.reduceEq, Int.reduceNe, Int.reduceAdd, Int.reduceSub, Int.reduceMul, Int.reduceNeg, Int.reduceToNat]
set_option maxHeartbeats 4000000 in
theorem impl_determinant (N : Nat) {lo hi : Nat} {h : AH} {v : AV} {vs : List AV} {ll : List (List Int)} (s : Rows true lo hi h v vs ll) (hN : N ≤ 5) (hs : Sq N ll) (hl : ∃ q, Lim q N (mx ll)) (n : Nat) (hn : hi ≤ n) :
    Q Try.prog 71 [v] h n (.int .i64 (det N (mx ll))) := by
  refine q_intro Try.func71 k_impl_determinant ?_
  have hL := hs.1
  simp (maxSteps := 2000000) -implicitDefEqProofs (disch := omega) only [c_impl_determinant, xsW, xsC, if_true, if_false, ite_true, ite_false, forall_const, ne_eq, beq_self_eq_true, bne_self_eq_false, imp_self, true_implies, false_implies, implies_true, evP, evE, ev, setD, Nat.reduceAdd, Nat.reduceSub, reduceCtorEq, fillA, cutA, Nat.reduceLeDiff, Nat.reduceMul, Int.reduceLT, Int.reduceLE, Int.reduceEq, Int.reduceNe, Int.reduceAdd, Int.reduceSub, Int.reduceMul, Int.reduceNeg, Int.reduceToNat]
  refine fq_use (impl_copyRows s (by omega) (fun l hm => by
    obtain ⟨k, hk, rfl⟩ := List.mem_iff_getElem.1 hm
    have := hs.2 k (by omega)
    simp [List.getD, hk] at this
    omega) n hn) fun o h0 n0 hn0 hs0 ⟨ws, ho⟩ => ?_
  simp (maxSteps := 2000000) -implicitDefEqProofs (disch := omega) only [xsW, xsC, if_true, if_false, ite_true, ite_false, forall_const, ne_eq, beq_self_eq_true, bne_self_eq_false, imp_self, true_implies, false_implies, implies_true, evP, evE, ev, setD, Nat.reduceAdd, Nat.reduceSub, reduceCtorEq, fillA, cutA, Nat.reduceLeDiff, Nat.reduceMul, Int.reduceLT, Int.reduceLE, Int.reduceEq, Int.reduceNe, Int.reduceAdd, Int.reduceSub, Int.reduceMul, Int.reduceNeg, Int.reduceToNat,  ho.ln]
  refine loop_for N 0 (fun i p => [v, .any, .int .i64 0, o, .int .i64 p.2.2.2.2.1, .int .i64 p.2.2.2.2.2, .any, .any, .any, .any, .any, .any, .any, .any, o, .int .i64 ll.length, .int .i64 i, .any, .any, .any, .any, .any, .any, .any, .any, .any, .any, .any, .any, .any, .any, .any, .any, .any, .any, .any, .any, .any, .any, .any, .any, .any, .any, .any, .any, .any, .any, .any, .any, .any, .any, .any, .any, .any, .any, .any, .any, .any, .any, .any, .any, .any, .any, .any, .any, .any, .any, .any, .any, .any, .any, .any, .any, .any, .any, .any, .any, .any, .any, .any, .any, .any, .any, .any, .any, .any, .any, .any, .any, .any, .any, .any, .any, .any, .any, .any, .any, .any, .any, .any, .any, .any, .any, .any, .any, .any, .any]) (fun _ (p : AH × List AV × List (List Int) × Mx × Int × Int) => p.1)
    (fun i p m => Rows true n n0 p.1 o p.2.1 p.2.2.1 ∧ Bare N i p.2.2.2.1 p.2.2.2.2.1 p.2.2.1 ∧ (p.2.2.2.2.2 = 1 ∨ p.2.2.2.2.2 = -1) ∧ p.2.2.2.2.2 * det N p.2.2.2.1 = det N (mx ll) ∧ (∀ j, j < n → p.1 j = h j) ∧ n0 ≤ m)
    (h0, ws, ll, mx ll, 1, 1) (Nat.zero_le _) ⟨ho, Bare.start hs hl, .inl rfl, by simp, hs0, Nat.le_refl _⟩ (by simp [LeL, Le1]) (fun _ _ h => h) ?_
  rintro i ⟨hp, ws1, ll1, R, last, turn⟩ m - hi1 hm ⟨sR1, b1, ht1, ht2, hold, hm0⟩
  simp only at sR1 b1 ht1 ht2 hold
  have hL1 := b1.sq.1
  simp (maxSteps := 2000000) -implicitDefEqProofs (disch := omega) only [xsW, xsC, if_true, if_false, ite_true, ite_false, forall_const, ne_eq, beq_self_eq_true, bne_self_eq_false, imp_self, true_implies, false_implies, implies_true, evP, evE, ev, setD, Nat.reduceAdd, Nat.reduceSub, reduceCtorEq, fillA, cutA, Nat.reduceLeDiff, Nat.reduceMul, Int.reduceLT, Int.reduceLE, Int.reduceEq, Int.reduceNe, Int.reduceAdd, Int.reduceSub, Int.reduceMul, Int.reduceNeg, Int.reduceToNat]
  (refine cd_dec (fun c1 => ?_) (fun c1 => ?_) <;> simp (maxSteps := 2000000) -implicitDefEqProofs (disch := omega) only [xsW, xsC, if_true, if_false, ite_true, ite_false, forall_const, ne_eq, beq_self_eq_true, bne_self_eq_false, imp_self, true_implies, false_implies, implies_true, evP, evE, ev, setD, Nat.reduceAdd, Nat.reduceSub, reduceCtorEq, fillA, cutA, Nat.reduceLeDiff, Nat.reduceMul, Int.reduceLT, Int.reduceLE, Int.reduceEq, Int.reduceNe, Int.reduceAdd, Int.reduceSub, Int.reduceMul, Int.reduceNeg, Int.reduceToNat,  c1])
  · have hi2 : i < N := by omega
    have hob := sR1.out.below (by rw [sR1.slen]; omega)
    have hoS : isSl o = true := by
      have := sR1.out.isReal (by intro e; have := sR1.slen; rw [e] at this; simp [slen] at this; omega)
      exact this
    have sA := sR1.keep (h' := upd hp m (some ⟨3, [.int .i64 i], true, 0⟩)) (fun i _ hi9 => by simp (disch := omega) only [upd_other])
    refine Sl.slo sA.out (by intro e; rw [e] at hoS; simp [isSl] at hoS) (by omega) (by rw [sR1.slen]; omega) fun v1 hv1 hlen1 _ => ?_
    rw [sR1.slen] at hlen1
    obtain ⟨r, hr, hq⟩ := idx_rows hv1 (by omega) 117 [.ptr m 0] (fun k => decide (¬ at2 ll1 (i + k) i = 0)) (m + 1) (fun k n' hk _ => by
      have e : (ws1.drop ((i : Int).toNat * 1)).getD k .any = ws1.getD (i + k) .any := by simp [List.getD]
      rw [e]
      have := b1.sq.2 (i + k) (by omega)
      exact impl_determinant1 (sA.row (i + k) (by omega)) (upd_same _ _ _) (by omega))
    simp (maxSteps := 2000000) -implicitDefEqProofs (disch := omega) only [xsW, xsC, if_true, if_false, ite_true, ite_false, forall_const, ne_eq, beq_self_eq_true, bne_self_eq_false, imp_self, true_implies, false_implies, implies_true, evP, evE, ev, setD, Nat.reduceAdd, Nat.reduceSub, reduceCtorEq, fillA, cutA, Nat.reduceLeDiff, Nat.reduceMul, Int.reduceLT, Int.reduceLE, Int.reduceEq, Int.reduceNe, Int.reduceAdd, Int.reduceSub, Int.reduceMul, Int.reduceNeg, Int.reduceToNat]
    refine q_use hq fun n2 hn2 => ?_
    rcases hr with ⟨rfl, hr⟩ | ⟨k, rfl, hk1, hk2, hk3⟩
    · simp (maxSteps := 2000000) -implicitDefEqProofs (disch := omega) only [xsW, xsC, if_true, if_false, ite_true, ite_false, forall_const, ne_eq, beq_self_eq_true, bne_self_eq_false, imp_self, true_implies, false_implies, implies_true, evP, evE, ev, setD, Nat.reduceAdd, Nat.reduceSub, reduceCtorEq, fillA, cutA, Nat.reduceLeDiff, Nat.reduceMul, Int.reduceLT, Int.reduceLE, Int.reduceEq, Int.reduceNe, Int.reduceAdd, Int.reduceSub, Int.reduceMul, Int.reduceNeg, Int.reduceToNat]
      rw [← ht2, b1.none hi2 fun a ha1 ha2 => by
        have := hr (a - i) (by omega)
        rw [show i + (a - i) = a by omega] at this
        simpa using this]
      simp
    · have hk4 : i + k < N := by omega
      simp only [decide_eq_true_eq] at hk2
      by_cases hk0 : k = 0
      · subst hk0
        simp (maxSteps := 2000000) -implicitDefEqProofs (disch := omega) only [xsW, xsC, if_true, if_false, ite_true, ite_false, forall_const, ne_eq, beq_self_eq_true, bne_self_eq_false, imp_self, true_implies, false_implies, implies_true, evP, evE, ev, setD, Nat.reduceAdd, Nat.reduceSub, reduceCtorEq, fillA, cutA, Nat.reduceLeDiff, Nat.reduceMul, Int.reduceLT, Int.reduceLE, Int.reduceEq, Int.reduceNe, Int.reduceAdd, Int.reduceSub, Int.reduceMul, Int.reduceNeg, Int.reduceToNat]
        have hbox : upd hp m (some ⟨3, [.int .i64 (i : Int)], true, 0⟩) m = some ⟨3, [.int .i64 (i : Int)], true, 0⟩ := upd_same _ _ _
        have holdA : ∀ j, j < n → upd hp m (some ⟨3, [.int .i64 (i : Int)], true, 0⟩) j = h j := fun j hj => by rw [upd_other (by omega), hold j hj]
        obtain ⟨ws2, ll2, R2, sR2, b2, hpv, ht3⟩ : ∃ ws2 ll2 R2, Rows true n n0 (upd hp m (some ⟨3, [.int .i64 (i : Int)], true, 0⟩)) o ws2 ll2 ∧ Bare N i R2 last ll2 ∧ (Unit → at2 ll2 i i ≠ 0) ∧ turn * det N R2 = det N (mx ll) := ⟨ws1, ll1, R, sA, b1, fun _ => hk2, ht2⟩
        clear hv1 hq sA sR1
        generalize upd hp m (some ⟨3, [.int .i64 (i : Int)], true, 0⟩) = H1 at hbox holdA sR2 ⊢
        generalize hT1 : turn = turn1 at ht3 ⊢
        have ht4 : Unit → (turn1 = 1 ∨ turn1 = -1) := fun _ => by omega
        clear hT1 ht1 ht2 turn hk1 hk2 hk3
        have hn3 : m + 1 ≤ n2 := by omega
        generalize n2 = n3 at hn3 ⊢
        have hL2 := b2.sq.1
        have hm3 : n0 ≤ m := hm0
        have h2below := sR2.out.below (by rw [sR2.slen]; omega)
        refine Sl.slo sR2.out (by intro e; rw [e] at hoS; simp [isSl] at hoS) (by omega) (by rw [sR2.slen]; omega) fun v2 hv2 hlen2 hbv => ?_
        rw [sR2.slen] at hlen2
        obtain ⟨hbv1, hbv2, _, _⟩ := hbv hoS
        have hlen3 : (slen v2 : Int) = ((N - (i + 1) : Nat) : Int) := by omega
        simp (maxSteps := 2000000) -implicitDefEqProofs (disch := omega) only [xsW, xsC, if_true, if_false, ite_true, ite_false, forall_const, ne_eq, beq_self_eq_true, bne_self_eq_false, imp_self, true_implies, false_implies, implies_true, evP, evE, ev, setD, Nat.reduceAdd, Nat.reduceSub, reduceCtorEq, fillA, cutA, Nat.reduceLeDiff, Nat.reduceMul, Int.reduceLT, Int.reduceLE, Int.reduceEq, Int.reduceNe, Int.reduceAdd, Int.reduceSub, Int.reduceMul, Int.reduceNeg, Int.reduceToNat,  hv2.ln, hlen3]
        refine loop_for (N - (i + 1)) 0 (fun a p => [v, .any, .int .i64 0, o, .int .i64 last, .int .i64 turn1, .ptr m 0, .any, .any, .any, .any, .any, .any, .any, o, .int .i64 ll.length, .int .i64 i, .any, .any, .any, .any, .any, .any, .any, .any, .any, .any, .any, .any, .any, .any, .any, .any, .any, .any, .any, .any, .any, .any, .any, .any, .any, .any, .any, .any, .any, .any, .any, .any, .any, .any, v2, .int .i64 ((N - (i + 1) : Nat) : Int), .int .i64 a, .any, .any, .any, .any, .any, .any, .any, .any, .any, .any, .any, .any, .any, .any, .any, .any, .any, .any, .any, .any, .any, .any, .any, .any, .any, .any, .any, .any, .any, .any, .any, .any, .any, .any, .any, .any, .any, .any, .any, .any, .any, .any, .any, .any, .any, .any, .any, .any, .any, .any, .any, .any, .any]) (fun _ (p : AH × List (List Int)) => p.1)
          (fun a p mm => Rows true n n0 p.1 o ws2 p.2 ∧ Sq N p.2 ∧ (∀ r c, r < N → (r ≤ i ∨ i + 1 + a ≤ r) → at2 p.2 r c = at2 ll2 r c) ∧ (∀ r c, i < r → r < i + 1 + a → i ≤ c → c < N → at2 p.2 r c = bord (i + 1) R2 r c) ∧ (∀ j, (j < n ∨ n0 ≤ j) → p.1 j = H1 j) ∧ p.1 (bid o) = H1 (bid o) ∧ m + 1 ≤ mm)
          (H1, ll2) (Nat.zero_le _) ⟨sR2, b2.sq, fun _ _ _ _ => rfl, fun r c h1 h2 => by omega, fun _ _ => rfl, rfl, hn3⟩ (by simp [LeL, Le1]) (fun _ _ h => h) ?_
        rintro a ⟨hp3, ll3⟩ m3 - ha1 hm4 ⟨sR3, q3, g3, g4, g5, g6, g7⟩
        simp only at sR3 q3 g3 g4 g5 g6
        simp (maxSteps := 2000000) -implicitDefEqProofs (disch := omega) only [xsW, xsC, if_true, if_false, ite_true, ite_false, forall_const, ne_eq, beq_self_eq_true, bne_self_eq_false, imp_self, true_implies, false_implies, implies_true, evP, evE, ev, setD, Nat.reduceAdd, Nat.reduceSub, reduceCtorEq, fillA, cutA, Nat.reduceLeDiff, Nat.reduceMul, Int.reduceLT, Int.reduceLE, Int.reduceEq, Int.reduceNe, Int.reduceAdd, Int.reduceSub, Int.reduceMul, Int.reduceNeg, Int.reduceToNat]
        (refine cd_dec (fun c3 => ?_) (fun c3 => ?_) <;> simp (maxSteps := 2000000) -implicitDefEqProofs (disch := omega) only [xsW, xsC, if_true, if_false, ite_true, ite_false, forall_const, ne_eq, beq_self_eq_true, bne_self_eq_false, imp_self, true_implies, false_implies, implies_true, evP, evE, ev, setD, Nat.reduceAdd, Nat.reduceSub, reduceCtorEq, fillA, cutA, Nat.reduceLeDiff, Nat.reduceMul, Int.reduceLT, Int.reduceLE, Int.reduceEq, Int.reduceNe, Int.reduceAdd, Int.reduceSub, Int.reduceMul, Int.reduceNeg, Int.reduceToNat,  c3])
        · have ha2 : i + 1 + a < N := by omega
          have hv3 : Sl true n n0 hp3 1 v2 (ws2.drop (i + 1)) := by
            have := hv2.keep1 (h' := hp3) fun _ => by rw [hbv2, g6]
            rw [show ((i : Int) + 1).toNat * 1 = i + 1 by omega] at this
            exact this
          have hl3 := q3.1
          have hrow := sR3.row (i + 1 + a) (by omega)
          have hlr := q3.2 (i + 1 + a) ha2
          have hrowi := sR3.row i (by omega)
          have hlri := q3.2 i hi2
          have hsr := Sl.isReal hrow (slen_ne hrow (by omega)).2
          have hsi := Sl.isReal hrowi (slen_ne hrowi (by omega)).2
          have hown := Sl.own hrow hsr
          have hnb : Unit → bid (ws2.getD i .any) ≠ bid (ws2.getD (i + 1 + a) .any) := fun _ => sR3.rows.apart rfl _ _ (by omega) (by omega) (by omega) hsi hsr
          have hno : Unit → bid (ws2.getD (i + 1 + a) .any) ≠ bid o := fun _ => sR3.outer rfl _ (by omega) hsr
          have gd : (ws2.drop (i + 1)).getD a .any = ws2.getD (i + 1 + a) .any := by simp [List.getD]
          have ea : at2 ll2 (i + 1 + a) i = bord i R2 (i + 1 + a) i := b2.ent _ _ (by omega) ha2 (Nat.le_refl _) hi2
          have eb : (ll3.getD (i + 1 + a) []).getD i 0 = bord i R2 (i + 1 + a) i := by rw [← ea, ← g3 _ _ ha2 (by omega)]; rfl
          have hbx := g5 m (.inr hm3)
          rw [hbox] at hbx
          have hnl : a < (ws2.drop (i + 1)).length := by have h8 := sR3.len; simp; omega
          have x1 : ∀ K h' n', IA 1 v2 (.int .i64 (a : Int)) K h' n' = K (.ptr (bid v2) (boff v2 + a)) h' n' := fun K h' n' => by rw [hv3.ia (by omega) (by omega)]; simp
          have x2 : ∀ K h' n', L2 (hp3 (bid v2)) (boff v2 + a) K h' n' = K (ws2.getD (i + 1 + a) .any) h' n' := fun K h' n' => by rw [hv3.ld hnl, gd]
          simp (maxSteps := 2000000) -implicitDefEqProofs (disch := omega) only [xsW, xsC, if_true, if_false, ite_true, ite_false, forall_const, ne_eq, beq_self_eq_true, bne_self_eq_false, imp_self, true_implies, false_implies, implies_true, evP, evE, ev, setD, Nat.reduceAdd, Nat.reduceSub, reduceCtorEq, fillA, cutA, Nat.reduceLeDiff, Nat.reduceMul, Int.reduceLT, Int.reduceLE, Int.reduceEq, Int.reduceNe, Int.reduceAdd, Int.reduceSub, Int.reduceMul, Int.reduceNeg, Int.reduceToNat,  x1, x2, hbx, hrow.ia, hrow.ld, eb]
          refine loop_for N i (fun c p => [v, .any, .int .i64 0, o, .int .i64 last, .int .i64 turn1, .ptr m 0, .any, .any, ws2.getD (i + 1 + a) .any, .int .i64 (bord i R2 (i + 1 + a) i), .int .i64 c, .any, .any, o, .int .i64 ll.length, .int .i64 i, .any, .any, .any, .any, .any, .any, .any, .any, .any, .any, .any, .any, .any, .any, .any, .any, .any, .any, .any, .any, .any, .any, .any, .any, .any, .any, .any, .any, .any, .any, .any, .any, .any, .any, v2, .int .i64 ((N - (i + 1) : Nat) : Int), .int .i64 a, .any, .any, .any, .any, .any, .any, .any, .any, .any, .any, .any, .any, .any, .any, .any, .any, .any, .any, .any, .any, .any, .any, .any, .any, .any, .any, .any, .any, .any, .any, .any, .any, .any, .any, .any, .any, .any, .any, .any, .any, .any, .any, .any, .any, .any, .any, .any, .any, .any, .any, .any, .any, .any]) (fun _ (p : AH × List Int) => p.1)
            (fun c p mm => Ints true n n0 p.1 (ws2.getD (i + 1 + a) .any) p.2 ∧ p.2.length = N ∧ (∀ b, b < N → p.2.getD b 0 = if i ≤ b ∧ b < c then bord (i + 1) R2 (i + 1 + a) b else at2 ll3 (i + 1 + a) b) ∧ (∀ j, j ≠ bid (ws2.getD (i + 1 + a) .any) → p.1 j = hp3 j) ∧ m + 1 ≤ mm)
            (hp3, ll3.getD (i + 1 + a) []) (Nat.le_of_lt hi2) ⟨hrow, hlr, fun b hb => by rw [if_neg (by omega)]; rfl, fun _ _ => rfl, g7⟩ (by simp [LeL, Le1]) (fun _ _ h => h) ?_
          rintro c ⟨hp4, l4⟩ m4 hc0 hc1 hm5 ⟨sR4, q4, k1, k2, k3⟩
          simp only at sR4 q4 k1 k2
          simp (maxSteps := 2000000) -implicitDefEqProofs (disch := omega) only [xsW, xsC, if_true, if_false, ite_true, ite_false, forall_const, ne_eq, beq_self_eq_true, bne_self_eq_false, imp_self, true_implies, false_implies, implies_true, evP, evE, ev, setD, Nat.reduceAdd, Nat.reduceSub, reduceCtorEq, fillA, cutA, Nat.reduceLeDiff, Nat.reduceMul, Int.reduceLT, Int.reduceLE, Int.reduceEq, Int.reduceNe, Int.reduceAdd, Int.reduceSub, Int.reduceMul, Int.reduceNeg, Int.reduceToNat,  sR4.ln]
          (refine cd_dec (fun c4 => ?_) (fun c4 => ?_) <;> simp (maxSteps := 2000000) -implicitDefEqProofs (disch := omega) only [xsW, xsC, if_true, if_false, ite_true, ite_false, forall_const, ne_eq, beq_self_eq_true, bne_self_eq_false, imp_self, true_implies, false_implies, implies_true, evP, evE, ev, setD, Nat.reduceAdd, Nat.reduceSub, reduceCtorEq, fillA, cutA, Nat.reduceLeDiff, Nat.reduceMul, Int.reduceLT, Int.reduceLE, Int.reduceEq, Int.reduceNe, Int.reduceAdd, Int.reduceSub, Int.reduceMul, Int.reduceNeg, Int.reduceToNat,  c4])
          · have hc2 : c < N := by omega
            obtain ⟨w1, w2, w3, w4⟩ := b2.val hN (r := i + 1 + a) (c := c) (by omega) ha2 hc0 hc2
            have z1 : l4.getD c 0 = bord i R2 (i + 1 + a) c := by
              rw [k1 c hc2, if_neg (by omega), g3 _ _ ha2 (by omega)]
              exact b2.ent _ _ (by omega) ha2 hc0 hc2
            have z2 : (ll3.getD i []).getD i 0 = bord i R2 i i := by
              have := g3 i i hi2 (by omega)
              rw [b2.ent _ _ (Nat.le_refl _) hi2 (Nat.le_refl _) hi2] at this
              exact this
            have z3 : (ll3.getD i []).getD c 0 = bord i R2 i c := by
              have := g3 i c hi2 (by omega)
              rw [b2.ent _ _ (Nat.le_refl _) hi2 hc0 hc2] at this
              exact this
            have hne := b2.ne
            have n1 := k2 m (by omega)
            rw [hbx] at n1
            have n2 := k2 (bid o) (fun e => hno () e.symm)
            have n3 := k2 (bid (ws2.getD i .any)) (hnb ())
            have e1 := fun K => Ints.st sR4 (k := c) (x := bord (i + 1) R2 (i + 1 + a) c) (n0 := n) (n := m4) (W := none') (by omega) (fun i a b => .inl a) (by omega) K
            simp (maxSteps := 2000000) -implicitDefEqProofs (disch := omega) only [xsW, xsC, if_true, if_false, ite_true, ite_false, forall_const, ne_eq, beq_self_eq_true, bne_self_eq_false, imp_self, true_implies, false_implies, implies_true, evP, evE, ev, setD, Nat.reduceAdd, Nat.reduceSub, reduceCtorEq, fillA, cutA, Nat.reduceLeDiff, Nat.reduceMul, Int.reduceLT, Int.reduceLE, Int.reduceEq, Int.reduceNe, Int.reduceAdd, Int.reduceSub, Int.reduceMul, Int.reduceNeg, Int.reduceToNat,  sR4.ia, sR4.ld, sR3.ia, sR3.ld, hrowi.ia, hrowi.ld, n1, n2, n3, z1, z2, z3, w3, e1]
            refine ⟨(_, l4.set c (bord (i + 1) R2 (i + 1 + a) c)), ⟨sR4.wr (by omega) _, by simpa using q4, fun b hb => ?_, fun j hj => (wr_other hj).trans (k2 j hj), by omega⟩, by omega, by omega, (by simp [LeL, Le1]), fun _ _ h => h⟩
            rw [getD_set, k1 b hb, q4]
            by_cases e : c = b
            · subst e; rw [if_pos ⟨rfl, hc2⟩, if_pos ⟨hc0, by omega⟩]
            · rw [if_neg fun h => e h.1]
              by_cases e2 : i ≤ b ∧ b < c
              · rw [if_pos e2, if_pos ⟨e2.1, by omega⟩]
              · rw [if_neg e2, if_neg (by omega)]
          · have hc3 : c = N := by omega
            subst hc3
            have sR5 := sR3.row1 (by omega) sR4 (.inl hsr) k2
            refine ⟨(hp4, _), ⟨sR5, ⟨by simpa using hl3, fun b hb => ?_⟩, fun r c' hr hr2 => ?_, fun r c' h1 h2 h3 h4 => ?_, fun j hj => (k2 j (by omega)).trans (g5 j hj), (k2 _ (fun e => hno () e.symm)).trans g6, by omega⟩, by omega, by omega, (by simp [LeL, Le1]), fun _ _ h => h⟩
            · rw [getD_set]
              split
              · exact q4
              · exact q3.2 b hb
            · rw [← g3 r c' hr (by omega)]
              unfold at2
              rw [getD_set, if_neg (by omega)]
            · unfold at2
              rw [getD_set]
              by_cases e : i + 1 + a = r
              · subst e
                rw [if_pos ⟨rfl, by omega⟩, k1 c' h4, if_pos ⟨h3, h4⟩]
              · rw [if_neg fun h => e h.1]
                exact g4 r c' h1 (by omega) h3 h4
        · have ha3 : i + 1 + a = N := by omega
          have hl3 := q3.1
          have hrowi := sR3.row i (by omega)
          have hlri := q3.2 i hi2
          have z2 : (ll3.getD i []).getD i 0 = at2 ll2 i i := g3 i i hi2 (by omega)
          have hbx := g5 m (.inr hm3)
          rw [hbox] at hbx
          simp (maxSteps := 2000000) -implicitDefEqProofs (disch := omega) only [xsW, xsC, if_true, if_false, ite_true, ite_false, forall_const, ne_eq, beq_self_eq_true, bne_self_eq_false, imp_self, true_implies, false_implies, implies_true, evP, evE, ev, setD, Nat.reduceAdd, Nat.reduceSub, reduceCtorEq, fillA, cutA, Nat.reduceLeDiff, Nat.reduceMul, Int.reduceLT, Int.reduceLE, Int.reduceEq, Int.reduceNe, Int.reduceAdd, Int.reduceSub, Int.reduceMul, Int.reduceNeg, Int.reduceToNat,  hbx, sR3.ia, sR3.ld, hrowi.ia, hrowi.ld, z2]
          refine ⟨(hp3, ws2, ll3, R2, at2 ll2 i i, turn1), ⟨sR3, b2.next hi2 (hpv ()) q3 (fun r c h1 h2 h3 h4 => g4 r c h1 (by omega) h3 h4), ht4 (), ht3, fun j hj => (g5 j (.inl hj)).trans (holdA j hj), by omega⟩, by omega, by omega, (by simp [LeL, Le1]), fun _ _ h => h⟩
      · have hrow1 := sA.row i (by omega)
        have hrow2 := sA.row (i + k) (by omega)
        have hl1 := b1.sq.2 i hi2
        have hl2 := b1.sq.2 (i + k) hk4
        have x1 := Sl.any hrow1
        have x2 := Sl.any hrow2
        have e1 := fun K => Sl.st sA.out (k := i) (x := ws1.getD (i + k) .any) (n0 := n) (n := n2) (W := none') (by rw [sR1.len]; omega) (one_any x2) (cel_any x2) (sto_any x2) (fun i a b => .inl a) (by omega) K
        have sW := sA.out.wr (k := i) (by rw [sR1.len]; omega) (ws1.getD (i + k) .any)
        have e2 := fun K => Sl.st sW (k := i + k) (x := ws1.getD i .any) (n0 := n) (n := n2) (W := none') (by rw [List.length_set, sR1.len]; omega) (one_any x1) (cel_any x1) (sto_any x1) (fun i a b => .inl a) (by omega) K
        have sW2 := sW.wr (k := i + k) (by rw [List.length_set, sR1.len]; omega) (ws1.getD i .any)
        have hne : bid o ≠ m := by omega
        have tn : ((i : Int) + (k : Int)).toNat = i + k := by omega
        have hbox : wr (wr (upd hp m (some ⟨3, [.int .i64 (i : Int)], true, 0⟩)) (bid o) (boff o + i) (ws1.getD (i + k) .any)) (bid o) (boff o + (i + k)) (ws1.getD i .any) m = some ⟨3, [.int .i64 (i : Int)], true, 0⟩ := by
          rw [wr_other (fun e => hne e.symm), wr_other (fun e => hne e.symm), upd_same]
        have hbox1 : wr (upd hp m (some ⟨3, [.int .i64 (i : Int)], true, 0⟩)) (bid o) (boff o + i) (ws1.getD (i + k) .any) m = some ⟨3, [.int .i64 (i : Int)], true, 0⟩ := by
          rw [wr_other (fun e => hne e.symm), upd_same]
        simp (maxSteps := 2000000) -implicitDefEqProofs (disch := omega) only [xsW, xsC, if_true, if_false, ite_true, ite_false, forall_const, ne_eq, beq_self_eq_true, bne_self_eq_false, imp_self, true_implies, false_implies, implies_true, evP, evE, ev, setD, Nat.reduceAdd, Nat.reduceSub, reduceCtorEq, fillA, cutA, Nat.reduceLeDiff, Nat.reduceMul, Int.reduceLT, Int.reduceLE, Int.reduceEq, Int.reduceNe, Int.reduceAdd, Int.reduceSub, Int.reduceMul, Int.reduceNeg, Int.reduceToNat,  sR1.ia, sR1.ld, tn, e1, e2]
        refine ⟨hne, ?_⟩
        have sS := Rows.swap (i := i) (j := i + k) sA (by omega) (by omega) sW2 (fun a ha => by rw [wr_other ha, wr_other ha]) (fun a ha => set2_get ws1 .any i (i + k) a (by rw [sR1.len]; exact ha)) (by simp)
        obtain ⟨bS, dS⟩ := b1.swap (j := i + k) (ll' := swL ll1 i (i + k)) (by omega) hk4 ⟨by rw [swL_len, hL1], fun a ha => by rw [swL_get _ _ _ _ (by omega)]; exact b1.sq.2 _ (swp_lt hi2 hk4 ha)⟩ (fun r c hr hc => by unfold at2; rw [swL_get _ _ _ _ (by omega)])
        have dS := dS (by omega)
        have holdA : ∀ j, j < n → wr (wr (upd hp m (some ⟨3, [.int .i64 (i : Int)], true, 0⟩)) (bid o) (boff o + i) (ws1.getD (i + k) .any)) (bid o) (boff o + (i + k)) (ws1.getD i .any) j = h j := fun j hj => by rw [wr_other (by omega), wr_other (by omega), upd_other (by omega), hold j hj]
        obtain ⟨ws2, ll2, R2, sR2, b2, hpv, ht3⟩ : ∃ ws2 ll2 R2, Rows true n n0 (wr (wr (upd hp m (some ⟨3, [.int .i64 (i : Int)], true, 0⟩)) (bid o) (boff o + i) (ws1.getD (i + k) .any)) (bid o) (boff o + (i + k)) (ws1.getD i .any)) o ws2 ll2 ∧ Bare N i R2 last ll2 ∧ (Unit → at2 ll2 i i ≠ 0) ∧ (-turn) * det N R2 = det N (mx ll) :=
          ⟨_, _, _, sS, bS, fun _ => by unfold at2; rw [swL_get _ _ _ _ (by omega), show swp i (i + k) i = i + k by simp [swp]]; exact hk2, by rw [dS, ← ht2, Int.neg_mul_neg]⟩
        clear hv1 hq sA sR1 e1 e2 sW sW2 sS hrow1 hrow2 hbox1 bS dS x1 x2 tn hl1 hl2 hne
        generalize wr (wr (upd hp m (some ⟨3, [.int .i64 (i : Int)], true, 0⟩)) (bid o) (boff o + i) (ws1.getD (i + k) .any)) (bid o) (boff o + (i + k)) (ws1.getD i .any) = H1 at hbox holdA sR2 ⊢
        generalize hT1 : -turn = turn1 at ht3 ⊢
        have ht4 : Unit → (turn1 = 1 ∨ turn1 = -1) := fun _ => by omega
        clear ht2 ht1 hT1 hk0 hk1 hk2 hk3
        have hn3 : m + 1 ≤ n2 := by omega
        generalize n2 = n3 at hn3 ⊢
        simp (maxSteps := 2000000) -implicitDefEqProofs (disch := omega) only [xsW, xsC, if_true, if_false, ite_true, ite_false, forall_const, ne_eq, beq_self_eq_true, bne_self_eq_false, imp_self, true_implies, false_implies, implies_true, evP, evE, ev, setD, Nat.reduceAdd, Nat.reduceSub, reduceCtorEq, fillA, cutA, Nat.reduceLeDiff, Nat.reduceMul, Int.reduceLT, Int.reduceLE, Int.reduceEq, Int.reduceNe, Int.reduceAdd, Int.reduceSub, Int.reduceMul, Int.reduceNeg, Int.reduceToNat,  hbox]
        have hL2 := b2.sq.1
        have hm3 : n0 ≤ m := hm0
        have h2below := sR2.out.below (by rw [sR2.slen]; omega)
        refine Sl.slo sR2.out (by intro e; rw [e] at hoS; simp [isSl] at hoS) (by omega) (by rw [sR2.slen]; omega) fun v2 hv2 hlen2 hbv => ?_
        rw [sR2.slen] at hlen2
        obtain ⟨hbv1, hbv2, _, _⟩ := hbv hoS
        have hlen3 : (slen v2 : Int) = ((N - (i + 1) : Nat) : Int) := by omega
        simp (maxSteps := 2000000) -implicitDefEqProofs (disch := omega) only [xsW, xsC, if_true, if_false, ite_true, ite_false, forall_const, ne_eq, beq_self_eq_true, bne_self_eq_false, imp_self, true_implies, false_implies, implies_true, evP, evE, ev, setD, Nat.reduceAdd, Nat.reduceSub, reduceCtorEq, fillA, cutA, Nat.reduceLeDiff, Nat.reduceMul, Int.reduceLT, Int.reduceLE, Int.reduceEq, Int.reduceNe, Int.reduceAdd, Int.reduceSub, Int.reduceMul, Int.reduceNeg, Int.reduceToNat,  hv2.ln, hlen3]
        refine loop_for (N - (i + 1)) 0 (fun a p => [v, .any, .int .i64 0, o, .int .i64 last, .int .i64 turn1, .ptr m 0, .any, .any, .any, .any, .any, .any, .any, o, .int .i64 ll.length, .int .i64 i, .any, .any, .any, .any, .any, .any, .any, .any, .any, .any, .any, .any, .any, .any, .any, .any, .any, .any, .any, .any, .any, .any, .any, .any, .any, .any, .any, .any, .any, .any, .any, .any, .any, .any, v2, .int .i64 ((N - (i + 1) : Nat) : Int), .int .i64 a, .any, .any, .any, .any, .any, .any, .any, .any, .any, .any, .any, .any, .any, .any, .any, .any, .any, .any, .any, .any, .any, .any, .any, .any, .any, .any, .any, .any, .any, .any, .any, .any, .any, .any, .any, .any, .any, .any, .any, .any, .any, .any, .any, .any, .any, .any, .any, .any, .any, .any, .any, .any, .any]) (fun _ (p : AH × List (List Int)) => p.1)
          (fun a p mm => Rows true n n0 p.1 o ws2 p.2 ∧ Sq N p.2 ∧ (∀ r c, r < N → (r ≤ i ∨ i + 1 + a ≤ r) → at2 p.2 r c = at2 ll2 r c) ∧ (∀ r c, i < r → r < i + 1 + a → i ≤ c → c < N → at2 p.2 r c = bord (i + 1) R2 r c) ∧ (∀ j, (j < n ∨ n0 ≤ j) → p.1 j = H1 j) ∧ p.1 (bid o) = H1 (bid o) ∧ m + 1 ≤ mm)
          (H1, ll2) (Nat.zero_le _) ⟨sR2, b2.sq, fun _ _ _ _ => rfl, fun r c h1 h2 => by omega, fun _ _ => rfl, rfl, hn3⟩ (by simp [LeL, Le1]) (fun _ _ h => h) ?_
        rintro a ⟨hp3, ll3⟩ m3 - ha1 hm4 ⟨sR3, q3, g3, g4, g5, g6, g7⟩
        simp only at sR3 q3 g3 g4 g5 g6
        simp (maxSteps := 2000000) -implicitDefEqProofs (disch := omega) only [xsW, xsC, if_true, if_false, ite_true, ite_false, forall_const, ne_eq, beq_self_eq_true, bne_self_eq_false, imp_self, true_implies, false_implies, implies_true, evP, evE, ev, setD, Nat.reduceAdd, Nat.reduceSub, reduceCtorEq, fillA, cutA, Nat.reduceLeDiff, Nat.reduceMul, Int.reduceLT, Int.reduceLE, Int.reduceEq, Int.reduceNe, Int.reduceAdd, Int.reduceSub, Int.reduceMul, Int.reduceNeg, Int.reduceToNat]
        (refine cd_dec (fun c3 => ?_) (fun c3 => ?_) <;> simp (maxSteps := 2000000) -implicitDefEqProofs (disch := omega) only [xsW, xsC, if_true, if_false, ite_true, ite_false, forall_const, ne_eq, beq_self_eq_true, bne_self_eq_false, imp_self, true_implies, false_implies, implies_true, evP, evE, ev, setD, Nat.reduceAdd, Nat.reduceSub, reduceCtorEq, fillA, cutA, Nat.reduceLeDiff, Nat.reduceMul, Int.reduceLT, Int.reduceLE, Int.reduceEq, Int.reduceNe, Int.reduceAdd, Int.reduceSub, Int.reduceMul, Int.reduceNeg, Int.reduceToNat,  c3])
        · have ha2 : i + 1 + a < N := by omega
          have hv3 : Sl true n n0 hp3 1 v2 (ws2.drop (i + 1)) := by
            have := hv2.keep1 (h' := hp3) fun _ => by rw [hbv2, g6]
            rw [show ((i : Int) + 1).toNat * 1 = i + 1 by omega] at this
            exact this
          have hl3 := q3.1
          have hrow := sR3.row (i + 1 + a) (by omega)
          have hlr := q3.2 (i + 1 + a) ha2
          have hrowi := sR3.row i (by omega)
          have hlri := q3.2 i hi2
          have hsr := Sl.isReal hrow (slen_ne hrow (by omega)).2
          have hsi := Sl.isReal hrowi (slen_ne hrowi (by omega)).2
          have hown := Sl.own hrow hsr
          have hnb : Unit → bid (ws2.getD i .any) ≠ bid (ws2.getD (i + 1 + a) .any) := fun _ => sR3.rows.apart rfl _ _ (by omega) (by omega) (by omega) hsi hsr
          have hno : Unit → bid (ws2.getD (i + 1 + a) .any) ≠ bid o := fun _ => sR3.outer rfl _ (by omega) hsr
          have gd : (ws2.drop (i + 1)).getD a .any = ws2.getD (i + 1 + a) .any := by simp [List.getD]
          have ea : at2 ll2 (i + 1 + a) i = bord i R2 (i + 1 + a) i := b2.ent _ _ (by omega) ha2 (Nat.le_refl _) hi2
          have eb : (ll3.getD (i + 1 + a) []).getD i 0 = bord i R2 (i + 1 + a) i := by rw [← ea, ← g3 _ _ ha2 (by omega)]; rfl
          have hbx := g5 m (.inr hm3)
          rw [hbox] at hbx
          have hnl : a < (ws2.drop (i + 1)).length := by have h8 := sR3.len; simp; omega
          have x1 : ∀ K h' n', IA 1 v2 (.int .i64 (a : Int)) K h' n' = K (.ptr (bid v2) (boff v2 + a)) h' n' := fun K h' n' => by rw [hv3.ia (by omega) (by omega)]; simp
          have x2 : ∀ K h' n', L2 (hp3 (bid v2)) (boff v2 + a) K h' n' = K (ws2.getD (i + 1 + a) .any) h' n' := fun K h' n' => by rw [hv3.ld hnl, gd]
          simp (maxSteps := 2000000) -implicitDefEqProofs (disch := omega) only [xsW, xsC, if_true, if_false, ite_true, ite_false, forall_const, ne_eq, beq_self_eq_true, bne_self_eq_false, imp_self, true_implies, false_implies, implies_true, evP, evE, ev, setD, Nat.reduceAdd, Nat.reduceSub, reduceCtorEq, fillA, cutA, Nat.reduceLeDiff, Nat.reduceMul, Int.reduceLT, Int.reduceLE, Int.reduceEq, Int.reduceNe, Int.reduceAdd, Int.reduceSub, Int.reduceMul, Int.reduceNeg, Int.reduceToNat,  x1, x2, hbx, hrow.ia, hrow.ld, eb]
          refine loop_for N i (fun c p => [v, .any, .int .i64 0, o, .int .i64 last, .int .i64 turn1, .ptr m 0, .any, .any, ws2.getD (i + 1 + a) .any, .int .i64 (bord i R2 (i + 1 + a) i), .int .i64 c, .any, .any, o, .int .i64 ll.length, .int .i64 i, .any, .any, .any, .any, .any, .any, .any, .any, .any, .any, .any, .any, .any, .any, .any, .any, .any, .any, .any, .any, .any, .any, .any, .any, .any, .any, .any, .any, .any, .any, .any, .any, .any, .any, v2, .int .i64 ((N - (i + 1) : Nat) : Int), .int .i64 a, .any, .any, .any, .any, .any, .any, .any, .any, .any, .any, .any, .any, .any, .any, .any, .any, .any, .any, .any, .any, .any, .any, .any, .any, .any, .any, .any, .any, .any, .any, .any, .any, .any, .any, .any, .any, .any, .any, .any, .any, .any, .any, .any, .any, .any, .any, .any, .any, .any, .any, .any, .any, .any]) (fun _ (p : AH × List Int) => p.1)
            (fun c p mm => Ints true n n0 p.1 (ws2.getD (i + 1 + a) .any) p.2 ∧ p.2.length = N ∧ (∀ b, b < N → p.2.getD b 0 = if i ≤ b ∧ b < c then bord (i + 1) R2 (i + 1 + a) b else at2 ll3 (i + 1 + a) b) ∧ (∀ j, j ≠ bid (ws2.getD (i + 1 + a) .any) → p.1 j = hp3 j) ∧ m + 1 ≤ mm)
            (hp3, ll3.getD (i + 1 + a) []) (Nat.le_of_lt hi2) ⟨hrow, hlr, fun b hb => by rw [if_neg (by omega)]; rfl, fun _ _ => rfl, g7⟩ (by simp [LeL, Le1]) (fun _ _ h => h) ?_
          rintro c ⟨hp4, l4⟩ m4 hc0 hc1 hm5 ⟨sR4, q4, k1, k2, k3⟩
          simp only at sR4 q4 k1 k2
          simp (maxSteps := 2000000) -implicitDefEqProofs (disch := omega) only [xsW, xsC, if_true, if_false, ite_true, ite_false, forall_const, ne_eq, beq_self_eq_true, bne_self_eq_false, imp_self, true_implies, false_implies, implies_true, evP, evE, ev, setD, Nat.reduceAdd, Nat.reduceSub, reduceCtorEq, fillA, cutA, Nat.reduceLeDiff, Nat.reduceMul, Int.reduceLT, Int.reduceLE, Int.reduceEq, Int.reduceNe, Int.reduceAdd, Int.reduceSub, Int.reduceMul, Int.reduceNeg, Int.reduceToNat,  sR4.ln]
          (refine cd_dec (fun c4 => ?_) (fun c4 => ?_) <;> simp (maxSteps := 2000000) -implicitDefEqProofs (disch := omega) only [xsW, xsC, if_true, if_false, ite_true, ite_false, forall_const, ne_eq, beq_self_eq_true, bne_self_eq_false, imp_self, true_implies, false_implies, implies_true, evP, evE, ev, setD, Nat.reduceAdd, Nat.reduceSub, reduceCtorEq, fillA, cutA, Nat.reduceLeDiff, Nat.reduceMul, Int.reduceLT, Int.reduceLE, Int.reduceEq, Int.reduceNe, Int.reduceAdd, Int.reduceSub, Int.reduceMul, Int.reduceNeg, Int.reduceToNat,  c4])
          · have hc2 : c < N := by omega
            obtain ⟨w1, w2, w3, w4⟩ := b2.val hN (r := i + 1 + a) (c := c) (by omega) ha2 hc0 hc2
            have z1 : l4.getD c 0 = bord i R2 (i + 1 + a) c := by
              rw [k1 c hc2, if_neg (by omega), g3 _ _ ha2 (by omega)]
              exact b2.ent _ _ (by omega) ha2 hc0 hc2
            have z2 : (ll3.getD i []).getD i 0 = bord i R2 i i := by
              have := g3 i i hi2 (by omega)
              rw [b2.ent _ _ (Nat.le_refl _) hi2 (Nat.le_refl _) hi2] at this
              exact this
            have z3 : (ll3.getD i []).getD c 0 = bord i R2 i c := by
              have := g3 i c hi2 (by omega)
              rw [b2.ent _ _ (Nat.le_refl _) hi2 hc0 hc2] at this
              exact this
            have hne := b2.ne
            have n1 := k2 m (by omega)
            rw [hbx] at n1
            have n2 := k2 (bid o) (fun e => hno () e.symm)
            have n3 := k2 (bid (ws2.getD i .any)) (hnb ())
            have e1 := fun K => Ints.st sR4 (k := c) (x := bord (i + 1) R2 (i + 1 + a) c) (n0 := n) (n := m4) (W := none') (by omega) (fun i a b => .inl a) (by omega) K
            simp (maxSteps := 2000000) -implicitDefEqProofs (disch := omega) only [xsW, xsC, if_true, if_false, ite_true, ite_false, forall_const, ne_eq, beq_self_eq_true, bne_self_eq_false, imp_self, true_implies, false_implies, implies_true, evP, evE, ev, setD, Nat.reduceAdd, Nat.reduceSub, reduceCtorEq, fillA, cutA, Nat.reduceLeDiff, Nat.reduceMul, Int.reduceLT, Int.reduceLE, Int.reduceEq, Int.reduceNe, Int.reduceAdd, Int.reduceSub, Int.reduceMul, Int.reduceNeg, Int.reduceToNat,  sR4.ia, sR4.ld, sR3.ia, sR3.ld, hrowi.ia, hrowi.ld, n1, n2, n3, z1, z2, z3, w3, e1]
            refine ⟨(_, l4.set c (bord (i + 1) R2 (i + 1 + a) c)), ⟨sR4.wr (by omega) _, by simpa using q4, fun b hb => ?_, fun j hj => (wr_other hj).trans (k2 j hj), by omega⟩, by omega, by omega, (by simp [LeL, Le1]), fun _ _ h => h⟩
            rw [getD_set, k1 b hb, q4]
            by_cases e : c = b
            · subst e; rw [if_pos ⟨rfl, hc2⟩, if_pos ⟨hc0, by omega⟩]
            · rw [if_neg fun h => e h.1]
              by_cases e2 : i ≤ b ∧ b < c
              · rw [if_pos e2, if_pos ⟨e2.1, by omega⟩]
              · rw [if_neg e2, if_neg (by omega)]
          · have hc3 : c = N := by omega
            subst hc3
            have sR5 := sR3.row1 (by omega) sR4 (.inl hsr) k2
            refine ⟨(hp4, _), ⟨sR5, ⟨by simpa using hl3, fun b hb => ?_⟩, fun r c' hr hr2 => ?_, fun r c' h1 h2 h3 h4 => ?_, fun j hj => (k2 j (by omega)).trans (g5 j hj), (k2 _ (fun e => hno () e.symm)).trans g6, by omega⟩, by omega, by omega, (by simp [LeL, Le1]), fun _ _ h => h⟩
            · rw [getD_set]
              split
              · exact q4
              · exact q3.2 b hb
            · rw [← g3 r c' hr (by omega)]
              unfold at2
              rw [getD_set, if_neg (by omega)]
            · unfold at2
              rw [getD_set]
              by_cases e : i + 1 + a = r
              · subst e
                rw [if_pos ⟨rfl, by omega⟩, k1 c' h4, if_pos ⟨h3, h4⟩]
              · rw [if_neg fun h => e h.1]
                exact g4 r c' h1 (by omega) h3 h4
        · have ha3 : i + 1 + a = N := by omega
          have hl3 := q3.1
          have hrowi := sR3.row i (by omega)
          have hlri := q3.2 i hi2
          have z2 : (ll3.getD i []).getD i 0 = at2 ll2 i i := g3 i i hi2 (by omega)
          have hbx := g5 m (.inr hm3)
          rw [hbox] at hbx
          simp (maxSteps := 2000000) -implicitDefEqProofs (disch := omega) only [xsW, xsC, if_true, if_false, ite_true, ite_false, forall_const, ne_eq, beq_self_eq_true, bne_self_eq_false, imp_self, true_implies, false_implies, implies_true, evP, evE, ev, setD, Nat.reduceAdd, Nat.reduceSub, reduceCtorEq, fillA, cutA, Nat.reduceLeDiff, Nat.reduceMul, Int.reduceLT, Int.reduceLE, Int.reduceEq, Int.reduceNe, Int.reduceAdd, Int.reduceSub, Int.reduceMul, Int.reduceNeg, Int.reduceToNat,  hbx, sR3.ia, sR3.ld, hrowi.ia, hrowi.ld, z2]
          refine ⟨(hp3, ws2, ll3, R2, at2 ll2 i i, turn1), ⟨sR3, b2.next hi2 (hpv ()) q3 (fun r c h1 h2 h3 h4 => g4 r c h1 (by omega) h3 h4), ht4 (), ht3, fun j hj => (g5 j (.inl hj)).trans (holdA j hj), by omega⟩, by omega, by omega, (by simp [LeL, Le1]), fun _ _ h => h⟩
  · have e : i = N := by omega
    subst e
    have hb := b1.lst
    rw [← hb] at ht2
    obtain ⟨q, hq⟩ := hl
    have := det_small hq hN
    rw [ht2]
    unfold in64
    omega
end Go.Proofs.Ytkpibnhddhdooaa.L
/- Contracts: sets, parts of matrices, minors. -/
namespace Go.Proofs.Ytkpibnhddhdooaa.L
open Go
set_option linter.unusedSimpArgs false
set_option linter.unusedVariables false
def c_impl_has : F := ⟨(.seq (.reg false [⟨(some 4), (.mv (.c (.bool false))), none⟩]) (.seq (.reg false [⟨(some 5), (.mv (.t 0)), none⟩, ⟨(some 6), (.mv (.t 1)), none⟩, ⟨(some 7), (.bin .shr (.t 5) (.t 6)), none⟩, ⟨(some 8), (.bin .and (.t 7) (.c (.int .i64 1))), none⟩, ⟨(some 9), (.bin .eql (.t 8) (.c (.int .i64 1))), none⟩, ⟨(some 4), (.mv (.t 9)), none⟩]) .ret)), 10, [(.t 4)]⟩
theorem k_impl_has : compF Try.prog Try.f118 = some c_impl_has := by kernel_rfl
def c_impl_isSet : F := ⟨(.seq (.reg false [⟨(some 4), (.mv (.c (.bool false))), none⟩]) (.seq (.reg false [⟨(some 5), (.mv (.t 0)), none⟩, ⟨(some 6), (.mv (.t 1)), none⟩, ⟨(some 7), (.bin .shl (.c (.int .i64 1)) (.t 6)), none⟩, ⟨(some 8), (.bin .sub (.t 7) (.c (.int .i64 1))), none⟩, ⟨(some 9), (.call (.f 60) [(.t 5), (.c (.int .i64 0)), (.t 8)]), none⟩, ⟨(some 4), (.mv (.t 9)), none⟩]) .ret)), 10, [(.t 4)]⟩
theorem k_impl_isSet : compF Try.prog Try.f113 = some c_impl_isSet := by kernel_rfl
def c_impl_matrixCode_1 : F := ⟨(.seq (.reg false [⟨(some 3), (.mv (.c (.bool false))), none⟩]) (.seq (.reg false [⟨(some 4), (.mv (.t 0)), none⟩, ⟨(some 5), (.ld1 (.t 1)), none⟩, ⟨(some 6), (.len (.t 5)), none⟩, ⟨(some 7), (.call (.f 113) [(.t 4), (.t 6)]), none⟩, ⟨(some 8), (.un .not (.t 7)), none⟩, ⟨(some 3), (.mv (.t 8)), none⟩]) .ret)), 9, [(.t 3)]⟩
theorem k_impl_matrixCode_1 : compF Try.prog Try.f112 = some c_impl_matrixCode_1 := by kernel_rfl
def c_impl_matrixCode : F := ⟨(.seq (.reg false [⟨(some 2), (.box 22 (.t 0)), none⟩, ⟨(some 4), (.mv (.c (.int .i64 0))), none⟩]) (.seq (.block 0 (.seq (.reg false [⟨(some 6), (.ld1 (.t 2)), none⟩, ⟨(some 7), (.call (.f 47) [(.t 6)]), none⟩, ⟨(some 8), (.un .not (.t 7)), none⟩, ⟨(some 5), (.mv (.t 8)), none⟩]) (.cond (.t 5) (.seq (.reg false [⟨(some 4), (.mv (.c (.int .i64 1))), none⟩]) .ret) (.seq (.reg false [⟨(some 10), (.mv (.t 1)), none⟩, ⟨(some 11), (.mkf 112 [(.t 2)]), none⟩, ⟨(some 12), (.call (.f 111) [(.t 10), (.t 11)]), none⟩, ⟨(some 9), (.mv (.t 12)), none⟩]) (.cond (.t 9) (.seq (.reg false [⟨(some 4), (.mv (.c (.int .i64 2))), none⟩]) .ret) .skip))))) (.seq (.reg false [⟨(some 4), (.mv (.c (.int .i64 0))), none⟩]) .ret))), 13, [(.t 4)]⟩
theorem k_impl_matrixCode : compF Try.prog Try.f67 = some c_impl_matrixCode := by kernel_rfl
def c_impl_part : F := ⟨(.seq (.reg false [⟨(some 6), (.mv (.c .nilsl)), none⟩]) (.seq (.reg false [⟨(some 7), (.mv (.c .nilsl)), none⟩]) (.seq (.seq (.reg false [⟨(some 13), (.mv (.t 0)), none⟩, ⟨(some 14), (.len (.t 13)), none⟩, ⟨(some 15), (.mv (.c (.int .i64 0))), none⟩]) (.block 0 (.loop (.seq (.reg false [⟨(some 16), (.bin .lss (.t 15) (.t 14)), none⟩]) (.seq (.cond (.t 16) .skip (.exit 0)) (.seq (.block 1 (.seq (.reg false [⟨(some 17), (.mv (.t 15)), none⟩, ⟨(some 18), (.ia 1 (.t 13) (.t 15)), none⟩, ⟨(some 19), (.ld1 (.t 18)), none⟩, ⟨(some 8), (.mv (.t 17)), none⟩, ⟨(some 9), (.mv (.t 19)), none⟩]) (.seq (.seq (.reg false [⟨(some 20), (.mv (.t 1)), none⟩, ⟨(some 21), (.mv (.t 8)), none⟩, ⟨(some 22), (.call (.f 118) [(.t 20), (.t 21)]), none⟩, ⟨(some 23), (.un .not (.t 22)), none⟩]) (.cond (.t 23) (.exit 1) .skip)) (.seq (.reg false [⟨(some 10), (.mv (.c .nilsl)), none⟩]) (.seq (.seq (.reg false [⟨(some 24), (.mv (.t 9)), none⟩, ⟨(some 25), (.len (.t 24)), none⟩, ⟨(some 26), (.mv (.c (.int .i64 0))), none⟩]) (.block 2 (.loop (.seq (.reg false [⟨(some 27), (.bin .lss (.t 26) (.t 25)), none⟩]) (.seq (.cond (.t 27) .skip (.exit 2)) (.seq (.block 3 (.seq (.reg false [⟨(some 28), (.mv (.t 26)), none⟩, ⟨(some 29), (.ia 1 (.t 24) (.t 26)), none⟩, ⟨(some 30), (.ld1 (.t 29)), none⟩, ⟨(some 11), (.mv (.t 28)), none⟩, ⟨(some 12), (.mv (.t 30)), none⟩]) (.seq (.reg false [⟨(some 31), (.mv (.t 2)), none⟩, ⟨(some 32), (.mv (.t 11)), none⟩, ⟨(some 33), (.call (.f 118) [(.t 31), (.t 32)]), none⟩]) (.cond (.t 33) (.reg false [⟨(some 34), (.mv (.t 10)), none⟩, ⟨(some 35), (.mv (.t 12)), none⟩, ⟨(some 36), (.lit 2 1 1 [(.int .i64 0)] [(0, (.t 35))]), none⟩, ⟨(some 37), (.app 2 1 8 [(.int .i64 0)] (.t 34) (.t 36)), none⟩, ⟨(some 10), (.mv (.t 37)), none⟩]) .skip)))) (.reg false [⟨(some 38), (.bin .add (.t 26) (.c (.int .i64 1))), none⟩, ⟨(some 26), (.mv (.t 38)), none⟩]))))))) (.reg false [⟨(some 39), (.mv (.t 7)), none⟩, ⟨(some 40), (.mv (.t 10)), none⟩, ⟨(some 41), (.lit 29 1 1 [.nilsl] [(0, (.t 40))]), none⟩, ⟨(some 42), (.app 29 1 24 [.nilsl] (.t 39) (.t 41)), none⟩, ⟨(some 7), (.mv (.t 42)), none⟩])))))) (.reg false [⟨(some 43), (.bin .add (.t 15) (.c (.int .i64 1))), none⟩, ⟨(some 15), (.mv (.t 43)), none⟩]))))))) (.seq (.reg false [⟨(some 44), (.mv (.t 7)), none⟩, ⟨(some 6), (.mv (.t 44)), none⟩]) .ret)))), 45, [(.t 6)]⟩
theorem k_impl_part : compF Try.prog Try.f72 = some c_impl_part := by kernel_rfl
def c_spec_l01Part : F := ⟨(.seq (.reg false [⟨(some 4), (.mv (.c .nilsl)), none⟩]) (.seq (.reg false [⟨(some 9), (.lit 29 1 0 [.nilsl] []), none⟩, ⟨(some 5), (.mv (.t 9)), none⟩]) (.seq (.seq (.reg false [⟨(some 6), (.mv (.c (.int .i64 0))), none⟩]) (.block 0 (.loop (.seq (.seq (.reg false [⟨(some 10), (.mv (.t 6)), none⟩, ⟨(some 11), (.mv (.t 0)), none⟩, ⟨(some 12), (.len (.t 11)), none⟩, ⟨(some 13), (.bin .lss (.t 10) (.t 12)), none⟩]) (.cond (.t 13) .skip (.exit 0))) (.seq (.block 1 (.seq (.seq (.reg false [⟨(some 16), (.mv (.t 1)), none⟩, ⟨(some 17), (.mv (.t 6)), none⟩, ⟨(some 18), (.cvi .u64 (.t 17)), none⟩, ⟨(some 19), (.bin .shr (.t 16) (.t 18)), none⟩, ⟨(some 20), (.bin .and (.t 19) (.c (.int .i64 1))), none⟩, ⟨(some 21), (.bin .eql (.t 20) (.c (.int .i64 0))), none⟩]) (.cond (.t 21) (.exit 1) .skip)) (.seq (.reg false [⟨(some 22), (.lit 2 1 0 [(.int .i64 0)] []), none⟩, ⟨(some 7), (.mv (.t 22)), none⟩]) (.seq (.seq (.reg false [⟨(some 8), (.mv (.c (.int .i64 0))), none⟩]) (.block 2 (.loop (.seq (.seq (.reg false [⟨(some 23), (.mv (.t 8)), none⟩, ⟨(some 24), (.mv (.t 0)), none⟩, ⟨(some 25), (.len (.t 24)), none⟩, ⟨(some 26), (.bin .lss (.t 23) (.t 25)), none⟩]) (.cond (.t 26) .skip (.exit 2))) (.seq (.block 3 (.seq (.reg false [⟨(some 29), (.mv (.t 1)), none⟩, ⟨(some 30), (.mv (.t 8)), none⟩, ⟨(some 31), (.cvi .u64 (.t 30)), none⟩, ⟨(some 32), (.bin .shr (.t 29) (.t 31)), none⟩, ⟨(some 33), (.bin .and (.t 32) (.c (.int .i64 1))), none⟩, ⟨(some 34), (.bin .eql (.t 33) (.c (.int .i64 1))), none⟩]) (.cond (.t 34) (.reg false [⟨(some 35), (.mv (.t 7)), none⟩, ⟨(some 36), (.mv (.t 0)), none⟩, ⟨(some 37), (.mv (.t 6)), none⟩, ⟨(some 38), (.ia 1 (.t 36) (.t 37)), none⟩, ⟨(some 39), (.ld1 (.t 38)), none⟩, ⟨(some 40), (.mv (.t 8)), none⟩, ⟨(some 41), (.ia 1 (.t 39) (.t 40)), none⟩, ⟨(some 42), (.ld1 (.t 41)), none⟩, ⟨(some 43), (.lit 2 1 1 [(.int .i64 0)] [(0, (.t 42))]), none⟩, ⟨(some 44), (.app 2 1 8 [(.int .i64 0)] (.t 35) (.t 43)), none⟩, ⟨(some 7), (.mv (.t 44)), none⟩]) .skip))) (.reg false [⟨(some 27), (.mv (.t 8)), none⟩, ⟨(some 28), (.bin .add (.t 27) (.c (.int .i64 1))), none⟩, ⟨(some 8), (.mv (.t 28)), none⟩])))))) (.reg false [⟨(some 45), (.mv (.t 5)), none⟩, ⟨(some 46), (.mv (.t 7)), none⟩, ⟨(some 47), (.lit 29 1 1 [.nilsl] [(0, (.t 46))]), none⟩, ⟨(some 48), (.app 29 1 24 [.nilsl] (.t 45) (.t 47)), none⟩, ⟨(some 5), (.mv (.t 48)), none⟩]))))) (.reg false [⟨(some 14), (.mv (.t 6)), none⟩, ⟨(some 15), (.bin .add (.t 14) (.c (.int .i64 1))), none⟩, ⟨(some 6), (.mv (.t 15)), none⟩])))))) (.seq (.reg false [⟨(some 49), (.mv (.t 5)), none⟩, ⟨(some 4), (.mv (.t 49)), none⟩]) .ret)))), 50, [(.t 4)]⟩
theorem k_spec_l01Part : compF Try.prog Try.f115 = some c_spec_l01Part := by kernel_rfl
def c_spec_l03By : F := ⟨(.seq (.reg false [⟨(some 6), (.mv (.c (.int .i64 0))), none⟩]) (.seq (.reg false [⟨(some 11), (.lit 29 1 0 [.nilsl] []), none⟩, ⟨(some 7), (.mv (.t 11)), none⟩]) (.seq (.seq (.reg false [⟨(some 8), (.mv (.c (.int .i64 0))), none⟩]) (.block 0 (.loop (.seq (.seq (.reg false [⟨(some 12), (.mv (.t 8)), none⟩, ⟨(some 13), (.mv (.t 0)), none⟩, ⟨(some 14), (.len (.t 13)), none⟩, ⟨(some 15), (.bin .lss (.t 12) (.t 14)), none⟩]) (.cond (.t 15) .skip (.exit 0))) (.seq (.block 1 (.seq (.seq (.reg false [⟨(some 18), (.mv (.t 1)), none⟩, ⟨(some 19), (.mv (.t 8)), none⟩, ⟨(some 20), (.cvi .u64 (.t 19)), none⟩, ⟨(some 21), (.bin .shr (.t 18) (.t 20)), none⟩, ⟨(some 22), (.bin .and (.t 21) (.c (.int .i64 1))), none⟩, ⟨(some 23), (.bin .eql (.t 22) (.c (.int .i64 0))), none⟩]) (.cond (.t 23) (.exit 1) .skip)) (.seq (.reg false [⟨(some 24), (.lit 2 1 0 [(.int .i64 0)] []), none⟩, ⟨(some 9), (.mv (.t 24)), none⟩]) (.seq (.seq (.reg false [⟨(some 10), (.mv (.c (.int .i64 0))), none⟩]) (.block 2 (.loop (.seq (.seq (.reg false [⟨(some 25), (.mv (.t 10)), none⟩, ⟨(some 26), (.mv (.t 0)), none⟩, ⟨(some 27), (.len (.t 26)), none⟩, ⟨(some 28), (.bin .lss (.t 25) (.t 27)), none⟩]) (.cond (.t 28) .skip (.exit 2))) (.seq (.block 3 (.seq (.reg false [⟨(some 31), (.mv (.t 2)), none⟩, ⟨(some 32), (.mv (.t 10)), none⟩, ⟨(some 33), (.cvi .u64 (.t 32)), none⟩, ⟨(some 34), (.bin .shr (.t 31) (.t 33)), none⟩, ⟨(some 35), (.bin .and (.t 34) (.c (.int .i64 1))), none⟩, ⟨(some 36), (.bin .eql (.t 35) (.c (.int .i64 1))), none⟩]) (.cond (.t 36) (.reg false [⟨(some 37), (.mv (.t 9)), none⟩, ⟨(some 38), (.mv (.t 0)), none⟩, ⟨(some 39), (.mv (.t 8)), none⟩, ⟨(some 40), (.ia 1 (.t 38) (.t 39)), none⟩, ⟨(some 41), (.ld1 (.t 40)), none⟩, ⟨(some 42), (.mv (.t 10)), none⟩, ⟨(some 43), (.ia 1 (.t 41) (.t 42)), none⟩, ⟨(some 44), (.ld1 (.t 43)), none⟩, ⟨(some 45), (.lit 2 1 1 [(.int .i64 0)] [(0, (.t 44))]), none⟩, ⟨(some 46), (.app 2 1 8 [(.int .i64 0)] (.t 37) (.t 45)), none⟩, ⟨(some 9), (.mv (.t 46)), none⟩]) .skip))) (.reg false [⟨(some 29), (.mv (.t 10)), none⟩, ⟨(some 30), (.bin .add (.t 29) (.c (.int .i64 1))), none⟩, ⟨(some 10), (.mv (.t 30)), none⟩])))))) (.reg false [⟨(some 47), (.mv (.t 7)), none⟩, ⟨(some 48), (.mv (.t 9)), none⟩, ⟨(some 49), (.lit 29 1 1 [.nilsl] [(0, (.t 48))]), none⟩, ⟨(some 50), (.app 29 1 24 [.nilsl] (.t 47) (.t 49)), none⟩, ⟨(some 7), (.mv (.t 50)), none⟩]))))) (.reg false [⟨(some 16), (.mv (.t 8)), none⟩, ⟨(some 17), (.bin .add (.t 16) (.c (.int .i64 1))), none⟩, ⟨(some 8), (.mv (.t 17)), none⟩])))))) (.seq (.reg false [⟨(some 51), (.mv (.t 7)), none⟩, ⟨(some 52), (.call (.f 114) [(.t 51)]), none⟩, ⟨(some 6), (.mv (.t 52)), none⟩]) .ret)))), 53, [(.t 6)]⟩
theorem k_spec_l03By : compF Try.prog Try.f85 = some c_spec_l03By := by kernel_rfl
def c_impl_count : F := ⟨(.seq (.reg false [⟨(some 2), (.mv (.c (.int .i64 0))), none⟩]) (.seq (.reg false [⟨(some 3), (.mv (.c (.int .i64 0))), none⟩]) (.seq (.block 0 (.loop (.seq (.seq (.reg false [⟨(some 4), (.mv (.t 0)), none⟩, ⟨(some 5), (.bin .gtr (.t 4) (.c (.int .i64 0))), none⟩]) (.cond (.t 5) .skip (.exit 0))) (.seq (.block 1 (.reg false [⟨(some 10), (.mv (.t 3)), none⟩, ⟨(some 11), (.bin .add (.t 10) (.c (.int .i64 1))), none⟩, ⟨(some 3), (.mv (.t 11)), none⟩])) (.reg false [⟨(some 6), (.mv (.t 0)), none⟩, ⟨(some 7), (.mv (.t 0)), none⟩, ⟨(some 8), (.bin .sub (.t 7) (.c (.int .i64 1))), none⟩, ⟨(some 9), (.bin .and (.t 6) (.t 8)), none⟩, ⟨(some 0), (.mv (.t 9)), none⟩]))))) (.seq (.reg false [⟨(some 12), (.mv (.t 3)), none⟩, ⟨(some 2), (.mv (.t 12)), none⟩]) .ret)))), 13, [(.t 2)]⟩
theorem k_impl_count : compF Try.prog Try.f70 = some c_impl_count := by kernel_rfl
def c_spec_l01Ones : F := ⟨(.seq (.reg false [⟨(some 2), (.mv (.c (.int .i64 0))), none⟩]) (.seq (.reg false [⟨(some 3), (.mv (.c (.int .i64 0))), none⟩]) (.seq (.block 0 (.loop (.seq (.seq (.reg false [⟨(some 4), (.mv (.t 0)), none⟩, ⟨(some 5), (.bin .gtr (.t 4) (.c (.int .i64 0))), none⟩]) (.cond (.t 5) .skip (.exit 0))) (.seq (.block 1 (.reg false [⟨(some 8), (.mv (.t 3)), none⟩, ⟨(some 9), (.mv (.t 0)), none⟩, ⟨(some 10), (.bin .rem (.t 9) (.c (.int .i64 2))), none⟩, ⟨(some 11), (.bin .add (.t 8) (.t 10)), none⟩, ⟨(some 3), (.mv (.t 11)), none⟩])) (.reg false [⟨(some 6), (.mv (.t 0)), none⟩, ⟨(some 7), (.bin .quo (.t 6) (.c (.int .i64 2))), none⟩, ⟨(some 0), (.mv (.t 7)), none⟩]))))) (.seq (.reg false [⟨(some 12), (.mv (.t 3)), none⟩, ⟨(some 2), (.mv (.t 12)), none⟩]) .ret)))), 13, [(.t 2)]⟩
theorem k_spec_l01Ones : compF Try.prog Try.f83 = some c_spec_l01Ones := by kernel_rfl
def c_impl_minor : F := ⟨(.seq (.reg false [⟨(some 4), (.mv (.c (.int .i64 0))), none⟩]) (.seq (.reg false [⟨(some 5), (.mv (.t 0)), none⟩, ⟨(some 6), (.mv (.t 1)), none⟩, ⟨(some 7), (.mv (.t 1)), none⟩, ⟨(some 8), (.call (.f 72) [(.t 5), (.t 6), (.t 7)]), none⟩, ⟨(some 9), (.call (.f 71) [(.t 8)]), none⟩, ⟨(some 4), (.mv (.t 9)), none⟩]) .ret)), 10, [(.t 4)]⟩
theorem k_impl_minor : compF Try.prog Try.f68 = some c_impl_minor := by kernel_rfl
def c_spec_l03Minor : F := ⟨(.seq (.reg false [⟨(some 4), (.mv (.c (.int .i64 0))), none⟩]) (.seq (.reg false [⟨(some 5), (.mv (.t 0)), none⟩, ⟨(some 6), (.mv (.t 1)), none⟩, ⟨(some 7), (.call (.f 115) [(.t 5), (.t 6)]), none⟩, ⟨(some 8), (.call (.f 114) [(.t 7)]), none⟩, ⟨(some 4), (.mv (.t 8)), none⟩]) .ret)), 9, [(.t 4)]⟩
theorem k_spec_l03Minor : compF Try.prog Try.f69 = some c_spec_l03Minor := by kernel_rfl

def pw (n : Nat) : Nat := 2 ^ n
theorem pw_le {n : Nat} (h : n ≤ 5) : 1 ≤ pw n ∧ pw n ≤ 32 := by
  match n, h with
  | 0, _ | 1, _ | 2, _ | 3, _ | 4, _ | 5, _ => decide
theorem shl1 {n : Nat} (h : n ≤ 5) : (1 : Int) * 2 ^ (min n IntKind.i64.bits) = (pw n : Int) := by
  match n, h with
  | 0, _ | 1, _ | 2, _ | 3, _ | 4, _ | 5, _ => decide
theorem bitf (s : Int) (i : Nat) : bitv .and .i64 (s.fdiv (2 ^ (min i IntKind.i64.bits))) 1 = bitI s i := rfl
def inSet (n : Nat) (s : Int) : Bool := decide (0 ≤ s ∧ s ≤ (pw n : Int) - 1)
theorem impl_has (s : Int) (i : Nat) (h : AH) (n : Nat) : Q Try.prog 118 [.int .i64 s, .int .i64 i] h n (.bool (hasB s i)) := by
  refine q_intro Try.func118 k_impl_has ?_
  simp (maxSteps := 2000000) -implicitDefEqProofs (disch := omega) only [c_impl_has, bitf, xsW, xsC, if_true, if_false, ite_true, ite_false, forall_const, ne_eq, beq_self_eq_true, bne_self_eq_false, imp_self, true_implies, false_implies, implies_true, evP, evE, ev, setD, Nat.reduceAdd, Nat.reduceSub, reduceCtorEq, fillA, cutA, Nat.reduceLeDiff, Nat.reduceMul, Int.reduceLT, Int.reduceLE, Int.reduceEq, Int.reduceNe, Int.reduceAdd, Int.reduceSub, Int.reduceMul, Int.reduceNeg, Int.reduceToNat]
  rfl
theorem impl_isSet (s : Int) (N : Nat) (hN : N ≤ 5) (h : AH) (n : Nat) : Q Try.prog 113 [.int .i64 s, .int .i64 N] h n (.bool (inSet N s)) := by
  refine q_intro Try.func113 k_impl_isSet ?_
  have hp := pw_le hN
  simp (maxSteps := 2000000) -implicitDefEqProofs (disch := omega) only [c_impl_isSet, shl1, xsW, xsC, if_true, if_false, ite_true, ite_false, forall_const, ne_eq, beq_self_eq_true, bne_self_eq_false, imp_self, true_implies, false_implies, implies_true, evP, evE, ev, setD, Nat.reduceAdd, Nat.reduceSub, reduceCtorEq, fillA, cutA, Nat.reduceLeDiff, Nat.reduceMul, Int.reduceLT, Int.reduceLE, Int.reduceEq, Int.reduceNe, Int.reduceAdd, Int.reduceSub, Int.reduceMul, Int.reduceNeg, Int.reduceToNat]
  refine q_use (impl_within _ _ _ _ _) fun n1 hn1 => ?_
  simp (maxSteps := 2000000) -implicitDefEqProofs (disch := omega) only [xsW, xsC, if_true, if_false, ite_true, ite_false, forall_const, ne_eq, beq_self_eq_true, bne_self_eq_false, imp_self, true_implies, false_implies, implies_true, evP, evE, ev, setD, Nat.reduceAdd, Nat.reduceSub, reduceCtorEq, fillA, cutA, Nat.reduceLeDiff, Nat.reduceMul, Int.reduceLT, Int.reduceLE, Int.reduceEq, Int.reduceNe, Int.reduceAdd, Int.reduceSub, Int.reduceMul, Int.reduceNeg, Int.reduceToNat]
  rfl
theorem impl_matrixCode1 {w : Bool} {lo hi : Nat} {h : AH} {v : AV} {vs : List AV} {ll : List (List Int)} (s : Rows w lo hi h v vs ll) (hl : ll.length ≤ 5) (a : Int) {i n : Nat} {op : Nat} {wr : Bool} {ty : Nat} (hb : h i = some ⟨ty, [v], wr, op⟩) :
    Q Try.prog 112 [.int .i64 a, .ptr i 0] h n (.bool (!inSet ll.length a)) := by
  refine q_intro Try.func112 k_impl_matrixCode_1 ?_
  simp (maxSteps := 2000000) -implicitDefEqProofs (disch := omega) only [c_impl_matrixCode_1, hb, s.ln, xsW, xsC, if_true, if_false, ite_true, ite_false, forall_const, ne_eq, beq_self_eq_true, bne_self_eq_false, imp_self, true_implies, false_implies, implies_true, evP, evE, ev, setD, Nat.reduceAdd, Nat.reduceSub, reduceCtorEq, fillA, cutA, Nat.reduceLeDiff, Nat.reduceMul, Int.reduceLT, Int.reduceLE, Int.reduceEq, Int.reduceNe, Int.reduceAdd, Int.reduceSub, Int.reduceMul, Int.reduceNeg, Int.reduceToNat]
  refine q_use (impl_isSet _ _ hl _ _) fun n1 hn1 => ?_
  simp (maxSteps := 2000000) -implicitDefEqProofs (disch := omega) only [xsW, xsC, if_true, if_false, ite_true, ite_false, forall_const, ne_eq, beq_self_eq_true, bne_self_eq_false, imp_self, true_implies, false_implies, implies_true, evP, evE, ev, setD, Nat.reduceAdd, Nat.reduceSub, reduceCtorEq, fillA, cutA, Nat.reduceLeDiff, Nat.reduceMul, Int.reduceLT, Int.reduceLE, Int.reduceEq, Int.reduceNe, Int.reduceAdd, Int.reduceSub, Int.reduceMul, Int.reduceNeg, Int.reduceToNat]
def codeM (ll : List (List Int)) (l : List Int) : Int := if isMat ll = true then (if l.all (inSet ll.length) = true then 0 else 2) else 1
theorem impl_matrixCode {w w' : Bool} {lo hi lo' hi' : Nat} {h : AH} {v u : AV} {vs : List AV} {ll : List (List Int)} {l : List Int} (s : Rows w lo hi h v vs ll) (hl : ll.length ≤ 1048576) (hll : ∀ l ∈ ll, l.length ≤ 1048576) (q : Ints w' lo' hi' h u l) (hq : l.length ≤ 1048576) (n : Nat) (hn : hi ≤ n) (hn' : hi' ≤ n) :
    Q Try.prog 67 [v, u] h n (.int .i64 (codeM ll l)) := by
  refine q_intro Try.func67 k_impl_matrixCode ?_
  have o1 := one_any (Sl.any s.out)
  have o2 := sto_any (Sl.any s.out)
  have o3 := cel_any (Sl.any s.out)
  have hs := q.slen
  unfold codeM
  simp (maxSteps := 2000000) -implicitDefEqProofs (disch := omega) only [c_impl_matrixCode, o1, o2, o3, xsW, xsC, if_true, if_false, ite_true, ite_false, forall_const, ne_eq, beq_self_eq_true, bne_self_eq_false, imp_self, true_implies, false_implies, implies_true, evP, evE, ev, setD, Nat.reduceAdd, Nat.reduceSub, reduceCtorEq, fillA, cutA, Nat.reduceLeDiff, Nat.reduceMul, Int.reduceLT, Int.reduceLE, Int.reduceEq, Int.reduceNe, Int.reduceAdd, Int.reduceSub, Int.reduceMul, Int.reduceNeg, Int.reduceToNat]
  refine q_use (impl_IsMatrix (s.keep (fun i _ hi9 => by simp (disch := omega) only [upd_other])) hl hll _ (by omega)) fun n1 hn1 => ?_
  cases hm : isMat ll
  · simp (maxSteps := 2000000) -implicitDefEqProofs (disch := omega) only [xsW, xsC, if_true, if_false, ite_true, ite_false, forall_const, ne_eq, beq_self_eq_true, bne_self_eq_false, imp_self, true_implies, false_implies, implies_true, evP, evE, ev, setD, Nat.reduceAdd, Nat.reduceSub, reduceCtorEq, fillA, cutA, Nat.reduceLeDiff, Nat.reduceMul, Int.reduceLT, Int.reduceLE, Int.reduceEq, Int.reduceNe, Int.reduceAdd, Int.reduceSub, Int.reduceMul, Int.reduceNeg, Int.reduceToNat]
  · have hN := ((isMat_iff ll).1 hm).2.1
    simp (maxSteps := 2000000) -implicitDefEqProofs (disch := omega) only [xsW, xsC, if_true, if_false, ite_true, ite_false, forall_const, ne_eq, beq_self_eq_true, bne_self_eq_false, imp_self, true_implies, false_implies, implies_true, evP, evE, ev, setD, Nat.reduceAdd, Nat.reduceSub, reduceCtorEq, fillA, cutA, Nat.reduceLeDiff, Nat.reduceMul, Int.reduceLT, Int.reduceLE, Int.reduceEq, Int.reduceNe, Int.reduceAdd, Int.reduceSub, Int.reduceMul, Int.reduceNeg, Int.reduceToNat]
    refine q_use (has_ints (Ints.keep q (fun i _ hi9 => by simp (disch := omega) only [upd_other])) (by omega) _ _ (fun k => !inSet ll.length (l.getD k 0)) _ fun k n' hk _ => by
      rw [ints_getD l k (by omega)]
      exact impl_matrixCode1 (s.keep (fun i _ hi9 => by simp (disch := omega) only [upd_other])) hN _ (upd_same _ _ _)) fun n2 hn2 => ?_
    rw [hs, any_range l 0 (fun x => !inSet ll.length x), show (l.any fun x => !inSet ll.length x) = !(l.all (inSet ll.length)) by rw [← not_any]; simp]
    cases ha : l.all (inSet ll.length)
    · simp (maxSteps := 2000000) -implicitDefEqProofs (disch := omega) only [xsW, xsC, if_true, if_false, ite_true, ite_false, forall_const, ne_eq, beq_self_eq_true, bne_self_eq_false, imp_self, true_implies, false_implies, implies_true, evP, evE, ev, setD, Nat.reduceAdd, Nat.reduceSub, reduceCtorEq, fillA, cutA, Nat.reduceLeDiff, Nat.reduceMul, Int.reduceLT, Int.reduceLE, Int.reduceEq, Int.reduceNe, Int.reduceAdd, Int.reduceSub, Int.reduceMul, Int.reduceNeg, Int.reduceToNat]
    · simp (maxSteps := 2000000) -implicitDefEqProofs (disch := omega) only [xsW, xsC, if_true, if_false, ite_true, ite_false, forall_const, ne_eq, beq_self_eq_true, bne_self_eq_false, imp_self, true_implies, false_implies, implies_true, evP, evE, ev, setD, Nat.reduceAdd, Nat.reduceSub, reduceCtorEq, fillA, cutA, Nat.reduceLeDiff, Nat.reduceMul, Int.reduceLT, Int.reduceLE, Int.reduceEq, Int.reduceNe, Int.reduceAdd, Int.reduceSub, Int.reduceMul, Int.reduceNeg, Int.reduceToNat]
theorem spec_l03Set {w w' : Bool} {lo hi lo' hi' : Nat} {h : AH} {v u : AV} {vs : List AV} {ll : List (List Int)} {l : List Int} (s : Rows w lo hi h v vs ll) (hl : ll.length ≤ 1048576) (q : Ints w' lo' hi' h u l) (hq : l.length ≤ 1048576) (n : Nat) :
    Q Try.prog 62 [v, u] h n (.int .i64 (codeM ll l)) := by
  refine q_intro Try.func62 k_spec_l03Set ?_
  unfold codeM
  simp (maxSteps := 2000000) -implicitDefEqProofs (disch := omega) only [c_spec_l03Set, xsW, xsC, if_true, if_false, ite_true, ite_false, forall_const, ne_eq, beq_self_eq_true, bne_self_eq_false, imp_self, true_implies, false_implies, implies_true, evP, evE, ev, setD, Nat.reduceAdd, Nat.reduceSub, reduceCtorEq, fillA, cutA, Nat.reduceLeDiff, Nat.reduceMul, Int.reduceLT, Int.reduceLE, Int.reduceEq, Int.reduceNe, Int.reduceAdd, Int.reduceSub, Int.reduceMul, Int.reduceNeg, Int.reduceToNat]
  refine q_use (spec_l01Matrix s hl _) fun n1 hn1 => ?_
  cases hm : isMat ll
  · simp (maxSteps := 2000000) -implicitDefEqProofs (disch := omega) only [xsW, xsC, if_true, if_false, ite_true, ite_false, forall_const, ne_eq, beq_self_eq_true, bne_self_eq_false, imp_self, true_implies, false_implies, implies_true, evP, evE, ev, setD, Nat.reduceAdd, Nat.reduceSub, reduceCtorEq, fillA, cutA, Nat.reduceLeDiff, Nat.reduceMul, Int.reduceLT, Int.reduceLE, Int.reduceEq, Int.reduceNe, Int.reduceAdd, Int.reduceSub, Int.reduceMul, Int.reduceNeg, Int.reduceToNat]
  · have hN := ((isMat_iff ll).1 hm).2.1
    have hp := pw_le hN
    simp (maxSteps := 2000000) -implicitDefEqProofs (disch := omega) only [xsW, xsC, if_true, if_false, ite_true, ite_false, forall_const, ne_eq, beq_self_eq_true, bne_self_eq_false, imp_self, true_implies, false_implies, implies_true, evP, evE, ev, setD, Nat.reduceAdd, Nat.reduceSub, reduceCtorEq, fillA, cutA, Nat.reduceLeDiff, Nat.reduceMul, Int.reduceLT, Int.reduceLE, Int.reduceEq, Int.reduceNe, Int.reduceAdd, Int.reduceSub, Int.reduceMul, Int.reduceNeg, Int.reduceToNat]
    refine loop_for l.length 0 (fun k (_ : Unit) => [v, u, .any, .any, .int .i64 0, .int .i64 k, .any, .any, .any, .any, .any, .any, .any, .any, .any, .any, .any, .any, .any, .any, .any, .any, .any, .any, .any, .any]) (fun k _ => h) (fun k _ _ => ∀ j, j < k → inSet ll.length (l.getD j 0) = true) () (Nat.zero_le _) (fun j hj => absurd hj (Nat.not_lt_zero _)) (by simp [LeL, Le1]) (fun _ _ h => h) ?_
    rintro k - n2 - hk hn2 he
    simp (maxSteps := 2000000) -implicitDefEqProofs (disch := omega) only [xsW, xsC, if_true, if_false, ite_true, ite_false, forall_const, ne_eq, beq_self_eq_true, bne_self_eq_false, imp_self, true_implies, false_implies, implies_true, evP, evE, ev, setD, Nat.reduceAdd, Nat.reduceSub, reduceCtorEq, fillA, cutA, Nat.reduceLeDiff, Nat.reduceMul, Int.reduceLT, Int.reduceLE, Int.reduceEq, Int.reduceNe, Int.reduceAdd, Int.reduceSub, Int.reduceMul, Int.reduceNeg, Int.reduceToNat,  q.ln]
    (refine cd_dec (fun c1 => ?_) (fun c1 => ?_) <;> simp (maxSteps := 2000000) -implicitDefEqProofs (disch := omega) only [xsW, xsC, if_true, if_false, ite_true, ite_false, forall_const, ne_eq, beq_self_eq_true, bne_self_eq_false, imp_self, true_implies, false_implies, implies_true, evP, evE, ev, setD, Nat.reduceAdd, Nat.reduceSub, reduceCtorEq, fillA, cutA, Nat.reduceLeDiff, Nat.reduceMul, Int.reduceLT, Int.reduceLE, Int.reduceEq, Int.reduceNe, Int.reduceAdd, Int.reduceSub, Int.reduceMul, Int.reduceNeg, Int.reduceToNat,  c1])
    · have hk2 : k < l.length := by omega
      simp (maxSteps := 2000000) -implicitDefEqProofs (disch := omega) only [xsW, xsC, if_true, if_false, ite_true, ite_false, forall_const, ne_eq, beq_self_eq_true, bne_self_eq_false, imp_self, true_implies, false_implies, implies_true, evP, evE, ev, setD, Nat.reduceAdd, Nat.reduceSub, reduceCtorEq, fillA, cutA, Nat.reduceLeDiff, Nat.reduceMul, Int.reduceLT, Int.reduceLE, Int.reduceEq, Int.reduceNe, Int.reduceAdd, Int.reduceSub, Int.reduceMul, Int.reduceNeg, Int.reduceToNat,  q.ia, q.ld, s.ln, shl1]
      refine q_use (spec_l01In _ _ _ _ _) fun n3 hn3 => ?_
      simp (maxSteps := 2000000) -implicitDefEqProofs (disch := omega) only [xsW, xsC, if_true, if_false, ite_true, ite_false, forall_const, ne_eq, beq_self_eq_true, bne_self_eq_false, imp_self, true_implies, false_implies, implies_true, evP, evE, ev, setD, Nat.reduceAdd, Nat.reduceSub, reduceCtorEq, fillA, cutA, Nat.reduceLeDiff, Nat.reduceMul, Int.reduceLT, Int.reduceLE, Int.reduceEq, Int.reduceNe, Int.reduceAdd, Int.reduceSub, Int.reduceMul, Int.reduceNeg, Int.reduceToNat]
      (refine cd_dec (fun c2 => ?_) (fun c2 => ?_) <;> simp (maxSteps := 2000000) -implicitDefEqProofs (disch := omega) only [xsW, xsC, if_true, if_false, ite_true, ite_false, forall_const, ne_eq, beq_self_eq_true, bne_self_eq_false, imp_self, true_implies, false_implies, implies_true, evP, evE, ev, setD, Nat.reduceAdd, Nat.reduceSub, reduceCtorEq, fillA, cutA, Nat.reduceLeDiff, Nat.reduceMul, Int.reduceLT, Int.reduceLE, Int.reduceEq, Int.reduceNe, Int.reduceAdd, Int.reduceSub, Int.reduceMul, Int.reduceNeg, Int.reduceToNat,  c2])
      · rw [if_neg fun ha => c2 (by
          have := List.all_eq_true.1 ha _ (getD_mem (d := 0) hk2)
          simpa only [inSet, decide_eq_true_eq] using this)]
      · exact ⟨(), fun j hj => (Nat.lt_succ_iff_lt_or_eq.1 hj).elim (he j) (fun e => by rw [e]; simp only [inSet, decide_eq_true_eq]; exact Decidable.not_not.1 c2), by omega, by omega, (by simp [LeL, Le1])⟩
    · rw [if_pos]
      rw [List.all_eq_true]
      intro x hx
      obtain ⟨j, hj, rfl⟩ := List.mem_iff_getElem.1 hx
      have := he j (by omega)
      simpa [List.getD, hj] using this
/-- The part as far as the row i. -/
def prt (ll : List (List Int)) (s t : Int) (i : Nat) : List (List Int) := (places s i).map fun r => (places t ll.length).map fun k => at2 ll r k
theorem prt_t {ll : List (List Int)} {s t : Int} {i : Nat} (h : hasB s i = true) : prt ll s t (i + 1) = prt ll s t i ++ [(places t ll.length).map fun k => at2 ll i k] := by simp [prt, places_succ, h]
theorem prt_f {ll : List (List Int)} {s t : Int} {i : Nat} (h : hasB s i = false) : prt ll s t (i + 1) = prt ll s t i := by simp [prt, places_succ, h]
theorem prt_len (ll : List (List Int)) (s t : Int) (i : Nat) : (prt ll s t i).length ≤ i := by simp only [prt, List.length_map]; exact places_len s i
def prw (ll : List (List Int)) (t : Int) (i k : Nat) : List Int := (places t k).map fun k => at2 ll i k
theorem prw_t {ll : List (List Int)} {t : Int} {i k : Nat} (h : hasB t k = true) : prw ll t i (k + 1) = prw ll t i k ++ [at2 ll i k] := by simp [prw, places_succ, h]
theorem prw_f {ll : List (List Int)} {t : Int} {i k : Nat} (h : hasB t k = false) : prw ll t i (k + 1) = prw ll t i k := by simp [prw, places_succ, h]
theorem prw_len (ll : List (List Int)) (t : Int) (i k : Nat) : (prw ll t i k).length ≤ k := by simp only [prw, List.length_map]; exact places_len t k
theorem impl_part {w : Bool} {lo hi : Nat} {h : AH} {v : AV} {vs : List AV} {ll : List (List Int)} (sR : Rows w lo hi h v vs ll) (hN : ll.length ≤ 5) (hs : Sq ll.length ll) (a b : Int) (n : Nat) (hn : hi ≤ n) :
    FQ Try.prog 72 [v, .int .i64 a, .int .i64 b] h n fun v' h' n' => ∃ vs', Rows true n n' h' v' vs' (partL ll a b) := by
  refine fq_intro Try.func72 k_impl_part ?_
  simp (maxSteps := 2000000) -implicitDefEqProofs (disch := omega) only [c_impl_part, sR.ln, xsW, xsC, if_true, if_false, ite_true, ite_false, forall_const, ne_eq, beq_self_eq_true, bne_self_eq_false, imp_self, true_implies, false_implies, implies_true, evP, evE, ev, setD, Nat.reduceAdd, Nat.reduceSub, reduceCtorEq, fillA, cutA, Nat.reduceLeDiff, Nat.reduceMul, Int.reduceLT, Int.reduceLE, Int.reduceEq, Int.reduceNe, Int.reduceAdd, Int.reduceSub, Int.reduceMul, Int.reduceNeg, Int.reduceToNat]
  refine loop_for ll.length 0 (fun i p => [v, .int .i64 a, .int .i64 b, .any, .any, .any, .nilsl, p.1, .any, .any, .any, .any, .any, v, .int .i64 ll.length, .int .i64 i, .any, .any, .any, .any, .any, .any, .any, .any, .any, .any, .any, .any, .any, .any, .any, .any, .any, .any, .any, .any, .any, .any, .any, .any, .any, .any, .any, .any, .any]) (fun _ (p : AV × List AV × AH) => p.2.2)
    (fun i p m => Grow n m h p.2.2 29 p.1 p.2.1 (prt ll a b i)) (.nilsl, [], h) (Nat.zero_le _) Grow.start (by simp [LeL, Le1]) (fun _ _ h => h) ?_
  rintro i ⟨out, ws, hp⟩ m - hi1 hm g
  simp only at g
  have hold := g.old
  simp (maxSteps := 2000000) -implicitDefEqProofs (disch := omega) only [xsW, xsC, if_true, if_false, ite_true, ite_false, forall_const, ne_eq, beq_self_eq_true, bne_self_eq_false, imp_self, true_implies, false_implies, implies_true, evP, evE, ev, setD, Nat.reduceAdd, Nat.reduceSub, reduceCtorEq, fillA, cutA, Nat.reduceLeDiff, Nat.reduceMul, Int.reduceLT, Int.reduceLE, Int.reduceEq, Int.reduceNe, Int.reduceAdd, Int.reduceSub, Int.reduceMul, Int.reduceNeg, Int.reduceToNat]
  (refine cd_dec (fun c1 => ?_) (fun c1 => ?_) <;> simp (maxSteps := 2000000) -implicitDefEqProofs (disch := omega) only [xsW, xsC, if_true, if_false, ite_true, ite_false, forall_const, ne_eq, beq_self_eq_true, bne_self_eq_false, imp_self, true_implies, false_implies, implies_true, evP, evE, ev, setD, Nat.reduceAdd, Nat.reduceSub, reduceCtorEq, fillA, cutA, Nat.reduceLeDiff, Nat.reduceMul, Int.reduceLT, Int.reduceLE, Int.reduceEq, Int.reduceNe, Int.reduceAdd, Int.reduceSub, Int.reduceMul, Int.reduceNeg, Int.reduceToNat,  c1])
  · have hi2 : i < ll.length := by omega
    have hbl := sR.out.below (by rw [sR.slen]; omega)
    have hrow := sR.row i hi2
    have hlr := hs.2 i hi2
    simp (maxSteps := 2000000) -implicitDefEqProofs (disch := omega) only [xsW, xsC, if_true, if_false, ite_true, ite_false, forall_const, ne_eq, beq_self_eq_true, bne_self_eq_false, imp_self, true_implies, false_implies, implies_true, evP, evE, ev, setD, Nat.reduceAdd, Nat.reduceSub, reduceCtorEq, fillA, cutA, Nat.reduceLeDiff, Nat.reduceMul, Int.reduceLT, Int.reduceLE, Int.reduceEq, Int.reduceNe, Int.reduceAdd, Int.reduceSub, Int.reduceMul, Int.reduceNeg, Int.reduceToNat,  sR.ia, hold, sR.ld]
    refine q_use (impl_has _ _ _ _) fun n1 hn1 => ?_
    cases ha : hasB a i
    · simp (maxSteps := 2000000) -implicitDefEqProofs (disch := omega) only [xsW, xsC, if_true, if_false, ite_true, ite_false, forall_const, ne_eq, beq_self_eq_true, bne_self_eq_false, imp_self, true_implies, false_implies, implies_true, evP, evE, ev, setD, Nat.reduceAdd, Nat.reduceSub, reduceCtorEq, fillA, cutA, Nat.reduceLeDiff, Nat.reduceMul, Int.reduceLT, Int.reduceLE, Int.reduceEq, Int.reduceNe, Int.reduceAdd, Int.reduceSub, Int.reduceMul, Int.reduceNeg, Int.reduceToNat]
      exact ⟨(out, ws, hp), by rw [prt_f ha]; exact ⟨by have := g.le; omega, g.old, g.acc.wide (Nat.le_refl _) hn1, g.rows.wide (Nat.le_refl _) hn1, g.apart⟩, by omega, by omega, (by simp [LeL, Le1]), fun _ _ h => h⟩
    · simp (maxSteps := 2000000) -implicitDefEqProofs (disch := omega) only [xsW, xsC, if_true, if_false, ite_true, ite_false, forall_const, ne_eq, beq_self_eq_true, bne_self_eq_false, imp_self, true_implies, false_implies, implies_true, evP, evE, ev, setD, Nat.reduceAdd, Nat.reduceSub, reduceCtorEq, fillA, cutA, Nat.reduceLeDiff, Nat.reduceMul, Int.reduceLT, Int.reduceLE, Int.reduceEq, Int.reduceNe, Int.reduceAdd, Int.reduceSub, Int.reduceMul, Int.reduceNeg, Int.reduceToNat,  hrow.ln, hlr]
      refine loop_for ll.length 0 (fun k p => [v, .int .i64 a, .int .i64 b, .any, .any, .any, .nilsl, out, .int .i64 i, .any, p.1, .any, .any, v, .int .i64 ll.length, .int .i64 i, .any, .any, .any, .any, .any, .any, .any, .any, vs.getD i .any, .int .i64 ll.length, .int .i64 k, .any, .any, .any, .any, .any, .any, .any, .any, .any, .any, .any, .any, .any, .any, .any, .any, .any, .any]) (fun _ (p : AV × AH) => p.2)
        (fun k p m' => Acc m m' p.2 2 1 p.1 (ints (prw ll b i k)) ∧ m ≤ m' ∧ ∀ j, j < m → p.2 j = hp j) (.nilsl, hp) (Nat.zero_le _) ⟨Acc.nil, by omega, fun _ _ => rfl⟩ (by simp [LeL, Le1]) (fun _ _ h => h) ?_
      rintro k ⟨row, hq⟩ mB - hk1 hm2 ⟨acc, hle, hold2⟩
      simp only at acc hold2
      simp (maxSteps := 2000000) -implicitDefEqProofs (disch := omega) only [xsW, xsC, if_true, if_false, ite_true, ite_false, forall_const, ne_eq, beq_self_eq_true, bne_self_eq_false, imp_self, true_implies, false_implies, implies_true, evP, evE, ev, setD, Nat.reduceAdd, Nat.reduceSub, reduceCtorEq, fillA, cutA, Nat.reduceLeDiff, Nat.reduceMul, Int.reduceLT, Int.reduceLE, Int.reduceEq, Int.reduceNe, Int.reduceAdd, Int.reduceSub, Int.reduceMul, Int.reduceNeg, Int.reduceToNat]
      (refine cd_dec (fun c2 => ?_) (fun c2 => ?_) <;> simp (maxSteps := 2000000) -implicitDefEqProofs (disch := omega) only [xsW, xsC, if_true, if_false, ite_true, ite_false, forall_const, ne_eq, beq_self_eq_true, bne_self_eq_false, imp_self, true_implies, false_implies, implies_true, evP, evE, ev, setD, Nat.reduceAdd, Nat.reduceSub, reduceCtorEq, fillA, cutA, Nat.reduceLeDiff, Nat.reduceMul, Int.reduceLT, Int.reduceLE, Int.reduceEq, Int.reduceNe, Int.reduceAdd, Int.reduceSub, Int.reduceMul, Int.reduceNeg, Int.reduceToNat,  c2])
      · have hk2 : k < ll.length := by omega
        have hbr := Sl.below hrow (by rw [hrow.slen]; omega)
        simp (maxSteps := 2000000) -implicitDefEqProofs (disch := omega) only [xsW, xsC, if_true, if_false, ite_true, ite_false, forall_const, ne_eq, beq_self_eq_true, bne_self_eq_false, imp_self, true_implies, false_implies, implies_true, evP, evE, ev, setD, Nat.reduceAdd, Nat.reduceSub, reduceCtorEq, fillA, cutA, Nat.reduceLeDiff, Nat.reduceMul, Int.reduceLT, Int.reduceLE, Int.reduceEq, Int.reduceNe, Int.reduceAdd, Int.reduceSub, Int.reduceMul, Int.reduceNeg, Int.reduceToNat,  hrow.ia, hold2, hold, hrow.ld]
        refine q_use (impl_has _ _ _ _) fun n2 hn2 => ?_
        cases hb : hasB b k
        · simp (maxSteps := 2000000) -implicitDefEqProofs (disch := omega) only [xsW, xsC, if_true, if_false, ite_true, ite_false, forall_const, ne_eq, beq_self_eq_true, bne_self_eq_false, imp_self, true_implies, false_implies, implies_true, evP, evE, ev, setD, Nat.reduceAdd, Nat.reduceSub, reduceCtorEq, fillA, cutA, Nat.reduceLeDiff, Nat.reduceMul, Int.reduceLT, Int.reduceLE, Int.reduceEq, Int.reduceNe, Int.reduceAdd, Int.reduceSub, Int.reduceMul, Int.reduceNeg, Int.reduceToNat]
          exact ⟨(row, hq), ⟨by rw [prw_f hb]; exact acc.wide (Nat.le_refl _) hn2, by omega, hold2⟩, by omega, by omega, (by simp [LeL, Le1]), fun _ _ h => h⟩
        · simp (maxSteps := 2000000) -implicitDefEqProofs (disch := omega) only [xsW, xsC, if_true, if_false, ite_true, ite_false, forall_const, ne_eq, beq_self_eq_true, bne_self_eq_false, imp_self, true_implies, false_implies, implies_true, evP, evE, ev, setD, Nat.reduceAdd, Nat.reduceSub, reduceCtorEq, fillA, cutA, Nat.reduceLeDiff, Nat.reduceMul, Int.reduceLT, Int.reduceLE, Int.reduceEq, Int.reduceNe, Int.reduceAdd, Int.reduceSub, Int.reduceMul, Int.reduceNeg, Int.reduceToNat]
          refine app_int (y := at2 ll i k) (acc.keep (fun i _ hi9 => by simp (disch := omega) only [upd_other]) |>.wide (Nat.le_refl _) (by omega)) (by omega) (by omega) ⟨rfl, _, upd_same _ _ _, by simp, by simp [cutA, at2]⟩ (by have := prw_len ll b i k; omega) fun v' h' n' q1 q2 q3 => ?_
          simp (maxSteps := 2000000) -implicitDefEqProofs (disch := omega) only [xsW, xsC, if_true, if_false, ite_true, ite_false, forall_const, ne_eq, beq_self_eq_true, bne_self_eq_false, imp_self, true_implies, false_implies, implies_true, evP, evE, ev, setD, Nat.reduceAdd, Nat.reduceSub, reduceCtorEq, fillA, cutA, Nat.reduceLeDiff, Nat.reduceMul, Int.reduceLT, Int.reduceLE, Int.reduceEq, Int.reduceNe, Int.reduceAdd, Int.reduceSub, Int.reduceMul, Int.reduceNeg, Int.reduceToNat]
          exact ⟨(v', h'), ⟨by rw [prw_t hb]; exact q2, by omega, fun j hj => (q3 j hj).trans (by rw [upd_other (by omega), hold2 j hj])⟩, by omega, by omega, (by simp [LeL, Le1]), fun _ _ h => h⟩
      · have e : k = ll.length := by omega
        subst e
        have o1 := one_any acc.any
        have o2 := sto_any acc.any
        have o3 := cel_any acc.any
        simp (maxSteps := 2000000) -implicitDefEqProofs (disch := omega) only [xsW, xsC, if_true, if_false, ite_true, ite_false, forall_const, ne_eq, beq_self_eq_true, bne_self_eq_false, imp_self, true_implies, false_implies, implies_true, evP, evE, ev, setD, Nat.reduceAdd, Nat.reduceSub, reduceCtorEq, fillA, cutA, Nat.reduceLeDiff, Nat.reduceMul, Int.reduceLT, Int.reduceLE, Int.reduceEq, Int.reduceNe, Int.reduceAdd, Int.reduceSub, Int.reduceMul, Int.reduceNeg, Int.reduceToNat,  o1, o2, o3]
        refine g.app (hB := upd hq mB _) (v1 := row) (l := prw ll b i ll.length) (acc.sl.keep (fun i _ hi9 => by simp (disch := omega) only [upd_other])) (fun i hi9 => by simp (disch := omega) only [upd_other, hold2]) hle (by omega) (Nat.le_refl _) ⟨rfl, _, upd_same _ _ _, by simp, by simp [cutA]⟩ (by have := prt_len ll a b i; omega) fun out' h' n' q1 q2 => ?_
        simp (maxSteps := 2000000) -implicitDefEqProofs (disch := omega) only [xsW, xsC, if_true, if_false, ite_true, ite_false, forall_const, ne_eq, beq_self_eq_true, bne_self_eq_false, imp_self, true_implies, false_implies, implies_true, evP, evE, ev, setD, Nat.reduceAdd, Nat.reduceSub, reduceCtorEq, fillA, cutA, Nat.reduceLeDiff, Nat.reduceMul, Int.reduceLT, Int.reduceLE, Int.reduceEq, Int.reduceNe, Int.reduceAdd, Int.reduceSub, Int.reduceMul, Int.reduceNeg, Int.reduceToNat]
        exact ⟨(out', ws ++ [row], h'), by rw [prt_t ha]; exact q2, by omega, by omega, (by simp [LeL, Le1]), fun _ _ h => h⟩
  · intro _ h2 hh
    have e : i = ll.length := by omega
    subst e
    exact ⟨ws, g.rowsOf hh⟩
theorem spec_l01Part {w : Bool} {lo hi : Nat} {h : AH} {v : AV} {vs : List AV} {ll : List (List Int)} (sR : Rows w lo hi h v vs ll) (hN : ll.length ≤ 5) (hs : Sq ll.length ll) (a b : Int) (n : Nat) (hn : hi ≤ n) :
    FQ Try.prog 115 [v, .int .i64 a] h n fun v' h' n' => ∃ vs', Rows true n n' h' v' vs' (partL ll a a) := by
  refine fq_intro Try.func115 k_spec_l01Part ?_
  simp (maxSteps := 2000000) -implicitDefEqProofs (disch := omega) only [c_spec_l01Part, sR.ln, xsW, xsC, if_true, if_false, ite_true, ite_false, forall_const, ne_eq, beq_self_eq_true, bne_self_eq_false, imp_self, true_implies, false_implies, implies_true, evP, evE, ev, setD, Nat.reduceAdd, Nat.reduceSub, reduceCtorEq, fillA, cutA, Nat.reduceLeDiff, Nat.reduceMul, Int.reduceLT, Int.reduceLE, Int.reduceEq, Int.reduceNe, Int.reduceAdd, Int.reduceSub, Int.reduceMul, Int.reduceNeg, Int.reduceToNat]
  refine loop_for ll.length 0 (fun i p => [v, .int .i64 a, .any, .any, .nilsl, p.1, .int .i64 i, .any, .any, .any, .any, .any, .any, .any, .any, .any, .any, .any, .any, .any, .any, .any, .any, .any, .any, .any, .any, .any, .any, .any, .any, .any, .any, .any, .any, .any, .any, .any, .any, .any, .any, .any, .any, .any, .any, .any, .any, .any, .any, .any]) (fun _ (p : AV × List AV × AH) => p.2.2)
    (fun i p m => Grow n m h p.2.2 29 p.1 p.2.1 (prt ll a a i)) (.sl n 0 0 0, [], _) (Nat.zero_le _) (Grow.start0 rfl) (by simp [LeL, Le1]) (fun _ _ h => h) ?_
  rintro i ⟨out, ws, hp⟩ m - hi1 hm g
  simp only at g
  have hold := g.old
  simp (maxSteps := 2000000) -implicitDefEqProofs (disch := omega) only [xsW, xsC, if_true, if_false, ite_true, ite_false, forall_const, ne_eq, beq_self_eq_true, bne_self_eq_false, imp_self, true_implies, false_implies, implies_true, evP, evE, ev, setD, Nat.reduceAdd, Nat.reduceSub, reduceCtorEq, fillA, cutA, Nat.reduceLeDiff, Nat.reduceMul, Int.reduceLT, Int.reduceLE, Int.reduceEq, Int.reduceNe, Int.reduceAdd, Int.reduceSub, Int.reduceMul, Int.reduceNeg, Int.reduceToNat,  sR.ln]
  (refine cd_dec (fun c1 => ?_) (fun c1 => ?_) <;> simp (maxSteps := 2000000) -implicitDefEqProofs (disch := omega) only [xsW, xsC, if_true, if_false, ite_true, ite_false, forall_const, ne_eq, beq_self_eq_true, bne_self_eq_false, imp_self, true_implies, false_implies, implies_true, evP, evE, ev, setD, Nat.reduceAdd, Nat.reduceSub, reduceCtorEq, fillA, cutA, Nat.reduceLeDiff, Nat.reduceMul, Int.reduceLT, Int.reduceLE, Int.reduceEq, Int.reduceNe, Int.reduceAdd, Int.reduceSub, Int.reduceMul, Int.reduceNeg, Int.reduceToNat,  c1])
  · have hi2 : i < ll.length := by omega
    have hbl := sR.out.below (by rw [sR.slen]; omega)
    have hrow := sR.row i hi2
    have hlr := hs.2 i hi2
    simp (maxSteps := 2000000) -implicitDefEqProofs (disch := omega) only [xsW, xsC, if_true, if_false, ite_true, ite_false, forall_const, ne_eq, beq_self_eq_true, bne_self_eq_false, imp_self, true_implies, false_implies, implies_true, evP, evE, ev, setD, Nat.reduceAdd, Nat.reduceSub, reduceCtorEq, fillA, cutA, Nat.reduceLeDiff, Nat.reduceMul, Int.reduceLT, Int.reduceLE, Int.reduceEq, Int.reduceNe, Int.reduceAdd, Int.reduceSub, Int.reduceMul, Int.reduceNeg, Int.reduceToNat,  bitf]
    (refine cd_dec (fun ha => ?_) (fun ha => ?_) <;> simp (maxSteps := 2000000) -implicitDefEqProofs (disch := omega) only [xsW, xsC, if_true, if_false, ite_true, ite_false, forall_const, ne_eq, beq_self_eq_true, bne_self_eq_false, imp_self, true_implies, false_implies, implies_true, evP, evE, ev, setD, Nat.reduceAdd, Nat.reduceSub, reduceCtorEq, fillA, cutA, Nat.reduceLeDiff, Nat.reduceMul, Int.reduceLT, Int.reduceLE, Int.reduceEq, Int.reduceNe, Int.reduceAdd, Int.reduceSub, Int.reduceMul, Int.reduceNeg, Int.reduceToNat,  ha])
    · exact ⟨(out, ws, hp), by rw [prt_f (hasB_f.2 ha)]; exact g, by omega, by omega, (by simp [LeL, Le1]), fun _ _ h => h⟩
    · have ha' : hasB a i = true := hasB_t.2 ((bitI_or a i).resolve_left ha)
      refine loop_for ll.length 0 (fun k p => [v, .int .i64 a, .any, .any, .nilsl, out, .int .i64 i, p.1, .int .i64 k, .any, .any, .any, .any, .any, .any, .any, .any, .any, .any, .any, .any, .any, .any, .any, .any, .any, .any, .any, .any, .any, .any, .any, .any, .any, .any, .any, .any, .any, .any, .any, .any, .any, .any, .any, .any, .any, .any, .any, .any, .any]) (fun _ (p : AV × AH) => p.2)
        (fun k p m' => Acc m m' p.2 2 1 p.1 (ints (prw ll a i k)) ∧ m ≤ m' ∧ ∀ j, j < m → p.2 j = hp j) (.sl m 0 0 0, _) (Nat.zero_le _) ⟨Acc.empty (upd_same _ _ _) rfl (Nat.le_refl _) (by omega), by omega, fun j hj => upd_other (by omega)⟩ (by simp [LeL, Le1]) (fun _ _ h => h) ?_
      rintro k ⟨row, hq⟩ mB - hk1 hm2 ⟨acc, hle, hold2⟩
      simp only at acc hold2
      simp (maxSteps := 2000000) -implicitDefEqProofs (disch := omega) only [xsW, xsC, if_true, if_false, ite_true, ite_false, forall_const, ne_eq, beq_self_eq_true, bne_self_eq_false, imp_self, true_implies, false_implies, implies_true, evP, evE, ev, setD, Nat.reduceAdd, Nat.reduceSub, reduceCtorEq, fillA, cutA, Nat.reduceLeDiff, Nat.reduceMul, Int.reduceLT, Int.reduceLE, Int.reduceEq, Int.reduceNe, Int.reduceAdd, Int.reduceSub, Int.reduceMul, Int.reduceNeg, Int.reduceToNat,  sR.ln]
      (refine cd_dec (fun c2 => ?_) (fun c2 => ?_) <;> simp (maxSteps := 2000000) -implicitDefEqProofs (disch := omega) only [xsW, xsC, if_true, if_false, ite_true, ite_false, forall_const, ne_eq, beq_self_eq_true, bne_self_eq_false, imp_self, true_implies, false_implies, implies_true, evP, evE, ev, setD, Nat.reduceAdd, Nat.reduceSub, reduceCtorEq, fillA, cutA, Nat.reduceLeDiff, Nat.reduceMul, Int.reduceLT, Int.reduceLE, Int.reduceEq, Int.reduceNe, Int.reduceAdd, Int.reduceSub, Int.reduceMul, Int.reduceNeg, Int.reduceToNat,  c2])
      · have hk2 : k < ll.length := by omega
        have hbr := Sl.below hrow (by rw [hrow.slen]; omega)
        simp (maxSteps := 2000000) -implicitDefEqProofs (disch := omega) only [xsW, xsC, if_true, if_false, ite_true, ite_false, forall_const, ne_eq, beq_self_eq_true, bne_self_eq_false, imp_self, true_implies, false_implies, implies_true, evP, evE, ev, setD, Nat.reduceAdd, Nat.reduceSub, reduceCtorEq, fillA, cutA, Nat.reduceLeDiff, Nat.reduceMul, Int.reduceLT, Int.reduceLE, Int.reduceEq, Int.reduceNe, Int.reduceAdd, Int.reduceSub, Int.reduceMul, Int.reduceNeg, Int.reduceToNat,  bitf]
        (refine cd_dec (fun hb => ?_) (fun hb => ?_) <;> simp (maxSteps := 2000000) -implicitDefEqProofs (disch := omega) only [xsW, xsC, if_true, if_false, ite_true, ite_false, forall_const, ne_eq, beq_self_eq_true, bne_self_eq_false, imp_self, true_implies, false_implies, implies_true, evP, evE, ev, setD, Nat.reduceAdd, Nat.reduceSub, reduceCtorEq, fillA, cutA, Nat.reduceLeDiff, Nat.reduceMul, Int.reduceLT, Int.reduceLE, Int.reduceEq, Int.reduceNe, Int.reduceAdd, Int.reduceSub, Int.reduceMul, Int.reduceNeg, Int.reduceToNat,  hb])
        · have hb' : hasB a k = true := hasB_t.2 hb
          simp (maxSteps := 2000000) -implicitDefEqProofs (disch := omega) only [xsW, xsC, if_true, if_false, ite_true, ite_false, forall_const, ne_eq, beq_self_eq_true, bne_self_eq_false, imp_self, true_implies, false_implies, implies_true, evP, evE, ev, setD, Nat.reduceAdd, Nat.reduceSub, reduceCtorEq, fillA, cutA, Nat.reduceLeDiff, Nat.reduceMul, Int.reduceLT, Int.reduceLE, Int.reduceEq, Int.reduceNe, Int.reduceAdd, Int.reduceSub, Int.reduceMul, Int.reduceNeg, Int.reduceToNat,  hold2, hold, sR.ia, sR.ld, hrow.ia, hrow.ld]
          refine app_int (y := at2 ll i k) (acc.keep (fun i _ hi9 => by simp (disch := omega) only [upd_other]) |>.wide (Nat.le_refl _) (by omega)) (by omega) (by omega) ⟨rfl, _, upd_same _ _ _, by simp, by simp [cutA, at2]⟩ (by have := prw_len ll a i k; omega) fun v' h' n' q1 q2 q3 => ?_
          simp (maxSteps := 2000000) -implicitDefEqProofs (disch := omega) only [xsW, xsC, if_true, if_false, ite_true, ite_false, forall_const, ne_eq, beq_self_eq_true, bne_self_eq_false, imp_self, true_implies, false_implies, implies_true, evP, evE, ev, setD, Nat.reduceAdd, Nat.reduceSub, reduceCtorEq, fillA, cutA, Nat.reduceLeDiff, Nat.reduceMul, Int.reduceLT, Int.reduceLE, Int.reduceEq, Int.reduceNe, Int.reduceAdd, Int.reduceSub, Int.reduceMul, Int.reduceNeg, Int.reduceToNat]
          exact ⟨(v', h'), ⟨by rw [prw_t hb']; exact q2, by omega, fun j hj => (q3 j hj).trans (by rw [upd_other (by omega), hold2 j hj])⟩, by omega, by omega, (by simp [LeL, Le1]), fun _ _ h => h⟩
        · have hb' : hasB a k = false := hasB_f.2 ((bitI_or a k).resolve_right hb)
          exact ⟨(row, hq), ⟨by rw [prw_f hb']; exact acc, by omega, hold2⟩, by omega, by omega, (by simp [LeL, Le1]), fun _ _ h => h⟩
      · have e : k = ll.length := by omega
        subst e
        have o1 := one_any acc.any
        have o2 := sto_any acc.any
        have o3 := cel_any acc.any
        simp (maxSteps := 2000000) -implicitDefEqProofs (disch := omega) only [xsW, xsC, if_true, if_false, ite_true, ite_false, forall_const, ne_eq, beq_self_eq_true, bne_self_eq_false, imp_self, true_implies, false_implies, implies_true, evP, evE, ev, setD, Nat.reduceAdd, Nat.reduceSub, reduceCtorEq, fillA, cutA, Nat.reduceLeDiff, Nat.reduceMul, Int.reduceLT, Int.reduceLE, Int.reduceEq, Int.reduceNe, Int.reduceAdd, Int.reduceSub, Int.reduceMul, Int.reduceNeg, Int.reduceToNat,  o1, o2, o3]
        refine g.app (hB := upd hq mB _) (v1 := row) (l := prw ll a i ll.length) (acc.sl.keep (fun i _ hi9 => by simp (disch := omega) only [upd_other])) (fun i hi9 => by simp (disch := omega) only [upd_other, hold2]) hle (by omega) (Nat.le_refl _) ⟨rfl, _, upd_same _ _ _, by simp, by simp [cutA]⟩ (by have := prt_len ll a a i; omega) fun out' h' n' q1 q2 => ?_
        simp (maxSteps := 2000000) -implicitDefEqProofs (disch := omega) only [xsW, xsC, if_true, if_false, ite_true, ite_false, forall_const, ne_eq, beq_self_eq_true, bne_self_eq_false, imp_self, true_implies, false_implies, implies_true, evP, evE, ev, setD, Nat.reduceAdd, Nat.reduceSub, reduceCtorEq, fillA, cutA, Nat.reduceLeDiff, Nat.reduceMul, Int.reduceLT, Int.reduceLE, Int.reduceEq, Int.reduceNe, Int.reduceAdd, Int.reduceSub, Int.reduceMul, Int.reduceNeg, Int.reduceToNat]
        exact ⟨(out', ws ++ [row], h'), by rw [prt_t ha']; exact q2, by omega, by omega, (by simp [LeL, Le1]), fun _ _ h => h⟩
  · have e : i = ll.length := by omega
    subst e
    (intro _ h2 hh; exact ⟨ws, g.rowsOf hh⟩)
theorem spec_l03By {w : Bool} {lo hi : Nat} {h : AH} {v : AV} {vs : List AV} {ll : List (List Int)} (sR : Rows w lo hi h v vs ll) (hN : ll.length ≤ 5) (hs : Sq ll.length ll) (a b : Int) (n : Nat) (hn : hi ≤ n) :
    (∃ q, Lim q ll.length (mx ll)) → (places a ll.length).length = (places b ll.length).length → Q Try.prog 85 [v, .int .i64 a, .int .i64 b] h n (.int .i64 (det (places a ll.length).length (mx (partL ll a b)))) := by
  intro hlim heq; refine q_intro Try.func85 k_spec_l03By ?_
  simp (maxSteps := 2000000) -implicitDefEqProofs (disch := omega) only [c_spec_l03By, sR.ln, xsW, xsC, if_true, if_false, ite_true, ite_false, forall_const, ne_eq, beq_self_eq_true, bne_self_eq_false, imp_self, true_implies, false_implies, implies_true, evP, evE, ev, setD, Nat.reduceAdd, Nat.reduceSub, reduceCtorEq, fillA, cutA, Nat.reduceLeDiff, Nat.reduceMul, Int.reduceLT, Int.reduceLE, Int.reduceEq, Int.reduceNe, Int.reduceAdd, Int.reduceSub, Int.reduceMul, Int.reduceNeg, Int.reduceToNat]
  refine loop_for ll.length 0 (fun i p => [v, .int .i64 a, .int .i64 b, .any, .any, .any, .int .i64 0, p.1, .int .i64 i, .any, .any, .any, .any, .any, .any, .any, .any, .any, .any, .any, .any, .any, .any, .any, .any, .any, .any, .any, .any, .any, .any, .any, .any, .any, .any, .any, .any, .any, .any, .any, .any, .any, .any, .any, .any, .any, .any, .any, .any, .any, .any, .any, .any]) (fun _ (p : AV × List AV × AH) => p.2.2)
    (fun i p m => Grow n m h p.2.2 29 p.1 p.2.1 (prt ll a b i)) (.sl n 0 0 0, [], _) (Nat.zero_le _) (Grow.start0 rfl) (by simp [LeL, Le1]) (fun _ _ h => h) ?_
  rintro i ⟨out, ws, hp⟩ m - hi1 hm g
  simp only at g
  have hold := g.old
  simp (maxSteps := 2000000) -implicitDefEqProofs (disch := omega) only [xsW, xsC, if_true, if_false, ite_true, ite_false, forall_const, ne_eq, beq_self_eq_true, bne_self_eq_false, imp_self, true_implies, false_implies, implies_true, evP, evE, ev, setD, Nat.reduceAdd, Nat.reduceSub, reduceCtorEq, fillA, cutA, Nat.reduceLeDiff, Nat.reduceMul, Int.reduceLT, Int.reduceLE, Int.reduceEq, Int.reduceNe, Int.reduceAdd, Int.reduceSub, Int.reduceMul, Int.reduceNeg, Int.reduceToNat,  sR.ln]
  (refine cd_dec (fun c1 => ?_) (fun c1 => ?_) <;> simp (maxSteps := 2000000) -implicitDefEqProofs (disch := omega) only [xsW, xsC, if_true, if_false, ite_true, ite_false, forall_const, ne_eq, beq_self_eq_true, bne_self_eq_false, imp_self, true_implies, false_implies, implies_true, evP, evE, ev, setD, Nat.reduceAdd, Nat.reduceSub, reduceCtorEq, fillA, cutA, Nat.reduceLeDiff, Nat.reduceMul, Int.reduceLT, Int.reduceLE, Int.reduceEq, Int.reduceNe, Int.reduceAdd, Int.reduceSub, Int.reduceMul, Int.reduceNeg, Int.reduceToNat,  c1])
  · have hi2 : i < ll.length := by omega
    have hbl := sR.out.below (by rw [sR.slen]; omega)
    have hrow := sR.row i hi2
    have hlr := hs.2 i hi2
    simp (maxSteps := 2000000) -implicitDefEqProofs (disch := omega) only [xsW, xsC, if_true, if_false, ite_true, ite_false, forall_const, ne_eq, beq_self_eq_true, bne_self_eq_false, imp_self, true_implies, false_implies, implies_true, evP, evE, ev, setD, Nat.reduceAdd, Nat.reduceSub, reduceCtorEq, fillA, cutA, Nat.reduceLeDiff, Nat.reduceMul, Int.reduceLT, Int.reduceLE, Int.reduceEq, Int.reduceNe, Int.reduceAdd, Int.reduceSub, Int.reduceMul, Int.reduceNeg, Int.reduceToNat,  bitf]
    (refine cd_dec (fun ha => ?_) (fun ha => ?_) <;> simp (maxSteps := 2000000) -implicitDefEqProofs (disch := omega) only [xsW, xsC, if_true, if_false, ite_true, ite_false, forall_const, ne_eq, beq_self_eq_true, bne_self_eq_false, imp_self, true_implies, false_implies, implies_true, evP, evE, ev, setD, Nat.reduceAdd, Nat.reduceSub, reduceCtorEq, fillA, cutA, Nat.reduceLeDiff, Nat.reduceMul, Int.reduceLT, Int.reduceLE, Int.reduceEq, Int.reduceNe, Int.reduceAdd, Int.reduceSub, Int.reduceMul, Int.reduceNeg, Int.reduceToNat,  ha])
    · exact ⟨(out, ws, hp), by rw [prt_f (hasB_f.2 ha)]; exact g, by omega, by omega, (by simp [LeL, Le1]), fun _ _ h => h⟩
    · have ha' : hasB a i = true := hasB_t.2 ((bitI_or a i).resolve_left ha)
      refine loop_for ll.length 0 (fun k p => [v, .int .i64 a, .int .i64 b, .any, .any, .any, .int .i64 0, out, .int .i64 i, p.1, .int .i64 k, .any, .any, .any, .any, .any, .any, .any, .any, .any, .any, .any, .any, .any, .any, .any, .any, .any, .any, .any, .any, .any, .any, .any, .any, .any, .any, .any, .any, .any, .any, .any, .any, .any, .any, .any, .any, .any, .any, .any, .any, .any, .any]) (fun _ (p : AV × AH) => p.2)
        (fun k p m' => Acc m m' p.2 2 1 p.1 (ints (prw ll b i k)) ∧ m ≤ m' ∧ ∀ j, j < m → p.2 j = hp j) (.sl m 0 0 0, _) (Nat.zero_le _) ⟨Acc.empty (upd_same _ _ _) rfl (Nat.le_refl _) (by omega), by omega, fun j hj => upd_other (by omega)⟩ (by simp [LeL, Le1]) (fun _ _ h => h) ?_
      rintro k ⟨row, hq⟩ mB - hk1 hm2 ⟨acc, hle, hold2⟩
      simp only at acc hold2
      simp (maxSteps := 2000000) -implicitDefEqProofs (disch := omega) only [xsW, xsC, if_true, if_false, ite_true, ite_false, forall_const, ne_eq, beq_self_eq_true, bne_self_eq_false, imp_self, true_implies, false_implies, implies_true, evP, evE, ev, setD, Nat.reduceAdd, Nat.reduceSub, reduceCtorEq, fillA, cutA, Nat.reduceLeDiff, Nat.reduceMul, Int.reduceLT, Int.reduceLE, Int.reduceEq, Int.reduceNe, Int.reduceAdd, Int.reduceSub, Int.reduceMul, Int.reduceNeg, Int.reduceToNat,  sR.ln]
      (refine cd_dec (fun c2 => ?_) (fun c2 => ?_) <;> simp (maxSteps := 2000000) -implicitDefEqProofs (disch := omega) only [xsW, xsC, if_true, if_false, ite_true, ite_false, forall_const, ne_eq, beq_self_eq_true, bne_self_eq_false, imp_self, true_implies, false_implies, implies_true, evP, evE, ev, setD, Nat.reduceAdd, Nat.reduceSub, reduceCtorEq, fillA, cutA, Nat.reduceLeDiff, Nat.reduceMul, Int.reduceLT, Int.reduceLE, Int.reduceEq, Int.reduceNe, Int.reduceAdd, Int.reduceSub, Int.reduceMul, Int.reduceNeg, Int.reduceToNat,  c2])
      · have hk2 : k < ll.length := by omega
        have hbr := Sl.below hrow (by rw [hrow.slen]; omega)
        simp (maxSteps := 2000000) -implicitDefEqProofs (disch := omega) only [xsW, xsC, if_true, if_false, ite_true, ite_false, forall_const, ne_eq, beq_self_eq_true, bne_self_eq_false, imp_self, true_implies, false_implies, implies_true, evP, evE, ev, setD, Nat.reduceAdd, Nat.reduceSub, reduceCtorEq, fillA, cutA, Nat.reduceLeDiff, Nat.reduceMul, Int.reduceLT, Int.reduceLE, Int.reduceEq, Int.reduceNe, Int.reduceAdd, Int.reduceSub, Int.reduceMul, Int.reduceNeg, Int.reduceToNat,  bitf]
        (refine cd_dec (fun hb => ?_) (fun hb => ?_) <;> simp (maxSteps := 2000000) -implicitDefEqProofs (disch := omega) only [xsW, xsC, if_true, if_false, ite_true, ite_false, forall_const, ne_eq, beq_self_eq_true, bne_self_eq_false, imp_self, true_implies, false_implies, implies_true, evP, evE, ev, setD, Nat.reduceAdd, Nat.reduceSub, reduceCtorEq, fillA, cutA, Nat.reduceLeDiff, Nat.reduceMul, Int.reduceLT, Int.reduceLE, Int.reduceEq, Int.reduceNe, Int.reduceAdd, Int.reduceSub, Int.reduceMul, Int.reduceNeg, Int.reduceToNat,  hb])
        · have hb' : hasB b k = true := hasB_t.2 hb
          simp (maxSteps := 2000000) -implicitDefEqProofs (disch := omega) only [xsW, xsC, if_true, if_false, ite_true, ite_false, forall_const, ne_eq, beq_self_eq_true, bne_self_eq_false, imp_self, true_implies, false_implies, implies_true, evP, evE, ev, setD, Nat.reduceAdd, Nat.reduceSub, reduceCtorEq, fillA, cutA, Nat.reduceLeDiff, Nat.reduceMul, Int.reduceLT, Int.reduceLE, Int.reduceEq, Int.reduceNe, Int.reduceAdd, Int.reduceSub, Int.reduceMul, Int.reduceNeg, Int.reduceToNat,  hold2, hold, sR.ia, sR.ld, hrow.ia, hrow.ld]
          refine app_int (y := at2 ll i k) (acc.keep (fun i _ hi9 => by simp (disch := omega) only [upd_other]) |>.wide (Nat.le_refl _) (by omega)) (by omega) (by omega) ⟨rfl, _, upd_same _ _ _, by simp, by simp [cutA, at2]⟩ (by have := prw_len ll b i k; omega) fun v' h' n' q1 q2 q3 => ?_
          simp (maxSteps := 2000000) -implicitDefEqProofs (disch := omega) only [xsW, xsC, if_true, if_false, ite_true, ite_false, forall_const, ne_eq, beq_self_eq_true, bne_self_eq_false, imp_self, true_implies, false_implies, implies_true, evP, evE, ev, setD, Nat.reduceAdd, Nat.reduceSub, reduceCtorEq, fillA, cutA, Nat.reduceLeDiff, Nat.reduceMul, Int.reduceLT, Int.reduceLE, Int.reduceEq, Int.reduceNe, Int.reduceAdd, Int.reduceSub, Int.reduceMul, Int.reduceNeg, Int.reduceToNat]
          exact ⟨(v', h'), ⟨by rw [prw_t hb']; exact q2, by omega, fun j hj => (q3 j hj).trans (by rw [upd_other (by omega), hold2 j hj])⟩, by omega, by omega, (by simp [LeL, Le1]), fun _ _ h => h⟩
        · have hb' : hasB b k = false := hasB_f.2 ((bitI_or b k).resolve_right hb)
          exact ⟨(row, hq), ⟨by rw [prw_f hb']; exact acc, by omega, hold2⟩, by omega, by omega, (by simp [LeL, Le1]), fun _ _ h => h⟩
      · have e : k = ll.length := by omega
        subst e
        have o1 := one_any acc.any
        have o2 := sto_any acc.any
        have o3 := cel_any acc.any
        simp (maxSteps := 2000000) -implicitDefEqProofs (disch := omega) only [xsW, xsC, if_true, if_false, ite_true, ite_false, forall_const, ne_eq, beq_self_eq_true, bne_self_eq_false, imp_self, true_implies, false_implies, implies_true, evP, evE, ev, setD, Nat.reduceAdd, Nat.reduceSub, reduceCtorEq, fillA, cutA, Nat.reduceLeDiff, Nat.reduceMul, Int.reduceLT, Int.reduceLE, Int.reduceEq, Int.reduceNe, Int.reduceAdd, Int.reduceSub, Int.reduceMul, Int.reduceNeg, Int.reduceToNat,  o1, o2, o3]
        refine g.app (hB := upd hq mB _) (v1 := row) (l := prw ll b i ll.length) (acc.sl.keep (fun i _ hi9 => by simp (disch := omega) only [upd_other])) (fun i hi9 => by simp (disch := omega) only [upd_other, hold2]) hle (by omega) (Nat.le_refl _) ⟨rfl, _, upd_same _ _ _, by simp, by simp [cutA]⟩ (by have := prt_len ll a b i; omega) fun out' h' n' q1 q2 => ?_
        simp (maxSteps := 2000000) -implicitDefEqProofs (disch := omega) only [xsW, xsC, if_true, if_false, ite_true, ite_false, forall_const, ne_eq, beq_self_eq_true, bne_self_eq_false, imp_self, true_implies, false_implies, implies_true, evP, evE, ev, setD, Nat.reduceAdd, Nat.reduceSub, reduceCtorEq, fillA, cutA, Nat.reduceLeDiff, Nat.reduceMul, Int.reduceLT, Int.reduceLE, Int.reduceEq, Int.reduceNe, Int.reduceAdd, Int.reduceSub, Int.reduceMul, Int.reduceNeg, Int.reduceToNat]
        exact ⟨(out', ws ++ [row], h'), by rw [prt_t ha']; exact q2, by omega, by omega, (by simp [LeL, Le1]), fun _ _ h => h⟩
  · have e : i = ll.length := by omega
    subst e
    (refine q_use (spec_l01Det _ (g.rowsOf fun _ _ _ => rfl) (by have := places_len a ll.length; omega) (partL_sq ll a b heq) (by obtain ⟨q, hq⟩ := hlim; exact partL_lim ll a b heq hq) m (Nat.le_refl _)) fun n9 hn9 => ?_; simp (maxSteps := 2000000) -implicitDefEqProofs (disch := omega) only [xsW, xsC, if_true, if_false, ite_true, ite_false, forall_const, ne_eq, beq_self_eq_true, bne_self_eq_false, imp_self, true_implies, false_implies, implies_true, evP, evE, ev, setD, Nat.reduceAdd, Nat.reduceSub, reduceCtorEq, fillA, cutA, Nat.reduceLeDiff, Nat.reduceMul, Int.reduceLT, Int.reduceLE, Int.reduceEq, Int.reduceNe, Int.reduceAdd, Int.reduceSub, Int.reduceMul, Int.reduceNeg, Int.reduceToNat]; rfl)
theorem impl_count (s : Fin 32) (h : AH) (n : Nat) : Q Try.prog 70 [.int .i64 (s.val : Int)] h n (.int .i64 (popc (s.val : Int) : Int)) := by
  refine q_intro Try.func70 k_impl_count ?_
  have hpl : ∀ x, popc x ≤ 5 := fun x => places_len x 5
  simp (maxSteps := 2000000) -implicitDefEqProofs (disch := omega) only [c_impl_count, xsW, xsC, if_true, if_false, ite_true, ite_false, forall_const, ne_eq, beq_self_eq_true, bne_self_eq_false, imp_self, true_implies, false_implies, implies_true, evP, evE, ev, setD, Nat.reduceAdd, Nat.reduceSub, reduceCtorEq, fillA, cutA, Nat.reduceLeDiff, Nat.reduceMul, Int.reduceLT, Int.reduceLE, Int.reduceEq, Int.reduceNe, Int.reduceAdd, Int.reduceSub, Int.reduceMul, Int.reduceNeg, Int.reduceToNat]
  refine loop_rule (α := { p : Fin 32 × Nat // popc (p.1.val : Int) + p.2 = popc (s.val : Int) }) (fun p => [.int .i64 (p.1.1.val : Int), .any, .int .i64 0, .int .i64 (p.1.2 : Int), .any, .any, .any, .any, .any, .any, .any, .any, .any]) (fun _ => h) (fun _ => n) (fun p => p.1.1.val)
    ⟨(s, 0), rfl⟩ ⟨by simp [LeL, Le1], fun _ _ h => h, Nat.le_refl _⟩ ?_
  rintro ⟨⟨x, c⟩, hx⟩
  simp only at hx
  have h1 := hpl (s.val : Int)
  have h2 := x.isLt
  simp (maxSteps := 2000000) -implicitDefEqProofs (disch := omega) only [xsW, xsC, if_true, if_false, ite_true, ite_false, forall_const, ne_eq, beq_self_eq_true, bne_self_eq_false, imp_self, true_implies, false_implies, implies_true, evP, evE, ev, setD, Nat.reduceAdd, Nat.reduceSub, reduceCtorEq, fillA, cutA, Nat.reduceLeDiff, Nat.reduceMul, Int.reduceLT, Int.reduceLE, Int.reduceEq, Int.reduceNe, Int.reduceAdd, Int.reduceSub, Int.reduceMul, Int.reduceNeg, Int.reduceToNat]
  (refine cd_dec (fun c1 => ?_) (fun c1 => ?_) <;> simp (maxSteps := 2000000) -implicitDefEqProofs (disch := omega) only [xsW, xsC, if_true, if_false, ite_true, ite_false, forall_const, ne_eq, beq_self_eq_true, bne_self_eq_false, imp_self, true_implies, false_implies, implies_true, evP, evE, ev, setD, Nat.reduceAdd, Nat.reduceSub, reduceCtorEq, fillA, cutA, Nat.reduceLeDiff, Nat.reduceMul, Int.reduceLT, Int.reduceLE, Int.reduceEq, Int.reduceNe, Int.reduceAdd, Int.reduceSub, Int.reduceMul, Int.reduceNeg, Int.reduceToNat,  c1])
  · obtain ⟨y, hy1, hy2, hy3⟩ := pop_step x (by omega)
    simp (maxSteps := 2000000) -implicitDefEqProofs (disch := omega) only [xsW, xsC, if_true, if_false, ite_true, ite_false, forall_const, ne_eq, beq_self_eq_true, bne_self_eq_false, imp_self, true_implies, false_implies, implies_true, evP, evE, ev, setD, Nat.reduceAdd, Nat.reduceSub, reduceCtorEq, fillA, cutA, Nat.reduceLeDiff, Nat.reduceMul, Int.reduceLT, Int.reduceLE, Int.reduceEq, Int.reduceNe, Int.reduceAdd, Int.reduceSub, Int.reduceMul, Int.reduceNeg, Int.reduceToNat,  hy2]
    exact ⟨⟨(y, c + 1), by simp only; omega⟩, hy1, by simp [LeL, Le1], fun _ _ h => h, Nat.le_refl _⟩
  · have : (x.val : Int) = 0 := by omega
    rw [this, pop_zero] at hx
    omega
theorem spec_l01Ones (s : Fin 32) (h : AH) (n : Nat) : Q Try.prog 83 [.int .i64 (s.val : Int)] h n (.int .i64 (popc (s.val : Int) : Int)) := by
  refine q_intro Try.func83 k_spec_l01Ones ?_
  have hpl : ∀ x, popc x ≤ 5 := fun x => places_len x 5
  simp (maxSteps := 2000000) -implicitDefEqProofs (disch := omega) only [c_spec_l01Ones, xsW, xsC, if_true, if_false, ite_true, ite_false, forall_const, ne_eq, beq_self_eq_true, bne_self_eq_false, imp_self, true_implies, false_implies, implies_true, evP, evE, ev, setD, Nat.reduceAdd, Nat.reduceSub, reduceCtorEq, fillA, cutA, Nat.reduceLeDiff, Nat.reduceMul, Int.reduceLT, Int.reduceLE, Int.reduceEq, Int.reduceNe, Int.reduceAdd, Int.reduceSub, Int.reduceMul, Int.reduceNeg, Int.reduceToNat]
  refine loop_rule (α := { p : Fin 32 × Nat // popc (p.1.val : Int) + p.2 = popc (s.val : Int) }) (fun p => [.int .i64 (p.1.1.val : Int), .any, .int .i64 0, .int .i64 (p.1.2 : Int), .any, .any, .any, .any, .any, .any, .any, .any, .any]) (fun _ => h) (fun _ => n) (fun p => p.1.1.val)
    ⟨(s, 0), rfl⟩ ⟨by simp [LeL, Le1], fun _ _ h => h, Nat.le_refl _⟩ ?_
  rintro ⟨⟨x, c⟩, hx⟩
  simp only at hx
  have h1 := hpl (s.val : Int)
  have h2 := x.isLt
  simp (maxSteps := 2000000) -implicitDefEqProofs (disch := omega) only [xsW, xsC, if_true, if_false, ite_true, ite_false, forall_const, ne_eq, beq_self_eq_true, bne_self_eq_false, imp_self, true_implies, false_implies, implies_true, evP, evE, ev, setD, Nat.reduceAdd, Nat.reduceSub, reduceCtorEq, fillA, cutA, Nat.reduceLeDiff, Nat.reduceMul, Int.reduceLT, Int.reduceLE, Int.reduceEq, Int.reduceNe, Int.reduceAdd, Int.reduceSub, Int.reduceMul, Int.reduceNeg, Int.reduceToNat]
  (refine cd_dec (fun c1 => ?_) (fun c1 => ?_) <;> simp (maxSteps := 2000000) -implicitDefEqProofs (disch := omega) only [xsW, xsC, if_true, if_false, ite_true, ite_false, forall_const, ne_eq, beq_self_eq_true, bne_self_eq_false, imp_self, true_implies, false_implies, implies_true, evP, evE, ev, setD, Nat.reduceAdd, Nat.reduceSub, reduceCtorEq, fillA, cutA, Nat.reduceLeDiff, Nat.reduceMul, Int.reduceLT, Int.reduceLE, Int.reduceEq, Int.reduceNe, Int.reduceAdd, Int.reduceSub, Int.reduceMul, Int.reduceNeg, Int.reduceToNat,  c1])
  · have hh := pop_half x
    obtain ⟨r, hr⟩ : ∃ r : Nat, r = x.val % 2 := ⟨_, rfl⟩
    have e1 := tm2 x.val
    rw [← hr] at e1 hh
    have e2 : ((x.val : Int)).tdiv 2 = ((x.val / 2 : Nat) : Int) := by rw [Int.tdiv_eq_ediv_of_nonneg (by omega)]; omega
    have e3 : (c : Int) ≤ 5 := by omega
    have e4 : r ≤ 1 := by omega
    clear hr
    simp (maxSteps := 2000000) -implicitDefEqProofs (disch := omega) only [xsW, xsC, if_true, if_false, ite_true, ite_false, forall_const, ne_eq, beq_self_eq_true, bne_self_eq_false, imp_self, true_implies, false_implies, implies_true, evP, evE, ev, setD, Nat.reduceAdd, Nat.reduceSub, reduceCtorEq, fillA, cutA, Nat.reduceLeDiff, Nat.reduceMul, Int.reduceLT, Int.reduceLE, Int.reduceEq, Int.reduceNe, Int.reduceAdd, Int.reduceSub, Int.reduceMul, Int.reduceNeg, Int.reduceToNat,  e1, e2]
    refine ⟨by unfold in64; omega, by unfold in64; omega, ?_⟩
    exact ⟨⟨(⟨x.val / 2, by omega⟩, c + r), by simp only; omega⟩, by simp only; omega, by simp [LeL, Le1], fun _ _ h => h, Nat.le_refl _⟩
  · have : (x.val : Int) = 0 := by omega
    rw [this, pop_zero] at hx
    omega
def minorOf (ll : List (List Int)) (a b : Int) : Int := det (places a ll.length).length (mx (partL ll a b))
theorem isMat_sq {ll : List (List Int)} (hm : isMat ll = true) : ll.length ≤ 5 ∧ Sq ll.length ll ∧ ∃ q, Lim q ll.length (mx ll) := by
  have h := (isMat_iff ll).1 hm
  refine ⟨h.2.1, ⟨rfl, fun k hk => (h.2.2 k hk).1⟩, 0, fun r c hr hc => ?_⟩
  have h1 := h.2.2 r hr
  have h2 := (within_iff _ _).1 h1.2 c (by omega)
  unfold mx at2
  split <;> omega
theorem impl_minor {w : Bool} {lo hi : Nat} {h : AH} {v : AV} {vs : List AV} {ll : List (List Int)} (sR : Rows w lo hi h v vs ll) (hN : ll.length ≤ 5) (hs : Sq ll.length ll) (hl : ∃ q, Lim q ll.length (mx ll)) (a : Int) (n : Nat) (hn : hi ≤ n) :
    Q Try.prog 68 [v, .int .i64 a] h n (.int .i64 (minorOf ll a a)) := by
  refine q_intro Try.func68 k_impl_minor ?_
  simp (maxSteps := 2000000) -implicitDefEqProofs (disch := omega) only [c_impl_minor, xsW, xsC, if_true, if_false, ite_true, ite_false, forall_const, ne_eq, beq_self_eq_true, bne_self_eq_false, imp_self, true_implies, false_implies, implies_true, evP, evE, ev, setD, Nat.reduceAdd, Nat.reduceSub, reduceCtorEq, fillA, cutA, Nat.reduceLeDiff, Nat.reduceMul, Int.reduceLT, Int.reduceLE, Int.reduceEq, Int.reduceNe, Int.reduceAdd, Int.reduceSub, Int.reduceMul, Int.reduceNeg, Int.reduceToNat]
  refine fq_use (impl_part sR hN hs a a n hn) fun v1 h1 n1 hn1 hs1 ⟨vs1, hv1⟩ => ?_
  simp (maxSteps := 2000000) -implicitDefEqProofs (disch := omega) only [xsW, xsC, if_true, if_false, ite_true, ite_false, forall_const, ne_eq, beq_self_eq_true, bne_self_eq_false, imp_self, true_implies, false_implies, implies_true, evP, evE, ev, setD, Nat.reduceAdd, Nat.reduceSub, reduceCtorEq, fillA, cutA, Nat.reduceLeDiff, Nat.reduceMul, Int.reduceLT, Int.reduceLE, Int.reduceEq, Int.reduceNe, Int.reduceAdd, Int.reduceSub, Int.reduceMul, Int.reduceNeg, Int.reduceToNat]
  refine q_use (impl_determinant _ hv1 (by have := places_len a ll.length; omega) (partL_sq ll a a rfl) (by obtain ⟨q, hq⟩ := hl; exact partL_lim ll a a rfl hq) n1 (Nat.le_refl _)) fun n2 hn2 => ?_
  simp (maxSteps := 2000000) -implicitDefEqProofs (disch := omega) only [xsW, xsC, if_true, if_false, ite_true, ite_false, forall_const, ne_eq, beq_self_eq_true, bne_self_eq_false, imp_self, true_implies, false_implies, implies_true, evP, evE, ev, setD, Nat.reduceAdd, Nat.reduceSub, reduceCtorEq, fillA, cutA, Nat.reduceLeDiff, Nat.reduceMul, Int.reduceLT, Int.reduceLE, Int.reduceEq, Int.reduceNe, Int.reduceAdd, Int.reduceSub, Int.reduceMul, Int.reduceNeg, Int.reduceToNat]
  rfl
theorem spec_l03Minor {w : Bool} {lo hi : Nat} {h : AH} {v : AV} {vs : List AV} {ll : List (List Int)} (sR : Rows w lo hi h v vs ll) (hN : ll.length ≤ 5) (hs : Sq ll.length ll) (hl : ∃ q, Lim q ll.length (mx ll)) (a : Int) (n : Nat) (hn : hi ≤ n) :
    Q Try.prog 69 [v, .int .i64 a] h n (.int .i64 (minorOf ll a a)) := by
  refine q_intro Try.func69 k_spec_l03Minor ?_
  simp (maxSteps := 2000000) -implicitDefEqProofs (disch := omega) only [c_spec_l03Minor, xsW, xsC, if_true, if_false, ite_true, ite_false, forall_const, ne_eq, beq_self_eq_true, bne_self_eq_false, imp_self, true_implies, false_implies, implies_true, evP, evE, ev, setD, Nat.reduceAdd, Nat.reduceSub, reduceCtorEq, fillA, cutA, Nat.reduceLeDiff, Nat.reduceMul, Int.reduceLT, Int.reduceLE, Int.reduceEq, Int.reduceNe, Int.reduceAdd, Int.reduceSub, Int.reduceMul, Int.reduceNeg, Int.reduceToNat]
  refine fq_use (spec_l01Part sR hN hs a a n hn) fun v1 h1 n1 hn1 hs1 ⟨vs1, hv1⟩ => ?_
  simp (maxSteps := 2000000) -implicitDefEqProofs (disch := omega) only [xsW, xsC, if_true, if_false, ite_true, ite_false, forall_const, ne_eq, beq_self_eq_true, bne_self_eq_false, imp_self, true_implies, false_implies, implies_true, evP, evE, ev, setD, Nat.reduceAdd, Nat.reduceSub, reduceCtorEq, fillA, cutA, Nat.reduceLeDiff, Nat.reduceMul, Int.reduceLT, Int.reduceLE, Int.reduceEq, Int.reduceNe, Int.reduceAdd, Int.reduceSub, Int.reduceMul, Int.reduceNeg, Int.reduceToNat]
  refine q_use (spec_l01Det _ hv1 (by have := places_len a ll.length; omega) (partL_sq ll a a rfl) (by obtain ⟨q, hq⟩ := hl; exact partL_lim ll a a rfl hq) n1 (Nat.le_refl _)) fun n2 hn2 => ?_
  simp (maxSteps := 2000000) -implicitDefEqProofs (disch := omega) only [xsW, xsC, if_true, if_false, ite_true, ite_false, forall_const, ne_eq, beq_self_eq_true, bne_self_eq_false, imp_self, true_implies, false_implies, implies_true, evP, evE, ev, setD, Nat.reduceAdd, Nat.reduceSub, reduceCtorEq, fillA, cutA, Nat.reduceLeDiff, Nat.reduceMul, Int.reduceLT, Int.reduceLE, Int.reduceEq, Int.reduceNe, Int.reduceAdd, Int.reduceSub, Int.reduceMul, Int.reduceNeg, Int.reduceToNat]
  rfl
end Go.Proofs.Ytkpibnhddhdooaa.L
/- Contracts: minors, their lists and counts. -/
namespace Go.Proofs.Ytkpibnhddhdooaa.L
open Go
set_option linter.unusedSimpArgs false
set_option linter.unusedVariables false
def c_impl_MinorOf : F := ⟨(.seq (.reg false [⟨(some 4), (.mv (.c (.int .i64 0))), none⟩, ⟨(some 5), (.mv (.c (.int .i64 0))), none⟩]) (.seq (.seq (.reg false [⟨(some 7), (.mv (.t 0)), none⟩, ⟨(some 8), (.mv (.t 1)), none⟩, ⟨(some 9), (.lit 2 1 1 [(.int .i64 0)] [(0, (.t 8))]), none⟩, ⟨(some 10), (.call (.f 67) [(.t 7), (.t 9)]), none⟩, ⟨(some 6), (.mv (.t 10)), none⟩]) (.seq (.reg false [⟨(some 11), (.mv (.t 6)), none⟩, ⟨(some 12), (.bin .neq (.t 11) (.c (.int .i64 0))), none⟩]) (.cond (.t 12) (.seq (.reg false [⟨(some 13), (.mv (.t 6)), none⟩, ⟨(some 4), (.mv (.c (.int .i64 0))), none⟩, ⟨(some 5), (.mv (.t 13)), none⟩]) .ret) .skip))) (.seq (.reg false [⟨(some 14), (.mv (.t 0)), none⟩, ⟨(some 15), (.mv (.t 1)), none⟩, ⟨(some 16), (.call (.f 68) [(.t 14), (.t 15)]), none⟩, ⟨(some 4), (.mv (.t 16)), none⟩, ⟨(some 5), (.mv (.c (.int .i64 0))), none⟩]) .ret))), 17, [(.t 4), (.t 5)]⟩
theorem k_impl_MinorOf : compF Try.prog Try.f20 = some c_impl_MinorOf := by kernel_rfl
def c_spec_MinorOf : F := ⟨(.seq (.reg false [⟨(some 4), (.mv (.c (.int .i64 0))), none⟩, ⟨(some 5), (.mv (.c (.int .i64 0))), none⟩]) (.seq (.seq (.reg false [⟨(some 7), (.mv (.t 0)), none⟩, ⟨(some 8), (.mv (.t 1)), none⟩, ⟨(some 9), (.lit 2 1 1 [(.int .i64 0)] [(0, (.t 8))]), none⟩, ⟨(some 10), (.call (.f 62) [(.t 7), (.t 9)]), none⟩, ⟨(some 6), (.mv (.t 10)), none⟩]) (.seq (.reg false [⟨(some 11), (.mv (.t 6)), none⟩, ⟨(some 12), (.bin .neq (.t 11) (.c (.int .i64 0))), none⟩]) (.cond (.t 12) (.seq (.reg false [⟨(some 13), (.mv (.t 6)), none⟩, ⟨(some 4), (.mv (.c (.int .i64 0))), none⟩, ⟨(some 5), (.mv (.t 13)), none⟩]) .ret) .skip))) (.seq (.reg false [⟨(some 14), (.mv (.t 0)), none⟩, ⟨(some 15), (.mv (.t 1)), none⟩, ⟨(some 16), (.call (.f 69) [(.t 14), (.t 15)]), none⟩, ⟨(some 4), (.mv (.t 16)), none⟩, ⟨(some 5), (.mv (.c (.int .i64 0))), none⟩]) .ret))), 17, [(.t 4), (.t 5)]⟩
theorem k_spec_MinorOf : compF Try.prog Try.f21 = some c_spec_MinorOf := by kernel_rfl
def c_impl_MinorBy : F := ⟨(.seq (.reg false [⟨(some 6), (.mv (.c (.int .i64 0))), none⟩, ⟨(some 7), (.mv (.c (.int .i64 0))), none⟩]) (.seq (.seq (.reg false [⟨(some 9), (.mv (.t 0)), none⟩, ⟨(some 10), (.mv (.t 1)), none⟩, ⟨(some 11), (.mv (.t 2)), none⟩, ⟨(some 12), (.lit 2 1 2 [(.int .i64 0)] [(0, (.t 10)), (1, (.t 11))]), none⟩, ⟨(some 13), (.call (.f 67) [(.t 9), (.t 12)]), none⟩, ⟨(some 8), (.mv (.t 13)), none⟩]) (.seq (.reg false [⟨(some 14), (.mv (.t 8)), none⟩, ⟨(some 15), (.bin .neq (.t 14) (.c (.int .i64 0))), none⟩]) (.cond (.t 15) (.seq (.reg false [⟨(some 16), (.mv (.t 8)), none⟩, ⟨(some 6), (.mv (.c (.int .i64 0))), none⟩, ⟨(some 7), (.mv (.t 16)), none⟩]) .ret) .skip))) (.seq (.seq (.reg false [⟨(some 17), (.mv (.t 1)), none⟩, ⟨(some 18), (.call (.f 70) [(.t 17)]), none⟩, ⟨(some 19), (.mv (.t 2)), none⟩, ⟨(some 20), (.call (.f 70) [(.t 19)]), none⟩, ⟨(some 21), (.bin .neq (.t 18) (.t 20)), none⟩]) (.cond (.t 21) (.seq (.reg false [⟨(some 6), (.mv (.c (.int .i64 0))), none⟩, ⟨(some 7), (.mv (.c (.int .i64 2))), none⟩]) .ret) .skip)) (.seq (.reg false [⟨(some 22), (.mv (.t 0)), none⟩, ⟨(some 23), (.mv (.t 1)), none⟩, ⟨(some 24), (.mv (.t 2)), none⟩, ⟨(some 25), (.call (.f 72) [(.t 22), (.t 23), (.t 24)]), none⟩, ⟨(some 26), (.call (.f 71) [(.t 25)]), none⟩, ⟨(some 6), (.mv (.t 26)), none⟩, ⟨(some 7), (.mv (.c (.int .i64 0))), none⟩]) .ret)))), 27, [(.t 6), (.t 7)]⟩
theorem k_impl_MinorBy : compF Try.prog Try.f22 = some c_impl_MinorBy := by kernel_rfl
def c_spec_MinorBy : F := ⟨(.seq (.reg false [⟨(some 6), (.mv (.c (.int .i64 0))), none⟩, ⟨(some 7), (.mv (.c (.int .i64 0))), none⟩]) (.seq (.seq (.reg false [⟨(some 9), (.mv (.t 0)), none⟩, ⟨(some 10), (.mv (.t 1)), none⟩, ⟨(some 11), (.mv (.t 2)), none⟩, ⟨(some 12), (.lit 2 1 2 [(.int .i64 0)] [(0, (.t 10)), (1, (.t 11))]), none⟩, ⟨(some 13), (.call (.f 62) [(.t 9), (.t 12)]), none⟩, ⟨(some 8), (.mv (.t 13)), none⟩]) (.seq (.reg false [⟨(some 14), (.mv (.t 8)), none⟩, ⟨(some 15), (.bin .neq (.t 14) (.c (.int .i64 0))), none⟩]) (.cond (.t 15) (.seq (.reg false [⟨(some 16), (.mv (.t 8)), none⟩, ⟨(some 6), (.mv (.c (.int .i64 0))), none⟩, ⟨(some 7), (.mv (.t 16)), none⟩]) .ret) .skip))) (.seq (.seq (.reg false [⟨(some 17), (.mv (.t 1)), none⟩, ⟨(some 18), (.call (.f 83) [(.t 17)]), none⟩, ⟨(some 19), (.mv (.t 2)), none⟩, ⟨(some 20), (.call (.f 83) [(.t 19)]), none⟩, ⟨(some 21), (.bin .neq (.t 18) (.t 20)), none⟩]) (.cond (.t 21) (.seq (.reg false [⟨(some 6), (.mv (.c (.int .i64 0))), none⟩, ⟨(some 7), (.mv (.c (.int .i64 2))), none⟩]) .ret) .skip)) (.seq (.reg false [⟨(some 22), (.mv (.t 0)), none⟩, ⟨(some 23), (.mv (.t 1)), none⟩, ⟨(some 24), (.mv (.t 2)), none⟩, ⟨(some 25), (.call (.f 85) [(.t 22), (.t 23), (.t 24)]), none⟩, ⟨(some 6), (.mv (.t 25)), none⟩, ⟨(some 7), (.mv (.c (.int .i64 0))), none⟩]) .ret)))), 26, [(.t 6), (.t 7)]⟩
theorem k_spec_MinorBy : compF Try.prog Try.f34 = some c_spec_MinorBy := by kernel_rfl
def c_impl_minors : F := ⟨(.seq (.reg false [⟨(some 2), (.mv (.c .nilsl)), none⟩]) (.seq (.reg false [⟨(some 5), (.mv (.t 0)), none⟩, ⟨(some 6), (.len (.t 5)), none⟩, ⟨(some 7), (.bin .shl (.c (.int .i64 1)) (.t 6)), none⟩, ⟨(some 8), (.mks 2 1 [(.int .i64 0)] (.t 7) (.t 7)), none⟩, ⟨(some 3), (.mv (.t 8)), none⟩]) (.seq (.seq (.reg false [⟨(some 9), (.mv (.t 3)), none⟩, ⟨(some 10), (.len (.t 9)), none⟩, ⟨(some 11), (.mv (.c (.int .i64 0))), none⟩]) (.block 0 (.loop (.seq (.reg false [⟨(some 12), (.bin .lss (.t 11) (.t 10)), none⟩]) (.seq (.cond (.t 12) .skip (.exit 0)) (.seq (.block 1 (.seq (.reg false [⟨(some 13), (.mv (.t 11)), none⟩, ⟨(some 4), (.mv (.t 13)), none⟩]) (.reg false [⟨(some 14), (.mv (.t 3)), none⟩, ⟨(some 15), (.mv (.t 4)), none⟩, ⟨(some 16), (.mv (.t 0)), none⟩, ⟨(some 17), (.mv (.t 4)), none⟩, ⟨(some 18), (.call (.f 68) [(.t 16), (.t 17)]), none⟩, ⟨(some 19), (.ia 1 (.t 14) (.t 15)), none⟩, ⟨none, (.st 1 (.t 19) (.t 18)), none⟩]))) (.reg false [⟨(some 20), (.bin .add (.t 11) (.c (.int .i64 1))), none⟩, ⟨(some 11), (.mv (.t 20)), none⟩]))))))) (.seq (.reg false [⟨(some 21), (.mv (.t 3)), none⟩, ⟨(some 2), (.mv (.t 21)), none⟩]) .ret)))), 22, [(.t 2)]⟩
theorem k_impl_minors : compF Try.prog Try.f73 = some c_impl_minors := by kernel_rfl
def c_spec_l03Minors : F := ⟨(.seq (.reg false [⟨(some 2), (.mv (.c .nilsl)), none⟩]) (.seq (.reg false [⟨(some 5), (.lit 2 1 0 [(.int .i64 0)] []), none⟩, ⟨(some 3), (.mv (.t 5)), none⟩]) (.seq (.seq (.reg false [⟨(some 4), (.mv (.c (.int .i64 0))), none⟩]) (.block 0 (.loop (.seq (.seq (.reg false [⟨(some 6), (.mv (.t 4)), none⟩, ⟨(some 7), (.mv (.t 0)), none⟩, ⟨(some 8), (.len (.t 7)), none⟩, ⟨(some 9), (.cvi .u64 (.t 8)), none⟩, ⟨(some 10), (.bin .shl (.c (.int .i64 1)) (.t 9)), none⟩, ⟨(some 11), (.bin .lss (.t 6) (.t 10)), none⟩]) (.cond (.t 11) .skip (.exit 0))) (.seq (.block 1 (.reg false [⟨(some 14), (.mv (.t 3)), none⟩, ⟨(some 15), (.mv (.t 0)), none⟩, ⟨(some 16), (.mv (.t 4)), none⟩, ⟨(some 17), (.call (.f 69) [(.t 15), (.t 16)]), none⟩, ⟨(some 18), (.lit 2 1 1 [(.int .i64 0)] [(0, (.t 17))]), none⟩, ⟨(some 19), (.app 2 1 8 [(.int .i64 0)] (.t 14) (.t 18)), none⟩, ⟨(some 3), (.mv (.t 19)), none⟩])) (.reg false [⟨(some 12), (.mv (.t 4)), none⟩, ⟨(some 13), (.bin .add (.t 12) (.c (.int .i64 1))), none⟩, ⟨(some 4), (.mv (.t 13)), none⟩])))))) (.seq (.reg false [⟨(some 20), (.mv (.t 3)), none⟩, ⟨(some 2), (.mv (.t 20)), none⟩]) .ret)))), 21, [(.t 2)]⟩
theorem k_spec_l03Minors : compF Try.prog Try.f89 = some c_spec_l03Minors := by kernel_rfl
def c_impl_MinorsOf : F := ⟨(.seq (.reg false [⟨(some 2), (.mv (.c .nilsl)), none⟩, ⟨(some 3), (.mv (.c (.int .i64 0))), none⟩]) (.seq (.seq (.reg false [⟨(some 4), (.mv (.t 0)), none⟩, ⟨(some 5), (.call (.f 47) [(.t 4)]), none⟩, ⟨(some 6), (.un .not (.t 5)), none⟩]) (.cond (.t 6) (.seq (.reg false [⟨(some 2), (.mv (.c .nilsl)), none⟩, ⟨(some 3), (.mv (.c (.int .i64 1))), none⟩]) .ret) .skip)) (.seq (.reg false [⟨(some 7), (.mv (.t 0)), none⟩, ⟨(some 8), (.call (.f 73) [(.t 7)]), none⟩, ⟨(some 2), (.mv (.t 8)), none⟩, ⟨(some 3), (.mv (.c (.int .i64 0))), none⟩]) .ret))), 9, [(.t 2), (.t 3)]⟩
theorem k_impl_MinorsOf : compF Try.prog Try.f45 = some c_impl_MinorsOf := by kernel_rfl
def c_spec_MinorsOf : F := ⟨(.seq (.reg false [⟨(some 2), (.mv (.c .nilsl)), none⟩, ⟨(some 3), (.mv (.c (.int .i64 0))), none⟩]) (.seq (.seq (.reg false [⟨(some 5), (.mv (.t 0)), none⟩, ⟨(some 6), (.call (.f 62) [(.t 5), (.c .nilsl)]), none⟩, ⟨(some 4), (.mv (.t 6)), none⟩]) (.seq (.reg false [⟨(some 7), (.mv (.t 4)), none⟩, ⟨(some 8), (.bin .neq (.t 7) (.c (.int .i64 0))), none⟩]) (.cond (.t 8) (.seq (.reg false [⟨(some 9), (.mv (.t 4)), none⟩, ⟨(some 2), (.mv (.c .nilsl)), none⟩, ⟨(some 3), (.mv (.t 9)), none⟩]) .ret) .skip))) (.seq (.reg false [⟨(some 10), (.mv (.t 0)), none⟩, ⟨(some 11), (.call (.f 89) [(.t 10)]), none⟩, ⟨(some 2), (.mv (.t 11)), none⟩, ⟨(some 3), (.mv (.c (.int .i64 0))), none⟩]) .ret))), 12, [(.t 2), (.t 3)]⟩
theorem k_spec_MinorsOf : compF Try.prog Try.f46 = some c_spec_MinorsOf := by kernel_rfl
def c_impl_CountNegative : F := ⟨(.seq (.reg false [⟨(some 2), (.mv (.c (.int .i64 0))), none⟩, ⟨(some 3), (.mv (.c (.int .i64 0))), none⟩]) (.seq (.seq (.reg false [⟨(some 7), (.mv (.t 0)), none⟩, ⟨(some 8), (.call (.f 47) [(.t 7)]), none⟩, ⟨(some 9), (.un .not (.t 8)), none⟩]) (.cond (.t 9) (.seq (.reg false [⟨(some 2), (.mv (.c (.int .i64 0))), none⟩, ⟨(some 3), (.mv (.c (.int .i64 1))), none⟩]) .ret) .skip)) (.seq (.reg false [⟨(some 4), (.mv (.c (.int .i64 0))), none⟩]) (.seq (.seq (.reg false [⟨(some 10), (.mv (.t 0)), none⟩, ⟨(some 11), (.len (.t 10)), none⟩, ⟨(some 12), (.bin .shl (.c (.int .i64 1)) (.t 11)), none⟩, ⟨(some 13), (.mv (.c (.int .i64 0))), none⟩]) (.block 0 (.loop (.seq (.reg false [⟨(some 14), (.bin .lss (.t 13) (.t 12)), none⟩]) (.seq (.cond (.t 14) .skip (.exit 0)) (.seq (.block 1 (.seq (.reg false [⟨(some 15), (.mv (.t 13)), none⟩, ⟨(some 5), (.mv (.t 15)), none⟩]) (.seq (.reg false [⟨(some 16), (.mv (.t 0)), none⟩, ⟨(some 17), (.len (.t 16)), none⟩, ⟨(some 18), (.bin .shl (.c (.int .i64 1)) (.t 17)), none⟩, ⟨(some 19), (.mv (.c (.int .i64 0))), none⟩]) (.block 2 (.loop (.seq (.reg false [⟨(some 20), (.bin .lss (.t 19) (.t 18)), none⟩]) (.seq (.cond (.t 20) .skip (.exit 2)) (.seq (.block 3 (.seq (.reg false [⟨(some 21), (.mv (.t 19)), none⟩, ⟨(some 6), (.mv (.t 21)), none⟩]) (.seq (.reg false [⟨(some 22), (.mv (.t 5)), none⟩, ⟨(some 23), (.call (.f 70) [(.t 22)]), none⟩, ⟨(some 24), (.mv (.t 6)), none⟩, ⟨(some 25), (.call (.f 70) [(.t 24)]), none⟩, ⟨(some 26), (.bin .eql (.t 23) (.t 25)), none⟩, ⟨(some 27), (.mv (.t 26)), none⟩, ⟨(some 28), (.mv (.t 0)), (some (27, true))⟩, ⟨(some 29), (.mv (.t 5)), (some (27, true))⟩, ⟨(some 30), (.mv (.t 6)), (some (27, true))⟩, ⟨(some 31), (.call (.f 72) [(.t 28), (.t 29), (.t 30)]), (some (27, true))⟩, ⟨(some 32), (.call (.f 71) [(.t 31)]), (some (27, true))⟩, ⟨(some 33), (.bin .lss (.t 32) (.c (.int .i64 0))), (some (27, true))⟩, ⟨(some 34), (.pick (.t 27) (.t 33) (.c (.bool false))), none⟩]) (.cond (.t 34) (.reg false [⟨(some 35), (.mv (.t 4)), none⟩, ⟨(some 36), (.bin .add (.t 35) (.c (.int .i64 1))), none⟩, ⟨(some 4), (.mv (.t 36)), none⟩]) .skip)))) (.reg false [⟨(some 37), (.bin .add (.t 19) (.c (.int .i64 1))), none⟩, ⟨(some 19), (.mv (.t 37)), none⟩]))))))))) (.reg false [⟨(some 38), (.bin .add (.t 13) (.c (.int .i64 1))), none⟩, ⟨(some 13), (.mv (.t 38)), none⟩]))))))) (.seq (.reg false [⟨(some 39), (.mv (.t 4)), none⟩, ⟨(some 2), (.mv (.t 39)), none⟩, ⟨(some 3), (.mv (.c (.int .i64 0))), none⟩]) .ret))))), 40, [(.t 2), (.t 3)]⟩
theorem k_impl_CountNegative : compF Try.prog Try.f36 = some c_impl_CountNegative := by kernel_rfl
def c_spec_CountNegative : F := ⟨(.seq (.reg false [⟨(some 2), (.mv (.c (.int .i64 0))), none⟩, ⟨(some 3), (.mv (.c (.int .i64 0))), none⟩]) (.seq (.seq (.reg false [⟨(some 8), (.mv (.t 0)), none⟩, ⟨(some 9), (.call (.f 56) [(.t 8)]), none⟩, ⟨(some 10), (.un .not (.t 9)), none⟩]) (.cond (.t 10) (.seq (.reg false [⟨(some 2), (.mv (.c (.int .i64 0))), none⟩, ⟨(some 3), (.mv (.c (.int .i64 1))), none⟩]) .ret) .skip)) (.seq (.reg false [⟨(some 11), (.mv (.t 0)), none⟩, ⟨(some 12), (.len (.t 11)), none⟩, ⟨(some 13), (.cvi .u64 (.t 12)), none⟩, ⟨(some 14), (.bin .shl (.c (.int .i64 1)) (.t 13)), none⟩, ⟨(some 4), (.mv (.c (.int .i64 0))), none⟩, ⟨(some 5), (.mv (.t 14)), none⟩]) (.seq (.seq (.reg false [⟨(some 6), (.mv (.c (.int .i64 0))), none⟩]) (.block 0 (.loop (.seq (.seq (.reg false [⟨(some 15), (.mv (.t 6)), none⟩, ⟨(some 16), (.mv (.t 5)), none⟩, ⟨(some 17), (.bin .lss (.t 15) (.t 16)), none⟩]) (.cond (.t 17) .skip (.exit 0))) (.seq (.block 1 (.seq (.reg false [⟨(some 7), (.mv (.c (.int .i64 0))), none⟩]) (.block 2 (.loop (.seq (.seq (.reg false [⟨(some 20), (.mv (.t 7)), none⟩, ⟨(some 21), (.mv (.t 5)), none⟩, ⟨(some 22), (.bin .lss (.t 20) (.t 21)), none⟩]) (.cond (.t 22) .skip (.exit 2))) (.seq (.block 3 (.seq (.reg false [⟨(some 25), (.mv (.t 6)), none⟩, ⟨(some 26), (.call (.f 83) [(.t 25)]), none⟩, ⟨(some 27), (.mv (.t 7)), none⟩, ⟨(some 28), (.call (.f 83) [(.t 27)]), none⟩, ⟨(some 29), (.bin .eql (.t 26) (.t 28)), none⟩, ⟨(some 30), (.mv (.t 29)), none⟩, ⟨(some 31), (.mv (.t 0)), (some (30, true))⟩, ⟨(some 32), (.mv (.t 6)), (some (30, true))⟩, ⟨(some 33), (.mv (.t 7)), (some (30, true))⟩, ⟨(some 34), (.call (.f 85) [(.t 31), (.t 32), (.t 33)]), (some (30, true))⟩, ⟨(some 35), (.bin .lss (.t 34) (.c (.int .i64 0))), (some (30, true))⟩, ⟨(some 36), (.pick (.t 30) (.t 35) (.c (.bool false))), none⟩]) (.cond (.t 36) (.reg false [⟨(some 37), (.mv (.t 4)), none⟩, ⟨(some 38), (.bin .add (.t 37) (.c (.int .i64 1))), none⟩, ⟨(some 4), (.mv (.t 38)), none⟩]) .skip))) (.reg false [⟨(some 23), (.mv (.t 7)), none⟩, ⟨(some 24), (.bin .add (.t 23) (.c (.int .i64 1))), none⟩, ⟨(some 7), (.mv (.t 24)), none⟩]))))))) (.reg false [⟨(some 18), (.mv (.t 6)), none⟩, ⟨(some 19), (.bin .add (.t 18) (.c (.int .i64 1))), none⟩, ⟨(some 6), (.mv (.t 19)), none⟩])))))) (.seq (.reg false [⟨(some 39), (.mv (.t 4)), none⟩, ⟨(some 2), (.mv (.t 39)), none⟩, ⟨(some 3), (.mv (.c (.int .i64 0))), none⟩]) .ret))))), 40, [(.t 2), (.t 3)]⟩
theorem k_spec_CountNegative : compF Try.prog Try.f37 = some c_spec_CountNegative := by kernel_rfl
def c_impl_NegativeSets : F := ⟨(.seq (.reg false [⟨(some 2), (.mv (.c .nilsl)), none⟩, ⟨(some 3), (.mv (.c (.int .i64 0))), none⟩]) (.seq (.seq (.reg false [⟨(some 7), (.mv (.t 0)), none⟩, ⟨(some 8), (.call (.f 47) [(.t 7)]), none⟩, ⟨(some 9), (.un .not (.t 8)), none⟩]) (.cond (.t 9) (.seq (.reg false [⟨(some 2), (.mv (.c .nilsl)), none⟩, ⟨(some 3), (.mv (.c (.int .i64 1))), none⟩]) .ret) .skip)) (.seq (.reg false [⟨(some 4), (.mv (.c .nilsl)), none⟩]) (.seq (.seq (.reg false [⟨(some 10), (.mv (.t 0)), none⟩, ⟨(some 11), (.call (.f 73) [(.t 10)]), none⟩, ⟨(some 12), (.len (.t 11)), none⟩, ⟨(some 13), (.mv (.c (.int .i64 0))), none⟩]) (.block 0 (.loop (.seq (.reg false [⟨(some 14), (.bin .lss (.t 13) (.t 12)), none⟩]) (.seq (.cond (.t 14) .skip (.exit 0)) (.seq (.block 1 (.seq (.reg false [⟨(some 15), (.mv (.t 13)), none⟩, ⟨(some 16), (.ia 1 (.t 11) (.t 13)), none⟩, ⟨(some 17), (.ld1 (.t 16)), none⟩, ⟨(some 5), (.mv (.t 15)), none⟩, ⟨(some 6), (.mv (.t 17)), none⟩]) (.seq (.reg false [⟨(some 18), (.mv (.t 6)), none⟩, ⟨(some 19), (.bin .lss (.t 18) (.c (.int .i64 0))), none⟩]) (.cond (.t 19) (.reg false [⟨(some 20), (.mv (.t 4)), none⟩, ⟨(some 21), (.mv (.t 5)), none⟩, ⟨(some 22), (.lit 2 1 1 [(.int .i64 0)] [(0, (.t 21))]), none⟩, ⟨(some 23), (.app 2 1 8 [(.int .i64 0)] (.t 20) (.t 22)), none⟩, ⟨(some 4), (.mv (.t 23)), none⟩]) .skip)))) (.reg false [⟨(some 24), (.bin .add (.t 13) (.c (.int .i64 1))), none⟩, ⟨(some 13), (.mv (.t 24)), none⟩]))))))) (.seq (.reg false [⟨(some 25), (.mv (.t 4)), none⟩, ⟨(some 2), (.mv (.t 25)), none⟩, ⟨(some 3), (.mv (.c (.int .i64 0))), none⟩]) .ret))))), 26, [(.t 2), (.t 3)]⟩
theorem k_impl_NegativeSets : compF Try.prog Try.f23 = some c_impl_NegativeSets := by kernel_rfl
def c_spec_NegativeSets : F := ⟨(.seq (.reg false [⟨(some 2), (.mv (.c .nilsl)), none⟩, ⟨(some 3), (.mv (.c (.int .i64 0))), none⟩]) (.seq (.seq (.reg false [⟨(some 7), (.mv (.t 0)), none⟩, ⟨(some 8), (.call (.f 56) [(.t 7)]), none⟩, ⟨(some 9), (.un .not (.t 8)), none⟩]) (.cond (.t 9) (.seq (.reg false [⟨(some 2), (.mv (.c .nilsl)), none⟩, ⟨(some 3), (.mv (.c (.int .i64 1))), none⟩]) .ret) .skip)) (.seq (.reg false [⟨(some 10), (.mv (.t 0)), none⟩, ⟨(some 11), (.call (.f 89) [(.t 10)]), none⟩, ⟨(some 12), (.lit 2 1 0 [(.int .i64 0)] []), none⟩, ⟨(some 4), (.mv (.t 11)), none⟩, ⟨(some 5), (.mv (.t 12)), none⟩]) (.seq (.seq (.reg false [⟨(some 6), (.mv (.c (.int .i64 0))), none⟩]) (.block 0 (.loop (.seq (.seq (.reg false [⟨(some 13), (.mv (.t 6)), none⟩, ⟨(some 14), (.mv (.t 4)), none⟩, ⟨(some 15), (.len (.t 14)), none⟩, ⟨(some 16), (.bin .lss (.t 13) (.t 15)), none⟩]) (.cond (.t 16) .skip (.exit 0))) (.seq (.block 1 (.seq (.reg false [⟨(some 19), (.mv (.t 4)), none⟩, ⟨(some 20), (.mv (.t 6)), none⟩, ⟨(some 21), (.ia 1 (.t 19) (.t 20)), none⟩, ⟨(some 22), (.ld1 (.t 21)), none⟩, ⟨(some 23), (.bin .lss (.t 22) (.c (.int .i64 0))), none⟩]) (.cond (.t 23) (.reg false [⟨(some 24), (.mv (.t 5)), none⟩, ⟨(some 25), (.mv (.t 6)), none⟩, ⟨(some 26), (.lit 2 1 1 [(.int .i64 0)] [(0, (.t 25))]), none⟩, ⟨(some 27), (.app 2 1 8 [(.int .i64 0)] (.t 24) (.t 26)), none⟩, ⟨(some 5), (.mv (.t 27)), none⟩]) .skip))) (.reg false [⟨(some 17), (.mv (.t 6)), none⟩, ⟨(some 18), (.bin .add (.t 17) (.c (.int .i64 1))), none⟩, ⟨(some 6), (.mv (.t 18)), none⟩])))))) (.seq (.reg false [⟨(some 28), (.mv (.t 5)), none⟩, ⟨(some 2), (.mv (.t 28)), none⟩, ⟨(some 3), (.mv (.c (.int .i64 0))), none⟩]) .ret))))), 29, [(.t 2), (.t 3)]⟩
theorem k_spec_NegativeSets : compF Try.prog Try.f42 = some c_spec_NegativeSets := by kernel_rfl

theorem codeM_zero {ll : List (List Int)} {l : List Int} : codeM ll l = 0 ↔ isMat ll = true ∧ ∀ a ∈ l, inSet ll.length a = true := by
  unfold codeM
  by_cases h1 : isMat ll = true
  · rw [if_pos h1]
    by_cases h2 : l.all (inSet ll.length) = true
    · rw [if_pos h2]; simp [h1, List.all_eq_true.1 h2]; exact fun a ha => List.all_eq_true.1 h2 a ha
    · rw [if_neg h2]; simp [h1]; simpa using h2
  · rw [if_neg h1]; simp [h1]
theorem inSet_fin {n : Nat} {a : Int} (hn : n ≤ 5) (h : inSet n a = true) : ∃ s : Fin 32, a = (s.val : Int) ∧ s.val < pw n := by
  simp only [inSet, decide_eq_true_eq] at h
  have := pw_le hn
  exact ⟨⟨a.toNat, by omega⟩, by simp only; omega, by simp only; omega⟩
theorem pop_places_all : ∀ n : Fin 6, ∀ s : Fin 32, s.val < pw n.val → (places (s.val : Int) n.val).length = popc (s.val : Int) := by decide +kernel
theorem pop_places {n : Nat} (hn : n ≤ 5) (s : Fin 32) (h : s.val < pw n) : (places (s.val : Int) n).length = popc (s.val : Int) := pop_places_all ⟨n, by omega⟩ s h
theorem one_lit {h : AH} {n ty : Nat} {a : Int} {op : Nat} : Ints true n (n + 1) (upd h n (some ⟨ty, [.int .i64 a], true, op⟩)) (.sl n 0 1 1) [a] := Sl.of_sl (upd_same _ _ _) rfl (Nat.le_refl _) (Nat.le_refl _) (by omega)
theorem two_lit {h : AH} {n ty : Nat} {a b : Int} {op : Nat} : Ints true n (n + 1) (upd h n (some ⟨ty, [.int .i64 a, .int .i64 b], true, op⟩)) (.sl n 0 2 2) [a, b] := Sl.of_sl (upd_same _ _ _) rfl (Nat.le_refl _) (Nat.le_refl _) (by omega)
def minorV (ll : List (List Int)) (a : Int) : Int × Int := if codeM ll [a] = 0 then (minorOf ll a a, 0) else (0, codeM ll [a])
def minorByV (ll : List (List Int)) (a b : Int) : Int × Int := if codeM ll [a, b] = 0 then (if popc a = popc b then (minorOf ll a b, 0) else (0, 2)) else (0, codeM ll [a, b])
section
variable {w : Bool} {lo hi : Nat} {h : AH} {v : AV} {vs : List AV} {ll : List (List Int)}
theorem impl_MinorOf (sR : Rows w lo hi h v vs ll) (hl : ll.length ≤ 1048576) (hll : ∀ l ∈ ll, l.length ≤ 1048576) (a : Int) (n : Nat) (hn : hi ≤ n) :
    Q Try.prog 20 [v, .int .i64 a] h n (.tup [.int .i64 (minorV ll a).1, .int .i64 (minorV ll a).2]) := by
  refine q_intro Try.func20 k_impl_MinorOf ?_
  simp (maxSteps := 2000000) -implicitDefEqProofs (disch := omega) only [c_impl_MinorOf, xsW, xsC, if_true, if_false, ite_true, ite_false, forall_const, ne_eq, beq_self_eq_true, bne_self_eq_false, imp_self, true_implies, false_implies, implies_true, evP, evE, ev, setD, Nat.reduceAdd, Nat.reduceSub, reduceCtorEq, fillA, cutA, Nat.reduceLeDiff, Nat.reduceMul, Int.reduceLT, Int.reduceLE, Int.reduceEq, Int.reduceNe, Int.reduceAdd, Int.reduceSub, Int.reduceMul, Int.reduceNeg, Int.reduceToNat]
  refine q_use (impl_matrixCode (sR.keep (fun i _ hi9 => by simp (disch := omega) only [upd_other])) hl hll one_lit (by simp) _ (by omega) (by omega)) fun n1 hn1 => ?_
  simp (maxSteps := 2000000) -implicitDefEqProofs (disch := omega) only [xsW, xsC, if_true, if_false, ite_true, ite_false, forall_const, ne_eq, beq_self_eq_true, bne_self_eq_false, imp_self, true_implies, false_implies, implies_true, evP, evE, ev, setD, Nat.reduceAdd, Nat.reduceSub, reduceCtorEq, fillA, cutA, Nat.reduceLeDiff, Nat.reduceMul, Int.reduceLT, Int.reduceLE, Int.reduceEq, Int.reduceNe, Int.reduceAdd, Int.reduceSub, Int.reduceMul, Int.reduceNeg, Int.reduceToNat]
  (refine cd_dec (fun c1 => ?_) (fun c1 => ?_) <;> simp (maxSteps := 2000000) -implicitDefEqProofs (disch := omega) only [xsW, xsC, if_true, if_false, ite_true, ite_false, forall_const, ne_eq, beq_self_eq_true, bne_self_eq_false, imp_self, true_implies, false_implies, implies_true, evP, evE, ev, setD, Nat.reduceAdd, Nat.reduceSub, reduceCtorEq, fillA, cutA, Nat.reduceLeDiff, Nat.reduceMul, Int.reduceLT, Int.reduceLE, Int.reduceEq, Int.reduceNe, Int.reduceAdd, Int.reduceSub, Int.reduceMul, Int.reduceNeg, Int.reduceToNat,  c1])
  · simp [minorV, c1]
  · have c2 : codeM ll [a] = 0 := Decidable.not_not.1 c1
    obtain ⟨hN, hs, hlim⟩ := isMat_sq (codeM_zero.1 c2).1
    refine q_use (impl_minor (sR.keep (fun i _ hi9 => by simp (disch := omega) only [upd_other])) hN hs hlim a n1 (by omega)) fun n2 hn2 => ?_
    simp (maxSteps := 2000000) -implicitDefEqProofs (disch := omega) only [xsW, xsC, if_true, if_false, ite_true, ite_false, forall_const, ne_eq, beq_self_eq_true, bne_self_eq_false, imp_self, true_implies, false_implies, implies_true, evP, evE, ev, setD, Nat.reduceAdd, Nat.reduceSub, reduceCtorEq, fillA, cutA, Nat.reduceLeDiff, Nat.reduceMul, Int.reduceLT, Int.reduceLE, Int.reduceEq, Int.reduceNe, Int.reduceAdd, Int.reduceSub, Int.reduceMul, Int.reduceNeg, Int.reduceToNat]
    simp [minorV, c2]
theorem spec_MinorOf (sR : Rows w lo hi h v vs ll) (hl : ll.length ≤ 1048576) (hll : ∀ l ∈ ll, l.length ≤ 1048576) (a : Int) (n : Nat) (hn : hi ≤ n) :
    Q Try.prog 21 [v, .int .i64 a] h n (.tup [.int .i64 (minorV ll a).1, .int .i64 (minorV ll a).2]) := by
  refine q_intro Try.func21 k_spec_MinorOf ?_
  simp (maxSteps := 2000000) -implicitDefEqProofs (disch := omega) only [c_spec_MinorOf, xsW, xsC, if_true, if_false, ite_true, ite_false, forall_const, ne_eq, beq_self_eq_true, bne_self_eq_false, imp_self, true_implies, false_implies, implies_true, evP, evE, ev, setD, Nat.reduceAdd, Nat.reduceSub, reduceCtorEq, fillA, cutA, Nat.reduceLeDiff, Nat.reduceMul, Int.reduceLT, Int.reduceLE, Int.reduceEq, Int.reduceNe, Int.reduceAdd, Int.reduceSub, Int.reduceMul, Int.reduceNeg, Int.reduceToNat]
  refine q_use (spec_l03Set (sR.keep (fun i _ hi9 => by simp (disch := omega) only [upd_other])) hl one_lit (by simp) _) fun n1 hn1 => ?_
  simp (maxSteps := 2000000) -implicitDefEqProofs (disch := omega) only [xsW, xsC, if_true, if_false, ite_true, ite_false, forall_const, ne_eq, beq_self_eq_true, bne_self_eq_false, imp_self, true_implies, false_implies, implies_true, evP, evE, ev, setD, Nat.reduceAdd, Nat.reduceSub, reduceCtorEq, fillA, cutA, Nat.reduceLeDiff, Nat.reduceMul, Int.reduceLT, Int.reduceLE, Int.reduceEq, Int.reduceNe, Int.reduceAdd, Int.reduceSub, Int.reduceMul, Int.reduceNeg, Int.reduceToNat]
  (refine cd_dec (fun c1 => ?_) (fun c1 => ?_) <;> simp (maxSteps := 2000000) -implicitDefEqProofs (disch := omega) only [xsW, xsC, if_true, if_false, ite_true, ite_false, forall_const, ne_eq, beq_self_eq_true, bne_self_eq_false, imp_self, true_implies, false_implies, implies_true, evP, evE, ev, setD, Nat.reduceAdd, Nat.reduceSub, reduceCtorEq, fillA, cutA, Nat.reduceLeDiff, Nat.reduceMul, Int.reduceLT, Int.reduceLE, Int.reduceEq, Int.reduceNe, Int.reduceAdd, Int.reduceSub, Int.reduceMul, Int.reduceNeg, Int.reduceToNat,  c1])
  · simp [minorV, c1]
  · have c2 : codeM ll [a] = 0 := Decidable.not_not.1 c1
    obtain ⟨hN, hs, hlim⟩ := isMat_sq (codeM_zero.1 c2).1
    refine q_use (spec_l03Minor (sR.keep (fun i _ hi9 => by simp (disch := omega) only [upd_other])) hN hs hlim a n1 (by omega)) fun n2 hn2 => ?_
    simp (maxSteps := 2000000) -implicitDefEqProofs (disch := omega) only [xsW, xsC, if_true, if_false, ite_true, ite_false, forall_const, ne_eq, beq_self_eq_true, bne_self_eq_false, imp_self, true_implies, false_implies, implies_true, evP, evE, ev, setD, Nat.reduceAdd, Nat.reduceSub, reduceCtorEq, fillA, cutA, Nat.reduceLeDiff, Nat.reduceMul, Int.reduceLT, Int.reduceLE, Int.reduceEq, Int.reduceNe, Int.reduceAdd, Int.reduceSub, Int.reduceMul, Int.reduceNeg, Int.reduceToNat]
    simp [minorV, c2]
theorem impl_MinorBy (sR : Rows w lo hi h v vs ll) (hl : ll.length ≤ 1048576) (hll : ∀ l ∈ ll, l.length ≤ 1048576) (a b : Int) (n : Nat) (hn : hi ≤ n) :
    Q Try.prog 22 [v, .int .i64 a, .int .i64 b] h n (.tup [.int .i64 (minorByV ll a b).1, .int .i64 (minorByV ll a b).2]) := by
  refine q_intro Try.func22 k_impl_MinorBy ?_
  simp (maxSteps := 2000000) -implicitDefEqProofs (disch := omega) only [c_impl_MinorBy, xsW, xsC, if_true, if_false, ite_true, ite_false, forall_const, ne_eq, beq_self_eq_true, bne_self_eq_false, imp_self, true_implies, false_implies, implies_true, evP, evE, ev, setD, Nat.reduceAdd, Nat.reduceSub, reduceCtorEq, fillA, cutA, Nat.reduceLeDiff, Nat.reduceMul, Int.reduceLT, Int.reduceLE, Int.reduceEq, Int.reduceNe, Int.reduceAdd, Int.reduceSub, Int.reduceMul, Int.reduceNeg, Int.reduceToNat]
  refine q_use (impl_matrixCode (sR.keep (fun i _ hi9 => by simp (disch := omega) only [upd_other])) hl hll two_lit (by simp) _ (by omega) (by omega)) fun n1 hn1 => ?_
  simp (maxSteps := 2000000) -implicitDefEqProofs (disch := omega) only [xsW, xsC, if_true, if_false, ite_true, ite_false, forall_const, ne_eq, beq_self_eq_true, bne_self_eq_false, imp_self, true_implies, false_implies, implies_true, evP, evE, ev, setD, Nat.reduceAdd, Nat.reduceSub, reduceCtorEq, fillA, cutA, Nat.reduceLeDiff, Nat.reduceMul, Int.reduceLT, Int.reduceLE, Int.reduceEq, Int.reduceNe, Int.reduceAdd, Int.reduceSub, Int.reduceMul, Int.reduceNeg, Int.reduceToNat]
  (refine cd_dec (fun c1 => ?_) (fun c1 => ?_) <;> simp (maxSteps := 2000000) -implicitDefEqProofs (disch := omega) only [xsW, xsC, if_true, if_false, ite_true, ite_false, forall_const, ne_eq, beq_self_eq_true, bne_self_eq_false, imp_self, true_implies, false_implies, implies_true, evP, evE, ev, setD, Nat.reduceAdd, Nat.reduceSub, reduceCtorEq, fillA, cutA, Nat.reduceLeDiff, Nat.reduceMul, Int.reduceLT, Int.reduceLE, Int.reduceEq, Int.reduceNe, Int.reduceAdd, Int.reduceSub, Int.reduceMul, Int.reduceNeg, Int.reduceToNat,  c1])
  · simp [minorByV, c1]
  · have c2 : codeM ll [a, b] = 0 := Decidable.not_not.1 c1
    obtain ⟨hN, hs, hlim⟩ := isMat_sq (codeM_zero.1 c2).1
    obtain ⟨x, rfl, hx⟩ := inSet_fin hN ((codeM_zero.1 c2).2 a (by simp))
    obtain ⟨y, rfl, hy⟩ := inSet_fin hN ((codeM_zero.1 c2).2 b (by simp))
    refine q_use (impl_count x _ _) fun n2 hn2 => ?_
    simp (maxSteps := 2000000) -implicitDefEqProofs (disch := omega) only [xsW, xsC, if_true, if_false, ite_true, ite_false, forall_const, ne_eq, beq_self_eq_true, bne_self_eq_false, imp_self, true_implies, false_implies, implies_true, evP, evE, ev, setD, Nat.reduceAdd, Nat.reduceSub, reduceCtorEq, fillA, cutA, Nat.reduceLeDiff, Nat.reduceMul, Int.reduceLT, Int.reduceLE, Int.reduceEq, Int.reduceNe, Int.reduceAdd, Int.reduceSub, Int.reduceMul, Int.reduceNeg, Int.reduceToNat]
    refine q_use (impl_count y _ _) fun n3 hn3 => ?_
    simp (maxSteps := 2000000) -implicitDefEqProofs (disch := omega) only [xsW, xsC, if_true, if_false, ite_true, ite_false, forall_const, ne_eq, beq_self_eq_true, bne_self_eq_false, imp_self, true_implies, false_implies, implies_true, evP, evE, ev, setD, Nat.reduceAdd, Nat.reduceSub, reduceCtorEq, fillA, cutA, Nat.reduceLeDiff, Nat.reduceMul, Int.reduceLT, Int.reduceLE, Int.reduceEq, Int.reduceNe, Int.reduceAdd, Int.reduceSub, Int.reduceMul, Int.reduceNeg, Int.reduceToNat]
    (refine cd_dec (fun c3 => ?_) (fun c3 => ?_) <;> simp (maxSteps := 2000000) -implicitDefEqProofs (disch := omega) only [xsW, xsC, if_true, if_false, ite_true, ite_false, forall_const, ne_eq, beq_self_eq_true, bne_self_eq_false, imp_self, true_implies, false_implies, implies_true, evP, evE, ev, setD, Nat.reduceAdd, Nat.reduceSub, reduceCtorEq, fillA, cutA, Nat.reduceLeDiff, Nat.reduceMul, Int.reduceLT, Int.reduceLE, Int.reduceEq, Int.reduceNe, Int.reduceAdd, Int.reduceSub, Int.reduceMul, Int.reduceNeg, Int.reduceToNat,  c3])
    · have c4 : ¬ popc (x.val : Int) = popc (y.val : Int) := by omega
      simp [minorByV, c2, c4]
    · have c4 : popc (x.val : Int) = popc (y.val : Int) := by omega
      have heq : (places (x.val : Int) ll.length).length = (places (y.val : Int) ll.length).length := by rw [pop_places hN x hx, pop_places hN y hy, c4]
      refine fq_use (impl_part (sR.keep (fun i _ hi9 => by simp (disch := omega) only [upd_other])) hN hs _ _ n3 (by omega)) fun v1 h1 n4 hn4 hs1 ⟨vs1, hv1⟩ => ?_
      simp (maxSteps := 2000000) -implicitDefEqProofs (disch := omega) only [xsW, xsC, if_true, if_false, ite_true, ite_false, forall_const, ne_eq, beq_self_eq_true, bne_self_eq_false, imp_self, true_implies, false_implies, implies_true, evP, evE, ev, setD, Nat.reduceAdd, Nat.reduceSub, reduceCtorEq, fillA, cutA, Nat.reduceLeDiff, Nat.reduceMul, Int.reduceLT, Int.reduceLE, Int.reduceEq, Int.reduceNe, Int.reduceAdd, Int.reduceSub, Int.reduceMul, Int.reduceNeg, Int.reduceToNat]
      refine q_use (impl_determinant _ hv1 (by have := places_len (x.val : Int) ll.length; omega) (partL_sq ll _ _ heq) (by obtain ⟨q, hq⟩ := hlim; exact partL_lim ll _ _ heq hq) n4 (Nat.le_refl _)) fun n5 hn5 => ?_
      simp (maxSteps := 2000000) -implicitDefEqProofs (disch := omega) only [xsW, xsC, if_true, if_false, ite_true, ite_false, forall_const, ne_eq, beq_self_eq_true, bne_self_eq_false, imp_self, true_implies, false_implies, implies_true, evP, evE, ev, setD, Nat.reduceAdd, Nat.reduceSub, reduceCtorEq, fillA, cutA, Nat.reduceLeDiff, Nat.reduceMul, Int.reduceLT, Int.reduceLE, Int.reduceEq, Int.reduceNe, Int.reduceAdd, Int.reduceSub, Int.reduceMul, Int.reduceNeg, Int.reduceToNat]
      simp [minorByV, c2, c4, minorOf]
theorem spec_MinorBy (sR : Rows w lo hi h v vs ll) (hl : ll.length ≤ 1048576) (hll : ∀ l ∈ ll, l.length ≤ 1048576) (a b : Int) (n : Nat) (hn : hi ≤ n) :
    Q Try.prog 34 [v, .int .i64 a, .int .i64 b] h n (.tup [.int .i64 (minorByV ll a b).1, .int .i64 (minorByV ll a b).2]) := by
  refine q_intro Try.func34 k_spec_MinorBy ?_
  simp (maxSteps := 2000000) -implicitDefEqProofs (disch := omega) only [c_spec_MinorBy, xsW, xsC, if_true, if_false, ite_true, ite_false, forall_const, ne_eq, beq_self_eq_true, bne_self_eq_false, imp_self, true_implies, false_implies, implies_true, evP, evE, ev, setD, Nat.reduceAdd, Nat.reduceSub, reduceCtorEq, fillA, cutA, Nat.reduceLeDiff, Nat.reduceMul, Int.reduceLT, Int.reduceLE, Int.reduceEq, Int.reduceNe, Int.reduceAdd, Int.reduceSub, Int.reduceMul, Int.reduceNeg, Int.reduceToNat]
  refine q_use (spec_l03Set (sR.keep (fun i _ hi9 => by simp (disch := omega) only [upd_other])) hl two_lit (by simp) _) fun n1 hn1 => ?_
  simp (maxSteps := 2000000) -implicitDefEqProofs (disch := omega) only [xsW, xsC, if_true, if_false, ite_true, ite_false, forall_const, ne_eq, beq_self_eq_true, bne_self_eq_false, imp_self, true_implies, false_implies, implies_true, evP, evE, ev, setD, Nat.reduceAdd, Nat.reduceSub, reduceCtorEq, fillA, cutA, Nat.reduceLeDiff, Nat.reduceMul, Int.reduceLT, Int.reduceLE, Int.reduceEq, Int.reduceNe, Int.reduceAdd, Int.reduceSub, Int.reduceMul, Int.reduceNeg, Int.reduceToNat]
  (refine cd_dec (fun c1 => ?_) (fun c1 => ?_) <;> simp (maxSteps := 2000000) -implicitDefEqProofs (disch := omega) only [xsW, xsC, if_true, if_false, ite_true, ite_false, forall_const, ne_eq, beq_self_eq_true, bne_self_eq_false, imp_self, true_implies, false_implies, implies_true, evP, evE, ev, setD, Nat.reduceAdd, Nat.reduceSub, reduceCtorEq, fillA, cutA, Nat.reduceLeDiff, Nat.reduceMul, Int.reduceLT, Int.reduceLE, Int.reduceEq, Int.reduceNe, Int.reduceAdd, Int.reduceSub, Int.reduceMul, Int.reduceNeg, Int.reduceToNat,  c1])
  · simp [minorByV, c1]
  · have c2 : codeM ll [a, b] = 0 := Decidable.not_not.1 c1
    obtain ⟨hN, hs, hlim⟩ := isMat_sq (codeM_zero.1 c2).1
    obtain ⟨x, rfl, hx⟩ := inSet_fin hN ((codeM_zero.1 c2).2 a (by simp))
    obtain ⟨y, rfl, hy⟩ := inSet_fin hN ((codeM_zero.1 c2).2 b (by simp))
    refine q_use (spec_l01Ones x _ _) fun n2 hn2 => ?_
    simp (maxSteps := 2000000) -implicitDefEqProofs (disch := omega) only [xsW, xsC, if_true, if_false, ite_true, ite_false, forall_const, ne_eq, beq_self_eq_true, bne_self_eq_false, imp_self, true_implies, false_implies, implies_true, evP, evE, ev, setD, Nat.reduceAdd, Nat.reduceSub, reduceCtorEq, fillA, cutA, Nat.reduceLeDiff, Nat.reduceMul, Int.reduceLT, Int.reduceLE, Int.reduceEq, Int.reduceNe, Int.reduceAdd, Int.reduceSub, Int.reduceMul, Int.reduceNeg, Int.reduceToNat]
    refine q_use (spec_l01Ones y _ _) fun n3 hn3 => ?_
    simp (maxSteps := 2000000) -implicitDefEqProofs (disch := omega) only [xsW, xsC, if_true, if_false, ite_true, ite_false, forall_const, ne_eq, beq_self_eq_true, bne_self_eq_false, imp_self, true_implies, false_implies, implies_true, evP, evE, ev, setD, Nat.reduceAdd, Nat.reduceSub, reduceCtorEq, fillA, cutA, Nat.reduceLeDiff, Nat.reduceMul, Int.reduceLT, Int.reduceLE, Int.reduceEq, Int.reduceNe, Int.reduceAdd, Int.reduceSub, Int.reduceMul, Int.reduceNeg, Int.reduceToNat]
    (refine cd_dec (fun c3 => ?_) (fun c3 => ?_) <;> simp (maxSteps := 2000000) -implicitDefEqProofs (disch := omega) only [xsW, xsC, if_true, if_false, ite_true, ite_false, forall_const, ne_eq, beq_self_eq_true, bne_self_eq_false, imp_self, true_implies, false_implies, implies_true, evP, evE, ev, setD, Nat.reduceAdd, Nat.reduceSub, reduceCtorEq, fillA, cutA, Nat.reduceLeDiff, Nat.reduceMul, Int.reduceLT, Int.reduceLE, Int.reduceEq, Int.reduceNe, Int.reduceAdd, Int.reduceSub, Int.reduceMul, Int.reduceNeg, Int.reduceToNat,  c3])
    · have c4 : ¬ popc (x.val : Int) = popc (y.val : Int) := by omega
      simp [minorByV, c2, c4]
    · have c4 : popc (x.val : Int) = popc (y.val : Int) := by omega
      have heq : (places (x.val : Int) ll.length).length = (places (y.val : Int) ll.length).length := by rw [pop_places hN x hx, pop_places hN y hy, c4]
      refine q_use (spec_l03By (sR.keep (fun i _ hi9 => by simp (disch := omega) only [upd_other])) hN hs _ _ n3 (by omega) hlim heq) fun n5 hn5 => ?_
      simp (maxSteps := 2000000) -implicitDefEqProofs (disch := omega) only [xsW, xsC, if_true, if_false, ite_true, ite_false, forall_const, ne_eq, beq_self_eq_true, bne_self_eq_false, imp_self, true_implies, false_implies, implies_true, evP, evE, ev, setD, Nat.reduceAdd, Nat.reduceSub, reduceCtorEq, fillA, cutA, Nat.reduceLeDiff, Nat.reduceMul, Int.reduceLT, Int.reduceLE, Int.reduceEq, Int.reduceNe, Int.reduceAdd, Int.reduceSub, Int.reduceMul, Int.reduceNeg, Int.reduceToNat]
      simp [minorByV, c2, c4, minorOf]
/-- All minors. -/
def minorsL (ll : List (List Int)) : List Int := rowOf (pw ll.length) fun s => minorOf ll (s : Int) (s : Int)
theorem minorsL_len (ll : List (List Int)) : (minorsL ll).length = pw ll.length := rowOf_len _ _
theorem impl_minors (sR : Rows w lo hi h v vs ll) (hN : ll.length ≤ 5) (hs : Sq ll.length ll) (hl : ∃ q, Lim q ll.length (mx ll)) (n : Nat) (hn : hi ≤ n) :
    FQ Try.prog 73 [v] h n fun v' h' n' => Ints true n n' h' v' (minorsL ll) := by
  refine fq_intro Try.func73 k_impl_minors ?_
  have hp := pw_le hN
  simp (maxSteps := 2000000) -implicitDefEqProofs (disch := omega) only [c_impl_minors, sR.ln, shl1, xsW, xsC, if_true, if_false, ite_true, ite_false, forall_const, ne_eq, beq_self_eq_true, bne_self_eq_false, imp_self, true_implies, false_implies, implies_true, evP, evE, ev, setD, Nat.reduceAdd, Nat.reduceSub, reduceCtorEq, fillA, cutA, Nat.reduceLeDiff, Nat.reduceMul, Int.reduceLT, Int.reduceLE, Int.reduceEq, Int.reduceNe, Int.reduceAdd, Int.reduceSub, Int.reduceMul, Int.reduceNeg, Int.reduceToNat]
  refine loop_for (pw ll.length) 0 (fun k (_ : Unit) => [v, .any, .nilsl, .sl n 0 (pw ll.length) (pw ll.length), .any, .any, .any, .any, .any, .sl n 0 (pw ll.length) (pw ll.length), .int .i64 (pw ll.length), .int .i64 k, .any, .any, .any, .any, .any, .any, .any, .any, .any, .any]) (fun k _ => upd h n (some ⟨2, (ints (minorsL ll)).take k ++ List.replicate ((minorsL ll).length - k) (.int .i64 0), true, 0⟩))
    (fun _ _ _ => True) () (Nat.zero_le _) trivial (by simp [LeL, Le1]) (by simp [minorsL_len]) ?_
  rintro k - n1 - hk hn1 -
  simp (maxSteps := 2000000) -implicitDefEqProofs (disch := omega) only [xsW, xsC, if_true, if_false, ite_true, ite_false, forall_const, ne_eq, beq_self_eq_true, bne_self_eq_false, imp_self, true_implies, false_implies, implies_true, evP, evE, ev, setD, Nat.reduceAdd, Nat.reduceSub, reduceCtorEq, fillA, cutA, Nat.reduceLeDiff, Nat.reduceMul, Int.reduceLT, Int.reduceLE, Int.reduceEq, Int.reduceNe, Int.reduceAdd, Int.reduceSub, Int.reduceMul, Int.reduceNeg, Int.reduceToNat]
  (refine cd_dec (fun c1 => ?_) (fun c1 => ?_) <;> simp (maxSteps := 2000000) -implicitDefEqProofs (disch := omega) only [xsW, xsC, if_true, if_false, ite_true, ite_false, forall_const, ne_eq, beq_self_eq_true, bne_self_eq_false, imp_self, true_implies, false_implies, implies_true, evP, evE, ev, setD, Nat.reduceAdd, Nat.reduceSub, reduceCtorEq, fillA, cutA, Nat.reduceLeDiff, Nat.reduceMul, Int.reduceLT, Int.reduceLE, Int.reduceEq, Int.reduceNe, Int.reduceAdd, Int.reduceSub, Int.reduceMul, Int.reduceNeg, Int.reduceToNat,  c1])
  · have hk2 : k < pw ll.length := by omega
    refine q_use (impl_minor (sR.keep (fun i _ hi9 => by simp (disch := omega) only [upd_other])) hN hs hl _ n1 (by omega)) fun n2 hn2 => ?_
    have e : minorOf ll (k : Int) (k : Int) = (minorsL ll).getD k 0 := by rw [minorsL, rowOf_get hk2]
    rw [e]
    have hml := minorsL_len ll
    simp (maxSteps := 2000000) -implicitDefEqProofs (disch := omega) only [xsW, xsC, if_true, if_false, ite_true, ite_false, forall_const, ne_eq, beq_self_eq_true, bne_self_eq_false, imp_self, true_implies, false_implies, implies_true, evP, evE, ev, setD, Nat.reduceAdd, Nat.reduceSub, reduceCtorEq, fillA, cutA, Nat.reduceLeDiff, Nat.reduceMul, Int.reduceLT, Int.reduceLE, Int.reduceEq, Int.reduceNe, Int.reduceAdd, Int.reduceSub, Int.reduceMul, Int.reduceNeg, Int.reduceToNat,  fill_ints]
    exact ⟨by omega, (), by omega, by omega, (by simp [LeL, Le1])⟩
  · have e : k = pw ll.length := by omega
    subst e
    intro _ h2 hh
    refine Sl.of_sl (ty := 2) (op := 0) ?_ (by simp [ints, minorsL_len]) (Nat.le_refl _) (Nat.le_refl _) (by omega)
    rw [hh n (Nat.le_refl _) (by omega), upd_same]
    simp [minorsL_len, List.take_of_length_le, ints]
theorem spec_l03Minors (sR : Rows w lo hi h v vs ll) (hN : ll.length ≤ 5) (hs : Sq ll.length ll) (hl : ∃ q, Lim q ll.length (mx ll)) (n : Nat) (hn : hi ≤ n) :
    FQ Try.prog 89 [v] h n fun v' h' n' => Ints true n n' h' v' (minorsL ll) := by
  refine fq_intro Try.func89 k_spec_l03Minors ?_
  have hp := pw_le hN
  simp (maxSteps := 2000000) -implicitDefEqProofs (disch := omega) only [c_spec_l03Minors, xsW, xsC, if_true, if_false, ite_true, ite_false, forall_const, ne_eq, beq_self_eq_true, bne_self_eq_false, imp_self, true_implies, false_implies, implies_true, evP, evE, ev, setD, Nat.reduceAdd, Nat.reduceSub, reduceCtorEq, fillA, cutA, Nat.reduceLeDiff, Nat.reduceMul, Int.reduceLT, Int.reduceLE, Int.reduceEq, Int.reduceNe, Int.reduceAdd, Int.reduceSub, Int.reduceMul, Int.reduceNeg, Int.reduceToNat]
  refine loop_for (pw ll.length) 0 (fun k p => [v, .any, .nilsl, p.1, .int .i64 k, .any, .any, .any, .any, .any, .any, .any, .any, .any, .any, .any, .any, .any, .any, .any, .any]) (fun _ (p : AV × AH) => p.2)
    (fun k p m => Acc n m p.2 2 1 p.1 (ints (rowOf k fun s => minorOf ll (s : Int) (s : Int))) ∧ n ≤ m ∧ ∀ j, j < n → p.2 j = h j) (.sl n 0 0 0, _) (Nat.zero_le _) ⟨Acc.empty (upd_same _ _ _) rfl (Nat.le_refl _) (by omega), by omega, fun j hj => upd_other (by omega)⟩ (by simp [LeL, Le1]) (fun _ _ h => h) ?_
  rintro k ⟨out, hp'⟩ m - hk hm ⟨acc, hle, hold⟩
  simp only at acc hold
  simp (maxSteps := 2000000) -implicitDefEqProofs (disch := omega) only [xsW, xsC, if_true, if_false, ite_true, ite_false, forall_const, ne_eq, beq_self_eq_true, bne_self_eq_false, imp_self, true_implies, false_implies, implies_true, evP, evE, ev, setD, Nat.reduceAdd, Nat.reduceSub, reduceCtorEq, fillA, cutA, Nat.reduceLeDiff, Nat.reduceMul, Int.reduceLT, Int.reduceLE, Int.reduceEq, Int.reduceNe, Int.reduceAdd, Int.reduceSub, Int.reduceMul, Int.reduceNeg, Int.reduceToNat,  sR.ln, shl1]
  (refine cd_dec (fun c1 => ?_) (fun c1 => ?_) <;> simp (maxSteps := 2000000) -implicitDefEqProofs (disch := omega) only [xsW, xsC, if_true, if_false, ite_true, ite_false, forall_const, ne_eq, beq_self_eq_true, bne_self_eq_false, imp_self, true_implies, false_implies, implies_true, evP, evE, ev, setD, Nat.reduceAdd, Nat.reduceSub, reduceCtorEq, fillA, cutA, Nat.reduceLeDiff, Nat.reduceMul, Int.reduceLT, Int.reduceLE, Int.reduceEq, Int.reduceNe, Int.reduceAdd, Int.reduceSub, Int.reduceMul, Int.reduceNeg, Int.reduceToNat,  c1])
  · refine q_use (spec_l03Minor (sR.keep (fun i _ hi9 => by simp (disch := omega) only [upd_other, hold])) hN hs hl _ m (by omega)) fun n2 hn2 => ?_
    simp (maxSteps := 2000000) -implicitDefEqProofs (disch := omega) only [xsW, xsC, if_true, if_false, ite_true, ite_false, forall_const, ne_eq, beq_self_eq_true, bne_self_eq_false, imp_self, true_implies, false_implies, implies_true, evP, evE, ev, setD, Nat.reduceAdd, Nat.reduceSub, reduceCtorEq, fillA, cutA, Nat.reduceLeDiff, Nat.reduceMul, Int.reduceLT, Int.reduceLE, Int.reduceEq, Int.reduceNe, Int.reduceAdd, Int.reduceSub, Int.reduceMul, Int.reduceNeg, Int.reduceToNat]
    refine app_int (y := minorOf ll (k : Int) (k : Int)) (acc.keep (fun i _ hi9 => by simp (disch := omega) only [upd_other]) |>.wide (Nat.le_refl _) (by omega)) (by omega) (by omega) ⟨rfl, _, upd_same _ _ _, by simp, by simp [cutA]⟩ (by rw [rowOf_len]; omega) fun v' h' n' q1 q2 q3 => ?_
    simp (maxSteps := 2000000) -implicitDefEqProofs (disch := omega) only [xsW, xsC, if_true, if_false, ite_true, ite_false, forall_const, ne_eq, beq_self_eq_true, bne_self_eq_false, imp_self, true_implies, false_implies, implies_true, evP, evE, ev, setD, Nat.reduceAdd, Nat.reduceSub, reduceCtorEq, fillA, cutA, Nat.reduceLeDiff, Nat.reduceMul, Int.reduceLT, Int.reduceLE, Int.reduceEq, Int.reduceNe, Int.reduceAdd, Int.reduceSub, Int.reduceMul, Int.reduceNeg, Int.reduceToNat]
    exact ⟨(v', h'), ⟨by rw [rowOf_succ]; exact q2, by omega, fun j hj => (q3 j hj).trans (by rw [upd_other (by omega), hold j hj])⟩, by omega, by omega, (by simp [LeL, Le1]), fun _ _ h => h⟩
  · have e : k = pw ll.length := by omega
    subst e
    intro _ h2 hh
    exact (acc.keep fun i a b => hh i a b).sl
def minorsV (ll : List (List Int)) : List Int × Int := if isMat ll = true then (minorsL ll, 0) else ([], 1)
theorem impl_MinorsOf (sR : Rows w lo hi h v vs ll) (hl : ll.length ≤ 1048576) (hll : ∀ l ∈ ll, l.length ≤ 1048576) (n : Nat) (hn : hi ≤ n) :
    FQ Try.prog 45 [v] h n fun x h' n' => ∃ v', x = .tup [v', .int .i64 (minorsV ll).2] ∧ Ints true n n' h' v' (minorsV ll).1 := by
  refine fq_intro Try.func45 k_impl_MinorsOf ?_
  simp (maxSteps := 2000000) -implicitDefEqProofs (disch := omega) only [c_impl_MinorsOf, xsW, xsC, if_true, if_false, ite_true, ite_false, forall_const, ne_eq, beq_self_eq_true, bne_self_eq_false, imp_self, true_implies, false_implies, implies_true, evP, evE, ev, setD, Nat.reduceAdd, Nat.reduceSub, reduceCtorEq, fillA, cutA, Nat.reduceLeDiff, Nat.reduceMul, Int.reduceLT, Int.reduceLE, Int.reduceEq, Int.reduceNe, Int.reduceAdd, Int.reduceSub, Int.reduceMul, Int.reduceNeg, Int.reduceToNat]
  refine q_use (impl_IsMatrix sR hl hll _ hn) fun n1 hn1 => ?_
  unfold minorsV
  cases hm : isMat ll
  · simp (maxSteps := 2000000) -implicitDefEqProofs (disch := omega) only [xsW, xsC, if_true, if_false, ite_true, ite_false, forall_const, ne_eq, beq_self_eq_true, bne_self_eq_false, imp_self, true_implies, false_implies, implies_true, evP, evE, ev, setD, Nat.reduceAdd, Nat.reduceSub, reduceCtorEq, fillA, cutA, Nat.reduceLeDiff, Nat.reduceMul, Int.reduceLT, Int.reduceLE, Int.reduceEq, Int.reduceNe, Int.reduceAdd, Int.reduceSub, Int.reduceMul, Int.reduceNeg, Int.reduceToNat]
    intro _ h2 _
    exact ⟨.nilsl, rfl, Sl.nil⟩
  · obtain ⟨hN, hs, hlim⟩ := isMat_sq hm
    simp (maxSteps := 2000000) -implicitDefEqProofs (disch := omega) only [xsW, xsC, if_true, if_false, ite_true, ite_false, forall_const, ne_eq, beq_self_eq_true, bne_self_eq_false, imp_self, true_implies, false_implies, implies_true, evP, evE, ev, setD, Nat.reduceAdd, Nat.reduceSub, reduceCtorEq, fillA, cutA, Nat.reduceLeDiff, Nat.reduceMul, Int.reduceLT, Int.reduceLE, Int.reduceEq, Int.reduceNe, Int.reduceAdd, Int.reduceSub, Int.reduceMul, Int.reduceNeg, Int.reduceToNat]
    refine fq_use (impl_minors sR hN hs hlim n1 (by omega)) fun v1 h1 n2 hn2 hs1 hv1 => ?_
    simp (maxSteps := 2000000) -implicitDefEqProofs (disch := omega) only [xsW, xsC, if_true, if_false, ite_true, ite_false, forall_const, ne_eq, beq_self_eq_true, bne_self_eq_false, imp_self, true_implies, false_implies, implies_true, evP, evE, ev, setD, Nat.reduceAdd, Nat.reduceSub, reduceCtorEq, fillA, cutA, Nat.reduceLeDiff, Nat.reduceMul, Int.reduceLT, Int.reduceLE, Int.reduceEq, Int.reduceNe, Int.reduceAdd, Int.reduceSub, Int.reduceMul, Int.reduceNeg, Int.reduceToNat]
    intro _ h2 hh
    exact ⟨v1, rfl, (hv1.keep fun i a b => hh i (by omega) b).wide (by omega) (Nat.le_refl _)⟩
theorem spec_MinorsOf (sR : Rows w lo hi h v vs ll) (hl : ll.length ≤ 1048576) (hll : ∀ l ∈ ll, l.length ≤ 1048576) (n : Nat) (hn : hi ≤ n) :
    FQ Try.prog 46 [v] h n fun x h' n' => ∃ v', x = .tup [v', .int .i64 (minorsV ll).2] ∧ Ints true n n' h' v' (minorsV ll).1 := by
  refine fq_intro Try.func46 k_spec_MinorsOf ?_
  simp (maxSteps := 2000000) -implicitDefEqProofs (disch := omega) only [c_spec_MinorsOf, xsW, xsC, if_true, if_false, ite_true, ite_false, forall_const, ne_eq, beq_self_eq_true, bne_self_eq_false, imp_self, true_implies, false_implies, implies_true, evP, evE, ev, setD, Nat.reduceAdd, Nat.reduceSub, reduceCtorEq, fillA, cutA, Nat.reduceLeDiff, Nat.reduceMul, Int.reduceLT, Int.reduceLE, Int.reduceEq, Int.reduceNe, Int.reduceAdd, Int.reduceSub, Int.reduceMul, Int.reduceNeg, Int.reduceToNat]
  refine q_use (spec_l03Set0 sR hl _) fun n1 hn1 => ?_
  unfold minorsV
  cases hm : isMat ll
  · simp (maxSteps := 2000000) -implicitDefEqProofs (disch := omega) only [xsW, xsC, if_true, if_false, ite_true, ite_false, forall_const, ne_eq, beq_self_eq_true, bne_self_eq_false, imp_self, true_implies, false_implies, implies_true, evP, evE, ev, setD, Nat.reduceAdd, Nat.reduceSub, reduceCtorEq, fillA, cutA, Nat.reduceLeDiff, Nat.reduceMul, Int.reduceLT, Int.reduceLE, Int.reduceEq, Int.reduceNe, Int.reduceAdd, Int.reduceSub, Int.reduceMul, Int.reduceNeg, Int.reduceToNat]
    intro _ h2 _
    exact ⟨.nilsl, rfl, Sl.nil⟩
  · obtain ⟨hN, hs, hlim⟩ := isMat_sq hm
    simp (maxSteps := 2000000) -implicitDefEqProofs (disch := omega) only [xsW, xsC, if_true, if_false, ite_true, ite_false, forall_const, ne_eq, beq_self_eq_true, bne_self_eq_false, imp_self, true_implies, false_implies, implies_true, evP, evE, ev, setD, Nat.reduceAdd, Nat.reduceSub, reduceCtorEq, fillA, cutA, Nat.reduceLeDiff, Nat.reduceMul, Int.reduceLT, Int.reduceLE, Int.reduceEq, Int.reduceNe, Int.reduceAdd, Int.reduceSub, Int.reduceMul, Int.reduceNeg, Int.reduceToNat]
    refine fq_use (spec_l03Minors sR hN hs hlim n1 (by omega)) fun v1 h1 n2 hn2 hs1 hv1 => ?_
    simp (maxSteps := 2000000) -implicitDefEqProofs (disch := omega) only [xsW, xsC, if_true, if_false, ite_true, ite_false, forall_const, ne_eq, beq_self_eq_true, bne_self_eq_false, imp_self, true_implies, false_implies, implies_true, evP, evE, ev, setD, Nat.reduceAdd, Nat.reduceSub, reduceCtorEq, fillA, cutA, Nat.reduceLeDiff, Nat.reduceMul, Int.reduceLT, Int.reduceLE, Int.reduceEq, Int.reduceNe, Int.reduceAdd, Int.reduceSub, Int.reduceMul, Int.reduceNeg, Int.reduceToNat]
    intro _ h2 hh
    exact ⟨v1, rfl, (hv1.keep fun i a b => hh i (by omega) b).wide (by omega) (Nat.le_refl _)⟩
/-- The places of the negative numbers of a list. -/
def negL (l : List Int) (k : Nat) : List Int := ((List.range k).filter fun i => decide (l.getD i 0 < 0)).map fun i : Nat => (i : Int)
theorem negL_t {l : List Int} {k : Nat} (h : l.getD k 0 < 0) : negL l (k + 1) = negL l k ++ [(k : Int)] := by
  unfold negL; rw [List.range_succ, List.filter_append, List.filter_cons_of_pos (by simpa using h)]; simp
theorem negL_f {l : List Int} {k : Nat} (h : ¬ l.getD k 0 < 0) : negL l (k + 1) = negL l k := by
  unfold negL; rw [List.range_succ, List.filter_append, List.filter_cons_of_neg (by simpa using h)]; simp
theorem negL_len (l : List Int) (k : Nat) : (negL l k).length ≤ k := by
  have := List.length_filter_le (fun i => decide (l.getD i 0 < 0)) (List.range k)
  simpa [negL] using this
def negV (ll : List (List Int)) : List Int × Int := if isMat ll = true then (negL (minorsL ll) (pw ll.length), 0) else ([], 1)
theorem impl_NegativeSets (sR : Rows w lo hi h v vs ll) (hl : ll.length ≤ 1048576) (hll : ∀ l ∈ ll, l.length ≤ 1048576) (n : Nat) (hn : hi ≤ n) :
    FQ Try.prog 23 [v] h n fun x h' n' => ∃ v', x = .tup [v', .int .i64 (negV ll).2] ∧ Ints true n n' h' v' (negV ll).1 := by
  refine fq_intro Try.func23 k_impl_NegativeSets ?_
  simp (maxSteps := 2000000) -implicitDefEqProofs (disch := omega) only [c_impl_NegativeSets, xsW, xsC, if_true, if_false, ite_true, ite_false, forall_const, ne_eq, beq_self_eq_true, bne_self_eq_false, imp_self, true_implies, false_implies, implies_true, evP, evE, ev, setD, Nat.reduceAdd, Nat.reduceSub, reduceCtorEq, fillA, cutA, Nat.reduceLeDiff, Nat.reduceMul, Int.reduceLT, Int.reduceLE, Int.reduceEq, Int.reduceNe, Int.reduceAdd, Int.reduceSub, Int.reduceMul, Int.reduceNeg, Int.reduceToNat]
  refine q_use (impl_IsMatrix sR hl hll _ hn) fun n1 hn1 => ?_
  unfold negV
  cases hm : isMat ll
  · simp (maxSteps := 2000000) -implicitDefEqProofs (disch := omega) only [xsW, xsC, if_true, if_false, ite_true, ite_false, forall_const, ne_eq, beq_self_eq_true, bne_self_eq_false, imp_self, true_implies, false_implies, implies_true, evP, evE, ev, setD, Nat.reduceAdd, Nat.reduceSub, reduceCtorEq, fillA, cutA, Nat.reduceLeDiff, Nat.reduceMul, Int.reduceLT, Int.reduceLE, Int.reduceEq, Int.reduceNe, Int.reduceAdd, Int.reduceSub, Int.reduceMul, Int.reduceNeg, Int.reduceToNat]
    intro _ h2 _
    exact ⟨.nilsl, rfl, Sl.nil⟩
  · obtain ⟨hN, hs, hlim⟩ := isMat_sq hm
    have hp := pw_le hN
    have hml := minorsL_len ll
    simp (maxSteps := 2000000) -implicitDefEqProofs (disch := omega) only [xsW, xsC, if_true, if_false, ite_true, ite_false, forall_const, ne_eq, beq_self_eq_true, bne_self_eq_false, imp_self, true_implies, false_implies, implies_true, evP, evE, ev, setD, Nat.reduceAdd, Nat.reduceSub, reduceCtorEq, fillA, cutA, Nat.reduceLeDiff, Nat.reduceMul, Int.reduceLT, Int.reduceLE, Int.reduceEq, Int.reduceNe, Int.reduceAdd, Int.reduceSub, Int.reduceMul, Int.reduceNeg, Int.reduceToNat]
    refine fq_use (impl_minors sR hN hs hlim n1 (by omega)) fun v1 h1 n2 hn2 hs1 hv1 => ?_
    simp (maxSteps := 2000000) -implicitDefEqProofs (disch := omega) only [xsW, xsC, if_true, if_false, ite_true, ite_false, forall_const, ne_eq, beq_self_eq_true, bne_self_eq_false, imp_self, true_implies, false_implies, implies_true, evP, evE, ev, setD, Nat.reduceAdd, Nat.reduceSub, reduceCtorEq, fillA, cutA, Nat.reduceLeDiff, Nat.reduceMul, Int.reduceLT, Int.reduceLE, Int.reduceEq, Int.reduceNe, Int.reduceAdd, Int.reduceSub, Int.reduceMul, Int.reduceNeg, Int.reduceToNat,  hv1.ln, hml]
    refine loop_for (pw ll.length) 0 (fun k p => [v, .any, .nilsl, .int .i64 0, p.1, .any, .any, .any, .any, .any, .any, v1, .int .i64 (pw ll.length), .int .i64 k, .any, .any, .any, .any, .any, .any, .any, .any, .any, .any, .any, .any]) (fun _ (p : AV × AH) => p.2)
      (fun k p m => Acc n2 m p.2 2 1 p.1 (ints (negL (minorsL ll) k)) ∧ n2 ≤ m ∧ ∀ j, j < n2 → p.2 j = h1 j) (.nilsl, h1) (Nat.zero_le _) ⟨Acc.nil, by omega, fun _ _ => rfl⟩ (by simp [LeL, Le1]) (fun _ _ h => h) ?_
    rintro k ⟨out, hp'⟩ m - hk hm2 ⟨acc, hle, hold⟩
    simp only at acc hold
    simp (maxSteps := 2000000) -implicitDefEqProofs (disch := omega) only [xsW, xsC, if_true, if_false, ite_true, ite_false, forall_const, ne_eq, beq_self_eq_true, bne_self_eq_false, imp_self, true_implies, false_implies, implies_true, evP, evE, ev, setD, Nat.reduceAdd, Nat.reduceSub, reduceCtorEq, fillA, cutA, Nat.reduceLeDiff, Nat.reduceMul, Int.reduceLT, Int.reduceLE, Int.reduceEq, Int.reduceNe, Int.reduceAdd, Int.reduceSub, Int.reduceMul, Int.reduceNeg, Int.reduceToNat]
    (refine cd_dec (fun c1 => ?_) (fun c1 => ?_) <;> simp (maxSteps := 2000000) -implicitDefEqProofs (disch := omega) only [xsW, xsC, if_true, if_false, ite_true, ite_false, forall_const, ne_eq, beq_self_eq_true, bne_self_eq_false, imp_self, true_implies, false_implies, implies_true, evP, evE, ev, setD, Nat.reduceAdd, Nat.reduceSub, reduceCtorEq, fillA, cutA, Nat.reduceLeDiff, Nat.reduceMul, Int.reduceLT, Int.reduceLE, Int.reduceEq, Int.reduceNe, Int.reduceAdd, Int.reduceSub, Int.reduceMul, Int.reduceNeg, Int.reduceToNat,  c1])
    · have hbv := Sl.below hv1 (by rw [hv1.slen]; omega)
      simp (maxSteps := 2000000) -implicitDefEqProofs (disch := omega) only [xsW, xsC, if_true, if_false, ite_true, ite_false, forall_const, ne_eq, beq_self_eq_true, bne_self_eq_false, imp_self, true_implies, false_implies, implies_true, evP, evE, ev, setD, Nat.reduceAdd, Nat.reduceSub, reduceCtorEq, fillA, cutA, Nat.reduceLeDiff, Nat.reduceMul, Int.reduceLT, Int.reduceLE, Int.reduceEq, Int.reduceNe, Int.reduceAdd, Int.reduceSub, Int.reduceMul, Int.reduceNeg, Int.reduceToNat,  hv1.ia, hold, hv1.ld, hml]
      (refine cd_dec (fun c2 => ?_) (fun c2 => ?_) <;> simp (maxSteps := 2000000) -implicitDefEqProofs (disch := omega) only [xsW, xsC, if_true, if_false, ite_true, ite_false, forall_const, ne_eq, beq_self_eq_true, bne_self_eq_false, imp_self, true_implies, false_implies, implies_true, evP, evE, ev, setD, Nat.reduceAdd, Nat.reduceSub, reduceCtorEq, fillA, cutA, Nat.reduceLeDiff, Nat.reduceMul, Int.reduceLT, Int.reduceLE, Int.reduceEq, Int.reduceNe, Int.reduceAdd, Int.reduceSub, Int.reduceMul, Int.reduceNeg, Int.reduceToNat,  c2])
      · refine app_int (y := (k : Int)) (acc.keep (fun i _ hi9 => by simp (disch := omega) only [upd_other]) |>.wide (Nat.le_refl _) (by omega)) (by omega) (by omega) ⟨rfl, _, upd_same _ _ _, by simp, by simp [cutA]⟩ (by have := negL_len (minorsL ll) k; omega) fun v' h' n' q1 q2 q3 => ?_
        simp (maxSteps := 2000000) -implicitDefEqProofs (disch := omega) only [xsW, xsC, if_true, if_false, ite_true, ite_false, forall_const, ne_eq, beq_self_eq_true, bne_self_eq_false, imp_self, true_implies, false_implies, implies_true, evP, evE, ev, setD, Nat.reduceAdd, Nat.reduceSub, reduceCtorEq, fillA, cutA, Nat.reduceLeDiff, Nat.reduceMul, Int.reduceLT, Int.reduceLE, Int.reduceEq, Int.reduceNe, Int.reduceAdd, Int.reduceSub, Int.reduceMul, Int.reduceNeg, Int.reduceToNat]
        exact ⟨(v', h'), ⟨by rw [negL_t c2]; exact q2, by omega, fun j hj => (q3 j hj).trans (by rw [upd_other (by omega), hold j hj])⟩, by omega, by omega, (by simp [LeL, Le1]), fun _ _ h => h⟩
      · exact ⟨(out, hp'), ⟨by rw [negL_f c2]; exact acc, by omega, hold⟩, by omega, by omega, (by simp [LeL, Le1]), fun _ _ h => h⟩
    · have e : k = pw ll.length := by omega
      subst e
      intro _ h2 hh
      exact ⟨out, rfl, (acc.keep fun i a b => hh i (by omega) b).sl.wide (by omega) (Nat.le_refl _)⟩
theorem spec_NegativeSets (sR : Rows w lo hi h v vs ll) (hl : ll.length ≤ 1048576) (hll : ∀ l ∈ ll, l.length ≤ 1048576) (n : Nat) (hn : hi ≤ n) :
    FQ Try.prog 42 [v] h n fun x h' n' => ∃ v', x = .tup [v', .int .i64 (negV ll).2] ∧ Ints true n n' h' v' (negV ll).1 := by
  refine fq_intro Try.func42 k_spec_NegativeSets ?_
  simp (maxSteps := 2000000) -implicitDefEqProofs (disch := omega) only [c_spec_NegativeSets, xsW, xsC, if_true, if_false, ite_true, ite_false, forall_const, ne_eq, beq_self_eq_true, bne_self_eq_false, imp_self, true_implies, false_implies, implies_true, evP, evE, ev, setD, Nat.reduceAdd, Nat.reduceSub, reduceCtorEq, fillA, cutA, Nat.reduceLeDiff, Nat.reduceMul, Int.reduceLT, Int.reduceLE, Int.reduceEq, Int.reduceNe, Int.reduceAdd, Int.reduceSub, Int.reduceMul, Int.reduceNeg, Int.reduceToNat]
  refine q_use (spec_l01Matrix sR hl _) fun n1 hn1 => ?_
  unfold negV
  cases hm : isMat ll
  · simp (maxSteps := 2000000) -implicitDefEqProofs (disch := omega) only [xsW, xsC, if_true, if_false, ite_true, ite_false, forall_const, ne_eq, beq_self_eq_true, bne_self_eq_false, imp_self, true_implies, false_implies, implies_true, evP, evE, ev, setD, Nat.reduceAdd, Nat.reduceSub, reduceCtorEq, fillA, cutA, Nat.reduceLeDiff, Nat.reduceMul, Int.reduceLT, Int.reduceLE, Int.reduceEq, Int.reduceNe, Int.reduceAdd, Int.reduceSub, Int.reduceMul, Int.reduceNeg, Int.reduceToNat]
    intro _ h2 _
    exact ⟨.nilsl, rfl, Sl.nil⟩
  · obtain ⟨hN, hs, hlim⟩ := isMat_sq hm
    have hp := pw_le hN
    have hml := minorsL_len ll
    simp (maxSteps := 2000000) -implicitDefEqProofs (disch := omega) only [xsW, xsC, if_true, if_false, ite_true, ite_false, forall_const, ne_eq, beq_self_eq_true, bne_self_eq_false, imp_self, true_implies, false_implies, implies_true, evP, evE, ev, setD, Nat.reduceAdd, Nat.reduceSub, reduceCtorEq, fillA, cutA, Nat.reduceLeDiff, Nat.reduceMul, Int.reduceLT, Int.reduceLE, Int.reduceEq, Int.reduceNe, Int.reduceAdd, Int.reduceSub, Int.reduceMul, Int.reduceNeg, Int.reduceToNat]
    refine fq_use (spec_l03Minors sR hN hs hlim n1 (by omega)) fun v1 h1 n2 hn2 hs1 hv1 => ?_
    simp (maxSteps := 2000000) -implicitDefEqProofs (disch := omega) only [xsW, xsC, if_true, if_false, ite_true, ite_false, forall_const, ne_eq, beq_self_eq_true, bne_self_eq_false, imp_self, true_implies, false_implies, implies_true, evP, evE, ev, setD, Nat.reduceAdd, Nat.reduceSub, reduceCtorEq, fillA, cutA, Nat.reduceLeDiff, Nat.reduceMul, Int.reduceLT, Int.reduceLE, Int.reduceEq, Int.reduceNe, Int.reduceAdd, Int.reduceSub, Int.reduceMul, Int.reduceNeg, Int.reduceToNat]
    refine loop_for (pw ll.length) 0 (fun k p => [v, .any, .nilsl, .int .i64 0, v1, p.1, .int .i64 k, .any, .any, .any, .any, .any, .any, .any, .any, .any, .any, .any, .any, .any, .any, .any, .any, .any, .any, .any, .any, .any, .any]) (fun _ (p : AV × AH) => p.2)
      (fun k p m => Acc n2 m p.2 2 1 p.1 (ints (negL (minorsL ll) k)) ∧ n2 ≤ m ∧ ∀ j, j < n2 → p.2 j = h1 j) (.sl n2 0 0 0, _) (Nat.zero_le _) ⟨Acc.empty (upd_same _ _ _) rfl (Nat.le_refl _) (by omega), by omega, fun j hj => upd_other (by omega)⟩ (by simp [LeL, Le1]) (fun _ _ h => h) ?_
    rintro k ⟨out, hp'⟩ m - hk hm2 ⟨acc, hle, hold⟩
    simp only at acc hold
    simp (maxSteps := 2000000) -implicitDefEqProofs (disch := omega) only [xsW, xsC, if_true, if_false, ite_true, ite_false, forall_const, ne_eq, beq_self_eq_true, bne_self_eq_false, imp_self, true_implies, false_implies, implies_true, evP, evE, ev, setD, Nat.reduceAdd, Nat.reduceSub, reduceCtorEq, fillA, cutA, Nat.reduceLeDiff, Nat.reduceMul, Int.reduceLT, Int.reduceLE, Int.reduceEq, Int.reduceNe, Int.reduceAdd, Int.reduceSub, Int.reduceMul, Int.reduceNeg, Int.reduceToNat,  hv1.ln, hml]
    (refine cd_dec (fun c1 => ?_) (fun c1 => ?_) <;> simp (maxSteps := 2000000) -implicitDefEqProofs (disch := omega) only [xsW, xsC, if_true, if_false, ite_true, ite_false, forall_const, ne_eq, beq_self_eq_true, bne_self_eq_false, imp_self, true_implies, false_implies, implies_true, evP, evE, ev, setD, Nat.reduceAdd, Nat.reduceSub, reduceCtorEq, fillA, cutA, Nat.reduceLeDiff, Nat.reduceMul, Int.reduceLT, Int.reduceLE, Int.reduceEq, Int.reduceNe, Int.reduceAdd, Int.reduceSub, Int.reduceMul, Int.reduceNeg, Int.reduceToNat,  c1])
    · have hbv := Sl.below hv1 (by rw [hv1.slen]; omega)
      simp (maxSteps := 2000000) -implicitDefEqProofs (disch := omega) only [xsW, xsC, if_true, if_false, ite_true, ite_false, forall_const, ne_eq, beq_self_eq_true, bne_self_eq_false, imp_self, true_implies, false_implies, implies_true, evP, evE, ev, setD, Nat.reduceAdd, Nat.reduceSub, reduceCtorEq, fillA, cutA, Nat.reduceLeDiff, Nat.reduceMul, Int.reduceLT, Int.reduceLE, Int.reduceEq, Int.reduceNe, Int.reduceAdd, Int.reduceSub, Int.reduceMul, Int.reduceNeg, Int.reduceToNat,  hv1.ia, hold, hv1.ld, hml]
      (refine cd_dec (fun c2 => ?_) (fun c2 => ?_) <;> simp (maxSteps := 2000000) -implicitDefEqProofs (disch := omega) only [xsW, xsC, if_true, if_false, ite_true, ite_false, forall_const, ne_eq, beq_self_eq_true, bne_self_eq_false, imp_self, true_implies, false_implies, implies_true, evP, evE, ev, setD, Nat.reduceAdd, Nat.reduceSub, reduceCtorEq, fillA, cutA, Nat.reduceLeDiff, Nat.reduceMul, Int.reduceLT, Int.reduceLE, Int.reduceEq, Int.reduceNe, Int.reduceAdd, Int.reduceSub, Int.reduceMul, Int.reduceNeg, Int.reduceToNat,  c2])
      · refine app_int (y := (k : Int)) (acc.keep (fun i _ hi9 => by simp (disch := omega) only [upd_other]) |>.wide (Nat.le_refl _) (by omega)) (by omega) (by omega) ⟨rfl, _, upd_same _ _ _, by simp, by simp [cutA]⟩ (by have := negL_len (minorsL ll) k; omega) fun v' h' n' q1 q2 q3 => ?_
        simp (maxSteps := 2000000) -implicitDefEqProofs (disch := omega) only [xsW, xsC, if_true, if_false, ite_true, ite_false, forall_const, ne_eq, beq_self_eq_true, bne_self_eq_false, imp_self, true_implies, false_implies, implies_true, evP, evE, ev, setD, Nat.reduceAdd, Nat.reduceSub, reduceCtorEq, fillA, cutA, Nat.reduceLeDiff, Nat.reduceMul, Int.reduceLT, Int.reduceLE, Int.reduceEq, Int.reduceNe, Int.reduceAdd, Int.reduceSub, Int.reduceMul, Int.reduceNeg, Int.reduceToNat]
        exact ⟨(v', h'), ⟨by rw [negL_t c2]; exact q2, by omega, fun j hj => (q3 j hj).trans (by rw [upd_other (by omega), hold j hj])⟩, by omega, by omega, (by simp [LeL, Le1]), fun _ _ h => h⟩
      · exact ⟨(out, hp'), ⟨by rw [negL_f c2]; exact acc, by omega, hold⟩, by omega, by omega, (by simp [LeL, Le1]), fun _ _ h => h⟩
    · have e : k = pw ll.length := by omega
      subst e
      intro _ h2 hh
      exact ⟨out, rfl, (acc.keep fun i a b => hh i (by omega) b).sl.wide (by omega) (Nat.le_refl _)⟩
/-- 1 where the determinant of the rows r and the columns c is told and less than 0. -/
def neg1 (ll : List (List Int)) (r c : Nat) : Int := if popc (r : Int) = popc (c : Int) ∧ minorOf ll r c < 0 then 1 else 0
def cntV (ll : List (List Int)) : Int × Int := if isMat ll = true then (sumTo (pw ll.length) fun r => sumTo (pw ll.length) (neg1 ll r), 0) else (0, 1)
theorem neg1_b (ll : List (List Int)) (r c : Nat) : 0 ≤ neg1 ll r c ∧ neg1 ll r c ≤ 1 := by unfold neg1; split <;> omega
theorem sum01 {n : Nat} {f : Nat → Int} {B : Int} (h : ∀ i, 0 ≤ f i ∧ f i ≤ B) : 0 ≤ sumTo n f ∧ sumTo n f ≤ n * B := by
  induction n with
  | zero => simp [sumTo]
  | succ n ih =>
    have := h n
    have e : ((n + 1 : Nat) : Int) * B = n * B + B := by rw [Int.natCast_add, Int.add_mul]; simp
    rw [sumTo, e]; omega
theorem impl_CountNegative (sR : Rows w lo hi h v vs ll) (hl : ll.length ≤ 1048576) (hll : ∀ l ∈ ll, l.length ≤ 1048576) (n : Nat) (hn : hi ≤ n) :
    Q Try.prog 36 [v] h n (.tup [.int .i64 (cntV ll).1, .int .i64 (cntV ll).2]) := by
  refine q_intro Try.func36 k_impl_CountNegative ?_
  simp (maxSteps := 2000000) -implicitDefEqProofs (disch := omega) only [c_impl_CountNegative, xsW, xsC, if_true, if_false, ite_true, ite_false, forall_const, ne_eq, beq_self_eq_true, bne_self_eq_false, imp_self, true_implies, false_implies, implies_true, evP, evE, ev, setD, Nat.reduceAdd, Nat.reduceSub, reduceCtorEq, fillA, cutA, Nat.reduceLeDiff, Nat.reduceMul, Int.reduceLT, Int.reduceLE, Int.reduceEq, Int.reduceNe, Int.reduceAdd, Int.reduceSub, Int.reduceMul, Int.reduceNeg, Int.reduceToNat]
  refine q_use (impl_IsMatrix sR hl hll _ hn) fun n1 hn1 => ?_
  unfold cntV
  cases hm : isMat ll
  · simp (maxSteps := 2000000) -implicitDefEqProofs (disch := omega) only [xsW, xsC, if_true, if_false, ite_true, ite_false, forall_const, ne_eq, beq_self_eq_true, bne_self_eq_false, imp_self, true_implies, false_implies, implies_true, evP, evE, ev, setD, Nat.reduceAdd, Nat.reduceSub, reduceCtorEq, fillA, cutA, Nat.reduceLeDiff, Nat.reduceMul, Int.reduceLT, Int.reduceLE, Int.reduceEq, Int.reduceNe, Int.reduceAdd, Int.reduceSub, Int.reduceMul, Int.reduceNeg, Int.reduceToNat]
  · obtain ⟨hN, hs, hlim⟩ := isMat_sq hm
    have hp := pw_le hN
    simp (maxSteps := 2000000) -implicitDefEqProofs (disch := omega) only [xsW, xsC, if_true, if_false, ite_true, ite_false, forall_const, ne_eq, beq_self_eq_true, bne_self_eq_false, imp_self, true_implies, false_implies, implies_true, evP, evE, ev, setD, Nat.reduceAdd, Nat.reduceSub, reduceCtorEq, fillA, cutA, Nat.reduceLeDiff, Nat.reduceMul, Int.reduceLT, Int.reduceLE, Int.reduceEq, Int.reduceNe, Int.reduceAdd, Int.reduceSub, Int.reduceMul, Int.reduceNeg, Int.reduceToNat,  sR.ln, shl1]
    have B1 : ∀ r, 0 ≤ (sumTo (pw ll.length) (neg1 ll r)) ∧ (sumTo (pw ll.length) (neg1 ll r)) ≤ 32 := fun r => by have := sum01 (n := pw ll.length) (B := 1) (neg1_b ll r); omega
    have B2 : ∀ r c, r ≤ pw ll.length → c ≤ pw ll.length → 0 ≤ (sumTo r fun r => sumTo (pw ll.length) (neg1 ll r)) + (sumTo c (neg1 ll r)) ∧ (sumTo r fun r => sumTo (pw ll.length) (neg1 ll r)) + (sumTo c (neg1 ll r)) ≤ 1056 := fun r c h1 h2 => by
      have b1 := sum01 (n := r) (B := 32) B1
      have b2 := sum01 (n := c) (B := 1) (neg1_b ll r)
      omega
    refine loop_for (pw ll.length) 0 (fun r p => [v, .any, .int .i64 0, .int .i64 0, .int .i64 p.1, .any, .any, .any, .any, .any, .any, .any, .int .i64 (pw ll.length), .int .i64 r, .any, .any, .any, .any, .any, .any, .any, .any, .any, .any, .any, .any, .any, .any, .any, .any, .any, .any, .any, .any, .any, .any, .any, .any, .any, .any]) (fun _ (p : Int × AH) => p.2) (fun r p _ => p.1 = (sumTo r fun r => sumTo (pw ll.length) (neg1 ll r)) ∧ ∀ i, i < n → p.2 i = h i) (0, h) (Nat.zero_le _) ⟨rfl, fun _ _ => rfl⟩ (by simp [LeL, Le1]) (fun _ _ h => h) ?_
    rintro r ⟨x, hp1⟩ n2 - hr hn2 ⟨hx, hold1⟩
    simp only at hx hold1
    simp (maxSteps := 2000000) -implicitDefEqProofs (disch := omega) only [xsW, xsC, if_true, if_false, ite_true, ite_false, forall_const, ne_eq, beq_self_eq_true, bne_self_eq_false, imp_self, true_implies, false_implies, implies_true, evP, evE, ev, setD, Nat.reduceAdd, Nat.reduceSub, reduceCtorEq, fillA, cutA, Nat.reduceLeDiff, Nat.reduceMul, Int.reduceLT, Int.reduceLE, Int.reduceEq, Int.reduceNe, Int.reduceAdd, Int.reduceSub, Int.reduceMul, Int.reduceNeg, Int.reduceToNat,  sR.ln, shl1]
    (refine cd_dec (fun c1 => ?_) (fun c1 => ?_) <;> simp (maxSteps := 2000000) -implicitDefEqProofs (disch := omega) only [xsW, xsC, if_true, if_false, ite_true, ite_false, forall_const, ne_eq, beq_self_eq_true, bne_self_eq_false, imp_self, true_implies, false_implies, implies_true, evP, evE, ev, setD, Nat.reduceAdd, Nat.reduceSub, reduceCtorEq, fillA, cutA, Nat.reduceLeDiff, Nat.reduceMul, Int.reduceLT, Int.reduceLE, Int.reduceEq, Int.reduceNe, Int.reduceAdd, Int.reduceSub, Int.reduceMul, Int.reduceNeg, Int.reduceToNat,  c1])
    · (try simp (maxSteps := 2000000) -implicitDefEqProofs (disch := omega) only [xsW, xsC, if_true, if_false, ite_true, ite_false, forall_const, ne_eq, beq_self_eq_true, bne_self_eq_false, imp_self, true_implies, false_implies, implies_true, evP, evE, ev, setD, Nat.reduceAdd, Nat.reduceSub, reduceCtorEq, fillA, cutA, Nat.reduceLeDiff, Nat.reduceMul, Int.reduceLT, Int.reduceLE, Int.reduceEq, Int.reduceNe, Int.reduceAdd, Int.reduceSub, Int.reduceMul, Int.reduceNeg, Int.reduceToNat,  sR.ln, shl1])
      refine loop_for (pw ll.length) 0 (fun c p => [v, .any, .int .i64 0, .int .i64 0, .int .i64 p.1, .int .i64 r, .any, .any, .any, .any, .any, .any, .int .i64 (pw ll.length), .int .i64 r, .any, .any, .any, .any, .int .i64 (pw ll.length), .int .i64 c, .any, .any, .any, .any, .any, .any, .any, .any, .any, .any, .any, .any, .any, .any, .any, .any, .any, .any, .any, .any]) (fun _ (p : Int × AH) => p.2) (fun c p _ => p.1 = (sumTo r fun r => sumTo (pw ll.length) (neg1 ll r)) + sumTo c (neg1 ll r) ∧ ∀ i, i < n → p.2 i = h i) (x, hp1) (Nat.zero_le _) ⟨by rw [hx]; simp [sumTo], hold1⟩ (by simp [LeL, Le1]) (fun _ _ h => h) ?_
      rintro c ⟨y, hp2⟩ n3 - hc hn3 ⟨hy, hold2⟩
      simp only at hy hold2
      have b1 := B2 r c hr hc
      rw [← hy] at b1
      simp (maxSteps := 2000000) -implicitDefEqProofs (disch := omega) only [xsW, xsC, if_true, if_false, ite_true, ite_false, forall_const, ne_eq, beq_self_eq_true, bne_self_eq_false, imp_self, true_implies, false_implies, implies_true, evP, evE, ev, setD, Nat.reduceAdd, Nat.reduceSub, reduceCtorEq, fillA, cutA, Nat.reduceLeDiff, Nat.reduceMul, Int.reduceLT, Int.reduceLE, Int.reduceEq, Int.reduceNe, Int.reduceAdd, Int.reduceSub, Int.reduceMul, Int.reduceNeg, Int.reduceToNat]
      (refine cd_dec (fun c2 => ?_) (fun c2 => ?_) <;> simp (maxSteps := 2000000) -implicitDefEqProofs (disch := omega) only [xsW, xsC, if_true, if_false, ite_true, ite_false, forall_const, ne_eq, beq_self_eq_true, bne_self_eq_false, imp_self, true_implies, false_implies, implies_true, evP, evE, ev, setD, Nat.reduceAdd, Nat.reduceSub, reduceCtorEq, fillA, cutA, Nat.reduceLeDiff, Nat.reduceMul, Int.reduceLT, Int.reduceLE, Int.reduceEq, Int.reduceNe, Int.reduceAdd, Int.reduceSub, Int.reduceMul, Int.reduceNeg, Int.reduceToNat,  c2])
      · refine q_use (impl_count ⟨r, by omega⟩ _ _) fun n4 hn4 => ?_
        simp (maxSteps := 2000000) -implicitDefEqProofs (disch := omega) only [xsW, xsC, if_true, if_false, ite_true, ite_false, forall_const, ne_eq, beq_self_eq_true, bne_self_eq_false, imp_self, true_implies, false_implies, implies_true, evP, evE, ev, setD, Nat.reduceAdd, Nat.reduceSub, reduceCtorEq, fillA, cutA, Nat.reduceLeDiff, Nat.reduceMul, Int.reduceLT, Int.reduceLE, Int.reduceEq, Int.reduceNe, Int.reduceAdd, Int.reduceSub, Int.reduceMul, Int.reduceNeg, Int.reduceToNat]
        refine q_use (impl_count ⟨c, by omega⟩ _ _) fun n5 hn5 => ?_
        simp (maxSteps := 2000000) -implicitDefEqProofs (disch := omega) only [xsW, xsC, if_true, if_false, ite_true, ite_false, forall_const, ne_eq, beq_self_eq_true, bne_self_eq_false, imp_self, true_implies, false_implies, implies_true, evP, evE, ev, setD, Nat.reduceAdd, Nat.reduceSub, reduceCtorEq, fillA, cutA, Nat.reduceLeDiff, Nat.reduceMul, Int.reduceLT, Int.reduceLE, Int.reduceEq, Int.reduceNe, Int.reduceAdd, Int.reduceSub, Int.reduceMul, Int.reduceNeg, Int.reduceToNat]
        have fin : ∀ z, z = y + neg1 ll r c → z = (sumTo r fun r => sumTo (pw ll.length) (neg1 ll r)) + sumTo (c + 1) (neg1 ll r) := fun z hz => by rw [hz, hy, sumTo_succ]; omega
        (refine gd_dec (fun c3 => ?_) (fun c3 => ?_) <;> simp (maxSteps := 2000000) -implicitDefEqProofs (disch := omega) only [xsW, xsC, if_true, if_false, ite_true, ite_false, forall_const, ne_eq, beq_self_eq_true, bne_self_eq_false, imp_self, true_implies, false_implies, implies_true, evP, evE, ev, setD, Nat.reduceAdd, Nat.reduceSub, reduceCtorEq, fillA, cutA, Nat.reduceLeDiff, Nat.reduceMul, Int.reduceLT, Int.reduceLE, Int.reduceEq, Int.reduceNe, Int.reduceAdd, Int.reduceSub, Int.reduceMul, Int.reduceNeg, Int.reduceToNat,  c3])
        · have c4 : popc (r : Int) = popc (c : Int) := by first | omega | (simp only at c3; omega)
          have heq : (places (r : Int) ll.length).length = (places (c : Int) ll.length).length := by
            have h1 := pop_places hN ⟨r, by omega⟩ (by simp only; omega)
            have h2 := pop_places hN ⟨c, by omega⟩ (by simp only; omega)
            simp only at h1 h2
            rw [h1, h2, c4]
          refine fq_use (impl_part (sR.keep (h' := hp2) (fun i _ hi9 => by simp (disch := omega) only [upd_other, hold2])) hN hs _ _ n5 (by omega)) fun v1 h1 n6 hn6 hs1 ⟨vs1, hv1⟩ => ?_; simp (maxSteps := 2000000) -implicitDefEqProofs (disch := omega) only [xsW, xsC, if_true, if_false, ite_true, ite_false, forall_const, ne_eq, beq_self_eq_true, bne_self_eq_false, imp_self, true_implies, false_implies, implies_true, evP, evE, ev, setD, Nat.reduceAdd, Nat.reduceSub, reduceCtorEq, fillA, cutA, Nat.reduceLeDiff, Nat.reduceMul, Int.reduceLT, Int.reduceLE, Int.reduceEq, Int.reduceNe, Int.reduceAdd, Int.reduceSub, Int.reduceMul, Int.reduceNeg, Int.reduceToNat]; refine q_use (impl_determinant _ hv1 (by have := places_len (r : Int) ll.length; omega) (partL_sq ll _ _ heq) (by obtain ⟨q, hq⟩ := hlim; exact partL_lim ll _ _ heq hq) n6 (Nat.le_refl _)) fun n7 hn7 => ?_; rw [show det (places (r : Int) ll.length).length (mx (partL ll r c)) = minorOf ll r c from rfl]; simp (maxSteps := 2000000) -implicitDefEqProofs (disch := omega) only [xsW, xsC, if_true, if_false, ite_true, ite_false, forall_const, ne_eq, beq_self_eq_true, bne_self_eq_false, imp_self, true_implies, false_implies, implies_true, evP, evE, ev, setD, Nat.reduceAdd, Nat.reduceSub, reduceCtorEq, fillA, cutA, Nat.reduceLeDiff, Nat.reduceMul, Int.reduceLT, Int.reduceLE, Int.reduceEq, Int.reduceNe, Int.reduceAdd, Int.reduceSub, Int.reduceMul, Int.reduceNeg, Int.reduceToNat]
          (refine cd_dec (fun c5 => ?_) (fun c5 => ?_) <;> simp (maxSteps := 2000000) -implicitDefEqProofs (disch := omega) only [xsW, xsC, if_true, if_false, ite_true, ite_false, forall_const, ne_eq, beq_self_eq_true, bne_self_eq_false, imp_self, true_implies, false_implies, implies_true, evP, evE, ev, setD, Nat.reduceAdd, Nat.reduceSub, reduceCtorEq, fillA, cutA, Nat.reduceLeDiff, Nat.reduceMul, Int.reduceLT, Int.reduceLE, Int.reduceEq, Int.reduceNe, Int.reduceAdd, Int.reduceSub, Int.reduceMul, Int.reduceNeg, Int.reduceToNat,  c5])
          · exact ⟨(y + 1, _), ⟨fin _ (by rw [neg1, if_pos ⟨c4, c5⟩]), fun i hi => (hs1 i (by omega)).trans (hold2 i hi)⟩, by omega, by omega, (by simp [LeL, Le1]), fun _ _ h => h⟩
          · exact ⟨(y, _), ⟨fin _ (by rw [neg1, if_neg fun h => c5 h.2]; omega), fun i hi => (hs1 i (by omega)).trans (hold2 i hi)⟩, by omega, by omega, (by simp [LeL, Le1]), fun _ _ h => h⟩
        · exact ⟨(y, hp2), ⟨fin _ (by rw [neg1, if_neg fun h => c3 (by first | omega | (simp only; omega))]; omega), hold2⟩, by omega, by omega, (by simp [LeL, Le1]), fun _ _ h => h⟩
      · have e : c = pw ll.length := by omega
        subst e
        exact ⟨(y, hp2), ⟨by rw [sumTo_succ]; exact hy, hold2⟩, by omega, by omega, (by simp [LeL, Le1]), fun _ _ h => h⟩
    · have e : r = pw ll.length := by omega
      subst e
      rw [hx]
theorem spec_CountNegative (sR : Rows w lo hi h v vs ll) (hl : ll.length ≤ 1048576) (hll : ∀ l ∈ ll, l.length ≤ 1048576) (n : Nat) (hn : hi ≤ n) :
    Q Try.prog 37 [v] h n (.tup [.int .i64 (cntV ll).1, .int .i64 (cntV ll).2]) := by
  refine q_intro Try.func37 k_spec_CountNegative ?_
  simp (maxSteps := 2000000) -implicitDefEqProofs (disch := omega) only [c_spec_CountNegative, xsW, xsC, if_true, if_false, ite_true, ite_false, forall_const, ne_eq, beq_self_eq_true, bne_self_eq_false, imp_self, true_implies, false_implies, implies_true, evP, evE, ev, setD, Nat.reduceAdd, Nat.reduceSub, reduceCtorEq, fillA, cutA, Nat.reduceLeDiff, Nat.reduceMul, Int.reduceLT, Int.reduceLE, Int.reduceEq, Int.reduceNe, Int.reduceAdd, Int.reduceSub, Int.reduceMul, Int.reduceNeg, Int.reduceToNat]
  refine q_use (spec_l01Matrix sR hl _) fun n1 hn1 => ?_
  unfold cntV
  cases hm : isMat ll
  · simp (maxSteps := 2000000) -implicitDefEqProofs (disch := omega) only [xsW, xsC, if_true, if_false, ite_true, ite_false, forall_const, ne_eq, beq_self_eq_true, bne_self_eq_false, imp_self, true_implies, false_implies, implies_true, evP, evE, ev, setD, Nat.reduceAdd, Nat.reduceSub, reduceCtorEq, fillA, cutA, Nat.reduceLeDiff, Nat.reduceMul, Int.reduceLT, Int.reduceLE, Int.reduceEq, Int.reduceNe, Int.reduceAdd, Int.reduceSub, Int.reduceMul, Int.reduceNeg, Int.reduceToNat]
  · obtain ⟨hN, hs, hlim⟩ := isMat_sq hm
    have hp := pw_le hN
    simp (maxSteps := 2000000) -implicitDefEqProofs (disch := omega) only [xsW, xsC, if_true, if_false, ite_true, ite_false, forall_const, ne_eq, beq_self_eq_true, bne_self_eq_false, imp_self, true_implies, false_implies, implies_true, evP, evE, ev, setD, Nat.reduceAdd, Nat.reduceSub, reduceCtorEq, fillA, cutA, Nat.reduceLeDiff, Nat.reduceMul, Int.reduceLT, Int.reduceLE, Int.reduceEq, Int.reduceNe, Int.reduceAdd, Int.reduceSub, Int.reduceMul, Int.reduceNeg, Int.reduceToNat,  sR.ln, shl1]
    have B1 : ∀ r, 0 ≤ (sumTo (pw ll.length) (neg1 ll r)) ∧ (sumTo (pw ll.length) (neg1 ll r)) ≤ 32 := fun r => by have := sum01 (n := pw ll.length) (B := 1) (neg1_b ll r); omega
    have B2 : ∀ r c, r ≤ pw ll.length → c ≤ pw ll.length → 0 ≤ (sumTo r fun r => sumTo (pw ll.length) (neg1 ll r)) + (sumTo c (neg1 ll r)) ∧ (sumTo r fun r => sumTo (pw ll.length) (neg1 ll r)) + (sumTo c (neg1 ll r)) ≤ 1056 := fun r c h1 h2 => by
      have b1 := sum01 (n := r) (B := 32) B1
      have b2 := sum01 (n := c) (B := 1) (neg1_b ll r)
      omega
    refine loop_for (pw ll.length) 0 (fun r p => [v, .any, .int .i64 0, .int .i64 0, .int .i64 p.1, .int .i64 (pw ll.length), .int .i64 r, .any, .any, .any, .any, .any, .any, .any, .any, .any, .any, .any, .any, .any, .any, .any, .any, .any, .any, .any, .any, .any, .any, .any, .any, .any, .any, .any, .any, .any, .any, .any, .any, .any]) (fun _ (p : Int × AH) => p.2) (fun r p _ => p.1 = (sumTo r fun r => sumTo (pw ll.length) (neg1 ll r)) ∧ ∀ i, i < n → p.2 i = h i) (0, h) (Nat.zero_le _) ⟨rfl, fun _ _ => rfl⟩ (by simp [LeL, Le1]) (fun _ _ h => h) ?_
    rintro r ⟨x, hp1⟩ n2 - hr hn2 ⟨hx, hold1⟩
    simp only at hx hold1
    simp (maxSteps := 2000000) -implicitDefEqProofs (disch := omega) only [xsW, xsC, if_true, if_false, ite_true, ite_false, forall_const, ne_eq, beq_self_eq_true, bne_self_eq_false, imp_self, true_implies, false_implies, implies_true, evP, evE, ev, setD, Nat.reduceAdd, Nat.reduceSub, reduceCtorEq, fillA, cutA, Nat.reduceLeDiff, Nat.reduceMul, Int.reduceLT, Int.reduceLE, Int.reduceEq, Int.reduceNe, Int.reduceAdd, Int.reduceSub, Int.reduceMul, Int.reduceNeg, Int.reduceToNat,  sR.ln, shl1]
    (refine cd_dec (fun c1 => ?_) (fun c1 => ?_) <;> simp (maxSteps := 2000000) -implicitDefEqProofs (disch := omega) only [xsW, xsC, if_true, if_false, ite_true, ite_false, forall_const, ne_eq, beq_self_eq_true, bne_self_eq_false, imp_self, true_implies, false_implies, implies_true, evP, evE, ev, setD, Nat.reduceAdd, Nat.reduceSub, reduceCtorEq, fillA, cutA, Nat.reduceLeDiff, Nat.reduceMul, Int.reduceLT, Int.reduceLE, Int.reduceEq, Int.reduceNe, Int.reduceAdd, Int.reduceSub, Int.reduceMul, Int.reduceNeg, Int.reduceToNat,  c1])
    · (try simp (maxSteps := 2000000) -implicitDefEqProofs (disch := omega) only [xsW, xsC, if_true, if_false, ite_true, ite_false, forall_const, ne_eq, beq_self_eq_true, bne_self_eq_false, imp_self, true_implies, false_implies, implies_true, evP, evE, ev, setD, Nat.reduceAdd, Nat.reduceSub, reduceCtorEq, fillA, cutA, Nat.reduceLeDiff, Nat.reduceMul, Int.reduceLT, Int.reduceLE, Int.reduceEq, Int.reduceNe, Int.reduceAdd, Int.reduceSub, Int.reduceMul, Int.reduceNeg, Int.reduceToNat,  sR.ln, shl1])
      refine loop_for (pw ll.length) 0 (fun c p => [v, .any, .int .i64 0, .int .i64 0, .int .i64 p.1, .int .i64 (pw ll.length), .int .i64 r, .int .i64 c, .any, .any, .any, .any, .any, .any, .any, .any, .any, .any, .any, .any, .any, .any, .any, .any, .any, .any, .any, .any, .any, .any, .any, .any, .any, .any, .any, .any, .any, .any, .any, .any]) (fun _ (p : Int × AH) => p.2) (fun c p _ => p.1 = (sumTo r fun r => sumTo (pw ll.length) (neg1 ll r)) + sumTo c (neg1 ll r) ∧ ∀ i, i < n → p.2 i = h i) (x, hp1) (Nat.zero_le _) ⟨by rw [hx]; simp [sumTo], hold1⟩ (by simp [LeL, Le1]) (fun _ _ h => h) ?_
      rintro c ⟨y, hp2⟩ n3 - hc hn3 ⟨hy, hold2⟩
      simp only at hy hold2
      have b1 := B2 r c hr hc
      rw [← hy] at b1
      simp (maxSteps := 2000000) -implicitDefEqProofs (disch := omega) only [xsW, xsC, if_true, if_false, ite_true, ite_false, forall_const, ne_eq, beq_self_eq_true, bne_self_eq_false, imp_self, true_implies, false_implies, implies_true, evP, evE, ev, setD, Nat.reduceAdd, Nat.reduceSub, reduceCtorEq, fillA, cutA, Nat.reduceLeDiff, Nat.reduceMul, Int.reduceLT, Int.reduceLE, Int.reduceEq, Int.reduceNe, Int.reduceAdd, Int.reduceSub, Int.reduceMul, Int.reduceNeg, Int.reduceToNat]
      (refine cd_dec (fun c2 => ?_) (fun c2 => ?_) <;> simp (maxSteps := 2000000) -implicitDefEqProofs (disch := omega) only [xsW, xsC, if_true, if_false, ite_true, ite_false, forall_const, ne_eq, beq_self_eq_true, bne_self_eq_false, imp_self, true_implies, false_implies, implies_true, evP, evE, ev, setD, Nat.reduceAdd, Nat.reduceSub, reduceCtorEq, fillA, cutA, Nat.reduceLeDiff, Nat.reduceMul, Int.reduceLT, Int.reduceLE, Int.reduceEq, Int.reduceNe, Int.reduceAdd, Int.reduceSub, Int.reduceMul, Int.reduceNeg, Int.reduceToNat,  c2])
      · refine q_use (spec_l01Ones ⟨r, by omega⟩ _ _) fun n4 hn4 => ?_
        simp (maxSteps := 2000000) -implicitDefEqProofs (disch := omega) only [xsW, xsC, if_true, if_false, ite_true, ite_false, forall_const, ne_eq, beq_self_eq_true, bne_self_eq_false, imp_self, true_implies, false_implies, implies_true, evP, evE, ev, setD, Nat.reduceAdd, Nat.reduceSub, reduceCtorEq, fillA, cutA, Nat.reduceLeDiff, Nat.reduceMul, Int.reduceLT, Int.reduceLE, Int.reduceEq, Int.reduceNe, Int.reduceAdd, Int.reduceSub, Int.reduceMul, Int.reduceNeg, Int.reduceToNat]
        refine q_use (spec_l01Ones ⟨c, by omega⟩ _ _) fun n5 hn5 => ?_
        simp (maxSteps := 2000000) -implicitDefEqProofs (disch := omega) only [xsW, xsC, if_true, if_false, ite_true, ite_false, forall_const, ne_eq, beq_self_eq_true, bne_self_eq_false, imp_self, true_implies, false_implies, implies_true, evP, evE, ev, setD, Nat.reduceAdd, Nat.reduceSub, reduceCtorEq, fillA, cutA, Nat.reduceLeDiff, Nat.reduceMul, Int.reduceLT, Int.reduceLE, Int.reduceEq, Int.reduceNe, Int.reduceAdd, Int.reduceSub, Int.reduceMul, Int.reduceNeg, Int.reduceToNat]
        have fin : ∀ z, z = y + neg1 ll r c → z = (sumTo r fun r => sumTo (pw ll.length) (neg1 ll r)) + sumTo (c + 1) (neg1 ll r) := fun z hz => by rw [hz, hy, sumTo_succ]; omega
        (refine gd_dec (fun c3 => ?_) (fun c3 => ?_) <;> simp (maxSteps := 2000000) -implicitDefEqProofs (disch := omega) only [xsW, xsC, if_true, if_false, ite_true, ite_false, forall_const, ne_eq, beq_self_eq_true, bne_self_eq_false, imp_self, true_implies, false_implies, implies_true, evP, evE, ev, setD, Nat.reduceAdd, Nat.reduceSub, reduceCtorEq, fillA, cutA, Nat.reduceLeDiff, Nat.reduceMul, Int.reduceLT, Int.reduceLE, Int.reduceEq, Int.reduceNe, Int.reduceAdd, Int.reduceSub, Int.reduceMul, Int.reduceNeg, Int.reduceToNat,  c3])
        · have c4 : popc (r : Int) = popc (c : Int) := by first | omega | (simp only at c3; omega)
          have heq : (places (r : Int) ll.length).length = (places (c : Int) ll.length).length := by
            have h1 := pop_places hN ⟨r, by omega⟩ (by simp only; omega)
            have h2 := pop_places hN ⟨c, by omega⟩ (by simp only; omega)
            simp only at h1 h2
            rw [h1, h2, c4]
          refine q_use (spec_l03By (sR.keep (h' := hp2) (fun i _ hi9 => by simp (disch := omega) only [upd_other, hold2])) hN hs _ _ n5 (by omega) hlim heq) fun n7 hn7 => ?_; rw [show det (places (r : Int) ll.length).length (mx (partL ll r c)) = minorOf ll r c from rfl]; simp (maxSteps := 2000000) -implicitDefEqProofs (disch := omega) only [xsW, xsC, if_true, if_false, ite_true, ite_false, forall_const, ne_eq, beq_self_eq_true, bne_self_eq_false, imp_self, true_implies, false_implies, implies_true, evP, evE, ev, setD, Nat.reduceAdd, Nat.reduceSub, reduceCtorEq, fillA, cutA, Nat.reduceLeDiff, Nat.reduceMul, Int.reduceLT, Int.reduceLE, Int.reduceEq, Int.reduceNe, Int.reduceAdd, Int.reduceSub, Int.reduceMul, Int.reduceNeg, Int.reduceToNat]
          (refine cd_dec (fun c5 => ?_) (fun c5 => ?_) <;> simp (maxSteps := 2000000) -implicitDefEqProofs (disch := omega) only [xsW, xsC, if_true, if_false, ite_true, ite_false, forall_const, ne_eq, beq_self_eq_true, bne_self_eq_false, imp_self, true_implies, false_implies, implies_true, evP, evE, ev, setD, Nat.reduceAdd, Nat.reduceSub, reduceCtorEq, fillA, cutA, Nat.reduceLeDiff, Nat.reduceMul, Int.reduceLT, Int.reduceLE, Int.reduceEq, Int.reduceNe, Int.reduceAdd, Int.reduceSub, Int.reduceMul, Int.reduceNeg, Int.reduceToNat,  c5])
          · exact ⟨(y + 1, _), ⟨fin _ (by rw [neg1, if_pos ⟨c4, c5⟩]), hold2⟩, by omega, by omega, (by simp [LeL, Le1]), fun _ _ h => h⟩
          · exact ⟨(y, _), ⟨fin _ (by rw [neg1, if_neg fun h => c5 h.2]; omega), hold2⟩, by omega, by omega, (by simp [LeL, Le1]), fun _ _ h => h⟩
        · exact ⟨(y, hp2), ⟨fin _ (by rw [neg1, if_neg fun h => c3 (by first | omega | (simp only; omega))]; omega), hold2⟩, by omega, by omega, (by simp [LeL, Le1]), fun _ _ h => h⟩
      · have e : c = pw ll.length := by omega
        subst e
        exact ⟨(y, hp2), ⟨by rw [sumTo_succ]; exact hy, hold2⟩, by omega, by omega, (by simp [LeL, Le1]), fun _ _ h => h⟩
    · have e : r = pw ll.length := by omega
      subst e
      rw [hx]
end
end Go.Proofs.Ytkpibnhddhdooaa.L
/- What the statements' texts share: sizes, marks. -/
namespace Go.Proofs.Ytkpibnhddhdooaa.L
open Go
set_option linter.unusedSimpArgs false
set_option linter.unusedVariables false

theorem q_use_ex {P : Program} {n0 : Nat} {W : Nat → Prop} {d : Bool} {f : Nat} {args : List AV} {h : AH} {n : Nat} {K : AV → AH → Nat → Prop} {R : Int → Prop} (q : ∃ r : Int, R r ∧ Q P f args h n (.int .i64 r)) (hk : ∀ r n', n ≤ n' → R r → K (.int .i64 r) h n') :
    CallC P n0 W d f args h n K := by
  obtain ⟨r, hr, q⟩ := q
  exact q_use q fun n' hn => hk r n' hn hr
theorem sz_len2 {left r : Int} {ll : List (List Int)} (hle : left ≤ 1048576) (hr : 0 ≤ r → (ll.length : Int) ≤ left ∧ ∀ k, k < ll.length → ((ll.getD k []).length : Int) ≤ left) (h0 : ¬ r < 0) : ll.length ≤ 1048576 ∧ ∀ l ∈ ll, l.length ≤ 1048576 :=
  sz_len (fun h => by obtain ⟨h1, h2⟩ := hr h; exact ⟨by omega, fun k hk => by have := h2 k hk; omega⟩) h0
theorem laws_szInt64S_ex {w : Bool} {lo hi : Nat} {h : AH} {v : AV} {l : List Int} (s : Ints w lo hi h v l) (hl : l.length ≤ 9223372036854775807) (left : Int) (h0 : 0 ≤ left) (h1 : left ≤ 1048576) (n : Nat) :
    ∃ r : Int, (-1 ≤ r ∧ r ≤ left ∧ (0 ≤ r → (l.length : Int) ≤ left)) ∧ Q Try.prog 55 [v, .int .i64 left] h n (.int .i64 r) := by
  refine ⟨_, ?_, laws_szInt64S s hl left h0 h1 n⟩
  split <;> omega
theorem laws_markInt64S2 {lo hi : Nat} {h : AH} {v : AV} {l : List Int} (s : Ints true lo hi h v l) (k : Int) (h0 : 0 ≤ k) (hb : k + l.length ≤ 4611686018427387904) (n : Nat) (hn : hi ≤ n) :
    MQ Try.prog 16 [v, .int .i64 k] h n lo hi fun x h' n' => x = .int .i64 (k + l.length) ∧ Ints true lo hi h' v (markL k l.length) ∧ (∀ i, i < n → (i < lo ∨ hi ≤ i) → h' i = h i) := by
  obtain ⟨x, h', n', c, e1, e2, e3, e4⟩ := laws_markInt64S s k h0 hb n hn
  refine ⟨x, h', n', c, e1, e2, fun i _ hi' => ?_⟩
  by_cases e0 : v = .nilsl
  · rw [e4]
    have := s.slen
    rw [e0] at this
    exact List.eq_nil_of_length_eq_zero this.symm
  · have := Sl.own s (Sl.isReal s e0)
    exact e3 i (by omega)
end Go.Proofs.Ytkpibnhddhdooaa.L
/- Contracts: the signs of a matrix, and the statement. -/
namespace Go.Proofs.Ytkpibnhddhdooaa.L
open Go
set_option linter.unusedSimpArgs false
set_option linter.unusedVariables false
def c_impl_SignsOf : F := ⟨(.seq (.reg false [⟨(some 1), (.box 22 (.t 0)), none⟩, ⟨(some 2), (.mv (.c .nilsl)), none⟩, ⟨(some 3), (.mv (.c (.int .i64 0))), none⟩]) (.seq (.seq (.reg false [⟨(some 4), (.ld1 (.t 1)), none⟩, ⟨(some 5), (.call (.f 47) [(.t 4)]), none⟩, ⟨(some 6), (.un .not (.t 5)), none⟩]) (.cond (.t 6) (.seq (.reg false [⟨(some 2), (.mv (.c .nilsl)), none⟩, ⟨(some 3), (.mv (.c (.int .i64 1))), none⟩]) .ret) .skip)) (.seq (.reg false [⟨(some 7), (.ld1 (.t 1)), none⟩, ⟨(some 8), (.mkf 80 [(.t 1)]), none⟩, ⟨(some 9), (.call (.f 79) [(.t 7), (.t 8)]), none⟩, ⟨(some 2), (.mv (.t 9)), none⟩, ⟨(some 3), (.mv (.c (.int .i64 0))), none⟩]) .ret))), 10, [(.t 2), (.t 3)]⟩
theorem k_impl_SignsOf : compF Try.prog Try.f30 = some c_impl_SignsOf := by kernel_rfl
def c_impl_SignsOf_1 : F := ⟨(.seq (.reg false [⟨(some 5), (.mv (.c (.int .i64 0))), none⟩]) (.seq (.reg false [⟨(some 6), (.ld1 (.t 2)), none⟩, ⟨(some 7), (.mv (.t 0)), none⟩, ⟨(some 8), (.ia 1 (.t 6) (.t 7)), none⟩, ⟨(some 9), (.ld1 (.t 8)), none⟩, ⟨(some 10), (.mv (.t 1)), none⟩, ⟨(some 11), (.ia 1 (.t 9) (.t 10)), none⟩, ⟨(some 12), (.ld1 (.t 11)), none⟩, ⟨(some 13), (.call (.f 81) [(.t 12)]), none⟩, ⟨(some 5), (.mv (.t 13)), none⟩]) .ret)), 14, [(.t 5)]⟩
theorem k_impl_SignsOf_1 : compF Try.prog Try.f80 = some c_impl_SignsOf_1 := by kernel_rfl

def sgnF (ll : List (List Int)) : List (List Int) := rowsOf ll.length fun i => rowOf ll.length fun k => (at2 ll i k).sign
def signsV (ll : List (List Int)) : List (List Int) × Int := if isMat ll = true then (sgnF ll, 0) else ([], 1)
theorem sign_mm (x : Int) : max (-1) (min 1 x) = x.sign := by
  rcases Int.lt_trichotomy x 0 with h | h | h
  · rw [Int.sign_eq_neg_one_of_neg h]; omega
  · subst h; rfl
  · rw [Int.sign_eq_one_of_pos h]; omega
section
variable {w : Bool} {lo hi : Nat} {h : AH} {v : AV} {vs : List AV} {ll : List (List Int)}
theorem spec_SignsOf (sR : Rows w lo hi h v vs ll) (hl : ll.length ≤ 1048576) (hll : ∀ l ∈ ll, l.length ≤ 1048576) (n : Nat) (hn : hi ≤ n) :
    FQ Try.prog 31 [v] h n fun x h' n' => ∃ v' vs', x = .tup [v', .int .i64 (signsV ll).2] ∧ Rows true n n' h' v' vs' (signsV ll).1 := by
  refine fq_intro Try.func31 k_spec_SignsOf ?_
  unfold signsV
  simp (maxSteps := 2000000) -implicitDefEqProofs (disch := omega) only [c_spec_SignsOf, xsW, xsC, if_true, if_false, ite_true, ite_false, forall_const, ne_eq, beq_self_eq_true, bne_self_eq_false, imp_self, true_implies, false_implies, implies_true, evP, evE, ev, setD, Nat.reduceAdd, Nat.reduceSub, reduceCtorEq, fillA, cutA, Nat.reduceLeDiff, Nat.reduceMul, Int.reduceLT, Int.reduceLE, Int.reduceEq, Int.reduceNe, Int.reduceAdd, Int.reduceSub, Int.reduceMul, Int.reduceNeg, Int.reduceToNat]
  refine q_use (spec_l01Matrix sR hl _) fun n1 hn1 => ?_
  cases hm : isMat ll
  · simp (maxSteps := 2000000) -implicitDefEqProofs (disch := omega) only [xsW, xsC, if_true, if_false, ite_true, ite_false, forall_const, ne_eq, beq_self_eq_true, bne_self_eq_false, imp_self, true_implies, false_implies, implies_true, evP, evE, ev, setD, Nat.reduceAdd, Nat.reduceSub, reduceCtorEq, fillA, cutA, Nat.reduceLeDiff, Nat.reduceMul, Int.reduceLT, Int.reduceLE, Int.reduceEq, Int.reduceNe, Int.reduceAdd, Int.reduceSub, Int.reduceMul, Int.reduceNeg, Int.reduceToNat]
    intro _ h2 _
    exact ⟨.nilsl, [], rfl, Sl.nil, RowsV.nil, fun _ j hj => absurd hj (Nat.not_lt_zero _)⟩
  · have hN := ((isMat_iff ll).1 hm).2
    simp (maxSteps := 2000000) -implicitDefEqProofs (disch := omega) only [xsW, xsC, if_true, if_false, ite_true, ite_false, forall_const, ne_eq, beq_self_eq_true, bne_self_eq_false, imp_self, true_implies, false_implies, implies_true, evP, evE, ev, setD, Nat.reduceAdd, Nat.reduceSub, reduceCtorEq, fillA, cutA, Nat.reduceLeDiff, Nat.reduceMul, Int.reduceLT, Int.reduceLE, Int.reduceEq, Int.reduceNe, Int.reduceAdd, Int.reduceSub, Int.reduceMul, Int.reduceNeg, Int.reduceToNat]
    refine loop_for ll.length 0 (fun k p => [v, .any, .nilsl, .int .i64 0, p.1, .int .i64 k, .any, .any, .any, .any, .any, .any, .any, .any, .any, .any, .any, .any, .any, .any, .any, .any, .any, .any, .any, .any, .any, .any, .any, .any, .any, .any, .any, .any, .any, .any, .any, .any, .any, .any, .any, .any]) (fun k (p : AV × List AV × AH) => p.2.2)
      (fun k p m => Grow n1 m h p.2.2 29 p.1 p.2.1 (rowsOf k fun i => rowOf ll.length fun k => (at2 ll i k).sign)) (.sl n1 0 0 0, [], _) (Nat.zero_le _) (Grow.start0 rfl) (by simp [LeL, Le1]) (fun _ _ h => h) ?_
    rintro i ⟨out, ws, hp⟩ m - hi1 hm1 g
    simp only at g
    have hold := g.old
    simp (maxSteps := 2000000) -implicitDefEqProofs (disch := omega) only [xsW, xsC, if_true, if_false, ite_true, ite_false, forall_const, ne_eq, beq_self_eq_true, bne_self_eq_false, imp_self, true_implies, false_implies, implies_true, evP, evE, ev, setD, Nat.reduceAdd, Nat.reduceSub, reduceCtorEq, fillA, cutA, Nat.reduceLeDiff, Nat.reduceMul, Int.reduceLT, Int.reduceLE, Int.reduceEq, Int.reduceNe, Int.reduceAdd, Int.reduceSub, Int.reduceMul, Int.reduceNeg, Int.reduceToNat,  sR.ln]
    (refine cd_dec (fun c1 => ?_) (fun c1 => ?_) <;> simp (maxSteps := 2000000) -implicitDefEqProofs (disch := omega) only [xsW, xsC, if_true, if_false, ite_true, ite_false, forall_const, ne_eq, beq_self_eq_true, bne_self_eq_false, imp_self, true_implies, false_implies, implies_true, evP, evE, ev, setD, Nat.reduceAdd, Nat.reduceSub, reduceCtorEq, fillA, cutA, Nat.reduceLeDiff, Nat.reduceMul, Int.reduceLT, Int.reduceLE, Int.reduceEq, Int.reduceNe, Int.reduceAdd, Int.reduceSub, Int.reduceMul, Int.reduceNeg, Int.reduceToNat,  c1])
    · have hi2 : i < ll.length := by omega
      have hri := sR.row i hi2
      have hb := sR.out.below (by rw [sR.slen]; omega)
      refine loop_for ll.length 0 (fun k p => [v, .any, .nilsl, .int .i64 0, out, .int .i64 i, p.1, .int .i64 k, .any, .any, .any, .any, .any, .any, .any, .any, .any, .any, .any, .any, .any, .any, .any, .any, .any, .any, .any, .any, .any, .any, .any, .any, .any, .any, .any, .any, .any, .any, .any, .any, .any, .any]) (fun k (p : AV × AH) => p.2)
        (fun k p m' => Acc m m' p.2 2 1 p.1 (ints (rowOf k fun k => (at2 ll i k).sign)) ∧ m ≤ m' ∧ ∀ j, j < m → p.2 j = hp j) (.sl m 0 0 0, _) (Nat.zero_le _) ⟨Acc.empty (upd_same _ _ _) rfl (Nat.le_refl _) (by omega), by omega, fun j hj => upd_other (by omega)⟩ (by simp [LeL, Le1]) (fun _ _ h => h) ?_
      rintro k ⟨row, hq⟩ mq - hk1 hm2 ⟨a, hle, hold2⟩
      simp only at a hold2
      simp (maxSteps := 2000000) -implicitDefEqProofs (disch := omega) only [xsW, xsC, if_true, if_false, ite_true, ite_false, forall_const, ne_eq, beq_self_eq_true, bne_self_eq_false, imp_self, true_implies, false_implies, implies_true, evP, evE, ev, setD, Nat.reduceAdd, Nat.reduceSub, reduceCtorEq, fillA, cutA, Nat.reduceLeDiff, Nat.reduceMul, Int.reduceLT, Int.reduceLE, Int.reduceEq, Int.reduceNe, Int.reduceAdd, Int.reduceSub, Int.reduceMul, Int.reduceNeg, Int.reduceToNat,  sR.ln]
      (refine cd_dec (fun c2 => ?_) (fun c2 => ?_) <;> simp (maxSteps := 2000000) -implicitDefEqProofs (disch := omega) only [xsW, xsC, if_true, if_false, ite_true, ite_false, forall_const, ne_eq, beq_self_eq_true, bne_self_eq_false, imp_self, true_implies, false_implies, implies_true, evP, evE, ev, setD, Nat.reduceAdd, Nat.reduceSub, reduceCtorEq, fillA, cutA, Nat.reduceLeDiff, Nat.reduceMul, Int.reduceLT, Int.reduceLE, Int.reduceEq, Int.reduceNe, Int.reduceAdd, Int.reduceSub, Int.reduceMul, Int.reduceNeg, Int.reduceToNat,  c2])
      · have hk2 : k < ll.length := by omega
        have li := (hN.2 i hi2).1
        have bi := Sl.below hri (by rw [hri.slen]; omega)
        simp (maxSteps := 2000000) -implicitDefEqProofs (disch := omega) only [xsW, xsC, if_true, if_false, ite_true, ite_false, forall_const, ne_eq, beq_self_eq_true, bne_self_eq_false, imp_self, true_implies, false_implies, implies_true, evP, evE, ev, setD, Nat.reduceAdd, Nat.reduceSub, reduceCtorEq, fillA, cutA, Nat.reduceLeDiff, Nat.reduceMul, Int.reduceLT, Int.reduceLE, Int.reduceEq, Int.reduceNe, Int.reduceAdd, Int.reduceSub, Int.reduceMul, Int.reduceNeg, Int.reduceToNat,  sR.ia, sR.ld, hri.ia, hri.ld, hold, hold2, sign_mm]
        refine app_int (y := (at2 ll i k).sign) (a.keep (fun i _ hi9 => by simp (disch := omega) only [upd_other]) |>.wide (Nat.le_refl _) (by omega)) (by omega) (by omega) ⟨rfl, _, upd_same _ _ _, by simp, by simp [cutA, at2]⟩ (by rw [rowOf_len]; omega) fun v' h' n' q1 q2 q3 => ?_
        simp (maxSteps := 2000000) -implicitDefEqProofs (disch := omega) only [xsW, xsC, if_true, if_false, ite_true, ite_false, forall_const, ne_eq, beq_self_eq_true, bne_self_eq_false, imp_self, true_implies, false_implies, implies_true, evP, evE, ev, setD, Nat.reduceAdd, Nat.reduceSub, reduceCtorEq, fillA, cutA, Nat.reduceLeDiff, Nat.reduceMul, Int.reduceLT, Int.reduceLE, Int.reduceEq, Int.reduceNe, Int.reduceAdd, Int.reduceSub, Int.reduceMul, Int.reduceNeg, Int.reduceToNat]
        exact ⟨(v', h'), ⟨by rw [rowOf_succ]; exact q2, by omega, fun j hj => (q3 j hj).trans (by rw [upd_other (by omega), hold2 j hj])⟩, by omega, by omega, (by simp [LeL, Le1]), fun _ _ h => h⟩
      · have e : k = ll.length := by omega
        subst e
        have o1 := one_any a.any
        have o2 := sto_any a.any
        have o3 := cel_any a.any
        simp (maxSteps := 2000000) -implicitDefEqProofs (disch := omega) only [xsW, xsC, if_true, if_false, ite_true, ite_false, forall_const, ne_eq, beq_self_eq_true, bne_self_eq_false, imp_self, true_implies, false_implies, implies_true, evP, evE, ev, setD, Nat.reduceAdd, Nat.reduceSub, reduceCtorEq, fillA, cutA, Nat.reduceLeDiff, Nat.reduceMul, Int.reduceLT, Int.reduceLE, Int.reduceEq, Int.reduceNe, Int.reduceAdd, Int.reduceSub, Int.reduceMul, Int.reduceNeg, Int.reduceToNat,  o1, o2, o3]
        refine g.app (hB := upd hq mq _) (v1 := row) (l := rowOf ll.length fun k => (at2 ll i k).sign) (a.sl.keep (fun i _ hi9 => by simp (disch := omega) only [upd_other])) (fun i hi9 => by simp (disch := omega) only [upd_other, hold2]) hle (by omega) (by omega) ⟨rfl, _, upd_same _ _ _, by simp, by simp [cutA]⟩ (by rw [rowsOf_len]; omega) fun out' h' n' q1 q2 => ?_
        simp (maxSteps := 2000000) -implicitDefEqProofs (disch := omega) only [xsW, xsC, if_true, if_false, ite_true, ite_false, forall_const, ne_eq, beq_self_eq_true, bne_self_eq_false, imp_self, true_implies, false_implies, implies_true, evP, evE, ev, setD, Nat.reduceAdd, Nat.reduceSub, reduceCtorEq, fillA, cutA, Nat.reduceLeDiff, Nat.reduceMul, Int.reduceLT, Int.reduceLE, Int.reduceEq, Int.reduceNe, Int.reduceAdd, Int.reduceSub, Int.reduceMul, Int.reduceNeg, Int.reduceToNat]
        exact ⟨(out', ws ++ [row], h'), by rw [rowsOf_succ]; exact q2, by omega, by omega, (by simp [LeL, Le1]), fun _ _ h => h⟩
    · intro _ h2 hh
      have e : i = ll.length := by omega
      subst e
      exact ⟨out, ws, rfl, (g.rowsOf fun i a b => hh i (by omega) b).wide (by omega) (Nat.le_refl _)⟩
theorem impl_SignsOf1 {w : Bool} (sR : Rows w lo hi h v vs ll) (hm : isMat ll = true) {b : Nat} {wr : Bool} {op ty n : Nat} (hb : h b = some ⟨ty, [v], wr, op⟩) {i k : Nat} (hi2 : i < ll.length) (hk2 : k < ll.length) :
    Q Try.prog 80 [.int .i64 i, .int .i64 k, .ptr b 0] h n (.int .i64 (at2 ll i k).sign) := by
  refine q_intro Try.func80 k_impl_SignsOf_1 ?_
  obtain ⟨hN1, hN⟩ := ((isMat_iff ll).1 hm).2
  have hri := sR.row i hi2
  have li := (hN i hi2).1
  simp (maxSteps := 2000000) -implicitDefEqProofs (disch := omega) only [c_impl_SignsOf_1, hb, sR.ia, sR.ld, hri.ia, hri.ld, xsW, xsC, if_true, if_false, ite_true, ite_false, forall_const, ne_eq, beq_self_eq_true, bne_self_eq_false, imp_self, true_implies, false_implies, implies_true, evP, evE, ev, setD, Nat.reduceAdd, Nat.reduceSub, reduceCtorEq, fillA, cutA, Nat.reduceLeDiff, Nat.reduceMul, Int.reduceLT, Int.reduceLE, Int.reduceEq, Int.reduceNe, Int.reduceAdd, Int.reduceSub, Int.reduceMul, Int.reduceNeg, Int.reduceToNat]
  refine q_use (impl_sign _ _ _) fun n1 hn1 => ?_
  simp (maxSteps := 2000000) -implicitDefEqProofs (disch := omega) only [xsW, xsC, if_true, if_false, ite_true, ite_false, forall_const, ne_eq, beq_self_eq_true, bne_self_eq_false, imp_self, true_implies, false_implies, implies_true, evP, evE, ev, setD, Nat.reduceAdd, Nat.reduceSub, reduceCtorEq, fillA, cutA, Nat.reduceLeDiff, Nat.reduceMul, Int.reduceLT, Int.reduceLE, Int.reduceEq, Int.reduceNe, Int.reduceAdd, Int.reduceSub, Int.reduceMul, Int.reduceNeg, Int.reduceToNat]
  rfl
theorem impl_SignsOf (sR : Rows true lo hi h v vs ll) (hl : ll.length ≤ 1048576) (hll : ∀ l ∈ ll, l.length ≤ 1048576) (n : Nat) (hn : hi ≤ n) :
    FQ Try.prog 30 [v] h n fun x h' n' => ∃ v' vs', x = .tup [v', .int .i64 (signsV ll).2] ∧ Rows true n n' h' v' vs' (signsV ll).1 := by
  refine fq_intro Try.func30 k_impl_SignsOf ?_
  have o1 := one_any (Sl.any sR.out)
  have o2 := sto_any (Sl.any sR.out)
  have o3 := cel_any (Sl.any sR.out)
  unfold signsV
  simp (maxSteps := 2000000) -implicitDefEqProofs (disch := omega) only [c_impl_SignsOf, o1, o2, o3, xsW, xsC, if_true, if_false, ite_true, ite_false, forall_const, ne_eq, beq_self_eq_true, bne_self_eq_false, imp_self, true_implies, false_implies, implies_true, evP, evE, ev, setD, Nat.reduceAdd, Nat.reduceSub, reduceCtorEq, fillA, cutA, Nat.reduceLeDiff, Nat.reduceMul, Int.reduceLT, Int.reduceLE, Int.reduceEq, Int.reduceNe, Int.reduceAdd, Int.reduceSub, Int.reduceMul, Int.reduceNeg, Int.reduceToNat]
  refine q_use (impl_IsMatrix (sR.keep (fun i _ hi9 => by simp (disch := omega) only [upd_other])) hl hll _ (by omega)) fun n1 hn1 => ?_
  cases hm : isMat ll
  · simp (maxSteps := 2000000) -implicitDefEqProofs (disch := omega) only [xsW, xsC, if_true, if_false, ite_true, ite_false, forall_const, ne_eq, beq_self_eq_true, bne_self_eq_false, imp_self, true_implies, false_implies, implies_true, evP, evE, ev, setD, Nat.reduceAdd, Nat.reduceSub, reduceCtorEq, fillA, cutA, Nat.reduceLeDiff, Nat.reduceMul, Int.reduceLT, Int.reduceLE, Int.reduceEq, Int.reduceNe, Int.reduceAdd, Int.reduceSub, Int.reduceMul, Int.reduceNeg, Int.reduceToNat]
    intro _ h2 _
    exact ⟨.nilsl, [], rfl, Sl.nil, RowsV.nil, fun _ j hj => absurd hj (Nat.not_lt_zero _)⟩
  · simp (maxSteps := 2000000) -implicitDefEqProofs (disch := omega) only [xsW, xsC, if_true, if_false, ite_true, ite_false, forall_const, ne_eq, beq_self_eq_true, bne_self_eq_false, imp_self, true_implies, false_implies, implies_true, evP, evE, ev, setD, Nat.reduceAdd, Nat.reduceSub, reduceCtorEq, fillA, cutA, Nat.reduceLeDiff, Nat.reduceMul, Int.reduceLT, Int.reduceLE, Int.reduceEq, Int.reduceNe, Int.reduceAdd, Int.reduceSub, Int.reduceMul, Int.reduceNeg, Int.reduceToNat]
    refine fq_use (impl_mapped (sR.keep (fun i _ hi9 => by simp (disch := omega) only [upd_other])) hm _ _ (fun i k => (at2 ll i k).sign) _ (by omega) fun i k hp n' hi2 hk2 hag hn' =>
      impl_SignsOf1 (sR.keep (fun i _ hi9 => by simp (disch := omega) only [upd_other, hag])) hm (by rw [hag n (by omega)]; exact upd_same _ _ _) hi2 hk2) fun v' h' n' hn' hs ⟨vs', hv'⟩ => ?_
    simp (maxSteps := 2000000) -implicitDefEqProofs (disch := omega) only [xsW, xsC, if_true, if_false, ite_true, ite_false, forall_const, ne_eq, beq_self_eq_true, bne_self_eq_false, imp_self, true_implies, false_implies, implies_true, evP, evE, ev, setD, Nat.reduceAdd, Nat.reduceSub, reduceCtorEq, fillA, cutA, Nat.reduceLeDiff, Nat.reduceMul, Int.reduceLT, Int.reduceLE, Int.reduceEq, Int.reduceNe, Int.reduceAdd, Int.reduceSub, Int.reduceMul, Int.reduceNeg, Int.reduceToNat]
    intro _ h2 hh
    exact ⟨v', vs', rfl, (hv'.keep fun i a b => hh i (by omega) b).wide (by omega) (Nat.le_refl _)⟩
theorem signsV_small (ll : List (List Int)) : (signsV ll).1.length ≤ 1048576 ∧ ∀ l ∈ (signsV ll).1, l.length ≤ 1048576 := by
  unfold signsV
  split
  · rename_i hm
    obtain ⟨h1, h2⟩ := rowsOf_small ((isMat_iff ll).1 hm).2.1 fun i k => (at2 ll i k).sign
    exact ⟨by simp only [sgnF]; omega, fun l hl => by have := h2 l hl; omega⟩
  · exact ⟨by simp, fun l hl => by simp at hl⟩
end
end Go.Proofs.Ytkpibnhddhdooaa.L
