/- Contracts: determinants by elimination (the program's). -/
import Derived.Test.YtkpibnhddhdooaaA4
import Derived.Test.YtkpibnhddhdooaaA10
import Derived.Test.YtkpibnhddhdooaaA17
import Derived.Test.YtkpibnhddhdooaaL19
namespace Go.Proofs.Ytkpibnhddhdooaa.L
open Go
set_option linter.unusedSimpArgs false
set_option linter.unusedVariables false
def c_impl_determinant : F := ⟨(.seq (.reg false [⟨(some 2), (.mv (.c (.int .i64 0))), none⟩]) (.seq (.reg false [⟨(some 12), (.mv (.t 0)), none⟩, ⟨(some 13), (.call (.f 87) [(.t 12)]), none⟩, ⟨(some 3), (.mv (.t 13)), none⟩]) (.seq (.reg false [⟨(some 4), (.mv (.c (.int .i64 1))), none⟩, ⟨(some 5), (.mv (.c (.int .i64 1))), none⟩]) (.seq (.seq (.reg false [⟨(some 14), (.mv (.t 3)), none⟩, ⟨(some 15), (.len (.t 14)), none⟩, ⟨(some 16), (.mv (.c (.int .i64 0))), none⟩]) (.block 0 (.loop (.seq (.reg false [⟨(some 17), (.bin .lss (.t 16) (.t 15)), none⟩]) (.seq (.cond (.t 17) .skip (.exit 0)) (.seq (.block 1 (.seq (.reg false [⟨(some 18), (.mv (.t 16)), none⟩, ⟨(some 6), (.alloc 3 [(.int .i64 0)]), none⟩, ⟨none, (.st 1 (.t 6) (.t 18)), none⟩]) (.seq (.reg false [⟨(some 19), (.mv (.t 3)), none⟩, ⟨(some 20), (.ld1 (.t 6)), none⟩, ⟨(some 21), (.slc 1 (.t 19) (some (.t 20)) none none), none⟩, ⟨(some 22), (.mkf 117 [(.t 6)]), none⟩, ⟨(some 23), (.call (.f 116) [(.t 21), (.t 22)]), none⟩, ⟨(some 7), (.mv (.t 23)), none⟩]) (.seq (.seq (.reg false [⟨(some 24), (.mv (.t 7)), none⟩, ⟨(some 25), (.bin .lss (.t 24) (.c (.int .i64 0))), none⟩]) (.cond (.t 25) (.seq (.reg false [⟨(some 2), (.mv (.c (.int .i64 0))), none⟩]) .ret) .skip)) (.seq (.seq (.reg false [⟨(some 26), (.mv (.t 7)), none⟩, ⟨(some 27), (.bin .gtr (.t 26) (.c (.int .i64 0))), none⟩]) (.cond (.t 27) (.seq (.seq (.reg true [⟨(some 28), (.mv (.t 3)), none⟩, ⟨(some 29), (.ld1 (.t 6)), none⟩, ⟨(some 30), (.mv (.t 3)), none⟩, ⟨(some 31), (.ld1 (.t 6)), none⟩, ⟨(some 32), (.mv (.t 7)), none⟩, ⟨(some 33), (.bin .add (.t 31) (.t 32)), none⟩, ⟨(some 34), (.mv (.t 3)), none⟩, ⟨(some 35), (.ld1 (.t 6)), none⟩, ⟨(some 36), (.mv (.t 7)), none⟩, ⟨(some 37), (.bin .add (.t 35) (.t 36)), none⟩, ⟨(some 38), (.ia 1 (.t 34) (.t 37)), none⟩, ⟨(some 39), (.ld1 (.t 38)), none⟩, ⟨(some 40), (.mv (.t 3)), none⟩, ⟨(some 41), (.ld1 (.t 6)), none⟩, ⟨(some 42), (.ia 1 (.t 40) (.t 41)), none⟩, ⟨(some 43), (.ld1 (.t 42)), none⟩, ⟨(some 44), (.ia 1 (.t 28) (.t 29)), none⟩, ⟨none, (.st 1 (.t 44) (.t 39)), none⟩, ⟨(some 45), (.ia 1 (.t 30) (.t 33)), none⟩, ⟨none, (.st 1 (.t 45) (.t 43)), none⟩]) (.chk [((.t 44), (.t 6))])) (.reg false [⟨(some 46), (.mv (.t 5)), none⟩, ⟨(some 47), (.un .neg (.t 46)), none⟩, ⟨(some 5), (.mv (.t 47)), none⟩])) .skip)) (.seq (.seq (.reg false [⟨(some 48), (.mv (.t 3)), none⟩, ⟨(some 49), (.ld1 (.t 6)), none⟩, ⟨(some 50), (.bin .add (.t 49) (.c (.int .i64 1))), none⟩, ⟨(some 51), (.slc 1 (.t 48) (some (.t 50)) none none), none⟩, ⟨(some 52), (.len (.t 51)), none⟩, ⟨(some 53), (.mv (.c (.int .i64 0))), none⟩]) (.block 2 (.loop (.seq (.reg false [⟨(some 54), (.bin .lss (.t 53) (.t 52)), none⟩]) (.seq (.cond (.t 54) .skip (.exit 2)) (.seq (.block 3 (.seq (.reg false [⟨(some 55), (.ia 1 (.t 51) (.t 53)), none⟩, ⟨(some 56), (.ld1 (.t 55)), none⟩, ⟨(some 9), (.mv (.t 56)), none⟩]) (.seq (.reg false [⟨(some 57), (.mv (.t 9)), none⟩, ⟨(some 58), (.ld1 (.t 6)), none⟩, ⟨(some 59), (.ia 1 (.t 57) (.t 58)), none⟩, ⟨(some 60), (.ld1 (.t 59)), none⟩, ⟨(some 10), (.mv (.t 60)), none⟩]) (.seq (.reg false [⟨(some 61), (.ld1 (.t 6)), none⟩, ⟨(some 11), (.mv (.t 61)), none⟩]) (.block 4 (.loop (.seq (.seq (.reg false [⟨(some 62), (.mv (.t 11)), none⟩, ⟨(some 63), (.mv (.t 9)), none⟩, ⟨(some 64), (.len (.t 63)), none⟩, ⟨(some 65), (.bin .lss (.t 62) (.t 64)), none⟩]) (.cond (.t 65) .skip (.exit 4))) (.seq (.block 5 (.reg true [⟨(some 68), (.mv (.t 9)), none⟩, ⟨(some 69), (.mv (.t 11)), none⟩, ⟨(some 70), (.mv (.t 9)), none⟩, ⟨(some 71), (.mv (.t 11)), none⟩, ⟨(some 72), (.ia 1 (.t 70) (.t 71)), none⟩, ⟨(some 73), (.ld1 (.t 72)), none⟩, ⟨(some 74), (.mv (.t 3)), none⟩, ⟨(some 75), (.ld1 (.t 6)), none⟩, ⟨(some 76), (.ia 1 (.t 74) (.t 75)), none⟩, ⟨(some 77), (.ld1 (.t 76)), none⟩, ⟨(some 78), (.ld1 (.t 6)), none⟩, ⟨(some 79), (.ia 1 (.t 77) (.t 78)), none⟩, ⟨(some 80), (.ld1 (.t 79)), none⟩, ⟨(some 81), (.bin .mul (.t 73) (.t 80)), none⟩, ⟨(some 82), (.mv (.t 10)), none⟩, ⟨(some 83), (.mv (.t 3)), none⟩, ⟨(some 84), (.ld1 (.t 6)), none⟩, ⟨(some 85), (.ia 1 (.t 83) (.t 84)), none⟩, ⟨(some 86), (.ld1 (.t 85)), none⟩, ⟨(some 87), (.mv (.t 11)), none⟩, ⟨(some 88), (.ia 1 (.t 86) (.t 87)), none⟩, ⟨(some 89), (.ld1 (.t 88)), none⟩, ⟨(some 90), (.bin .mul (.t 82) (.t 89)), none⟩, ⟨(some 91), (.bin .sub (.t 81) (.t 90)), none⟩, ⟨(some 92), (.mv (.t 4)), none⟩, ⟨(some 93), (.bin .quo (.t 91) (.t 92)), none⟩, ⟨(some 94), (.ia 1 (.t 68) (.t 69)), none⟩, ⟨none, (.st 1 (.t 94) (.t 93)), none⟩])) (.reg false [⟨(some 66), (.mv (.t 11)), none⟩, ⟨(some 67), (.bin .add (.t 66) (.c (.int .i64 1))), none⟩, ⟨(some 11), (.mv (.t 67)), none⟩]))))))))) (.reg false [⟨(some 95), (.bin .add (.t 53) (.c (.int .i64 1))), none⟩, ⟨(some 53), (.mv (.t 95)), none⟩]))))))) (.reg true [⟨(some 96), (.mv (.t 3)), none⟩, ⟨(some 97), (.ld1 (.t 6)), none⟩, ⟨(some 98), (.ia 1 (.t 96) (.t 97)), none⟩, ⟨(some 99), (.ld1 (.t 98)), none⟩, ⟨(some 100), (.ld1 (.t 6)), none⟩, ⟨(some 101), (.ia 1 (.t 99) (.t 100)), none⟩, ⟨(some 102), (.ld1 (.t 101)), none⟩, ⟨(some 4), (.mv (.t 102)), none⟩]))))))) (.reg false [⟨(some 103), (.bin .add (.t 16) (.c (.int .i64 1))), none⟩, ⟨(some 16), (.mv (.t 103)), none⟩]))))))) (.seq (.reg false [⟨(some 104), (.mv (.t 5)), none⟩, ⟨(some 105), (.mv (.t 4)), none⟩, ⟨(some 106), (.bin .mul (.t 104) (.t 105)), none⟩, ⟨(some 2), (.mv (.t 106)), none⟩]) .ret))))), 107, [(.t 2)]⟩
theorem k_impl_determinant : compF Try.prog Try.f71 = some c_impl_determinant := by kernel_rfl
def c_impl_determinant_1 : F := ⟨(.seq (.reg false [⟨(some 3), (.mv (.c (.bool false))), none⟩]) (.seq (.reg false [⟨(some 4), (.mv (.t 0)), none⟩, ⟨(some 5), (.ld1 (.t 1)), none⟩, ⟨(some 6), (.ia 1 (.t 4) (.t 5)), none⟩, ⟨(some 7), (.ld1 (.t 6)), none⟩, ⟨(some 8), (.bin .neq (.t 7) (.c (.int .i64 0))), none⟩, ⟨(some 3), (.mv (.t 8)), none⟩]) .ret)), 9, [(.t 3)]⟩
theorem k_impl_determinant_1 : compF Try.prog Try.f117 = some c_impl_determinant_1 := by kernel_rfl

/-- Two rows change their places. -/
def swL (ll : List (List Int)) (i j : Nat) : List (List Int) := (ll.set i (ll.getD j [])).set j (ll.getD i [])
theorem swL_len (ll : List (List Int)) (i j : Nat) : (swL ll i j).length = ll.length := by simp [swL]
theorem set2_get {α : Type} (l : List α) (d : α) (i j k : Nat) (hk : k < l.length) : ((l.set i (l.getD j d)).set j (l.getD i d)).getD k d = l.getD (swp i j k) d := by
  rw [getD_set, getD_set]
  simp only [List.length_set]
  unfold swp
  by_cases e1 : j = k
  · subst e1
    rw [if_pos ⟨rfl, hk⟩]
    by_cases e2 : j = i
    · subst e2; simp
    · rw [if_neg e2, if_pos rfl]
  · rw [if_neg fun h => e1 h.1]
    by_cases e2 : i = k
    · subst e2
      rw [if_pos ⟨rfl, hk⟩, if_pos rfl]
    · rw [if_neg fun h => e2 h.1, if_neg fun h => e2 h.symm, if_neg fun h => e1 h.symm]
theorem swL_get (ll : List (List Int)) (i j k : Nat) (hk : k < ll.length) : (swL ll i j).getD k [] = ll.getD (swp i j k) [] := set2_get ll [] i j k hk
theorem swp_lt {n i j k : Nat} (hi : i < n) (hj : j < n) (hk : k < n) : swp i j k < n := by unfold swp; split <;> (try split) <;> omega
theorem swp_inj {i j a b : Nat} (h : swp i j a = swp i j b) : a = b := by unfold swp at h; grind
theorem Rows.swap {lo hi : Nat} {h h2 : AH} {v : AV} {vs vs' : List AV} {ll : List (List Int)} (s : Rows true lo hi h v vs ll) {i j : Nat} (hi' : i < ll.length) (hj : j < ll.length) (hout : Sl true lo hi h2 1 v vs') (hh : ∀ k, k ≠ bid v → h2 k = h k)
    (hv : ∀ k, k < ll.length → vs'.getD k .any = vs.getD (swp i j k) .any) (hvl : vs'.length = vs.length) : Rows true lo hi h2 v vs' (swL ll i j) := by
  refine ⟨hout, ⟨by rw [swL_len, hvl, s.len], fun k hk => ?_, fun _ a b ha hb hne h1 h2 => ?_⟩, fun _ k hk h1 => ?_⟩
  · rw [swL_len] at hk
    rw [hv k hk, swL_get _ _ _ _ hk]
    have := swp_lt hi' hj hk
    exact Sl.keep1 (s.row _ this) fun hs => hh _ (s.outer rfl _ this hs)
  · rw [swL_len] at ha hb
    rw [hv a ha] at h1 ⊢
    rw [hv b hb] at h2 ⊢
    exact s.rows.apart rfl _ _ (swp_lt hi' hj ha) (swp_lt hi' hj hb) (fun e => hne (swp_inj e)) h1 h2
  · rw [swL_len] at hk
    rw [hv k hk] at h1 ⊢
    exact s.outer rfl _ (swp_lt hi' hj hk) h1
theorem impl_determinant1 {w : Bool} {lo hi : Nat} {h : AH} {v : AV} {l : List Int} (s : Ints w lo hi h v l) {i b n : Nat} {op : Nat} {wr : Bool} {ty : Nat} (hb : h b = some ⟨ty, [.int .i64 i], wr, op⟩) (hi2 : i < l.length) :
    Q Try.prog 117 [v, .ptr b 0] h n (.bool (decide (¬ l.getD i 0 = 0))) := by
  refine q_intro Try.func117 k_impl_determinant_1 ?_
  simp (maxSteps := 2000000) -implicitDefEqProofs (disch := omega) only [c_impl_determinant_1, hb, s.ia, s.ld, xsW, xsC, if_true, if_false, ite_true, ite_false, forall_const, ne_eq, beq_self_eq_true, bne_self_eq_false, imp_self, true_implies, false_implies, implies_true, evP, evE, ev, setD, Nat.reduceAdd, Nat.reduceSub, reduceCtorEq, fillA, cutA, Nat.reduceLeDiff, Nat.reduceMul, Int.reduceLT, Int.reduceLE, Int.reduceEq, Int.reduceNe, Int.reduceAdd, Int.reduceSub, Int.reduceMul, Int.reduceNeg, Int.reduceToNat]
set_option maxHeartbeats 4000000 in
theorem impl_determinant (N : Nat) {lo hi : Nat} {h : AH} {v : AV} {vs : List AV} {ll : List (List Int)} (s : Rows true lo hi h v vs ll) (hN : N ≤ 5) (hs : Sq N ll) (hl : ∃ q, Lim q N (mx ll)) (n : Nat) (hn : hi ≤ n) :
    Q Try.prog 71 [v] h n (.int .i64 (det N (mx ll))) := by
  refine q_intro Try.func71 k_impl_determinant ?_
  have hL := hs.1
  simp (maxSteps := 2000000) -implicitDefEqProofs (disch := omega) only [c_impl_determinant, xsW, xsC, if_true, if_false, ite_true, ite_false, forall_const, ne_eq, beq_self_eq_true, bne_self_eq_false, imp_self, true_implies, false_implies, implies_true, evP, evE, ev, setD, Nat.reduceAdd, Nat.reduceSub, reduceCtorEq, fillA, cutA, Nat.reduceLeDiff, Nat.reduceMul, Int.reduceLT, Int.reduceLE, Int.reduceEq, Int.reduceNe, Int.reduceAdd, Int.reduceSub, Int.reduceMul, Int.reduceNeg, Int.reduceToNat]
  refine fq_use (impl_copyRows s (by omega) (fun l hm => by
    obtain ⟨k, hk, rfl⟩ := List.mem_iff_getElem.1 hm
    have := hs.2 k (by omega)
    simp [List.getD, hk] at this
    omega) n hn) fun o h0 n0 hn0 hs0 ⟨ws, ho⟩ => ?_
  simp (maxSteps := 2000000) -implicitDefEqProofs (disch := omega) only [xsW, xsC, if_true, if_false, ite_true, ite_false, forall_const, ne_eq, beq_self_eq_true, bne_self_eq_false, imp_self, true_implies, false_implies, implies_true, evP, evE, ev, setD, Nat.reduceAdd, Nat.reduceSub, reduceCtorEq, fillA, cutA, Nat.reduceLeDiff, Nat.reduceMul, Int.reduceLT, Int.reduceLE, Int.reduceEq, Int.reduceNe, Int.reduceAdd, Int.reduceSub, Int.reduceMul, Int.reduceNeg, Int.reduceToNat,  ho.ln]
  refine loop_for N 0 (fun i p => [v, .any, .int .i64 0, o, .int .i64 p.2.2.2.2.1, .int .i64 p.2.2.2.2.2, .any, .any, .any, .any, .any, .any, .any, .any, o, .int .i64 ll.length, .int .i64 i, .any, .any, .any, .any, .any, .any, .any, .any, .any, .any, .any, .any, .any, .any, .any, .any, .any, .any, .any, .any, .any, .any, .any, .any, .any, .any, .any, .any, .any, .any, .any, .any, .any, .any, .any, .any, .any, .any, .any, .any, .any, .any, .any, .any, .any, .any, .any, .any, .any, .any, .any, .any, .any, .any, .any, .any, .any, .any, .any, .any, .any, .any, .any, .any, .any, .any, .any, .any, .any, .any, .any, .any, .any, .any, .any, .any, .any, .any, .any, .any, .any, .any, .any, .any, .any, .any, .any, .any, .any, .any]) (fun _ (p : AH × List AV × List (List Int) × Mx × Int × Int) => p.1)
    (fun i p m => Rows true n n0 p.1 o p.2.1 p.2.2.1 ∧ Bare N i p.2.2.2.1 p.2.2.2.2.1 p.2.2.1 ∧ (p.2.2.2.2.2 = 1 ∨ p.2.2.2.2.2 = -1) ∧ p.2.2.2.2.2 * det N p.2.2.2.1 = det N (mx ll) ∧ (∀ j, j < n → p.1 j = h j) ∧ n0 ≤ m)
    (h0, ws, ll, mx ll, 1, 1) (Nat.zero_le _) ⟨ho, Bare.start hs hl, .inl rfl, by simp, hs0, Nat.le_refl _⟩ (by simp [LeL, Le1]) (fun _ _ h => h) ?_
  rintro i ⟨hp, ws1, ll1, R, last, turn⟩ m - hi1 hm ⟨sR1, b1, ht1, ht2, hold, hm0⟩
  simp only at sR1 b1 ht1 ht2 hold
  have hL1 := b1.sq.1
  simp (maxSteps := 2000000) -implicitDefEqProofs (disch := omega) only [xsW, xsC, if_true, if_false, ite_true, ite_false, forall_const, ne_eq, beq_self_eq_true, bne_self_eq_false, imp_self, true_implies, false_implies, implies_true, evP, evE, ev, setD, Nat.reduceAdd, Nat.reduceSub, reduceCtorEq, fillA, cutA, Nat.reduceLeDiff, Nat.reduceMul, Int.reduceLT, Int.reduceLE, Int.reduceEq, Int.reduceNe, Int.reduceAdd, Int.reduceSub, Int.reduceMul, Int.reduceNeg, Int.reduceToNat]
  (refine cd_dec (fun c1 => ?_) (fun c1 => ?_) <;> simp (maxSteps := 2000000) -implicitDefEqProofs (disch := omega) only [xsW, xsC, if_true, if_false, ite_true, ite_false, forall_const, ne_eq, beq_self_eq_true, bne_self_eq_false, imp_self, true_implies, false_implies, implies_true, evP, evE, ev, setD, Nat.reduceAdd, Nat.reduceSub, reduceCtorEq, fillA, cutA, Nat.reduceLeDiff, Nat.reduceMul, Int.reduceLT, Int.reduceLE, Int.reduceEq, Int.reduceNe, Int.reduceAdd, Int.reduceSub, Int.reduceMul, Int.reduceNeg, Int.reduceToNat,  c1])
  · have hi2 : i < N := by omega
    have hob := sR1.out.below (by rw [sR1.slen]; omega)
    have hoS : isSl o = true := by
      have := sR1.out.isReal (by intro e; have := sR1.slen; rw [e] at this; simp [slen] at this; omega)
      exact this
    have sA := sR1.keep (h' := upd hp m (some ⟨3, [.int .i64 i], true, 0⟩)) (fun i _ hi9 => by simp (disch := omega) only [upd_other])
    refine Sl.slo sA.out (by intro e; rw [e] at hoS; simp [isSl] at hoS) (by omega) (by rw [sR1.slen]; omega) fun v1 hv1 hlen1 _ => ?_
    rw [sR1.slen] at hlen1
    obtain ⟨r, hr, hq⟩ := idx_rows hv1 (by omega) 117 [.ptr m 0] (fun k => decide (¬ at2 ll1 (i + k) i = 0)) (m + 1) (fun k n' hk _ => by
      have e : (ws1.drop ((i : Int).toNat * 1)).getD k .any = ws1.getD (i + k) .any := by simp [List.getD]
      rw [e]
      have := b1.sq.2 (i + k) (by omega)
      exact impl_determinant1 (sA.row (i + k) (by omega)) (upd_same _ _ _) (by omega))
    simp (maxSteps := 2000000) -implicitDefEqProofs (disch := omega) only [xsW, xsC, if_true, if_false, ite_true, ite_false, forall_const, ne_eq, beq_self_eq_true, bne_self_eq_false, imp_self, true_implies, false_implies, implies_true, evP, evE, ev, setD, Nat.reduceAdd, Nat.reduceSub, reduceCtorEq, fillA, cutA, Nat.reduceLeDiff, Nat.reduceMul, Int.reduceLT, Int.reduceLE, Int.reduceEq, Int.reduceNe, Int.reduceAdd, Int.reduceSub, Int.reduceMul, Int.reduceNeg, Int.reduceToNat]
    refine q_use hq fun n2 hn2 => ?_
    rcases hr with ⟨rfl, hr⟩ | ⟨k, rfl, hk1, hk2, hk3⟩
    · simp (maxSteps := 2000000) -implicitDefEqProofs (disch := omega) only [xsW, xsC, if_true, if_false, ite_true, ite_false, forall_const, ne_eq, beq_self_eq_true, bne_self_eq_false, imp_self, true_implies, false_implies, implies_true, evP, evE, ev, setD, Nat.reduceAdd, Nat.reduceSub, reduceCtorEq, fillA, cutA, Nat.reduceLeDiff, Nat.reduceMul, Int.reduceLT, Int.reduceLE, Int.reduceEq, Int.reduceNe, Int.reduceAdd, Int.reduceSub, Int.reduceMul, Int.reduceNeg, Int.reduceToNat]
      rw [← ht2, b1.none hi2 fun a ha1 ha2 => by
        have := hr (a - i) (by omega)
        rw [show i + (a - i) = a by omega] at this
        simpa using this]
      simp
    · have hk4 : i + k < N := by omega
      simp only [decide_eq_true_eq] at hk2
      by_cases hk0 : k = 0
      · subst hk0
        simp (maxSteps := 2000000) -implicitDefEqProofs (disch := omega) only [xsW, xsC, if_true, if_false, ite_true, ite_false, forall_const, ne_eq, beq_self_eq_true, bne_self_eq_false, imp_self, true_implies, false_implies, implies_true, evP, evE, ev, setD, Nat.reduceAdd, Nat.reduceSub, reduceCtorEq, fillA, cutA, Nat.reduceLeDiff, Nat.reduceMul, Int.reduceLT, Int.reduceLE, Int.reduceEq, Int.reduceNe, Int.reduceAdd, Int.reduceSub, Int.reduceMul, Int.reduceNeg, Int.reduceToNat]
        have hbox : upd hp m (some ⟨3, [.int .i64 (i : Int)], true, 0⟩) m = some ⟨3, [.int .i64 (i : Int)], true, 0⟩ := upd_same _ _ _
        have holdA : ∀ j, j < n → upd hp m (some ⟨3, [.int .i64 (i : Int)], true, 0⟩) j = h j := fun j hj => by rw [upd_other (by omega), hold j hj]
        obtain ⟨ws2, ll2, R2, sR2, b2, hpv, ht3⟩ : ∃ ws2 ll2 R2, Rows true n n0 (upd hp m (some ⟨3, [.int .i64 (i : Int)], true, 0⟩)) o ws2 ll2 ∧ Bare N i R2 last ll2 ∧ (Unit → at2 ll2 i i ≠ 0) ∧ turn * det N R2 = det N (mx ll) := ⟨ws1, ll1, R, sA, b1, fun _ => hk2, ht2⟩
        clear hv1 hq sA sR1
        generalize upd hp m (some ⟨3, [.int .i64 (i : Int)], true, 0⟩) = H1 at hbox holdA sR2 ⊢
        generalize hT1 : turn = turn1 at ht3 ⊢
        have ht4 : Unit → (turn1 = 1 ∨ turn1 = -1) := fun _ => by omega
        clear hT1 ht1 ht2 turn hk1 hk2 hk3
        have hn3 : m + 1 ≤ n2 := by omega
        generalize n2 = n3 at hn3 ⊢
        have hL2 := b2.sq.1
        have hm3 : n0 ≤ m := hm0
        have h2below := sR2.out.below (by rw [sR2.slen]; omega)
        refine Sl.slo sR2.out (by intro e; rw [e] at hoS; simp [isSl] at hoS) (by omega) (by rw [sR2.slen]; omega) fun v2 hv2 hlen2 hbv => ?_
        rw [sR2.slen] at hlen2
        obtain ⟨hbv1, hbv2, _, _⟩ := hbv hoS
        have hlen3 : (slen v2 : Int) = ((N - (i + 1) : Nat) : Int) := by omega
        simp (maxSteps := 2000000) -implicitDefEqProofs (disch := omega) only [xsW, xsC, if_true, if_false, ite_true, ite_false, forall_const, ne_eq, beq_self_eq_true, bne_self_eq_false, imp_self, true_implies, false_implies, implies_true, evP, evE, ev, setD, Nat.reduceAdd, Nat.reduceSub, reduceCtorEq, fillA, cutA, Nat.reduceLeDiff, Nat.reduceMul, Int.reduceLT, Int.reduceLE, Int.reduceEq, Int.reduceNe, Int.reduceAdd, Int.reduceSub, Int.reduceMul, Int.reduceNeg, Int.reduceToNat,  hv2.ln, hlen3]
        refine loop_for (N - (i + 1)) 0 (fun a p => [v, .any, .int .i64 0, o, .int .i64 last, .int .i64 turn1, .ptr m 0, .any, .any, .any, .any, .any, .any, .any, o, .int .i64 ll.length, .int .i64 i, .any, .any, .any, .any, .any, .any, .any, .any, .any, .any, .any, .any, .any, .any, .any, .any, .any, .any, .any, .any, .any, .any, .any, .any, .any, .any, .any, .any, .any, .any, .any, .any, .any, .any, v2, .int .i64 ((N - (i + 1) : Nat) : Int), .int .i64 a, .any, .any, .any, .any, .any, .any, .any, .any, .any, .any, .any, .any, .any, .any, .any, .any, .any, .any, .any, .any, .any, .any, .any, .any, .any, .any, .any, .any, .any, .any, .any, .any, .any, .any, .any, .any, .any, .any, .any, .any, .any, .any, .any, .any, .any, .any, .any, .any, .any, .any, .any, .any, .any]) (fun _ (p : AH × List (List Int)) => p.1)
          (fun a p mm => Rows true n n0 p.1 o ws2 p.2 ∧ Sq N p.2 ∧ (∀ r c, r < N → (r ≤ i ∨ i + 1 + a ≤ r) → at2 p.2 r c = at2 ll2 r c) ∧ (∀ r c, i < r → r < i + 1 + a → i ≤ c → c < N → at2 p.2 r c = bord (i + 1) R2 r c) ∧ (∀ j, (j < n ∨ n0 ≤ j) → p.1 j = H1 j) ∧ p.1 (bid o) = H1 (bid o) ∧ m + 1 ≤ mm)
          (H1, ll2) (Nat.zero_le _) ⟨sR2, b2.sq, fun _ _ _ _ => rfl, fun r c h1 h2 => by omega, fun _ _ => rfl, rfl, hn3⟩ (by simp [LeL, Le1]) (fun _ _ h => h) ?_
        rintro a ⟨hp3, ll3⟩ m3 - ha1 hm4 ⟨sR3, q3, g3, g4, g5, g6, g7⟩
        simp only at sR3 q3 g3 g4 g5 g6
        simp (maxSteps := 2000000) -implicitDefEqProofs (disch := omega) only [xsW, xsC, if_true, if_false, ite_true, ite_false, forall_const, ne_eq, beq_self_eq_true, bne_self_eq_false, imp_self, true_implies, false_implies, implies_true, evP, evE, ev, setD, Nat.reduceAdd, Nat.reduceSub, reduceCtorEq, fillA, cutA, Nat.reduceLeDiff, Nat.reduceMul, Int.reduceLT, Int.reduceLE, Int.reduceEq, Int.reduceNe, Int.reduceAdd, Int.reduceSub, Int.reduceMul, Int.reduceNeg, Int.reduceToNat]
        (refine cd_dec (fun c3 => ?_) (fun c3 => ?_) <;> simp (maxSteps := 2000000) -implicitDefEqProofs (disch := omega) only [xsW, xsC, if_true, if_false, ite_true, ite_false, forall_const, ne_eq, beq_self_eq_true, bne_self_eq_false, imp_self, true_implies, false_implies, implies_true, evP, evE, ev, setD, Nat.reduceAdd, Nat.reduceSub, reduceCtorEq, fillA, cutA, Nat.reduceLeDiff, Nat.reduceMul, Int.reduceLT, Int.reduceLE, Int.reduceEq, Int.reduceNe, Int.reduceAdd, Int.reduceSub, Int.reduceMul, Int.reduceNeg, Int.reduceToNat,  c3])
        · have ha2 : i + 1 + a < N := by omega
          have hv3 : Sl true n n0 hp3 1 v2 (ws2.drop (i + 1)) := by
            have := hv2.keep1 (h' := hp3) fun _ => by rw [hbv2, g6]
            rw [show ((i : Int) + 1).toNat * 1 = i + 1 by omega] at this
            exact this
          have hl3 := q3.1
          have hrow := sR3.row (i + 1 + a) (by omega)
          have hlr := q3.2 (i + 1 + a) ha2
          have hrowi := sR3.row i (by omega)
          have hlri := q3.2 i hi2
          have hsr := Sl.isReal hrow (slen_ne hrow (by omega)).2
          have hsi := Sl.isReal hrowi (slen_ne hrowi (by omega)).2
          have hown := Sl.own hrow hsr
          have hnb : Unit → bid (ws2.getD i .any) ≠ bid (ws2.getD (i + 1 + a) .any) := fun _ => sR3.rows.apart rfl _ _ (by omega) (by omega) (by omega) hsi hsr
          have hno : Unit → bid (ws2.getD (i + 1 + a) .any) ≠ bid o := fun _ => sR3.outer rfl _ (by omega) hsr
          have gd : (ws2.drop (i + 1)).getD a .any = ws2.getD (i + 1 + a) .any := by simp [List.getD]
          have ea : at2 ll2 (i + 1 + a) i = bord i R2 (i + 1 + a) i := b2.ent _ _ (by omega) ha2 (Nat.le_refl _) hi2
          have eb : (ll3.getD (i + 1 + a) []).getD i 0 = bord i R2 (i + 1 + a) i := by rw [← ea, ← g3 _ _ ha2 (by omega)]; rfl
          have hbx := g5 m (.inr hm3)
          rw [hbox] at hbx
          have hnl : a < (ws2.drop (i + 1)).length := by have h8 := sR3.len; simp; omega
          have x1 : ∀ K h' n', IA 1 v2 (.int .i64 (a : Int)) K h' n' = K (.ptr (bid v2) (boff v2 + a)) h' n' := fun K h' n' => by rw [hv3.ia (by omega) (by omega)]; simp
          have x2 : ∀ K h' n', L2 (hp3 (bid v2)) (boff v2 + a) K h' n' = K (ws2.getD (i + 1 + a) .any) h' n' := fun K h' n' => by rw [hv3.ld hnl, gd]
          simp (maxSteps := 2000000) -implicitDefEqProofs (disch := omega) only [xsW, xsC, if_true, if_false, ite_true, ite_false, forall_const, ne_eq, beq_self_eq_true, bne_self_eq_false, imp_self, true_implies, false_implies, implies_true, evP, evE, ev, setD, Nat.reduceAdd, Nat.reduceSub, reduceCtorEq, fillA, cutA, Nat.reduceLeDiff, Nat.reduceMul, Int.reduceLT, Int.reduceLE, Int.reduceEq, Int.reduceNe, Int.reduceAdd, Int.reduceSub, Int.reduceMul, Int.reduceNeg, Int.reduceToNat,  x1, x2, hbx, hrow.ia, hrow.ld, eb]
          refine loop_for N i (fun c p => [v, .any, .int .i64 0, o, .int .i64 last, .int .i64 turn1, .ptr m 0, .any, .any, ws2.getD (i + 1 + a) .any, .int .i64 (bord i R2 (i + 1 + a) i), .int .i64 c, .any, .any, o, .int .i64 ll.length, .int .i64 i, .any, .any, .any, .any, .any, .any, .any, .any, .any, .any, .any, .any, .any, .any, .any, .any, .any, .any, .any, .any, .any, .any, .any, .any, .any, .any, .any, .any, .any, .any, .any, .any, .any, .any, v2, .int .i64 ((N - (i + 1) : Nat) : Int), .int .i64 a, .any, .any, .any, .any, .any, .any, .any, .any, .any, .any, .any, .any, .any, .any, .any, .any, .any, .any, .any, .any, .any, .any, .any, .any, .any, .any, .any, .any, .any, .any, .any, .any, .any, .any, .any, .any, .any, .any, .any, .any, .any, .any, .any, .any, .any, .any, .any, .any, .any, .any, .any, .any, .any]) (fun _ (p : AH × List Int) => p.1)
            (fun c p mm => Ints true n n0 p.1 (ws2.getD (i + 1 + a) .any) p.2 ∧ p.2.length = N ∧ (∀ b, b < N → p.2.getD b 0 = if i ≤ b ∧ b < c then bord (i + 1) R2 (i + 1 + a) b else at2 ll3 (i + 1 + a) b) ∧ (∀ j, j ≠ bid (ws2.getD (i + 1 + a) .any) → p.1 j = hp3 j) ∧ m + 1 ≤ mm)
            (hp3, ll3.getD (i + 1 + a) []) (Nat.le_of_lt hi2) ⟨hrow, hlr, fun b hb => by rw [if_neg (by omega)]; rfl, fun _ _ => rfl, g7⟩ (by simp [LeL, Le1]) (fun _ _ h => h) ?_
          rintro c ⟨hp4, l4⟩ m4 hc0 hc1 hm5 ⟨sR4, q4, k1, k2, k3⟩
          simp only at sR4 q4 k1 k2
          simp (maxSteps := 2000000) -implicitDefEqProofs (disch := omega) only [xsW, xsC, if_true, if_false, ite_true, ite_false, forall_const, ne_eq, beq_self_eq_true, bne_self_eq_false, imp_self, true_implies, false_implies, implies_true, evP, evE, ev, setD, Nat.reduceAdd, Nat.reduceSub, reduceCtorEq, fillA, cutA, Nat.reduceLeDiff, Nat.reduceMul, Int.reduceLT, Int.reduceLE, Int.reduceEq, Int.reduceNe, Int.reduceAdd, Int.reduceSub, Int.reduceMul, Int.reduceNeg, Int.reduceToNat,  sR4.ln]
          (refine cd_dec (fun c4 => ?_) (fun c4 => ?_) <;> simp (maxSteps := 2000000) -implicitDefEqProofs (disch := omega) only [xsW, xsC, if_true, if_false, ite_true, ite_false, forall_const, ne_eq, beq_self_eq_true, bne_self_eq_false, imp_self, true_implies, false_implies, implies_true, evP, evE, ev, setD, Nat.reduceAdd, Nat.reduceSub, reduceCtorEq, fillA, cutA, Nat.reduceLeDiff, Nat.reduceMul, Int.reduceLT, Int.reduceLE, Int.reduceEq, Int.reduceNe, Int.reduceAdd, Int.reduceSub, Int.reduceMul, Int.reduceNeg, Int.reduceToNat,  c4])
          · have hc2 : c < N := by omega
            obtain ⟨w1, w2, w3, w4⟩ := b2.val hN (r := i + 1 + a) (c := c) (by omega) ha2 hc0 hc2
            have z1 : l4.getD c 0 = bord i R2 (i + 1 + a) c := by
              rw [k1 c hc2, if_neg (by omega), g3 _ _ ha2 (by omega)]
              exact b2.ent _ _ (by omega) ha2 hc0 hc2
            have z2 : (ll3.getD i []).getD i 0 = bord i R2 i i := by
              have := g3 i i hi2 (by omega)
              rw [b2.ent _ _ (Nat.le_refl _) hi2 (Nat.le_refl _) hi2] at this
              exact this
            have z3 : (ll3.getD i []).getD c 0 = bord i R2 i c := by
              have := g3 i c hi2 (by omega)
              rw [b2.ent _ _ (Nat.le_refl _) hi2 hc0 hc2] at this
              exact this
            have hne := b2.ne
            have n1 := k2 m (by omega)
            rw [hbx] at n1
            have n2 := k2 (bid o) (fun e => hno () e.symm)
            have n3 := k2 (bid (ws2.getD i .any)) (hnb ())
            have e1 := fun K => Ints.st sR4 (k := c) (x := bord (i + 1) R2 (i + 1 + a) c) (n0 := n) (n := m4) (W := none') (by omega) (fun i a b => .inl a) (by omega) K
            simp (maxSteps := 2000000) -implicitDefEqProofs (disch := omega) only [xsW, xsC, if_true, if_false, ite_true, ite_false, forall_const, ne_eq, beq_self_eq_true, bne_self_eq_false, imp_self, true_implies, false_implies, implies_true, evP, evE, ev, setD, Nat.reduceAdd, Nat.reduceSub, reduceCtorEq, fillA, cutA, Nat.reduceLeDiff, Nat.reduceMul, Int.reduceLT, Int.reduceLE, Int.reduceEq, Int.reduceNe, Int.reduceAdd, Int.reduceSub, Int.reduceMul, Int.reduceNeg, Int.reduceToNat,  sR4.ia, sR4.ld, sR3.ia, sR3.ld, hrowi.ia, hrowi.ld, n1, n2, n3, z1, z2, z3, w3, e1]
            refine ⟨(_, l4.set c (bord (i + 1) R2 (i + 1 + a) c)), ⟨sR4.wr (by omega) _, by simpa using q4, fun b hb => ?_, fun j hj => (wr_other hj).trans (k2 j hj), by omega⟩, by omega, by omega, (by simp [LeL, Le1]), fun _ _ h => h⟩
            rw [getD_set, k1 b hb, q4]
            by_cases e : c = b
            · subst e; rw [if_pos ⟨rfl, hc2⟩, if_pos ⟨hc0, by omega⟩]
            · rw [if_neg fun h => e h.1]
              by_cases e2 : i ≤ b ∧ b < c
              · rw [if_pos e2, if_pos ⟨e2.1, by omega⟩]
              · rw [if_neg e2, if_neg (by omega)]
          · have hc3 : c = N := by omega
            subst hc3
            have sR5 := sR3.row1 (by omega) sR4 (.inl hsr) k2
            refine ⟨(hp4, _), ⟨sR5, ⟨by simpa using hl3, fun b hb => ?_⟩, fun r c' hr hr2 => ?_, fun r c' h1 h2 h3 h4 => ?_, fun j hj => (k2 j (by omega)).trans (g5 j hj), (k2 _ (fun e => hno () e.symm)).trans g6, by omega⟩, by omega, by omega, (by simp [LeL, Le1]), fun _ _ h => h⟩
            · rw [getD_set]
              split
              · exact q4
              · exact q3.2 b hb
            · rw [← g3 r c' hr (by omega)]
              unfold at2
              rw [getD_set, if_neg (by omega)]
            · unfold at2
              rw [getD_set]
              by_cases e : i + 1 + a = r
              · subst e
                rw [if_pos ⟨rfl, by omega⟩, k1 c' h4, if_pos ⟨h3, h4⟩]
              · rw [if_neg fun h => e h.1]
                exact g4 r c' h1 (by omega) h3 h4
        · have ha3 : i + 1 + a = N := by omega
          have hl3 := q3.1
          have hrowi := sR3.row i (by omega)
          have hlri := q3.2 i hi2
          have z2 : (ll3.getD i []).getD i 0 = at2 ll2 i i := g3 i i hi2 (by omega)
          have hbx := g5 m (.inr hm3)
          rw [hbox] at hbx
          simp (maxSteps := 2000000) -implicitDefEqProofs (disch := omega) only [xsW, xsC, if_true, if_false, ite_true, ite_false, forall_const, ne_eq, beq_self_eq_true, bne_self_eq_false, imp_self, true_implies, false_implies, implies_true, evP, evE, ev, setD, Nat.reduceAdd, Nat.reduceSub, reduceCtorEq, fillA, cutA, Nat.reduceLeDiff, Nat.reduceMul, Int.reduceLT, Int.reduceLE, Int.reduceEq, Int.reduceNe, Int.reduceAdd, Int.reduceSub, Int.reduceMul, Int.reduceNeg, Int.reduceToNat,  hbx, sR3.ia, sR3.ld, hrowi.ia, hrowi.ld, z2]
          refine ⟨(hp3, ws2, ll3, R2, at2 ll2 i i, turn1), ⟨sR3, b2.next hi2 (hpv ()) q3 (fun r c h1 h2 h3 h4 => g4 r c h1 (by omega) h3 h4), ht4 (), ht3, fun j hj => (g5 j (.inl hj)).trans (holdA j hj), by omega⟩, by omega, by omega, (by simp [LeL, Le1]), fun _ _ h => h⟩
      · have hrow1 := sA.row i (by omega)
        have hrow2 := sA.row (i + k) (by omega)
        have hl1 := b1.sq.2 i hi2
        have hl2 := b1.sq.2 (i + k) hk4
        have x1 := Sl.any hrow1
        have x2 := Sl.any hrow2
        have e1 := fun K => Sl.st sA.out (k := i) (x := ws1.getD (i + k) .any) (n0 := n) (n := n2) (W := none') (by rw [sR1.len]; omega) (one_any x2) (cel_any x2) (sto_any x2) (fun i a b => .inl a) (by omega) K
        have sW := sA.out.wr (k := i) (by rw [sR1.len]; omega) (ws1.getD (i + k) .any)
        have e2 := fun K => Sl.st sW (k := i + k) (x := ws1.getD i .any) (n0 := n) (n := n2) (W := none') (by rw [List.length_set, sR1.len]; omega) (one_any x1) (cel_any x1) (sto_any x1) (fun i a b => .inl a) (by omega) K
        have sW2 := sW.wr (k := i + k) (by rw [List.length_set, sR1.len]; omega) (ws1.getD i .any)
        have hne : bid o ≠ m := by omega
        have tn : ((i : Int) + (k : Int)).toNat = i + k := by omega
        have hbox : wr (wr (upd hp m (some ⟨3, [.int .i64 (i : Int)], true, 0⟩)) (bid o) (boff o + i) (ws1.getD (i + k) .any)) (bid o) (boff o + (i + k)) (ws1.getD i .any) m = some ⟨3, [.int .i64 (i : Int)], true, 0⟩ := by
          rw [wr_other (fun e => hne e.symm), wr_other (fun e => hne e.symm), upd_same]
        have hbox1 : wr (upd hp m (some ⟨3, [.int .i64 (i : Int)], true, 0⟩)) (bid o) (boff o + i) (ws1.getD (i + k) .any) m = some ⟨3, [.int .i64 (i : Int)], true, 0⟩ := by
          rw [wr_other (fun e => hne e.symm), upd_same]
        simp (maxSteps := 2000000) -implicitDefEqProofs (disch := omega) only [xsW, xsC, if_true, if_false, ite_true, ite_false, forall_const, ne_eq, beq_self_eq_true, bne_self_eq_false, imp_self, true_implies, false_implies, implies_true, evP, evE, ev, setD, Nat.reduceAdd, Nat.reduceSub, reduceCtorEq, fillA, cutA, Nat.reduceLeDiff, Nat.reduceMul, Int.reduceLT, Int.reduceLE, Int.reduceEq, Int.reduceNe, Int.reduceAdd, Int.reduceSub, Int.reduceMul, Int.reduceNeg, Int.reduceToNat,  sR1.ia, sR1.ld, tn, e1, e2]
        refine ⟨hne, ?_⟩
        have sS := Rows.swap (i := i) (j := i + k) sA (by omega) (by omega) sW2 (fun a ha => by rw [wr_other ha, wr_other ha]) (fun a ha => set2_get ws1 .any i (i + k) a (by rw [sR1.len]; exact ha)) (by simp)
        obtain ⟨bS, dS⟩ := b1.swap (j := i + k) (ll' := swL ll1 i (i + k)) (by omega) hk4 ⟨by rw [swL_len, hL1], fun a ha => by rw [swL_get _ _ _ _ (by omega)]; exact b1.sq.2 _ (swp_lt hi2 hk4 ha)⟩ (fun r c hr hc => by unfold at2; rw [swL_get _ _ _ _ (by omega)])
        have dS := dS (by omega)
        have holdA : ∀ j, j < n → wr (wr (upd hp m (some ⟨3, [.int .i64 (i : Int)], true, 0⟩)) (bid o) (boff o + i) (ws1.getD (i + k) .any)) (bid o) (boff o + (i + k)) (ws1.getD i .any) j = h j := fun j hj => by rw [wr_other (by omega), wr_other (by omega), upd_other (by omega), hold j hj]
        obtain ⟨ws2, ll2, R2, sR2, b2, hpv, ht3⟩ : ∃ ws2 ll2 R2, Rows true n n0 (wr (wr (upd hp m (some ⟨3, [.int .i64 (i : Int)], true, 0⟩)) (bid o) (boff o + i) (ws1.getD (i + k) .any)) (bid o) (boff o + (i + k)) (ws1.getD i .any)) o ws2 ll2 ∧ Bare N i R2 last ll2 ∧ (Unit → at2 ll2 i i ≠ 0) ∧ (-turn) * det N R2 = det N (mx ll) :=
          ⟨_, _, _, sS, bS, fun _ => by unfold at2; rw [swL_get _ _ _ _ (by omega), show swp i (i + k) i = i + k by simp [swp]]; exact hk2, by rw [dS, ← ht2, Int.neg_mul_neg]⟩
        clear hv1 hq sA sR1 e1 e2 sW sW2 sS hrow1 hrow2 hbox1 bS dS x1 x2 tn hl1 hl2 hne
        generalize wr (wr (upd hp m (some ⟨3, [.int .i64 (i : Int)], true, 0⟩)) (bid o) (boff o + i) (ws1.getD (i + k) .any)) (bid o) (boff o + (i + k)) (ws1.getD i .any) = H1 at hbox holdA sR2 ⊢
        generalize hT1 : -turn = turn1 at ht3 ⊢
        have ht4 : Unit → (turn1 = 1 ∨ turn1 = -1) := fun _ => by omega
        clear ht2 ht1 hT1 hk0 hk1 hk2 hk3
        have hn3 : m + 1 ≤ n2 := by omega
        generalize n2 = n3 at hn3 ⊢
        simp (maxSteps := 2000000) -implicitDefEqProofs (disch := omega) only [xsW, xsC, if_true, if_false, ite_true, ite_false, forall_const, ne_eq, beq_self_eq_true, bne_self_eq_false, imp_self, true_implies, false_implies, implies_true, evP, evE, ev, setD, Nat.reduceAdd, Nat.reduceSub, reduceCtorEq, fillA, cutA, Nat.reduceLeDiff, Nat.reduceMul, Int.reduceLT, Int.reduceLE, Int.reduceEq, Int.reduceNe, Int.reduceAdd, Int.reduceSub, Int.reduceMul, Int.reduceNeg, Int.reduceToNat,  hbox]
        have hL2 := b2.sq.1
        have hm3 : n0 ≤ m := hm0
        have h2below := sR2.out.below (by rw [sR2.slen]; omega)
        refine Sl.slo sR2.out (by intro e; rw [e] at hoS; simp [isSl] at hoS) (by omega) (by rw [sR2.slen]; omega) fun v2 hv2 hlen2 hbv => ?_
        rw [sR2.slen] at hlen2
        obtain ⟨hbv1, hbv2, _, _⟩ := hbv hoS
        have hlen3 : (slen v2 : Int) = ((N - (i + 1) : Nat) : Int) := by omega
        simp (maxSteps := 2000000) -implicitDefEqProofs (disch := omega) only [xsW, xsC, if_true, if_false, ite_true, ite_false, forall_const, ne_eq, beq_self_eq_true, bne_self_eq_false, imp_self, true_implies, false_implies, implies_true, evP, evE, ev, setD, Nat.reduceAdd, Nat.reduceSub, reduceCtorEq, fillA, cutA, Nat.reduceLeDiff, Nat.reduceMul, Int.reduceLT, Int.reduceLE, Int.reduceEq, Int.reduceNe, Int.reduceAdd, Int.reduceSub, Int.reduceMul, Int.reduceNeg, Int.reduceToNat,  hv2.ln, hlen3]
        refine loop_for (N - (i + 1)) 0 (fun a p => [v, .any, .int .i64 0, o, .int .i64 last, .int .i64 turn1, .ptr m 0, .any, .any, .any, .any, .any, .any, .any, o, .int .i64 ll.length, .int .i64 i, .any, .any, .any, .any, .any, .any, .any, .any, .any, .any, .any, .any, .any, .any, .any, .any, .any, .any, .any, .any, .any, .any, .any, .any, .any, .any, .any, .any, .any, .any, .any, .any, .any, .any, v2, .int .i64 ((N - (i + 1) : Nat) : Int), .int .i64 a, .any, .any, .any, .any, .any, .any, .any, .any, .any, .any, .any, .any, .any, .any, .any, .any, .any, .any, .any, .any, .any, .any, .any, .any, .any, .any, .any, .any, .any, .any, .any, .any, .any, .any, .any, .any, .any, .any, .any, .any, .any, .any, .any, .any, .any, .any, .any, .any, .any, .any, .any, .any, .any]) (fun _ (p : AH × List (List Int)) => p.1)
          (fun a p mm => Rows true n n0 p.1 o ws2 p.2 ∧ Sq N p.2 ∧ (∀ r c, r < N → (r ≤ i ∨ i + 1 + a ≤ r) → at2 p.2 r c = at2 ll2 r c) ∧ (∀ r c, i < r → r < i + 1 + a → i ≤ c → c < N → at2 p.2 r c = bord (i + 1) R2 r c) ∧ (∀ j, (j < n ∨ n0 ≤ j) → p.1 j = H1 j) ∧ p.1 (bid o) = H1 (bid o) ∧ m + 1 ≤ mm)
          (H1, ll2) (Nat.zero_le _) ⟨sR2, b2.sq, fun _ _ _ _ => rfl, fun r c h1 h2 => by omega, fun _ _ => rfl, rfl, hn3⟩ (by simp [LeL, Le1]) (fun _ _ h => h) ?_
        rintro a ⟨hp3, ll3⟩ m3 - ha1 hm4 ⟨sR3, q3, g3, g4, g5, g6, g7⟩
        simp only at sR3 q3 g3 g4 g5 g6
        simp (maxSteps := 2000000) -implicitDefEqProofs (disch := omega) only [xsW, xsC, if_true, if_false, ite_true, ite_false, forall_const, ne_eq, beq_self_eq_true, bne_self_eq_false, imp_self, true_implies, false_implies, implies_true, evP, evE, ev, setD, Nat.reduceAdd, Nat.reduceSub, reduceCtorEq, fillA, cutA, Nat.reduceLeDiff, Nat.reduceMul, Int.reduceLT, Int.reduceLE, Int.reduceEq, Int.reduceNe, Int.reduceAdd, Int.reduceSub, Int.reduceMul, Int.reduceNeg, Int.reduceToNat]
        (refine cd_dec (fun c3 => ?_) (fun c3 => ?_) <;> simp (maxSteps := 2000000) -implicitDefEqProofs (disch := omega) only [xsW, xsC, if_true, if_false, ite_true, ite_false, forall_const, ne_eq, beq_self_eq_true, bne_self_eq_false, imp_self, true_implies, false_implies, implies_true, evP, evE, ev, setD, Nat.reduceAdd, Nat.reduceSub, reduceCtorEq, fillA, cutA, Nat.reduceLeDiff, Nat.reduceMul, Int.reduceLT, Int.reduceLE, Int.reduceEq, Int.reduceNe, Int.reduceAdd, Int.reduceSub, Int.reduceMul, Int.reduceNeg, Int.reduceToNat,  c3])
        · have ha2 : i + 1 + a < N := by omega
          have hv3 : Sl true n n0 hp3 1 v2 (ws2.drop (i + 1)) := by
            have := hv2.keep1 (h' := hp3) fun _ => by rw [hbv2, g6]
            rw [show ((i : Int) + 1).toNat * 1 = i + 1 by omega] at this
            exact this
          have hl3 := q3.1
          have hrow := sR3.row (i + 1 + a) (by omega)
          have hlr := q3.2 (i + 1 + a) ha2
          have hrowi := sR3.row i (by omega)
          have hlri := q3.2 i hi2
          have hsr := Sl.isReal hrow (slen_ne hrow (by omega)).2
          have hsi := Sl.isReal hrowi (slen_ne hrowi (by omega)).2
          have hown := Sl.own hrow hsr
          have hnb : Unit → bid (ws2.getD i .any) ≠ bid (ws2.getD (i + 1 + a) .any) := fun _ => sR3.rows.apart rfl _ _ (by omega) (by omega) (by omega) hsi hsr
          have hno : Unit → bid (ws2.getD (i + 1 + a) .any) ≠ bid o := fun _ => sR3.outer rfl _ (by omega) hsr
          have gd : (ws2.drop (i + 1)).getD a .any = ws2.getD (i + 1 + a) .any := by simp [List.getD]
          have ea : at2 ll2 (i + 1 + a) i = bord i R2 (i + 1 + a) i := b2.ent _ _ (by omega) ha2 (Nat.le_refl _) hi2
          have eb : (ll3.getD (i + 1 + a) []).getD i 0 = bord i R2 (i + 1 + a) i := by rw [← ea, ← g3 _ _ ha2 (by omega)]; rfl
          have hbx := g5 m (.inr hm3)
          rw [hbox] at hbx
          have hnl : a < (ws2.drop (i + 1)).length := by have h8 := sR3.len; simp; omega
          have x1 : ∀ K h' n', IA 1 v2 (.int .i64 (a : Int)) K h' n' = K (.ptr (bid v2) (boff v2 + a)) h' n' := fun K h' n' => by rw [hv3.ia (by omega) (by omega)]; simp
          have x2 : ∀ K h' n', L2 (hp3 (bid v2)) (boff v2 + a) K h' n' = K (ws2.getD (i + 1 + a) .any) h' n' := fun K h' n' => by rw [hv3.ld hnl, gd]
          simp (maxSteps := 2000000) -implicitDefEqProofs (disch := omega) only [xsW, xsC, if_true, if_false, ite_true, ite_false, forall_const, ne_eq, beq_self_eq_true, bne_self_eq_false, imp_self, true_implies, false_implies, implies_true, evP, evE, ev, setD, Nat.reduceAdd, Nat.reduceSub, reduceCtorEq, fillA, cutA, Nat.reduceLeDiff, Nat.reduceMul, Int.reduceLT, Int.reduceLE, Int.reduceEq, Int.reduceNe, Int.reduceAdd, Int.reduceSub, Int.reduceMul, Int.reduceNeg, Int.reduceToNat,  x1, x2, hbx, hrow.ia, hrow.ld, eb]
          refine loop_for N i (fun c p => [v, .any, .int .i64 0, o, .int .i64 last, .int .i64 turn1, .ptr m 0, .any, .any, ws2.getD (i + 1 + a) .any, .int .i64 (bord i R2 (i + 1 + a) i), .int .i64 c, .any, .any, o, .int .i64 ll.length, .int .i64 i, .any, .any, .any, .any, .any, .any, .any, .any, .any, .any, .any, .any, .any, .any, .any, .any, .any, .any, .any, .any, .any, .any, .any, .any, .any, .any, .any, .any, .any, .any, .any, .any, .any, .any, v2, .int .i64 ((N - (i + 1) : Nat) : Int), .int .i64 a, .any, .any, .any, .any, .any, .any, .any, .any, .any, .any, .any, .any, .any, .any, .any, .any, .any, .any, .any, .any, .any, .any, .any, .any, .any, .any, .any, .any, .any, .any, .any, .any, .any, .any, .any, .any, .any, .any, .any, .any, .any, .any, .any, .any, .any, .any, .any, .any, .any, .any, .any, .any, .any]) (fun _ (p : AH × List Int) => p.1)
            (fun c p mm => Ints true n n0 p.1 (ws2.getD (i + 1 + a) .any) p.2 ∧ p.2.length = N ∧ (∀ b, b < N → p.2.getD b 0 = if i ≤ b ∧ b < c then bord (i + 1) R2 (i + 1 + a) b else at2 ll3 (i + 1 + a) b) ∧ (∀ j, j ≠ bid (ws2.getD (i + 1 + a) .any) → p.1 j = hp3 j) ∧ m + 1 ≤ mm)
            (hp3, ll3.getD (i + 1 + a) []) (Nat.le_of_lt hi2) ⟨hrow, hlr, fun b hb => by rw [if_neg (by omega)]; rfl, fun _ _ => rfl, g7⟩ (by simp [LeL, Le1]) (fun _ _ h => h) ?_
          rintro c ⟨hp4, l4⟩ m4 hc0 hc1 hm5 ⟨sR4, q4, k1, k2, k3⟩
          simp only at sR4 q4 k1 k2
          simp (maxSteps := 2000000) -implicitDefEqProofs (disch := omega) only [xsW, xsC, if_true, if_false, ite_true, ite_false, forall_const, ne_eq, beq_self_eq_true, bne_self_eq_false, imp_self, true_implies, false_implies, implies_true, evP, evE, ev, setD, Nat.reduceAdd, Nat.reduceSub, reduceCtorEq, fillA, cutA, Nat.reduceLeDiff, Nat.reduceMul, Int.reduceLT, Int.reduceLE, Int.reduceEq, Int.reduceNe, Int.reduceAdd, Int.reduceSub, Int.reduceMul, Int.reduceNeg, Int.reduceToNat,  sR4.ln]
          (refine cd_dec (fun c4 => ?_) (fun c4 => ?_) <;> simp (maxSteps := 2000000) -implicitDefEqProofs (disch := omega) only [xsW, xsC, if_true, if_false, ite_true, ite_false, forall_const, ne_eq, beq_self_eq_true, bne_self_eq_false, imp_self, true_implies, false_implies, implies_true, evP, evE, ev, setD, Nat.reduceAdd, Nat.reduceSub, reduceCtorEq, fillA, cutA, Nat.reduceLeDiff, Nat.reduceMul, Int.reduceLT, Int.reduceLE, Int.reduceEq, Int.reduceNe, Int.reduceAdd, Int.reduceSub, Int.reduceMul, Int.reduceNeg, Int.reduceToNat,  c4])
          · have hc2 : c < N := by omega
            obtain ⟨w1, w2, w3, w4⟩ := b2.val hN (r := i + 1 + a) (c := c) (by omega) ha2 hc0 hc2
            have z1 : l4.getD c 0 = bord i R2 (i + 1 + a) c := by
              rw [k1 c hc2, if_neg (by omega), g3 _ _ ha2 (by omega)]
              exact b2.ent _ _ (by omega) ha2 hc0 hc2
            have z2 : (ll3.getD i []).getD i 0 = bord i R2 i i := by
              have := g3 i i hi2 (by omega)
              rw [b2.ent _ _ (Nat.le_refl _) hi2 (Nat.le_refl _) hi2] at this
              exact this
            have z3 : (ll3.getD i []).getD c 0 = bord i R2 i c := by
              have := g3 i c hi2 (by omega)
              rw [b2.ent _ _ (Nat.le_refl _) hi2 hc0 hc2] at this
              exact this
            have hne := b2.ne
            have n1 := k2 m (by omega)
            rw [hbx] at n1
            have n2 := k2 (bid o) (fun e => hno () e.symm)
            have n3 := k2 (bid (ws2.getD i .any)) (hnb ())
            have e1 := fun K => Ints.st sR4 (k := c) (x := bord (i + 1) R2 (i + 1 + a) c) (n0 := n) (n := m4) (W := none') (by omega) (fun i a b => .inl a) (by omega) K
            simp (maxSteps := 2000000) -implicitDefEqProofs (disch := omega) only [xsW, xsC, if_true, if_false, ite_true, ite_false, forall_const, ne_eq, beq_self_eq_true, bne_self_eq_false, imp_self, true_implies, false_implies, implies_true, evP, evE, ev, setD, Nat.reduceAdd, Nat.reduceSub, reduceCtorEq, fillA, cutA, Nat.reduceLeDiff, Nat.reduceMul, Int.reduceLT, Int.reduceLE, Int.reduceEq, Int.reduceNe, Int.reduceAdd, Int.reduceSub, Int.reduceMul, Int.reduceNeg, Int.reduceToNat,  sR4.ia, sR4.ld, sR3.ia, sR3.ld, hrowi.ia, hrowi.ld, n1, n2, n3, z1, z2, z3, w3, e1]
            refine ⟨(_, l4.set c (bord (i + 1) R2 (i + 1 + a) c)), ⟨sR4.wr (by omega) _, by simpa using q4, fun b hb => ?_, fun j hj => (wr_other hj).trans (k2 j hj), by omega⟩, by omega, by omega, (by simp [LeL, Le1]), fun _ _ h => h⟩
            rw [getD_set, k1 b hb, q4]
            by_cases e : c = b
            · subst e; rw [if_pos ⟨rfl, hc2⟩, if_pos ⟨hc0, by omega⟩]
            · rw [if_neg fun h => e h.1]
              by_cases e2 : i ≤ b ∧ b < c
              · rw [if_pos e2, if_pos ⟨e2.1, by omega⟩]
              · rw [if_neg e2, if_neg (by omega)]
          · have hc3 : c = N := by omega
            subst hc3
            have sR5 := sR3.row1 (by omega) sR4 (.inl hsr) k2
            refine ⟨(hp4, _), ⟨sR5, ⟨by simpa using hl3, fun b hb => ?_⟩, fun r c' hr hr2 => ?_, fun r c' h1 h2 h3 h4 => ?_, fun j hj => (k2 j (by omega)).trans (g5 j hj), (k2 _ (fun e => hno () e.symm)).trans g6, by omega⟩, by omega, by omega, (by simp [LeL, Le1]), fun _ _ h => h⟩
            · rw [getD_set]
              split
              · exact q4
              · exact q3.2 b hb
            · rw [← g3 r c' hr (by omega)]
              unfold at2
              rw [getD_set, if_neg (by omega)]
            · unfold at2
              rw [getD_set]
              by_cases e : i + 1 + a = r
              · subst e
                rw [if_pos ⟨rfl, by omega⟩, k1 c' h4, if_pos ⟨h3, h4⟩]
              · rw [if_neg fun h => e h.1]
                exact g4 r c' h1 (by omega) h3 h4
        · have ha3 : i + 1 + a = N := by omega
          have hl3 := q3.1
          have hrowi := sR3.row i (by omega)
          have hlri := q3.2 i hi2
          have z2 : (ll3.getD i []).getD i 0 = at2 ll2 i i := g3 i i hi2 (by omega)
          have hbx := g5 m (.inr hm3)
          rw [hbox] at hbx
          simp (maxSteps := 2000000) -implicitDefEqProofs (disch := omega) only [xsW, xsC, if_true, if_false, ite_true, ite_false, forall_const, ne_eq, beq_self_eq_true, bne_self_eq_false, imp_self, true_implies, false_implies, implies_true, evP, evE, ev, setD, Nat.reduceAdd, Nat.reduceSub, reduceCtorEq, fillA, cutA, Nat.reduceLeDiff, Nat.reduceMul, Int.reduceLT, Int.reduceLE, Int.reduceEq, Int.reduceNe, Int.reduceAdd, Int.reduceSub, Int.reduceMul, Int.reduceNeg, Int.reduceToNat,  hbx, sR3.ia, sR3.ld, hrowi.ia, hrowi.ld, z2]
          refine ⟨(hp3, ws2, ll3, R2, at2 ll2 i i, turn1), ⟨sR3, b2.next hi2 (hpv ()) q3 (fun r c h1 h2 h3 h4 => g4 r c h1 (by omega) h3 h4), ht4 (), ht3, fun j hj => (g5 j (.inl hj)).trans (holdA j hj), by omega⟩, by omega, by omega, (by simp [LeL, Le1]), fun _ _ h => h⟩
  · have e : i = N := by omega
    subst e
    have hb := b1.lst
    rw [← hb] at ht2
    obtain ⟨q, hq⟩ := hl
    have := det_small hq hN
    rw [ht2]
    unfold in64
    omega
end Go.Proofs.Ytkpibnhddhdooaa.L
