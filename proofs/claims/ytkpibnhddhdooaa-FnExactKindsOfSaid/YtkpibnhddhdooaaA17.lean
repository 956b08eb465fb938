/- Contracts: determinants by the first row (the reference's), and what a slice of a row is. -/
import Derived.Test.YtkpibnhddhdooaaA10
import Derived.Test.YtkpibnhddhdooaaM4
namespace Go.Proofs.Ytkpibnhddhdooaa.L
open Go
set_option linter.unusedSimpArgs false
set_option linter.unusedVariables false
def c_spec_l01Det : F := ⟨(.seq (.reg false [⟨(some 2), (.mv (.c (.int .i64 0))), none⟩]) (.seq (.seq (.reg false [⟨(some 8), (.mv (.t 0)), none⟩, ⟨(some 9), (.len (.t 8)), none⟩, ⟨(some 10), (.bin .eql (.t 9) (.c (.int .i64 0))), none⟩]) (.cond (.t 10) (.seq (.reg false [⟨(some 2), (.mv (.c (.int .i64 1))), none⟩]) .ret) .skip)) (.seq (.reg false [⟨(some 3), (.mv (.c (.int .i64 0))), none⟩]) (.seq (.seq (.reg false [⟨(some 4), (.mv (.c (.int .i64 0))), none⟩]) (.block 0 (.loop (.seq (.seq (.reg false [⟨(some 11), (.mv (.t 4)), none⟩, ⟨(some 12), (.mv (.t 0)), none⟩, ⟨(some 13), (.len (.t 12)), none⟩, ⟨(some 14), (.bin .lss (.t 11) (.t 13)), none⟩]) (.cond (.t 14) .skip (.exit 0))) (.seq (.block 1 (.seq (.seq (.reg false [⟨(some 17), (.mv (.t 0)), none⟩, ⟨(some 18), (.ia 1 (.t 17) (.c (.int .i64 0))), none⟩, ⟨(some 19), (.ld1 (.t 18)), none⟩, ⟨(some 20), (.mv (.t 4)), none⟩, ⟨(some 21), (.ia 1 (.t 19) (.t 20)), none⟩, ⟨(some 22), (.ld1 (.t 21)), none⟩, ⟨(some 23), (.bin .eql (.t 22) (.c (.int .i64 0))), none⟩]) (.cond (.t 23) (.exit 1) .skip)) (.seq (.reg false [⟨(some 24), (.lit 29 1 0 [.nilsl] []), none⟩, ⟨(some 5), (.mv (.t 24)), none⟩]) (.seq (.seq (.reg false [⟨(some 6), (.mv (.c (.int .i64 1))), none⟩]) (.block 2 (.loop (.seq (.seq (.reg false [⟨(some 25), (.mv (.t 6)), none⟩, ⟨(some 26), (.mv (.t 0)), none⟩, ⟨(some 27), (.len (.t 26)), none⟩, ⟨(some 28), (.bin .lss (.t 25) (.t 27)), none⟩]) (.cond (.t 28) .skip (.exit 2))) (.seq (.block 3 (.reg true [⟨(some 31), (.mv (.t 5)), none⟩, ⟨(some 32), (.mv (.t 0)), none⟩, ⟨(some 33), (.mv (.t 6)), none⟩, ⟨(some 34), (.ia 1 (.t 32) (.t 33)), none⟩, ⟨(some 35), (.ld1 (.t 34)), none⟩, ⟨(some 36), (.mv (.t 4)), none⟩, ⟨(some 37), (.slc 1 (.t 35) none (some (.t 36)) none), none⟩, ⟨(some 39), (.mv (.t 0)), none⟩, ⟨(some 40), (.mv (.t 6)), none⟩, ⟨(some 41), (.ia 1 (.t 39) (.t 40)), none⟩, ⟨(some 42), (.ld1 (.t 41)), none⟩, ⟨(some 43), (.mv (.t 4)), none⟩, ⟨(some 44), (.bin .add (.t 43) (.c (.int .i64 1))), none⟩, ⟨(some 45), (.slc 1 (.t 42) (some (.t 44)) none none), none⟩, ⟨(some 38), (.call (.f 88) [(.t 37)]), none⟩, ⟨(some 46), (.app 2 1 8 [(.int .i64 0)] (.t 38) (.t 45)), none⟩, ⟨(some 47), (.lit 29 1 1 [.nilsl] [(0, (.t 46))]), none⟩, ⟨(some 48), (.app 29 1 24 [.nilsl] (.t 31) (.t 47)), none⟩, ⟨(some 5), (.mv (.t 48)), none⟩])) (.reg false [⟨(some 29), (.mv (.t 6)), none⟩, ⟨(some 30), (.bin .add (.t 29) (.c (.int .i64 1))), none⟩, ⟨(some 6), (.mv (.t 30)), none⟩])))))) (.seq (.reg true [⟨(some 49), (.mv (.t 0)), none⟩, ⟨(some 50), (.ia 1 (.t 49) (.c (.int .i64 0))), none⟩, ⟨(some 51), (.ld1 (.t 50)), none⟩, ⟨(some 52), (.mv (.t 4)), none⟩, ⟨(some 53), (.ia 1 (.t 51) (.t 52)), none⟩, ⟨(some 54), (.ld1 (.t 53)), none⟩, ⟨(some 55), (.mv (.t 5)), none⟩, ⟨(some 56), (.call (.f 114) [(.t 55)]), none⟩, ⟨(some 57), (.bin .mul (.t 54) (.t 56)), none⟩, ⟨(some 7), (.mv (.t 57)), none⟩]) (.seq (.seq (.reg false [⟨(some 58), (.mv (.t 4)), none⟩, ⟨(some 59), (.bin .rem (.t 58) (.c (.int .i64 2))), none⟩, ⟨(some 60), (.bin .eql (.t 59) (.c (.int .i64 1))), none⟩]) (.cond (.t 60) (.reg false [⟨(some 61), (.mv (.t 7)), none⟩, ⟨(some 62), (.un .neg (.t 61)), none⟩, ⟨(some 7), (.mv (.t 62)), none⟩]) .skip)) (.reg false [⟨(some 63), (.mv (.t 3)), none⟩, ⟨(some 64), (.mv (.t 7)), none⟩, ⟨(some 65), (.bin .add (.t 63) (.t 64)), none⟩, ⟨(some 3), (.mv (.t 65)), none⟩]))))))) (.reg false [⟨(some 15), (.mv (.t 4)), none⟩, ⟨(some 16), (.bin .add (.t 15) (.c (.int .i64 1))), none⟩, ⟨(some 4), (.mv (.t 16)), none⟩])))))) (.seq (.reg false [⟨(some 66), (.mv (.t 3)), none⟩, ⟨(some 2), (.mv (.t 66)), none⟩]) .ret))))), 67, [(.t 2)]⟩
theorem k_spec_l01Det : compF Try.prog Try.f114 = some c_spec_l01Det := by kernel_rfl

theorem spec_l01OwnA {w : Bool} {lo hi : Nat} {h : AH} {v : AV} {l : List Int} (s : Ints w lo hi h v l) (hl : l.length ≤ 1048576) (n : Nat) (hn : hi ≤ n) :
    FQ Try.prog 88 [v] h n fun v' h' n' => Acc n n' h' 2 1 v' (ints l) := by
  refine fq_intro Try.func88 k_spec_l01Own ?_
  simp (maxSteps := 2000000) -implicitDefEqProofs (disch := omega) only [c_spec_l01Own, xsW, xsC, if_true, if_false, ite_true, ite_false, forall_const, ne_eq, beq_self_eq_true, bne_self_eq_false, imp_self, true_implies, false_implies, implies_true, evP, evE, ev, setD, Nat.reduceAdd, Nat.reduceSub, reduceCtorEq, fillA, cutA, Nat.reduceLeDiff, Nat.reduceMul, Int.reduceLT, Int.reduceLE, Int.reduceEq, Int.reduceNe, Int.reduceAdd, Int.reduceSub, Int.reduceMul, Int.reduceNeg, Int.reduceToNat]
  refine app_acc (lo := n) (Acc.empty (upd_same _ _ _) rfl (Nat.le_refl _) (by omega)) (Nat.le_refl _) (by omega) (Sl.src (s.keep (fun i _ hi9 => by simp (disch := omega) only [upd_other]))) (by rw [Sl.len s]) (ints_one l) (by rw [s.slen]; simp [slen]; omega) fun v' h' n' g1 g2 g3 g4 g5 g6 => ?_
  simp (maxSteps := 2000000) -implicitDefEqProofs (disch := omega) only [xsW, xsC, if_true, if_false, ite_true, ite_false, forall_const, ne_eq, beq_self_eq_true, bne_self_eq_false, imp_self, true_implies, false_implies, implies_true, evP, evE, ev, setD, Nat.reduceAdd, Nat.reduceSub, reduceCtorEq, fillA, cutA, Nat.reduceLeDiff, Nat.reduceMul, Int.reduceLT, Int.reduceLE, Int.reduceEq, Int.reduceNe, Int.reduceAdd, Int.reduceSub, Int.reduceMul, Int.reduceNeg, Int.reduceToNat]
  intro _ h2 hh
  exact g3.keep fun i a b => hh i a b
theorem ints_take (l : List Int) (k : Nat) : (ints l).take k = ints (l.take k) := by simp [ints]
theorem ints_drop (l : List Int) (k : Nat) : (ints l).drop k = ints (l.drop k) := by simp [ints]
theorem ints_append (l m : List Int) : ints l ++ ints m = ints (l ++ m) := by simp [ints]
theorem slen_ne {w : Bool} {lo hi : Nat} {h : AH} {v : AV} {l : List Int} (s : Ints w lo hi h v l) (hl : 0 < l.length) : v ≠ .sl0 ∧ v ≠ .nilsl := by
  have := s.slen
  constructor <;> intro e <;> (rw [e] at this; simp [slen] at this; omega)
theorem tm2 (k : Nat) : (k : Int).tmod 2 = ((k % 2 : Nat) : Int) := by rw [Int.tmod_eq_emod_of_nonneg (by omega)]; omega
/-- A row without the place k. -/
def cutRow (l : List Int) (k : Nat) : List Int := l.take k ++ l.drop (k + 1)
theorem cutRow_get (l : List Int) (k j : Nat) (hk : k < l.length) (hj : j + 1 < l.length) : (cutRow l k).getD j 0 = l.getD (sk k j) 0 := by
  unfold cutRow sk
  by_cases e : j < k
  · rw [if_pos e]
    simp only [List.getD, List.getElem?_append, List.length_take]
    rw [if_pos (by omega), List.getElem?_take, if_pos e]
  · rw [if_neg e]
    simp only [List.getD, List.getElem?_append, List.length_take]
    rw [if_neg (by omega), List.getElem?_drop]
    congr 2
    omega
theorem cutRow_len (l : List Int) (k : Nat) (hk : k < l.length) : (cutRow l k).length = l.length - 1 := by simp [cutRow]; omega
def restL (ll : List (List Int)) (k m : Nat) : List (List Int) := rowsOf m fun j => cutRow (ll.getD (j + 1) []) k
theorem restL_sq {n k : Nat} {ll : List (List Int)} (hs : Sq (n + 1) ll) (hk : k < n + 1) : Sq n (restL ll k n) := by
  refine ⟨rowsOf_len _ _, fun j hj => ?_⟩
  rw [restL, rowsOf_get hj, cutRow_len _ _ (by rw [hs.2 _ (by omega)]; exact hk), hs.2 _ (by omega)]; omega
theorem restL_at {n k : Nat} {ll : List (List Int)} (hs : Sq (n + 1) ll) (hk : k < n + 1) {r c : Nat} (hr : r < n) (hc : c < n) : mx (restL ll k n) r c = mi (mx ll) 0 k r c := by
  have h1 := hs.2 (r + 1) (by omega)
  simp only [mx, at2, mi, restL]
  rw [rowsOf_get hr, cutRow_get _ _ _ (by omega) (by omega)]
  rfl
theorem restL_lim {n k : Nat} {ll : List (List Int)} (hs : Sq (n + 1) ll) (hk : k < n + 1) (hl : ∃ q, Lim q (n + 1) (mx ll)) : ∃ q, Lim q n (mx (restL ll k n)) := by
  obtain ⟨q, hq⟩ := hl
  obtain ⟨q', h'⟩ := hq.sub (m := n) (sk 0) (sk k) (fun a ha => sk_lt ha) (fun a ha => sk_lt ha) (fun a b _ _ e => by unfold sk at e; grind)
  exact ⟨q', fun r c hr hc => by rw [restL_at hs hk hr hc]; exact h' r c hr hc⟩
theorem spec_l01Det (N : Nat) : ∀ {w : Bool} {lo hi : Nat} {h : AH} {v : AV} {vs : List AV} {ll : List (List Int)} (_ : Rows w lo hi h v vs ll) (_ : N ≤ 5) (_ : Sq N ll) (_ : ∃ q, Lim q N (mx ll)) (n : Nat) (_ : hi ≤ n),
    Q Try.prog 114 [v] h n (.int .i64 (det N (mx ll))) := by
  induction N with
  | zero =>
    intro w lo hi h v vs ll s hN hs hl n hn
    refine q_intro Try.func114 k_spec_l01Det ?_
    have hL := hs.1
    simp (maxSteps := 2000000) -implicitDefEqProofs (disch := omega) only [c_spec_l01Det, s.ln, xsW, xsC, if_true, if_false, ite_true, ite_false, forall_const, ne_eq, beq_self_eq_true, bne_self_eq_false, imp_self, true_implies, false_implies, implies_true, evP, evE, ev, setD, Nat.reduceAdd, Nat.reduceSub, reduceCtorEq, fillA, cutA, Nat.reduceLeDiff, Nat.reduceMul, Int.reduceLT, Int.reduceLE, Int.reduceEq, Int.reduceNe, Int.reduceAdd, Int.reduceSub, Int.reduceMul, Int.reduceNeg, Int.reduceToNat]
    simp [det]
  | succ N ih =>
    intro w lo hi h v vs ll s hN hs hl n hn
    refine q_intro Try.func114 k_spec_l01Det ?_
    have hL := hs.1
    obtain ⟨q, hq⟩ := hl
    have hT := Tm_le4 (n := N) (by omega)
    have term : ∀ k, k < N + 1 → 2 * (sg k * (mx ll) 0 k * det N (mi (mx ll) 0 k)).natAbs ≤ 12288000000 := fun k hk => by
      have := hq.term.2.2 k hk
      simp only [Nat.add_sub_cancel] at this
      omega
    have psum : ∀ k, k ≤ N + 1 → 2 * (sumTo k fun k => sg k * (mx ll) 0 k * det N (mi (mx ll) 0 k)).natAbs ≤ 61440000000 := fun k hk => by
      have := sumTo_abs (n := k) fun i hi => term i (by omega)
      omega
    simp (maxSteps := 2000000) -implicitDefEqProofs (disch := omega) only [c_spec_l01Det, s.ln, xsW, xsC, if_true, if_false, ite_true, ite_false, forall_const, ne_eq, beq_self_eq_true, bne_self_eq_false, imp_self, true_implies, false_implies, implies_true, evP, evE, ev, setD, Nat.reduceAdd, Nat.reduceSub, reduceCtorEq, fillA, cutA, Nat.reduceLeDiff, Nat.reduceMul, Int.reduceLT, Int.reduceLE, Int.reduceEq, Int.reduceNe, Int.reduceAdd, Int.reduceSub, Int.reduceMul, Int.reduceNeg, Int.reduceToNat]
    refine loop_for (N + 1) 0 (fun k _ => [v, .any, .int .i64 0, .int .i64 (sumTo k fun k => sg k * (mx ll) 0 k * det N (mi (mx ll) 0 k)), .int .i64 k, .any, .any, .any, .any, .any, .any, .any, .any, .any, .any, .any, .any, .any, .any, .any, .any, .any, .any, .any, .any, .any, .any, .any, .any, .any, .any, .any, .any, .any, .any, .any, .any, .any, .any, .any, .any, .any, .any, .any, .any, .any, .any, .any, .any, .any, .any, .any, .any, .any, .any, .any, .any, .any, .any, .any, .any, .any, .any, .any, .any, .any, .any]) (fun _ hp => hp)
      (fun k hp m => ∀ i, i < n → hp i = h i) h (Nat.zero_le _) (fun _ _ => rfl) (by simp [LeL, Le1, sumTo]) (fun _ _ h => h) ?_
    rintro k hp m - hk hm hold
    simp (maxSteps := 2000000) -implicitDefEqProofs (disch := omega) only [xsW, xsC, if_true, if_false, ite_true, ite_false, forall_const, ne_eq, beq_self_eq_true, bne_self_eq_false, imp_self, true_implies, false_implies, implies_true, evP, evE, ev, setD, Nat.reduceAdd, Nat.reduceSub, reduceCtorEq, fillA, cutA, Nat.reduceLeDiff, Nat.reduceMul, Int.reduceLT, Int.reduceLE, Int.reduceEq, Int.reduceNe, Int.reduceAdd, Int.reduceSub, Int.reduceMul, Int.reduceNeg, Int.reduceToNat,  s.ln]
    (refine cd_dec (fun c1 => ?_) (fun c1 => ?_) <;> simp (maxSteps := 2000000) -implicitDefEqProofs (disch := omega) only [xsW, xsC, if_true, if_false, ite_true, ite_false, forall_const, ne_eq, beq_self_eq_true, bne_self_eq_false, imp_self, true_implies, false_implies, implies_true, evP, evE, ev, setD, Nat.reduceAdd, Nat.reduceSub, reduceCtorEq, fillA, cutA, Nat.reduceLeDiff, Nat.reduceMul, Int.reduceLT, Int.reduceLE, Int.reduceEq, Int.reduceNe, Int.reduceAdd, Int.reduceSub, Int.reduceMul, Int.reduceNeg, Int.reduceToNat,  c1])
    · have hk2 : k < N + 1 := by omega
      have hb := s.out.below (by rw [s.slen]; omega)
      have hr0 := s.row 0 (by omega)
      have l0 := hs.2 0 (by omega)
      have hb0 := Sl.below hr0 (by rw [hr0.slen]; omega)
      have b1 := term k hk2
      have b2 := psum k hk
      have b3 := psum (k + 1) hk2
      rw [sumTo_succ] at b3
      simp (maxSteps := 2000000) -implicitDefEqProofs (disch := omega) only [xsW, xsC, if_true, if_false, ite_true, ite_false, forall_const, ne_eq, beq_self_eq_true, bne_self_eq_false, imp_self, true_implies, false_implies, implies_true, evP, evE, ev, setD, Nat.reduceAdd, Nat.reduceSub, reduceCtorEq, fillA, cutA, Nat.reduceLeDiff, Nat.reduceMul, Int.reduceLT, Int.reduceLE, Int.reduceEq, Int.reduceNe, Int.reduceAdd, Int.reduceSub, Int.reduceMul, Int.reduceNeg, Int.reduceToNat,  hold, s.ia, s.ld0, hr0.ia, hr0.ld]
      (refine cd_dec (fun c2 => ?_) (fun c2 => ?_) <;> simp (maxSteps := 2000000) -implicitDefEqProofs (disch := omega) only [xsW, xsC, if_true, if_false, ite_true, ite_false, forall_const, ne_eq, beq_self_eq_true, bne_self_eq_false, imp_self, true_implies, false_implies, implies_true, evP, evE, ev, setD, Nat.reduceAdd, Nat.reduceSub, reduceCtorEq, fillA, cutA, Nat.reduceLeDiff, Nat.reduceMul, Int.reduceLT, Int.reduceLE, Int.reduceEq, Int.reduceNe, Int.reduceAdd, Int.reduceSub, Int.reduceMul, Int.reduceNeg, Int.reduceToNat,  c2])
      · have e0 : mx ll 0 k = 0 := c2
        exact ⟨hp, hold, by omega, by omega, by simp [LeL, Le1, sumTo, e0], fun _ _ h => h⟩
      · refine loop_for (N + 1) 1 (fun i p => [v, .any, .int .i64 0, .int .i64 (sumTo k fun k => sg k * (mx ll) 0 k * det N (mi (mx ll) 0 k)), .int .i64 k, p.1, .int .i64 i, .any, .any, .any, .any, .any, .any, .any, .any, .any, .any, .any, .any, .any, .any, .any, .any, .any, .any, .any, .any, .any, .any, .any, .any, .any, .any, .any, .any, .any, .any, .any, .any, .any, .any, .any, .any, .any, .any, .any, .any, .any, .any, .any, .any, .any, .any, .any, .any, .any, .any, .any, .any, .any, .any, .any, .any, .any, .any, .any, .any]) (fun _ (p : AV × List AV × AH) => p.2.2)
          (fun i p m' => Grow m m' hp p.2.2 29 p.1 p.2.1 (restL ll k (i - 1))) (.sl m 0 0 0, [], _) (by omega) (Grow.start0 rfl) (by simp [LeL, Le1]) (fun _ _ h => h) ?_
        rintro i ⟨out, ws, hr⟩ mB hi1 hi2 hm2 g
        simp only at g
        have hold2 := g.old
        simp (maxSteps := 2000000) -implicitDefEqProofs (disch := omega) only [xsW, xsC, if_true, if_false, ite_true, ite_false, forall_const, ne_eq, beq_self_eq_true, bne_self_eq_false, imp_self, true_implies, false_implies, implies_true, evP, evE, ev, setD, Nat.reduceAdd, Nat.reduceSub, reduceCtorEq, fillA, cutA, Nat.reduceLeDiff, Nat.reduceMul, Int.reduceLT, Int.reduceLE, Int.reduceEq, Int.reduceNe, Int.reduceAdd, Int.reduceSub, Int.reduceMul, Int.reduceNeg, Int.reduceToNat,  s.ln]
        (refine cd_dec (fun c3 => ?_) (fun c3 => ?_) <;> simp (maxSteps := 2000000) -implicitDefEqProofs (disch := omega) only [xsW, xsC, if_true, if_false, ite_true, ite_false, forall_const, ne_eq, beq_self_eq_true, bne_self_eq_false, imp_self, true_implies, false_implies, implies_true, evP, evE, ev, setD, Nat.reduceAdd, Nat.reduceSub, reduceCtorEq, fillA, cutA, Nat.reduceLeDiff, Nat.reduceMul, Int.reduceLT, Int.reduceLE, Int.reduceEq, Int.reduceNe, Int.reduceAdd, Int.reduceSub, Int.reduceMul, Int.reduceNeg, Int.reduceToNat,  c3])
        · have hi3 : i < N + 1 := by omega
          have hri := s.row i (by omega)
          have li := hs.2 i hi3
          have hne := slen_ne hri (by omega)
          have hsl := hri.slen
          simp (maxSteps := 2000000) -implicitDefEqProofs (disch := omega) only [xsW, xsC, if_true, if_false, ite_true, ite_false, forall_const, ne_eq, beq_self_eq_true, bne_self_eq_false, imp_self, true_implies, false_implies, implies_true, evP, evE, ev, setD, Nat.reduceAdd, Nat.reduceSub, reduceCtorEq, fillA, cutA, Nat.reduceLeDiff, Nat.reduceMul, Int.reduceLT, Int.reduceLE, Int.reduceEq, Int.reduceNe, Int.reduceAdd, Int.reduceSub, Int.reduceMul, Int.reduceNeg, Int.reduceToNat,  hold2, hold, s.ia, s.ld]
          have hri2 := hri.keep (h' := hr) (fun i _ hi9 => by simp (disch := omega) only [upd_other, hold2, hold])
          refine Sl.shi hri2 hne.1 (by omega) (by omega) fun v1 hv1 _ _ => ?_
          rw [Nat.mul_one, ints_take] at hv1
          simp (maxSteps := 2000000) -implicitDefEqProofs (disch := omega) only [xsW, xsC, if_true, if_false, ite_true, ite_false, forall_const, ne_eq, beq_self_eq_true, bne_self_eq_false, imp_self, true_implies, false_implies, implies_true, evP, evE, ev, setD, Nat.reduceAdd, Nat.reduceSub, reduceCtorEq, fillA, cutA, Nat.reduceLeDiff, Nat.reduceMul, Int.reduceLT, Int.reduceLE, Int.reduceEq, Int.reduceNe, Int.reduceAdd, Int.reduceSub, Int.reduceMul, Int.reduceNeg, Int.reduceToNat,  hold2, hold, s.ia, s.ld]
          refine Sl.slo hri2 hne.1 (by omega) (by omega) fun v2 hv2 _ _ => ?_
          rw [Nat.mul_one, ints_drop] at hv2
          simp (maxSteps := 2000000) -implicitDefEqProofs (disch := omega) only [xsW, xsC, if_true, if_false, ite_true, ite_false, forall_const, ne_eq, beq_self_eq_true, bne_self_eq_false, imp_self, true_implies, false_implies, implies_true, evP, evE, ev, setD, Nat.reduceAdd, Nat.reduceSub, reduceCtorEq, fillA, cutA, Nat.reduceLeDiff, Nat.reduceMul, Int.reduceLT, Int.reduceLE, Int.reduceEq, Int.reduceNe, Int.reduceAdd, Int.reduceSub, Int.reduceMul, Int.reduceNeg, Int.reduceToNat]
          refine fq_use (spec_l01OwnA hv1 (by simp; omega) mB (by omega)) fun v3 h3 n3 hn3 hs3 a3 => ?_
          simp (maxSteps := 2000000) -implicitDefEqProofs (disch := omega) only [xsW, xsC, if_true, if_false, ite_true, ite_false, forall_const, ne_eq, beq_self_eq_true, bne_self_eq_false, imp_self, true_implies, false_implies, implies_true, evP, evE, ev, setD, Nat.reduceAdd, Nat.reduceSub, reduceCtorEq, fillA, cutA, Nat.reduceLeDiff, Nat.reduceMul, Int.reduceLT, Int.reduceLE, Int.reduceEq, Int.reduceNe, Int.reduceAdd, Int.reduceSub, Int.reduceMul, Int.reduceNeg, Int.reduceToNat]
          refine app_acc a3 (by omega) hn3 (Sl.src (Sl.keep hv2 (fun i _ hi9 => by simp (disch := omega) only [upd_other, hs3]))) (Sl.len hv2) (ints_one _) (by have h1 := a3.len; have h2 := Sl.len hv2; simp [ints] at h1 h2; omega) fun v4 h4 n4 q1 q2 q3 q4 q5 q6 => ?_
          rw [ints_append] at q3
          have o1 := one_any q3.any
          have o2 := sto_any q3.any
          have o3 := cel_any q3.any
          simp (maxSteps := 2000000) -implicitDefEqProofs (disch := omega) only [xsW, xsC, if_true, if_false, ite_true, ite_false, forall_const, ne_eq, beq_self_eq_true, bne_self_eq_false, imp_self, true_implies, false_implies, implies_true, evP, evE, ev, setD, Nat.reduceAdd, Nat.reduceSub, reduceCtorEq, fillA, cutA, Nat.reduceLeDiff, Nat.reduceMul, Int.reduceLT, Int.reduceLE, Int.reduceEq, Int.reduceNe, Int.reduceAdd, Int.reduceSub, Int.reduceMul, Int.reduceNeg, Int.reduceToNat,  o1, o2, o3]
          refine g.app (hB := upd h4 n4 _) (v1 := v4) (l := cutRow (ll.getD i []) k) (m1 := n4) ?_ (fun i hi9 => by simp (disch := omega) only [upd_other, q5, hs3]) (by omega) (by omega) (by omega) ⟨rfl, _, upd_same _ _ _, by simp, by simp [cutA]⟩ (by rw [restL, rowsOf_len]; omega) fun out' h' n' p1 p2 => ?_
          · have := (q3.sl.keep (h' := upd h4 n4 (some ⟨29, [v4], true, 0⟩)) (fun i _ hi9 => by simp (disch := omega) only [upd_other])).wide (lo' := mB) (hi' := n4) (by omega) (by omega)
            simpa [Ints, cutRow] using this
          · simp (maxSteps := 2000000) -implicitDefEqProofs (disch := omega) only [xsW, xsC, if_true, if_false, ite_true, ite_false, forall_const, ne_eq, beq_self_eq_true, bne_self_eq_false, imp_self, true_implies, false_implies, implies_true, evP, evE, ev, setD, Nat.reduceAdd, Nat.reduceSub, reduceCtorEq, fillA, cutA, Nat.reduceLeDiff, Nat.reduceMul, Int.reduceLT, Int.reduceLE, Int.reduceEq, Int.reduceNe, Int.reduceAdd, Int.reduceSub, Int.reduceMul, Int.reduceNeg, Int.reduceToNat]
            refine ⟨(out', ws ++ [v4], h'), ?_, by omega, by omega, (by simp [LeL, Le1]), fun _ _ h => h⟩
            have e : restL ll k (i + 1 - 1) = restL ll k (i - 1) ++ [cutRow (ll.getD i []) k] := by
              rw [show i + 1 - 1 = (i - 1) + 1 by omega, restL, rowsOf_succ, show i - 1 + 1 = i by omega]; rfl
            rw [e]; exact p2
        · have e : i - 1 = N := by omega
          rw [e] at g
          have hR := g.rowsOf (h2 := hr) fun _ _ _ => rfl
          simp (maxSteps := 2000000) -implicitDefEqProofs (disch := omega) only [xsW, xsC, if_true, if_false, ite_true, ite_false, forall_const, ne_eq, beq_self_eq_true, bne_self_eq_false, imp_self, true_implies, false_implies, implies_true, evP, evE, ev, setD, Nat.reduceAdd, Nat.reduceSub, reduceCtorEq, fillA, cutA, Nat.reduceLeDiff, Nat.reduceMul, Int.reduceLT, Int.reduceLE, Int.reduceEq, Int.reduceNe, Int.reduceAdd, Int.reduceSub, Int.reduceMul, Int.reduceNeg, Int.reduceToNat,  hold2, hold, s.ia, s.ld0, hr0.ia, hr0.ld]
          refine q_use (ih hR (by omega) (restL_sq hs hk2) (restL_lim hs hk2 ⟨q, hq⟩) mB (Nat.le_refl _)) fun n5 hn5 => ?_
          have eD : det N (mx (restL ll k N)) = det N (mi (mx ll) 0 k) := det_congr fun r c hr hc => restL_at hs hk2 hr hc
          rw [eD]
          have e1 : mx ll 0 k = (ll.getD 0 []).getD k 0 := rfl
          rw [e1, sg_even] at b1 b3
          by_cases e2 : k % 2 = 1
          · rw [if_pos e2] at b1 b3
            simp only [Int.neg_mul, Int.one_mul, Int.natAbs_neg] at b1 b3
            simp (maxSteps := 2000000) -implicitDefEqProofs (disch := omega) only [xsW, xsC, if_true, if_false, ite_true, ite_false, forall_const, ne_eq, beq_self_eq_true, bne_self_eq_false, imp_self, true_implies, false_implies, implies_true, evP, evE, ev, setD, Nat.reduceAdd, Nat.reduceSub, reduceCtorEq, fillA, cutA, Nat.reduceLeDiff, Nat.reduceMul, Int.reduceLT, Int.reduceLE, Int.reduceEq, Int.reduceNe, Int.reduceAdd, Int.reduceSub, Int.reduceMul, Int.reduceNeg, Int.reduceToNat,  tm2]
            refine ⟨hr, fun i hi => by rw [hold2 i (by omega), hold i hi], by omega, by omega, ?_, fun _ _ h => h⟩
            simp [LeL, Le1, sumTo, sg_even, e2, e1, Int.neg_mul]
          · rw [if_neg e2] at b1 b3
            simp only [Int.one_mul] at b1 b3
            simp (maxSteps := 2000000) -implicitDefEqProofs (disch := omega) only [xsW, xsC, if_true, if_false, ite_true, ite_false, forall_const, ne_eq, beq_self_eq_true, bne_self_eq_false, imp_self, true_implies, false_implies, implies_true, evP, evE, ev, setD, Nat.reduceAdd, Nat.reduceSub, reduceCtorEq, fillA, cutA, Nat.reduceLeDiff, Nat.reduceMul, Int.reduceLT, Int.reduceLE, Int.reduceEq, Int.reduceNe, Int.reduceAdd, Int.reduceSub, Int.reduceMul, Int.reduceNeg, Int.reduceToNat,  tm2]
            refine ⟨hr, fun i hi => by rw [hold2 i (by omega), hold i hi], by omega, by omega, ?_, fun _ _ h => h⟩
            simp [LeL, Le1, sumTo, sg_even, e2, e1, Int.neg_mul]
    · have e : k = N + 1 := by omega
      subst e
      rfl
end Go.Proofs.Ytkpibnhddhdooaa.L
