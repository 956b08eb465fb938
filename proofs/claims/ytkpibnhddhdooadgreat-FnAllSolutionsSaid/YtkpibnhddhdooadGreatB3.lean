/- Contracts: matrices made out of matrices, place by place. -/
import Derived.Test.YtkpibnhddhdooadGreatB2
set_option linter.unusedSimpArgs false
set_option linter.unusedVariables false
namespace Go.Proofs.YtkpibnhddhdooadGreat.L
open Go


theorem isMat_at {ll : List (List Int)} (h : isMat ll = true) {i k : Nat} (hi : i < ll.length) (hk : k < ll.length) : -20 ≤ at2 ll i k ∧ at2 ll i k ≤ 20 := by
  rw [isMat_iff] at h
  have h1 := h.2.2 i hi
  have h2 := h1.2
  rw [within_iff] at h2
  exact h2 k (by omega)
section
variable {w : Bool} {lo hi : Nat} {h : AH} {v : AV} {vs : List AV} {ll : List (List Int)}
end
def c_spec_l01Det : F := ⟨(.seq (.reg false [⟨some 2, .mv (.c (.int .i64 0)), none⟩]) (.seq (.seq (.reg false [⟨some 8, .mv (.t 0), none⟩, ⟨some 9, .len (.t 8), none⟩, ⟨some 10, .bin .eql (.t 9) (.c (.int .i64 0)), none⟩]) (.cond (.t 10) (.seq (.reg false [⟨some 2, .mv (.c (.int .i64 1)), none⟩]) .ret) .skip)) (.seq (.reg false [⟨some 3, .mv (.c (.int .i64 0)), none⟩]) (.seq (.seq (.reg false [⟨some 4, .mv (.c (.int .i64 0)), none⟩]) (.block 0 (.loop (.seq (.seq (.reg false [⟨some 11, .mv (.t 4), none⟩, ⟨some 12, .mv (.t 0), none⟩, ⟨some 13, .len (.t 12), none⟩, ⟨some 14, .bin .lss (.t 11) (.t 13), none⟩]) (.cond (.t 14) .skip (.exit 0))) (.seq (.block 1 (.seq (.seq (.reg false [⟨some 17, .mv (.t 0), none⟩, ⟨some 18, .ia 1 (.t 17) (.c (.int .i64 0)), none⟩, ⟨some 19, .ld1 (.t 18), none⟩, ⟨some 20, .mv (.t 4), none⟩, ⟨some 21, .ia 1 (.t 19) (.t 20), none⟩, ⟨some 22, .ld1 (.t 21), none⟩, ⟨some 23, .bin .eql (.t 22) (.c (.int .i64 0)), none⟩]) (.cond (.t 23) (.exit 1) .skip)) (.seq (.reg false [⟨some 24, .lit 23 1 0 [.nilsl] [], none⟩, ⟨some 5, .mv (.t 24), none⟩]) (.seq (.seq (.reg false [⟨some 6, .mv (.c (.int .i64 1)), none⟩]) (.block 2 (.loop (.seq (.seq (.reg false [⟨some 25, .mv (.t 6), none⟩, ⟨some 26, .mv (.t 0), none⟩, ⟨some 27, .len (.t 26), none⟩, ⟨some 28, .bin .lss (.t 25) (.t 27), none⟩]) (.cond (.t 28) .skip (.exit 2))) (.seq (.block 3 (.reg true [⟨some 31, .mv (.t 5), none⟩, ⟨some 32, .mv (.t 0), none⟩, ⟨some 33, .mv (.t 6), none⟩, ⟨some 34, .ia 1 (.t 32) (.t 33), none⟩, ⟨some 35, .ld1 (.t 34), none⟩, ⟨some 36, .mv (.t 4), none⟩, ⟨some 37, .slc 1 (.t 35) none (some (.t 36)) none, none⟩, ⟨some 39, .mv (.t 0), none⟩, ⟨some 40, .mv (.t 6), none⟩, ⟨some 41, .ia 1 (.t 39) (.t 40), none⟩, ⟨some 42, .ld1 (.t 41), none⟩, ⟨some 43, .mv (.t 4), none⟩, ⟨some 44, .bin .add (.t 43) (.c (.int .i64 1)), none⟩, ⟨some 45, .slc 1 (.t 42) (some (.t 44)) none none, none⟩, ⟨some 38, .call (.f 132) [(.t 37)], none⟩, ⟨some 46, .app 2 1 8 [(.int .i64 0)] (.t 38) (.t 45), none⟩, ⟨some 47, .lit 23 1 1 [.nilsl] [(0, (.t 46))], none⟩, ⟨some 48, .app 23 1 24 [.nilsl] (.t 31) (.t 47), none⟩, ⟨some 5, .mv (.t 48), none⟩])) (.reg false [⟨some 29, .mv (.t 6), none⟩, ⟨some 30, .bin .add (.t 29) (.c (.int .i64 1)), none⟩, ⟨some 6, .mv (.t 30), none⟩])))))) (.seq (.reg true [⟨some 49, .mv (.t 0), none⟩, ⟨some 50, .ia 1 (.t 49) (.c (.int .i64 0)), none⟩, ⟨some 51, .ld1 (.t 50), none⟩, ⟨some 52, .mv (.t 4), none⟩, ⟨some 53, .ia 1 (.t 51) (.t 52), none⟩, ⟨some 54, .ld1 (.t 53), none⟩, ⟨some 55, .mv (.t 5), none⟩, ⟨some 56, .call (.f 149) [(.t 55)], none⟩, ⟨some 57, .bin .mul (.t 54) (.t 56), none⟩, ⟨some 7, .mv (.t 57), none⟩]) (.seq (.seq (.reg false [⟨some 58, .mv (.t 4), none⟩, ⟨some 59, .bin .rem (.t 58) (.c (.int .i64 2)), none⟩, ⟨some 60, .bin .eql (.t 59) (.c (.int .i64 1)), none⟩]) (.cond (.t 60) (.reg false [⟨some 61, .mv (.t 7), none⟩, ⟨some 62, .un .neg (.t 61), none⟩, ⟨some 7, .mv (.t 62), none⟩]) .skip)) (.reg false [⟨some 63, .mv (.t 3), none⟩, ⟨some 64, .mv (.t 7), none⟩, ⟨some 65, .bin .add (.t 63) (.t 64), none⟩, ⟨some 3, .mv (.t 65), none⟩]))))))) (.reg false [⟨some 15, .mv (.t 4), none⟩, ⟨some 16, .bin .add (.t 15) (.c (.int .i64 1)), none⟩, ⟨some 4, .mv (.t 16), none⟩])))))) (.seq (.reg false [⟨some 66, .mv (.t 3), none⟩, ⟨some 2, .mv (.t 66), none⟩]) .ret))))), 67, [(.t 2)]⟩
theorem k_spec_l01Det : compF Tryz.prog Tryz.f149 = some c_spec_l01Det := by kernel_rfl

theorem spec_l01OwnA {w : Bool} {lo hi : Nat} {h : AH} {v : AV} {l : List Int} (s : Ints w lo hi h v l) (hl : l.length ≤ 1048576) (n : Nat) (hn : hi ≤ n) :
    FQ Tryz.prog 132 [v] h n fun v' h' n' => Acc n n' h' 2 1 v' (ints l) := by
  refine fq_intro Tryz.func132 k_spec_l01Own ?_
  simp (maxSteps := 2000000) -implicitDefEqProofs (disch := omega) only [c_spec_l01Own, xsW, xsC, xsD, xsE, fillA, reduceCtorEq, Nat.reduceAdd, Nat.reduceSub, Nat.reduceLeDiff, Nat.reduceMul, Int.reduceLT, Int.reduceLE, Int.reduceEq, Int.reduceNe, Int.reduceAdd, Int.reduceSub, Int.reduceMul, Int.reduceNeg, Int.reduceToNat]
  refine app_acc (lo := n) (Acc.empty (upd_same _ _ _) rfl (Nat.le_refl _) (by omega)) (Nat.le_refl _) (by omega) (Sl.src (s.keep (fun i _ hi9 => by simp (disch := omega) only [upd_other]))) (by rw [Sl.len s]) (ints_one l) (by rw [s.slen]; simp [slen]; omega) fun v' h' n' g1 g2 g3 g4 g5 g6 => ?_
  simp (maxSteps := 2000000) -implicitDefEqProofs (disch := omega) only [xsW, xsC, xsD, xsE, fillA, reduceCtorEq, Nat.reduceAdd, Nat.reduceSub, Nat.reduceLeDiff, Nat.reduceMul, Int.reduceLT, Int.reduceLE, Int.reduceEq, Int.reduceNe, Int.reduceAdd, Int.reduceSub, Int.reduceMul, Int.reduceNeg, Int.reduceToNat]
  intro _ h2 hh
  exact g3.keep fun i a b => hh i a b
theorem ints_take (l : List Int) (k : Nat) : (ints l).take k = ints (l.take k) := by simp [ints]
theorem ints_drop (l : List Int) (k : Nat) : (ints l).drop k = ints (l.drop k) := by simp [ints]
theorem ints_append (l m : List Int) : ints l ++ ints m = ints (l ++ m) := by simp [ints]
theorem slen_ne {w : Bool} {lo hi : Nat} {h : AH} {v : AV} {l : List Int} (s : Ints w lo hi h v l) (hl : 0 < l.length) : v ≠ .sl0 ∧ v ≠ .nilsl := by
  have := s.slen
  constructor <;> intro e <;> (rw [e] at this; simp [slen] at this; omega)
theorem tm2 (k : Nat) : (k : Int).tmod 2 = ((k % 2 : Nat) : Int) := by rw [Int.tmod_eq_emod_of_nonneg (by omega)]; omega
def cutRow (l : List Int) (k : Nat) : List Int := l.take k ++ l.drop (k + 1)
theorem cutRow_get (l : List Int) (k j : Nat) (hk : k < l.length) (hj : j + 1 < l.length) : (cutRow l k).getD j 0 = l.getD (sk k j) 0 := by
  unfold cutRow sk
  by_cases e : j < k
  · rw [if_pos e]
    simp only [List.getD, List.getElem?_append, List.length_take]
    rw [if_pos (by omega), List.getElem?_take, if_pos e]
  · rw [if_neg e]
    simp only [List.getD, List.getElem?_append, List.length_take]
    rw [if_neg (by omega), List.getElem?_drop]
    congr 2
    omega
theorem cutRow_len (l : List Int) (k : Nat) (hk : k < l.length) : (cutRow l k).length = l.length - 1 := by simp [cutRow]; omega
def restL (ll : List (List Int)) (k m : Nat) : List (List Int) := rowsOf m fun j => cutRow (ll.getD (j + 1) []) k
theorem restL_sq {n k : Nat} {ll : List (List Int)} (hs : Sq (n + 1) ll) (hk : k < n + 1) : Sq n (restL ll k n) := by
  refine ⟨rowsOf_len _ _, fun j hj => ?_⟩
  rw [restL, rowsOf_get hj, cutRow_len _ _ (by rw [hs.2 _ (by omega)]; exact hk), hs.2 _ (by omega)]; omega
theorem restL_at {n k : Nat} {ll : List (List Int)} (hs : Sq (n + 1) ll) (hk : k < n + 1) {r c : Nat} (hr : r < n) (hc : c < n) : mx (restL ll k n) r c = mi (mx ll) 0 k r c := by
  have h1 := hs.2 (r + 1) (by omega)
  simp only [mx, at2, mi, restL]
  rw [rowsOf_get hr, cutRow_get _ _ _ (by omega) (by omega)]
  rfl
theorem restL_lim {n k : Nat} {ll : List (List Int)} (hs : Sq (n + 1) ll) (hk : k < n + 1) (hl : ∃ q, Lim q (n + 1) (mx ll)) : ∃ q, Lim q n (mx (restL ll k n)) := by
  obtain ⟨q, hq⟩ := hl
  obtain ⟨q', h'⟩ := hq.sub (m := n) (sk 0) (sk k) (fun a ha => sk_lt ha) (fun a ha => sk_lt ha) (fun a b _ _ e => by unfold sk at e; grind)
  exact ⟨q', fun r c hr hc => by rw [restL_at hs hk hr hc]; exact h' r c hr hc⟩
theorem spec_l01Det (N : Nat) : ∀ {w : Bool} {lo hi : Nat} {h : AH} {v : AV} {vs : List AV} {ll : List (List Int)} (_ : Rows w lo hi h v vs ll) (_ : N ≤ 5) (_ : Sq N ll) (_ : ∃ q, Lim q N (mx ll)) (n : Nat) (_ : hi ≤ n),
    Q Tryz.prog 149 [v] h n (.int .i64 (det N (mx ll))) := by
  induction N with
  | zero =>
    intro w lo hi h v vs ll s hN hs hl n hn
    refine q_intro Tryz.func149 k_spec_l01Det ?_
    have hL := hs.1
    simp (maxSteps := 2000000) -implicitDefEqProofs (disch := omega) only [c_spec_l01Det, s.ln, xsW, xsC, xsD, xsE, fillA, reduceCtorEq, Nat.reduceAdd, Nat.reduceSub, Nat.reduceLeDiff, Nat.reduceMul, Int.reduceLT, Int.reduceLE, Int.reduceEq, Int.reduceNe, Int.reduceAdd, Int.reduceSub, Int.reduceMul, Int.reduceNeg, Int.reduceToNat]
    simp [det]
  | succ N ih =>
    intro w lo hi h v vs ll s hN hs hl n hn
    refine q_intro Tryz.func149 k_spec_l01Det ?_
    have hL := hs.1
    obtain ⟨q, hq⟩ := hl
    have hT := Tm_le4 (n := N) (by omega)
    have term : ∀ k, k < N + 1 → 2 * (sg k * (mx ll) 0 k * det N (mi (mx ll) 0 k)).natAbs ≤ 12288000000 := fun k hk => by
      have := hq.term.2.2 k hk
      simp only [Nat.add_sub_cancel] at this
      omega
    have psum : ∀ k, k ≤ N + 1 → 2 * (sumTo k fun k => sg k * (mx ll) 0 k * det N (mi (mx ll) 0 k)).natAbs ≤ 61440000000 := fun k hk => by
      have := sumTo_abs (n := k) fun i hi => term i (by omega)
      omega
    simp (maxSteps := 2000000) -implicitDefEqProofs (disch := omega) only [c_spec_l01Det, s.ln, xsW, xsC, xsD, xsE, fillA, reduceCtorEq, Nat.reduceAdd, Nat.reduceSub, Nat.reduceLeDiff, Nat.reduceMul, Int.reduceLT, Int.reduceLE, Int.reduceEq, Int.reduceNe, Int.reduceAdd, Int.reduceSub, Int.reduceMul, Int.reduceNeg, Int.reduceToNat]
    refine loop_for (N + 1) 0 (fun k _ => [v, .any, .int .i64 0, .int .i64 (sumTo k fun k => sg k * (mx ll) 0 k * det N (mi (mx ll) 0 k)), .int .i64 k, .any, .any, .any, .any, .any, .any, .any, .any, .any, .any, .any, .any, .any, .any, .any, .any, .any, .any, .any, .any, .any, .any, .any, .any, .any, .any, .any, .any, .any, .any, .any, .any, .any, .any, .any, .any, .any, .any, .any, .any, .any, .any, .any, .any, .any, .any, .any, .any, .any, .any, .any, .any, .any, .any, .any, .any, .any, .any, .any, .any, .any, .any]) (fun _ hp => hp)
      (fun k hp m => ∀ i, i < n → hp i = h i) h (Nat.zero_le _) (fun _ _ => rfl) (by simp [LeL, Le1, sumTo]) (fun _ _ h => h) ?_
    rintro k hp m - hk hm hold
    simp (maxSteps := 2000000) -implicitDefEqProofs (disch := omega) only [xsW, xsC, xsD, xsE, fillA, reduceCtorEq, Nat.reduceAdd, Nat.reduceSub, Nat.reduceLeDiff, Nat.reduceMul, Int.reduceLT, Int.reduceLE, Int.reduceEq, Int.reduceNe, Int.reduceAdd, Int.reduceSub, Int.reduceMul, Int.reduceNeg, Int.reduceToNat,  s.ln]
    (refine cd_dec (fun c1 => ?_) (fun c1 => ?_) <;> simp (maxSteps := 2000000) -implicitDefEqProofs (disch := omega) only [xsW, xsC, xsD, xsE, fillA, reduceCtorEq, Nat.reduceAdd, Nat.reduceSub, Nat.reduceLeDiff, Nat.reduceMul, Int.reduceLT, Int.reduceLE, Int.reduceEq, Int.reduceNe, Int.reduceAdd, Int.reduceSub, Int.reduceMul, Int.reduceNeg, Int.reduceToNat,  c1])
    · have hk2 : k < N + 1 := by omega
      have hb := s.out.below (by rw [s.slen]; omega)
      have hr0 := s.row 0 (by omega)
      have l0 := hs.2 0 (by omega)
      have hb0 := Sl.below hr0 (by rw [hr0.slen]; omega)
      have b1 := term k hk2
      have b2 := psum k hk
      have b3 := psum (k + 1) hk2
      rw [sumTo_succ] at b3
      simp (maxSteps := 2000000) -implicitDefEqProofs (disch := omega) only [xsW, xsC, xsD, xsE, fillA, reduceCtorEq, Nat.reduceAdd, Nat.reduceSub, Nat.reduceLeDiff, Nat.reduceMul, Int.reduceLT, Int.reduceLE, Int.reduceEq, Int.reduceNe, Int.reduceAdd, Int.reduceSub, Int.reduceMul, Int.reduceNeg, Int.reduceToNat,  hold, s.ia, s.ld0, hr0.ia, hr0.ld]
      (refine cd_dec (fun c2 => ?_) (fun c2 => ?_) <;> simp (maxSteps := 2000000) -implicitDefEqProofs (disch := omega) only [xsW, xsC, xsD, xsE, fillA, reduceCtorEq, Nat.reduceAdd, Nat.reduceSub, Nat.reduceLeDiff, Nat.reduceMul, Int.reduceLT, Int.reduceLE, Int.reduceEq, Int.reduceNe, Int.reduceAdd, Int.reduceSub, Int.reduceMul, Int.reduceNeg, Int.reduceToNat,  c2])
      · have e0 : mx ll 0 k = 0 := c2
        exact ⟨hp, hold, by omega, by omega, by simp [LeL, Le1, sumTo, e0], fun _ _ h => h⟩
      · refine loop_for (N + 1) 1 (fun i p => [v, .any, .int .i64 0, .int .i64 (sumTo k fun k => sg k * (mx ll) 0 k * det N (mi (mx ll) 0 k)), .int .i64 k, p.1, .int .i64 i, .any, .any, .any, .any, .any, .any, .any, .any, .any, .any, .any, .any, .any, .any, .any, .any, .any, .any, .any, .any, .any, .any, .any, .any, .any, .any, .any, .any, .any, .any, .any, .any, .any, .any, .any, .any, .any, .any, .any, .any, .any, .any, .any, .any, .any, .any, .any, .any, .any, .any, .any, .any, .any, .any, .any, .any, .any, .any, .any, .any]) (fun _ (p : AV × List AV × AH) => p.2.2)
          (fun i p m' => Grow m m' hp p.2.2 23 p.1 p.2.1 (restL ll k (i - 1))) (.sl m 0 0 0, [], _) (by omega) (Grow.start0 rfl) (by simp [LeL, Le1]) (fun _ _ h => h) ?_
        rintro i ⟨out, ws, hr⟩ mB hi1 hi2 hm2 g
        simp only at g
        have hold2 := g.old
        simp (maxSteps := 2000000) -implicitDefEqProofs (disch := omega) only [xsW, xsC, xsD, xsE, fillA, reduceCtorEq, Nat.reduceAdd, Nat.reduceSub, Nat.reduceLeDiff, Nat.reduceMul, Int.reduceLT, Int.reduceLE, Int.reduceEq, Int.reduceNe, Int.reduceAdd, Int.reduceSub, Int.reduceMul, Int.reduceNeg, Int.reduceToNat,  s.ln]
        (refine cd_dec (fun c3 => ?_) (fun c3 => ?_) <;> simp (maxSteps := 2000000) -implicitDefEqProofs (disch := omega) only [xsW, xsC, xsD, xsE, fillA, reduceCtorEq, Nat.reduceAdd, Nat.reduceSub, Nat.reduceLeDiff, Nat.reduceMul, Int.reduceLT, Int.reduceLE, Int.reduceEq, Int.reduceNe, Int.reduceAdd, Int.reduceSub, Int.reduceMul, Int.reduceNeg, Int.reduceToNat,  c3])
        · have hi3 : i < N + 1 := by omega
          have hri := s.row i (by omega)
          have li := hs.2 i hi3
          have hne := slen_ne hri (by omega)
          have hsl := hri.slen
          simp (maxSteps := 2000000) -implicitDefEqProofs (disch := omega) only [xsW, xsC, xsD, xsE, fillA, reduceCtorEq, Nat.reduceAdd, Nat.reduceSub, Nat.reduceLeDiff, Nat.reduceMul, Int.reduceLT, Int.reduceLE, Int.reduceEq, Int.reduceNe, Int.reduceAdd, Int.reduceSub, Int.reduceMul, Int.reduceNeg, Int.reduceToNat,  hold2, hold, s.ia, s.ld]
          have hri2 := hri.keep (h' := hr) (fun i _ hi9 => by simp (disch := omega) only [upd_other, hold2, hold])
          refine Sl.shi hri2 hne.1 (by omega) (by omega) fun v1 hv1 _ _ => ?_
          rw [Nat.mul_one, ints_take] at hv1
          simp (maxSteps := 2000000) -implicitDefEqProofs (disch := omega) only [xsW, xsC, xsD, xsE, fillA, reduceCtorEq, Nat.reduceAdd, Nat.reduceSub, Nat.reduceLeDiff, Nat.reduceMul, Int.reduceLT, Int.reduceLE, Int.reduceEq, Int.reduceNe, Int.reduceAdd, Int.reduceSub, Int.reduceMul, Int.reduceNeg, Int.reduceToNat,  hold2, hold, s.ia, s.ld]
          refine Sl.slo hri2 hne.1 (by omega) (by omega) fun v2 hv2 _ _ => ?_
          rw [Nat.mul_one, ints_drop] at hv2
          simp (maxSteps := 2000000) -implicitDefEqProofs (disch := omega) only [xsW, xsC, xsD, xsE, fillA, reduceCtorEq, Nat.reduceAdd, Nat.reduceSub, Nat.reduceLeDiff, Nat.reduceMul, Int.reduceLT, Int.reduceLE, Int.reduceEq, Int.reduceNe, Int.reduceAdd, Int.reduceSub, Int.reduceMul, Int.reduceNeg, Int.reduceToNat]
          refine fq_use (spec_l01OwnA hv1 (by simp; omega) mB (by omega)) fun v3 h3 n3 hn3 hs3 a3 => ?_
          simp (maxSteps := 2000000) -implicitDefEqProofs (disch := omega) only [xsW, xsC, xsD, xsE, fillA, reduceCtorEq, Nat.reduceAdd, Nat.reduceSub, Nat.reduceLeDiff, Nat.reduceMul, Int.reduceLT, Int.reduceLE, Int.reduceEq, Int.reduceNe, Int.reduceAdd, Int.reduceSub, Int.reduceMul, Int.reduceNeg, Int.reduceToNat]
          refine app_acc a3 (by omega) hn3 (Sl.src (Sl.keep hv2 (fun i _ hi9 => by simp (disch := omega) only [upd_other, hs3]))) (Sl.len hv2) (ints_one _) (by have h1 := a3.len; have h2 := Sl.len hv2; simp [ints] at h1 h2; omega) fun v4 h4 n4 q1 q2 q3 q4 q5 q6 => ?_
          rw [ints_append] at q3
          have o1 := one_any q3.any
          have o2 := sto_any q3.any
          have o3 := cel_any q3.any
          simp (maxSteps := 2000000) -implicitDefEqProofs (disch := omega) only [xsW, xsC, xsD, xsE, fillA, reduceCtorEq, Nat.reduceAdd, Nat.reduceSub, Nat.reduceLeDiff, Nat.reduceMul, Int.reduceLT, Int.reduceLE, Int.reduceEq, Int.reduceNe, Int.reduceAdd, Int.reduceSub, Int.reduceMul, Int.reduceNeg, Int.reduceToNat,  o1, o2, o3]
          refine g.app (hB := upd h4 n4 _) (v1 := v4) (l := cutRow (ll.getD i []) k) (m1 := n4) ?_ (fun i hi9 => by simp (disch := omega) only [upd_other, q5, hs3]) (by omega) (by omega) (by omega) ⟨rfl, _, upd_same _ _ _, by simp, by simp [cutA]⟩ (by rw [restL, rowsOf_len]; omega) fun out' h' n' p1 p2 => ?_
          · have := (q3.sl.keep (h' := upd h4 n4 (some ⟨23, [v4], true, 0⟩)) (fun i _ hi9 => by simp (disch := omega) only [upd_other])).wide (lo' := mB) (hi' := n4) (by omega) (by omega)
            simpa [Ints, cutRow] using this
          · simp (maxSteps := 2000000) -implicitDefEqProofs (disch := omega) only [xsW, xsC, xsD, xsE, fillA, reduceCtorEq, Nat.reduceAdd, Nat.reduceSub, Nat.reduceLeDiff, Nat.reduceMul, Int.reduceLT, Int.reduceLE, Int.reduceEq, Int.reduceNe, Int.reduceAdd, Int.reduceSub, Int.reduceMul, Int.reduceNeg, Int.reduceToNat]
            refine ⟨(out', ws ++ [v4], h'), ?_, by omega, by omega, (by simp [LeL, Le1]), fun _ _ h => h⟩
            have e : restL ll k (i + 1 - 1) = restL ll k (i - 1) ++ [cutRow (ll.getD i []) k] := by
              rw [show i + 1 - 1 = (i - 1) + 1 by omega, restL, rowsOf_succ, show i - 1 + 1 = i by omega]; rfl
            rw [e]; exact p2
        · have e : i - 1 = N := by omega
          rw [e] at g
          have hR := g.rowsOf (h2 := hr) fun _ _ _ => rfl
          simp (maxSteps := 2000000) -implicitDefEqProofs (disch := omega) only [xsW, xsC, xsD, xsE, fillA, reduceCtorEq, Nat.reduceAdd, Nat.reduceSub, Nat.reduceLeDiff, Nat.reduceMul, Int.reduceLT, Int.reduceLE, Int.reduceEq, Int.reduceNe, Int.reduceAdd, Int.reduceSub, Int.reduceMul, Int.reduceNeg, Int.reduceToNat,  hold2, hold, s.ia, s.ld0, hr0.ia, hr0.ld]
          refine q_use (ih hR (by omega) (restL_sq hs hk2) (restL_lim hs hk2 ⟨q, hq⟩) mB (Nat.le_refl _)) fun n5 hn5 => ?_
          have eD : det N (mx (restL ll k N)) = det N (mi (mx ll) 0 k) := det_congr fun r c hr hc => restL_at hs hk2 hr hc
          rw [eD]
          have e1 : mx ll 0 k = (ll.getD 0 []).getD k 0 := rfl
          rw [e1, sg_even] at b1 b3
          by_cases e2 : k % 2 = 1
          · rw [if_pos e2] at b1 b3
            simp only [Int.neg_mul, Int.one_mul, Int.natAbs_neg] at b1 b3
            simp (maxSteps := 2000000) -implicitDefEqProofs (disch := omega) only [xsW, xsC, xsD, xsE, fillA, reduceCtorEq, Nat.reduceAdd, Nat.reduceSub, Nat.reduceLeDiff, Nat.reduceMul, Int.reduceLT, Int.reduceLE, Int.reduceEq, Int.reduceNe, Int.reduceAdd, Int.reduceSub, Int.reduceMul, Int.reduceNeg, Int.reduceToNat,  tm2]
            refine ⟨hr, fun i hi => by rw [hold2 i (by omega), hold i hi], by omega, by omega, ?_, fun _ _ h => h⟩
            simp [LeL, Le1, sumTo, sg_even, e2, e1, Int.neg_mul]
          · rw [if_neg e2] at b1 b3
            simp only [Int.one_mul] at b1 b3
            simp (maxSteps := 2000000) -implicitDefEqProofs (disch := omega) only [xsW, xsC, xsD, xsE, fillA, reduceCtorEq, Nat.reduceAdd, Nat.reduceSub, Nat.reduceLeDiff, Nat.reduceMul, Int.reduceLT, Int.reduceLE, Int.reduceEq, Int.reduceNe, Int.reduceAdd, Int.reduceSub, Int.reduceMul, Int.reduceNeg, Int.reduceToNat,  tm2]
            refine ⟨hr, fun i hi => by rw [hold2 i (by omega), hold i hi], by omega, by omega, ?_, fun _ _ h => h⟩
            simp [LeL, Le1, sumTo, sg_even, e2, e1, Int.neg_mul]
    · have e : k = N + 1 := by omega
      subst e
      rfl
def c_impl_determinant : F := ⟨(.seq (.reg false [⟨some 2, .mv (.c (.int .i64 0)), none⟩]) (.seq (.reg false [⟨some 12, .mv (.t 0), none⟩, ⟨some 13, .call (.f 138) [(.t 12)], none⟩, ⟨some 3, .mv (.t 13), none⟩]) (.seq (.reg false [⟨some 4, .mv (.c (.int .i64 1)), none⟩, ⟨some 5, .mv (.c (.int .i64 1)), none⟩]) (.seq (.seq (.reg false [⟨some 14, .mv (.t 3), none⟩, ⟨some 15, .len (.t 14), none⟩, ⟨some 16, .mv (.c (.int .i64 0)), none⟩]) (.block 0 (.loop (.seq (.reg false [⟨some 17, .bin .lss (.t 16) (.t 15), none⟩]) (.seq (.cond (.t 17) .skip (.exit 0)) (.seq (.block 1 (.seq (.reg false [⟨some 18, .mv (.t 16), none⟩, ⟨some 6, .alloc 3 [(.int .i64 0)], none⟩, ⟨none, .st 1 (.t 6) (.t 18), none⟩]) (.seq (.reg false [⟨some 19, .mv (.t 3), none⟩, ⟨some 20, .ld1 (.t 6), none⟩, ⟨some 21, .slc 1 (.t 19) (some (.t 20)) none none, none⟩, ⟨some 22, .mkf 152 [(.t 6)], none⟩, ⟨some 23, .call (.f 151) [(.t 21), (.t 22)], none⟩, ⟨some 7, .mv (.t 23), none⟩]) (.seq (.seq (.reg false [⟨some 24, .mv (.t 7), none⟩, ⟨some 25, .bin .lss (.t 24) (.c (.int .i64 0)), none⟩]) (.cond (.t 25) (.seq (.reg false [⟨some 2, .mv (.c (.int .i64 0)), none⟩]) .ret) .skip)) (.seq (.seq (.reg false [⟨some 26, .mv (.t 7), none⟩, ⟨some 27, .bin .gtr (.t 26) (.c (.int .i64 0)), none⟩]) (.cond (.t 27) (.seq (.seq (.reg true [⟨some 28, .mv (.t 3), none⟩, ⟨some 29, .ld1 (.t 6), none⟩, ⟨some 30, .mv (.t 3), none⟩, ⟨some 31, .ld1 (.t 6), none⟩, ⟨some 32, .mv (.t 7), none⟩, ⟨some 33, .bin .add (.t 31) (.t 32), none⟩, ⟨some 34, .mv (.t 3), none⟩, ⟨some 35, .ld1 (.t 6), none⟩, ⟨some 36, .mv (.t 7), none⟩, ⟨some 37, .bin .add (.t 35) (.t 36), none⟩, ⟨some 38, .ia 1 (.t 34) (.t 37), none⟩, ⟨some 39, .ld1 (.t 38), none⟩, ⟨some 40, .mv (.t 3), none⟩, ⟨some 41, .ld1 (.t 6), none⟩, ⟨some 42, .ia 1 (.t 40) (.t 41), none⟩, ⟨some 43, .ld1 (.t 42), none⟩, ⟨some 44, .ia 1 (.t 28) (.t 29), none⟩, ⟨none, .st 1 (.t 44) (.t 39), none⟩, ⟨some 45, .ia 1 (.t 30) (.t 33), none⟩, ⟨none, .st 1 (.t 45) (.t 43), none⟩]) (.chk [((.t 44), (.t 6))])) (.reg false [⟨some 46, .mv (.t 5), none⟩, ⟨some 47, .un .neg (.t 46), none⟩, ⟨some 5, .mv (.t 47), none⟩])) .skip)) (.seq (.seq (.reg false [⟨some 48, .mv (.t 3), none⟩, ⟨some 49, .ld1 (.t 6), none⟩, ⟨some 50, .bin .add (.t 49) (.c (.int .i64 1)), none⟩, ⟨some 51, .slc 1 (.t 48) (some (.t 50)) none none, none⟩, ⟨some 52, .len (.t 51), none⟩, ⟨some 53, .mv (.c (.int .i64 0)), none⟩]) (.block 2 (.loop (.seq (.reg false [⟨some 54, .bin .lss (.t 53) (.t 52), none⟩]) (.seq (.cond (.t 54) .skip (.exit 2)) (.seq (.block 3 (.seq (.reg false [⟨some 55, .ia 1 (.t 51) (.t 53), none⟩, ⟨some 56, .ld1 (.t 55), none⟩, ⟨some 9, .mv (.t 56), none⟩]) (.seq (.reg false [⟨some 57, .mv (.t 9), none⟩, ⟨some 58, .ld1 (.t 6), none⟩, ⟨some 59, .ia 1 (.t 57) (.t 58), none⟩, ⟨some 60, .ld1 (.t 59), none⟩, ⟨some 10, .mv (.t 60), none⟩]) (.seq (.reg false [⟨some 61, .ld1 (.t 6), none⟩, ⟨some 11, .mv (.t 61), none⟩]) (.block 4 (.loop (.seq (.seq (.reg false [⟨some 62, .mv (.t 11), none⟩, ⟨some 63, .mv (.t 9), none⟩, ⟨some 64, .len (.t 63), none⟩, ⟨some 65, .bin .lss (.t 62) (.t 64), none⟩]) (.cond (.t 65) .skip (.exit 4))) (.seq (.block 5 (.reg true [⟨some 68, .mv (.t 9), none⟩, ⟨some 69, .mv (.t 11), none⟩, ⟨some 70, .mv (.t 9), none⟩, ⟨some 71, .mv (.t 11), none⟩, ⟨some 72, .ia 1 (.t 70) (.t 71), none⟩, ⟨some 73, .ld1 (.t 72), none⟩, ⟨some 74, .mv (.t 3), none⟩, ⟨some 75, .ld1 (.t 6), none⟩, ⟨some 76, .ia 1 (.t 74) (.t 75), none⟩, ⟨some 77, .ld1 (.t 76), none⟩, ⟨some 78, .ld1 (.t 6), none⟩, ⟨some 79, .ia 1 (.t 77) (.t 78), none⟩, ⟨some 80, .ld1 (.t 79), none⟩, ⟨some 81, .bin .mul (.t 73) (.t 80), none⟩, ⟨some 82, .mv (.t 10), none⟩, ⟨some 83, .mv (.t 3), none⟩, ⟨some 84, .ld1 (.t 6), none⟩, ⟨some 85, .ia 1 (.t 83) (.t 84), none⟩, ⟨some 86, .ld1 (.t 85), none⟩, ⟨some 87, .mv (.t 11), none⟩, ⟨some 88, .ia 1 (.t 86) (.t 87), none⟩, ⟨some 89, .ld1 (.t 88), none⟩, ⟨some 90, .bin .mul (.t 82) (.t 89), none⟩, ⟨some 91, .bin .sub (.t 81) (.t 90), none⟩, ⟨some 92, .mv (.t 4), none⟩, ⟨some 93, .bin .quo (.t 91) (.t 92), none⟩, ⟨some 94, .ia 1 (.t 68) (.t 69), none⟩, ⟨none, .st 1 (.t 94) (.t 93), none⟩])) (.reg false [⟨some 66, .mv (.t 11), none⟩, ⟨some 67, .bin .add (.t 66) (.c (.int .i64 1)), none⟩, ⟨some 11, .mv (.t 67), none⟩]))))))))) (.reg false [⟨some 95, .bin .add (.t 53) (.c (.int .i64 1)), none⟩, ⟨some 53, .mv (.t 95), none⟩]))))))) (.reg true [⟨some 96, .mv (.t 3), none⟩, ⟨some 97, .ld1 (.t 6), none⟩, ⟨some 98, .ia 1 (.t 96) (.t 97), none⟩, ⟨some 99, .ld1 (.t 98), none⟩, ⟨some 100, .ld1 (.t 6), none⟩, ⟨some 101, .ia 1 (.t 99) (.t 100), none⟩, ⟨some 102, .ld1 (.t 101), none⟩, ⟨some 4, .mv (.t 102), none⟩]))))))) (.reg false [⟨some 103, .bin .add (.t 16) (.c (.int .i64 1)), none⟩, ⟨some 16, .mv (.t 103), none⟩]))))))) (.seq (.reg false [⟨some 104, .mv (.t 5), none⟩, ⟨some 105, .mv (.t 4), none⟩, ⟨some 106, .bin .mul (.t 104) (.t 105), none⟩, ⟨some 2, .mv (.t 106), none⟩]) .ret))))), 107, [(.t 2)]⟩
theorem k_impl_determinant : compF Tryz.prog Tryz.f137 = some c_impl_determinant := by kernel_rfl
def c_impl_determinant_1 : F := ⟨(.seq (.reg false [⟨some 3, .mv (.c (.bool false)), none⟩]) (.seq (.reg false [⟨some 4, .mv (.t 0), none⟩, ⟨some 5, .ld1 (.t 1), none⟩, ⟨some 6, .ia 1 (.t 4) (.t 5), none⟩, ⟨some 7, .ld1 (.t 6), none⟩, ⟨some 8, .bin .neq (.t 7) (.c (.int .i64 0)), none⟩, ⟨some 3, .mv (.t 8), none⟩]) .ret)), 9, [(.t 3)]⟩
theorem k_impl_determinant_1 : compF Tryz.prog Tryz.f152 = some c_impl_determinant_1 := by kernel_rfl

def swL (ll : List (List Int)) (i j : Nat) : List (List Int) := (ll.set i (ll.getD j [])).set j (ll.getD i [])
theorem swL_len (ll : List (List Int)) (i j : Nat) : (swL ll i j).length = ll.length := by simp [swL]
theorem set2_get {α : Type} (l : List α) (d : α) (i j k : Nat) (hk : k < l.length) : ((l.set i (l.getD j d)).set j (l.getD i d)).getD k d = l.getD (swp i j k) d := by
  rw [getD_set, getD_set]
  simp only [List.length_set]
  unfold swp
  by_cases e1 : j = k
  · subst e1
    rw [if_pos ⟨rfl, hk⟩]
    by_cases e2 : j = i
    · subst e2; simp
    · rw [if_neg e2, if_pos rfl]
  · rw [if_neg fun h => e1 h.1]
    by_cases e2 : i = k
    · subst e2
      rw [if_pos ⟨rfl, hk⟩, if_pos rfl]
    · rw [if_neg fun h => e2 h.1, if_neg fun h => e2 h.symm, if_neg fun h => e1 h.symm]
theorem swL_get (ll : List (List Int)) (i j k : Nat) (hk : k < ll.length) : (swL ll i j).getD k [] = ll.getD (swp i j k) [] := set2_get ll [] i j k hk
theorem swp_lt {n i j k : Nat} (hi : i < n) (hj : j < n) (hk : k < n) : swp i j k < n := by unfold swp; split <;> (try split) <;> omega
theorem swp_inj {i j a b : Nat} (h : swp i j a = swp i j b) : a = b := by unfold swp at h; grind
theorem Rows.swap {lo hi : Nat} {h h2 : AH} {v : AV} {vs vs' : List AV} {ll : List (List Int)} (s : Rows true lo hi h v vs ll) {i j : Nat} (hi' : i < ll.length) (hj : j < ll.length) (hout : Sl true lo hi h2 1 v vs') (hh : ∀ k, k ≠ bid v → h2 k = h k)
    (hv : ∀ k, k < ll.length → vs'.getD k .any = vs.getD (swp i j k) .any) (hvl : vs'.length = vs.length) : Rows true lo hi h2 v vs' (swL ll i j) := by
  refine ⟨hout, ⟨by rw [swL_len, hvl, s.len], fun k hk => ?_, fun _ a b ha hb hne h1 h2 => ?_⟩, fun _ k hk h1 => ?_⟩
  · rw [swL_len] at hk
    rw [hv k hk, swL_get _ _ _ _ hk]
    have := swp_lt hi' hj hk
    exact Sl.keep1 (s.row _ this) fun hs => hh _ (s.outer rfl _ this hs)
  · rw [swL_len] at ha hb
    rw [hv a ha] at h1 ⊢
    rw [hv b hb] at h2 ⊢
    exact s.rows.apart rfl _ _ (swp_lt hi' hj ha) (swp_lt hi' hj hb) (fun e => hne (swp_inj e)) h1 h2
  · rw [swL_len] at hk
    rw [hv k hk] at h1 ⊢
    exact s.outer rfl _ (swp_lt hi' hj hk) h1
theorem impl_determinant1 {w : Bool} {lo hi : Nat} {h : AH} {v : AV} {l : List Int} (s : Ints w lo hi h v l) {i b n : Nat} {op : Nat} {wr : Bool} {ty : Nat} (hb : h b = some ⟨ty, [.int .i64 i], wr, op⟩) (hi2 : i < l.length) :
    Q Tryz.prog 152 [v, .ptr b 0] h n (.bool (decide (¬ l.getD i 0 = 0))) := by
  refine q_intro Tryz.func152 k_impl_determinant_1 ?_
  simp (maxSteps := 2000000) -implicitDefEqProofs (disch := omega) only [c_impl_determinant_1, hb, s.ia, s.ld, xsW, xsC, xsD, xsE, fillA, reduceCtorEq, Nat.reduceAdd, Nat.reduceSub, Nat.reduceLeDiff, Nat.reduceMul, Int.reduceLT, Int.reduceLE, Int.reduceEq, Int.reduceNe, Int.reduceAdd, Int.reduceSub, Int.reduceMul, Int.reduceNeg, Int.reduceToNat]
set_option maxHeartbeats 4000000 in
theorem impl_determinant (N : Nat) {lo hi : Nat} {h : AH} {v : AV} {vs : List AV} {ll : List (List Int)} (s : Rows true lo hi h v vs ll) (hN : N ≤ 5) (hs : Sq N ll) (hl : ∃ q, Lim q N (mx ll)) (n : Nat) (hn : hi ≤ n) :
    Q Tryz.prog 137 [v] h n (.int .i64 (det N (mx ll))) := by
  refine q_intro Tryz.func137 k_impl_determinant ?_
  have hL := hs.1
  simp (maxSteps := 2000000) -implicitDefEqProofs (disch := omega) only [c_impl_determinant, xsW, xsC, xsD, xsE, fillA, reduceCtorEq, Nat.reduceAdd, Nat.reduceSub, Nat.reduceLeDiff, Nat.reduceMul, Int.reduceLT, Int.reduceLE, Int.reduceEq, Int.reduceNe, Int.reduceAdd, Int.reduceSub, Int.reduceMul, Int.reduceNeg, Int.reduceToNat]
  refine fq_use (impl_copyRows s (by omega) (fun l hm => by
    obtain ⟨k, hk, rfl⟩ := List.mem_iff_getElem.1 hm
    have := hs.2 k (by omega)
    simp [List.getD, hk] at this
    omega) n hn) fun o h0 n0 hn0 hs0 ⟨ws, ho⟩ => ?_
  simp (maxSteps := 2000000) -implicitDefEqProofs (disch := omega) only [xsW, xsC, xsD, xsE, fillA, reduceCtorEq, Nat.reduceAdd, Nat.reduceSub, Nat.reduceLeDiff, Nat.reduceMul, Int.reduceLT, Int.reduceLE, Int.reduceEq, Int.reduceNe, Int.reduceAdd, Int.reduceSub, Int.reduceMul, Int.reduceNeg, Int.reduceToNat,  ho.ln]
  refine loop_for N 0 (fun i p => [v, .any, .int .i64 0, o, .int .i64 p.2.2.2.2.1, .int .i64 p.2.2.2.2.2, .any, .any, .any, .any, .any, .any, .any, .any, o, .int .i64 ll.length, .int .i64 i, .any, .any, .any, .any, .any, .any, .any, .any, .any, .any, .any, .any, .any, .any, .any, .any, .any, .any, .any, .any, .any, .any, .any, .any, .any, .any, .any, .any, .any, .any, .any, .any, .any, .any, .any, .any, .any, .any, .any, .any, .any, .any, .any, .any, .any, .any, .any, .any, .any, .any, .any, .any, .any, .any, .any, .any, .any, .any, .any, .any, .any, .any, .any, .any, .any, .any, .any, .any, .any, .any, .any, .any, .any, .any, .any, .any, .any, .any, .any, .any, .any, .any, .any, .any, .any, .any, .any, .any, .any, .any]) (fun _ (p : AH × List AV × List (List Int) × Mx × Int × Int) => p.1)
    (fun i p m => Rows true n n0 p.1 o p.2.1 p.2.2.1 ∧ Bare N i p.2.2.2.1 p.2.2.2.2.1 p.2.2.1 ∧ (p.2.2.2.2.2 = 1 ∨ p.2.2.2.2.2 = -1) ∧ p.2.2.2.2.2 * det N p.2.2.2.1 = det N (mx ll) ∧ (∀ j, j < n → p.1 j = h j) ∧ n0 ≤ m)
    (h0, ws, ll, mx ll, 1, 1) (Nat.zero_le _) ⟨ho, Bare.start hs hl, .inl rfl, by simp, hs0, Nat.le_refl _⟩ (by simp [LeL, Le1]) (fun _ _ h => h) ?_
  rintro i ⟨hp, ws1, ll1, R, last, turn⟩ m - hi1 hm ⟨sR1, b1, ht1, ht2, hold, hm0⟩
  simp only at sR1 b1 ht1 ht2 hold
  have hL1 := b1.sq.1
  simp (maxSteps := 2000000) -implicitDefEqProofs (disch := omega) only [xsW, xsC, xsD, xsE, fillA, reduceCtorEq, Nat.reduceAdd, Nat.reduceSub, Nat.reduceLeDiff, Nat.reduceMul, Int.reduceLT, Int.reduceLE, Int.reduceEq, Int.reduceNe, Int.reduceAdd, Int.reduceSub, Int.reduceMul, Int.reduceNeg, Int.reduceToNat]
  (refine cd_dec (fun c1 => ?_) (fun c1 => ?_) <;> simp (maxSteps := 2000000) -implicitDefEqProofs (disch := omega) only [xsW, xsC, xsD, xsE, fillA, reduceCtorEq, Nat.reduceAdd, Nat.reduceSub, Nat.reduceLeDiff, Nat.reduceMul, Int.reduceLT, Int.reduceLE, Int.reduceEq, Int.reduceNe, Int.reduceAdd, Int.reduceSub, Int.reduceMul, Int.reduceNeg, Int.reduceToNat,  c1])
  · have hi2 : i < N := by omega
    have hob := sR1.out.below (by rw [sR1.slen]; omega)
    have hoS : isSl o = true := by
      have := sR1.out.isReal (by intro e; have := sR1.slen; rw [e] at this; simp [slen] at this; omega)
      exact this
    have sA := sR1.keep (h' := upd hp m (some ⟨3, [.int .i64 i], true, 0⟩)) (fun i _ hi9 => by simp (disch := omega) only [upd_other])
    refine Sl.slo sA.out (by intro e; rw [e] at hoS; simp [isSl] at hoS) (by omega) (by rw [sR1.slen]; omega) fun v1 hv1 hlen1 _ => ?_
    rw [sR1.slen] at hlen1
    obtain ⟨r, hr, hq⟩ := idx_rows hv1 (by omega) 152 [.ptr m 0] (fun k => decide (¬ at2 ll1 (i + k) i = 0)) (m + 1) (fun k n' hk _ => by
      have e : (ws1.drop ((i : Int).toNat * 1)).getD k .any = ws1.getD (i + k) .any := by simp [List.getD]
      rw [e]
      have := b1.sq.2 (i + k) (by omega)
      exact impl_determinant1 (sA.row (i + k) (by omega)) (upd_same _ _ _) (by omega))
    simp (maxSteps := 2000000) -implicitDefEqProofs (disch := omega) only [xsW, xsC, xsD, xsE, fillA, reduceCtorEq, Nat.reduceAdd, Nat.reduceSub, Nat.reduceLeDiff, Nat.reduceMul, Int.reduceLT, Int.reduceLE, Int.reduceEq, Int.reduceNe, Int.reduceAdd, Int.reduceSub, Int.reduceMul, Int.reduceNeg, Int.reduceToNat]
    refine q_use hq fun n2 hn2 => ?_
    rcases hr with ⟨rfl, hr⟩ | ⟨k, rfl, hk1, hk2, hk3⟩
    · simp (maxSteps := 2000000) -implicitDefEqProofs (disch := omega) only [xsW, xsC, xsD, xsE, fillA, reduceCtorEq, Nat.reduceAdd, Nat.reduceSub, Nat.reduceLeDiff, Nat.reduceMul, Int.reduceLT, Int.reduceLE, Int.reduceEq, Int.reduceNe, Int.reduceAdd, Int.reduceSub, Int.reduceMul, Int.reduceNeg, Int.reduceToNat]
      rw [← ht2, b1.none hi2 fun a ha1 ha2 => by
        have := hr (a - i) (by omega)
        rw [show i + (a - i) = a by omega] at this
        simpa using this]
      simp
    · have hk4 : i + k < N := by omega
      simp only [decide_eq_true_eq] at hk2
      by_cases hk0 : k = 0
      · subst hk0
        simp (maxSteps := 2000000) -implicitDefEqProofs (disch := omega) only [xsW, xsC, xsD, xsE, fillA, reduceCtorEq, Nat.reduceAdd, Nat.reduceSub, Nat.reduceLeDiff, Nat.reduceMul, Int.reduceLT, Int.reduceLE, Int.reduceEq, Int.reduceNe, Int.reduceAdd, Int.reduceSub, Int.reduceMul, Int.reduceNeg, Int.reduceToNat]
        have hbox : upd hp m (some ⟨3, [.int .i64 (i : Int)], true, 0⟩) m = some ⟨3, [.int .i64 (i : Int)], true, 0⟩ := upd_same _ _ _
        have holdA : ∀ j, j < n → upd hp m (some ⟨3, [.int .i64 (i : Int)], true, 0⟩) j = h j := fun j hj => by rw [upd_other (by omega), hold j hj]
        obtain ⟨ws2, ll2, R2, sR2, b2, hpv, ht3⟩ : ∃ ws2 ll2 R2, Rows true n n0 (upd hp m (some ⟨3, [.int .i64 (i : Int)], true, 0⟩)) o ws2 ll2 ∧ Bare N i R2 last ll2 ∧ (Unit → at2 ll2 i i ≠ 0) ∧ turn * det N R2 = det N (mx ll) := ⟨ws1, ll1, R, sA, b1, fun _ => hk2, ht2⟩
        clear hv1 hq sA sR1
        generalize upd hp m (some ⟨3, [.int .i64 (i : Int)], true, 0⟩) = H1 at hbox holdA sR2 ⊢
        generalize hT1 : turn = turn1 at ht3 ⊢
        have ht4 : Unit → (turn1 = 1 ∨ turn1 = -1) := fun _ => by omega
        clear hT1 ht1 ht2 turn hk1 hk2 hk3
        have hn3 : m + 1 ≤ n2 := by omega
        generalize n2 = n3 at hn3 ⊢
        have hL2 := b2.sq.1
        have hm3 : n0 ≤ m := hm0
        have h2below := sR2.out.below (by rw [sR2.slen]; omega)
        refine Sl.slo sR2.out (by intro e; rw [e] at hoS; simp [isSl] at hoS) (by omega) (by rw [sR2.slen]; omega) fun v2 hv2 hlen2 hbv => ?_
        rw [sR2.slen] at hlen2
        obtain ⟨hbv1, hbv2, _, _⟩ := hbv hoS
        have hlen3 : (slen v2 : Int) = ((N - (i + 1) : Nat) : Int) := by omega
        simp (maxSteps := 2000000) -implicitDefEqProofs (disch := omega) only [xsW, xsC, xsD, xsE, fillA, reduceCtorEq, Nat.reduceAdd, Nat.reduceSub, Nat.reduceLeDiff, Nat.reduceMul, Int.reduceLT, Int.reduceLE, Int.reduceEq, Int.reduceNe, Int.reduceAdd, Int.reduceSub, Int.reduceMul, Int.reduceNeg, Int.reduceToNat,  hv2.ln, hlen3]
        refine loop_for (N - (i + 1)) 0 (fun a p => [v, .any, .int .i64 0, o, .int .i64 last, .int .i64 turn1, .ptr m 0, .any, .any, .any, .any, .any, .any, .any, o, .int .i64 ll.length, .int .i64 i, .any, .any, .any, .any, .any, .any, .any, .any, .any, .any, .any, .any, .any, .any, .any, .any, .any, .any, .any, .any, .any, .any, .any, .any, .any, .any, .any, .any, .any, .any, .any, .any, .any, .any, v2, .int .i64 ((N - (i + 1) : Nat) : Int), .int .i64 a, .any, .any, .any, .any, .any, .any, .any, .any, .any, .any, .any, .any, .any, .any, .any, .any, .any, .any, .any, .any, .any, .any, .any, .any, .any, .any, .any, .any, .any, .any, .any, .any, .any, .any, .any, .any, .any, .any, .any, .any, .any, .any, .any, .any, .any, .any, .any, .any, .any, .any, .any, .any, .any]) (fun _ (p : AH × List (List Int)) => p.1)
          (fun a p mm => Rows true n n0 p.1 o ws2 p.2 ∧ Sq N p.2 ∧ (∀ r c, r < N → (r ≤ i ∨ i + 1 + a ≤ r) → at2 p.2 r c = at2 ll2 r c) ∧ (∀ r c, i < r → r < i + 1 + a → i ≤ c → c < N → at2 p.2 r c = bord (i + 1) R2 r c) ∧ (∀ j, (j < n ∨ n0 ≤ j) → p.1 j = H1 j) ∧ p.1 (bid o) = H1 (bid o) ∧ m + 1 ≤ mm)
          (H1, ll2) (Nat.zero_le _) ⟨sR2, b2.sq, fun _ _ _ _ => rfl, fun r c h1 h2 => by omega, fun _ _ => rfl, rfl, hn3⟩ (by simp [LeL, Le1]) (fun _ _ h => h) ?_
        rintro a ⟨hp3, ll3⟩ m3 - ha1 hm4 ⟨sR3, q3, g3, g4, g5, g6, g7⟩
        simp only at sR3 q3 g3 g4 g5 g6
        simp (maxSteps := 2000000) -implicitDefEqProofs (disch := omega) only [xsW, xsC, xsD, xsE, fillA, reduceCtorEq, Nat.reduceAdd, Nat.reduceSub, Nat.reduceLeDiff, Nat.reduceMul, Int.reduceLT, Int.reduceLE, Int.reduceEq, Int.reduceNe, Int.reduceAdd, Int.reduceSub, Int.reduceMul, Int.reduceNeg, Int.reduceToNat]
        (refine cd_dec (fun c3 => ?_) (fun c3 => ?_) <;> simp (maxSteps := 2000000) -implicitDefEqProofs (disch := omega) only [xsW, xsC, xsD, xsE, fillA, reduceCtorEq, Nat.reduceAdd, Nat.reduceSub, Nat.reduceLeDiff, Nat.reduceMul, Int.reduceLT, Int.reduceLE, Int.reduceEq, Int.reduceNe, Int.reduceAdd, Int.reduceSub, Int.reduceMul, Int.reduceNeg, Int.reduceToNat,  c3])
        · have ha2 : i + 1 + a < N := by omega
          have hv3 : Sl true n n0 hp3 1 v2 (ws2.drop (i + 1)) := by
            have := hv2.keep1 (h' := hp3) fun _ => by rw [hbv2, g6]
            rw [show ((i : Int) + 1).toNat * 1 = i + 1 by omega] at this
            exact this
          have hl3 := q3.1
          have hrow := sR3.row (i + 1 + a) (by omega)
          have hlr := q3.2 (i + 1 + a) ha2
          have hrowi := sR3.row i (by omega)
          have hlri := q3.2 i hi2
          have hsr := Sl.isReal hrow (slen_ne hrow (by omega)).2
          have hsi := Sl.isReal hrowi (slen_ne hrowi (by omega)).2
          have hown := Sl.own hrow hsr
          have hnb : Unit → bid (ws2.getD i .any) ≠ bid (ws2.getD (i + 1 + a) .any) := fun _ => sR3.rows.apart rfl _ _ (by omega) (by omega) (by omega) hsi hsr
          have hno : Unit → bid (ws2.getD (i + 1 + a) .any) ≠ bid o := fun _ => sR3.outer rfl _ (by omega) hsr
          have gd : (ws2.drop (i + 1)).getD a .any = ws2.getD (i + 1 + a) .any := by simp [List.getD]
          have ea : at2 ll2 (i + 1 + a) i = bord i R2 (i + 1 + a) i := b2.ent _ _ (by omega) ha2 (Nat.le_refl _) hi2
          have eb : (ll3.getD (i + 1 + a) []).getD i 0 = bord i R2 (i + 1 + a) i := by rw [← ea, ← g3 _ _ ha2 (by omega)]; rfl
          have hbx := g5 m (.inr hm3)
          rw [hbox] at hbx
          have hnl : a < (ws2.drop (i + 1)).length := by have h8 := sR3.len; simp; omega
          have x1 : ∀ K h' n', IA 1 v2 (.int .i64 (a : Int)) K h' n' = K (.ptr (bid v2) (boff v2 + a)) h' n' := fun K h' n' => by rw [hv3.ia (by omega) (by omega)]; simp
          have x2 : ∀ K h' n', L2 (hp3 (bid v2)) (boff v2 + a) K h' n' = K (ws2.getD (i + 1 + a) .any) h' n' := fun K h' n' => by rw [hv3.ld hnl, gd]
          simp (maxSteps := 2000000) -implicitDefEqProofs (disch := omega) only [xsW, xsC, xsD, xsE, fillA, reduceCtorEq, Nat.reduceAdd, Nat.reduceSub, Nat.reduceLeDiff, Nat.reduceMul, Int.reduceLT, Int.reduceLE, Int.reduceEq, Int.reduceNe, Int.reduceAdd, Int.reduceSub, Int.reduceMul, Int.reduceNeg, Int.reduceToNat,  x1, x2, hbx, hrow.ia, hrow.ld, eb]
          refine loop_for N i (fun c p => [v, .any, .int .i64 0, o, .int .i64 last, .int .i64 turn1, .ptr m 0, .any, .any, ws2.getD (i + 1 + a) .any, .int .i64 (bord i R2 (i + 1 + a) i), .int .i64 c, .any, .any, o, .int .i64 ll.length, .int .i64 i, .any, .any, .any, .any, .any, .any, .any, .any, .any, .any, .any, .any, .any, .any, .any, .any, .any, .any, .any, .any, .any, .any, .any, .any, .any, .any, .any, .any, .any, .any, .any, .any, .any, .any, v2, .int .i64 ((N - (i + 1) : Nat) : Int), .int .i64 a, .any, .any, .any, .any, .any, .any, .any, .any, .any, .any, .any, .any, .any, .any, .any, .any, .any, .any, .any, .any, .any, .any, .any, .any, .any, .any, .any, .any, .any, .any, .any, .any, .any, .any, .any, .any, .any, .any, .any, .any, .any, .any, .any, .any, .any, .any, .any, .any, .any, .any, .any, .any, .any]) (fun _ (p : AH × List Int) => p.1)
            (fun c p mm => Ints true n n0 p.1 (ws2.getD (i + 1 + a) .any) p.2 ∧ p.2.length = N ∧ (∀ b, b < N → p.2.getD b 0 = if i ≤ b ∧ b < c then bord (i + 1) R2 (i + 1 + a) b else at2 ll3 (i + 1 + a) b) ∧ (∀ j, j ≠ bid (ws2.getD (i + 1 + a) .any) → p.1 j = hp3 j) ∧ m + 1 ≤ mm)
            (hp3, ll3.getD (i + 1 + a) []) (Nat.le_of_lt hi2) ⟨hrow, hlr, fun b hb => by rw [if_neg (by omega)]; rfl, fun _ _ => rfl, g7⟩ (by simp [LeL, Le1]) (fun _ _ h => h) ?_
          rintro c ⟨hp4, l4⟩ m4 hc0 hc1 hm5 ⟨sR4, q4, k1, k2, k3⟩
          simp only at sR4 q4 k1 k2
          simp (maxSteps := 2000000) -implicitDefEqProofs (disch := omega) only [xsW, xsC, xsD, xsE, fillA, reduceCtorEq, Nat.reduceAdd, Nat.reduceSub, Nat.reduceLeDiff, Nat.reduceMul, Int.reduceLT, Int.reduceLE, Int.reduceEq, Int.reduceNe, Int.reduceAdd, Int.reduceSub, Int.reduceMul, Int.reduceNeg, Int.reduceToNat,  sR4.ln]
          (refine cd_dec (fun c4 => ?_) (fun c4 => ?_) <;> simp (maxSteps := 2000000) -implicitDefEqProofs (disch := omega) only [xsW, xsC, xsD, xsE, fillA, reduceCtorEq, Nat.reduceAdd, Nat.reduceSub, Nat.reduceLeDiff, Nat.reduceMul, Int.reduceLT, Int.reduceLE, Int.reduceEq, Int.reduceNe, Int.reduceAdd, Int.reduceSub, Int.reduceMul, Int.reduceNeg, Int.reduceToNat,  c4])
          · have hc2 : c < N := by omega
            obtain ⟨w1, w2, w3, w4⟩ := b2.val hN (r := i + 1 + a) (c := c) (by omega) ha2 hc0 hc2
            have z1 : l4.getD c 0 = bord i R2 (i + 1 + a) c := by
              rw [k1 c hc2, if_neg (by omega), g3 _ _ ha2 (by omega)]
              exact b2.ent _ _ (by omega) ha2 hc0 hc2
            have z2 : (ll3.getD i []).getD i 0 = bord i R2 i i := by
              have := g3 i i hi2 (by omega)
              rw [b2.ent _ _ (Nat.le_refl _) hi2 (Nat.le_refl _) hi2] at this
              exact this
            have z3 : (ll3.getD i []).getD c 0 = bord i R2 i c := by
              have := g3 i c hi2 (by omega)
              rw [b2.ent _ _ (Nat.le_refl _) hi2 hc0 hc2] at this
              exact this
            have hne := b2.ne
            have n1 := k2 m (by omega)
            rw [hbx] at n1
            have n2 := k2 (bid o) (fun e => hno () e.symm)
            have n3 := k2 (bid (ws2.getD i .any)) (hnb ())
            have e1 := fun K => Ints.st sR4 (k := c) (x := bord (i + 1) R2 (i + 1 + a) c) (n0 := n) (n := m4) (W := none') (by omega) (fun i a b => .inl a) (by omega) K
            simp (maxSteps := 2000000) -implicitDefEqProofs (disch := omega) only [xsW, xsC, xsD, xsE, fillA, reduceCtorEq, Nat.reduceAdd, Nat.reduceSub, Nat.reduceLeDiff, Nat.reduceMul, Int.reduceLT, Int.reduceLE, Int.reduceEq, Int.reduceNe, Int.reduceAdd, Int.reduceSub, Int.reduceMul, Int.reduceNeg, Int.reduceToNat,  sR4.ia, sR4.ld, sR3.ia, sR3.ld, hrowi.ia, hrowi.ld, n1, n2, n3, z1, z2, z3, w3, e1]
            refine ⟨(_, l4.set c (bord (i + 1) R2 (i + 1 + a) c)), ⟨sR4.wr (by omega) _, by simpa using q4, fun b hb => ?_, fun j hj => (wr_other hj).trans (k2 j hj), by omega⟩, by omega, by omega, (by simp [LeL, Le1]), fun _ _ h => h⟩
            rw [getD_set, k1 b hb, q4]
            by_cases e : c = b
            · subst e; rw [if_pos ⟨rfl, hc2⟩, if_pos ⟨hc0, by omega⟩]
            · rw [if_neg fun h => e h.1]
              by_cases e2 : i ≤ b ∧ b < c
              · rw [if_pos e2, if_pos ⟨e2.1, by omega⟩]
              · rw [if_neg e2, if_neg (by omega)]
          · have hc3 : c = N := by omega
            subst hc3
            have sR5 := sR3.row1 (by omega) sR4 (.inl hsr) k2
            refine ⟨(hp4, _), ⟨sR5, ⟨by simpa using hl3, fun b hb => ?_⟩, fun r c' hr hr2 => ?_, fun r c' h1 h2 h3 h4 => ?_, fun j hj => (k2 j (by omega)).trans (g5 j hj), (k2 _ (fun e => hno () e.symm)).trans g6, by omega⟩, by omega, by omega, (by simp [LeL, Le1]), fun _ _ h => h⟩
            · rw [getD_set]
              split
              · exact q4
              · exact q3.2 b hb
            · rw [← g3 r c' hr (by omega)]
              unfold at2
              rw [getD_set, if_neg (by omega)]
            · unfold at2
              rw [getD_set]
              by_cases e : i + 1 + a = r
              · subst e
                rw [if_pos ⟨rfl, by omega⟩, k1 c' h4, if_pos ⟨h3, h4⟩]
              · rw [if_neg fun h => e h.1]
                exact g4 r c' h1 (by omega) h3 h4
        · have ha3 : i + 1 + a = N := by omega
          have hl3 := q3.1
          have hrowi := sR3.row i (by omega)
          have hlri := q3.2 i hi2
          have z2 : (ll3.getD i []).getD i 0 = at2 ll2 i i := g3 i i hi2 (by omega)
          have hbx := g5 m (.inr hm3)
          rw [hbox] at hbx
          simp (maxSteps := 2000000) -implicitDefEqProofs (disch := omega) only [xsW, xsC, xsD, xsE, fillA, reduceCtorEq, Nat.reduceAdd, Nat.reduceSub, Nat.reduceLeDiff, Nat.reduceMul, Int.reduceLT, Int.reduceLE, Int.reduceEq, Int.reduceNe, Int.reduceAdd, Int.reduceSub, Int.reduceMul, Int.reduceNeg, Int.reduceToNat,  hbx, sR3.ia, sR3.ld, hrowi.ia, hrowi.ld, z2]
          refine ⟨(hp3, ws2, ll3, R2, at2 ll2 i i, turn1), ⟨sR3, b2.next hi2 (hpv ()) q3 (fun r c h1 h2 h3 h4 => g4 r c h1 (by omega) h3 h4), ht4 (), ht3, fun j hj => (g5 j (.inl hj)).trans (holdA j hj), by omega⟩, by omega, by omega, (by simp [LeL, Le1]), fun _ _ h => h⟩
      · have hrow1 := sA.row i (by omega)
        have hrow2 := sA.row (i + k) (by omega)
        have hl1 := b1.sq.2 i hi2
        have hl2 := b1.sq.2 (i + k) hk4
        have x1 := Sl.any hrow1
        have x2 := Sl.any hrow2
        have e1 := fun K => Sl.st sA.out (k := i) (x := ws1.getD (i + k) .any) (n0 := n) (n := n2) (W := none') (by rw [sR1.len]; omega) (one_any x2) (cel_any x2) (sto_any x2) (fun i a b => .inl a) (by omega) K
        have sW := sA.out.wr (k := i) (by rw [sR1.len]; omega) (ws1.getD (i + k) .any)
        have e2 := fun K => Sl.st sW (k := i + k) (x := ws1.getD i .any) (n0 := n) (n := n2) (W := none') (by rw [List.length_set, sR1.len]; omega) (one_any x1) (cel_any x1) (sto_any x1) (fun i a b => .inl a) (by omega) K
        have sW2 := sW.wr (k := i + k) (by rw [List.length_set, sR1.len]; omega) (ws1.getD i .any)
        have hne : bid o ≠ m := by omega
        have tn : ((i : Int) + (k : Int)).toNat = i + k := by omega
        have hbox : wr (wr (upd hp m (some ⟨3, [.int .i64 (i : Int)], true, 0⟩)) (bid o) (boff o + i) (ws1.getD (i + k) .any)) (bid o) (boff o + (i + k)) (ws1.getD i .any) m = some ⟨3, [.int .i64 (i : Int)], true, 0⟩ := by
          rw [wr_other (fun e => hne e.symm), wr_other (fun e => hne e.symm), upd_same]
        have hbox1 : wr (upd hp m (some ⟨3, [.int .i64 (i : Int)], true, 0⟩)) (bid o) (boff o + i) (ws1.getD (i + k) .any) m = some ⟨3, [.int .i64 (i : Int)], true, 0⟩ := by
          rw [wr_other (fun e => hne e.symm), upd_same]
        simp (maxSteps := 2000000) -implicitDefEqProofs (disch := omega) only [xsW, xsC, xsD, xsE, fillA, reduceCtorEq, Nat.reduceAdd, Nat.reduceSub, Nat.reduceLeDiff, Nat.reduceMul, Int.reduceLT, Int.reduceLE, Int.reduceEq, Int.reduceNe, Int.reduceAdd, Int.reduceSub, Int.reduceMul, Int.reduceNeg, Int.reduceToNat,  sR1.ia, sR1.ld, tn, e1, e2]
        refine ⟨hne, ?_⟩
        have sS := Rows.swap (i := i) (j := i + k) sA (by omega) (by omega) sW2 (fun a ha => by rw [wr_other ha, wr_other ha]) (fun a ha => set2_get ws1 .any i (i + k) a (by rw [sR1.len]; exact ha)) (by simp)
        obtain ⟨bS, dS⟩ := b1.swap (j := i + k) (ll' := swL ll1 i (i + k)) (by omega) hk4 ⟨by rw [swL_len, hL1], fun a ha => by rw [swL_get _ _ _ _ (by omega)]; exact b1.sq.2 _ (swp_lt hi2 hk4 ha)⟩ (fun r c hr hc => by unfold at2; rw [swL_get _ _ _ _ (by omega)])
        have dS := dS (by omega)
        have holdA : ∀ j, j < n → wr (wr (upd hp m (some ⟨3, [.int .i64 (i : Int)], true, 0⟩)) (bid o) (boff o + i) (ws1.getD (i + k) .any)) (bid o) (boff o + (i + k)) (ws1.getD i .any) j = h j := fun j hj => by rw [wr_other (by omega), wr_other (by omega), upd_other (by omega), hold j hj]
        obtain ⟨ws2, ll2, R2, sR2, b2, hpv, ht3⟩ : ∃ ws2 ll2 R2, Rows true n n0 (wr (wr (upd hp m (some ⟨3, [.int .i64 (i : Int)], true, 0⟩)) (bid o) (boff o + i) (ws1.getD (i + k) .any)) (bid o) (boff o + (i + k)) (ws1.getD i .any)) o ws2 ll2 ∧ Bare N i R2 last ll2 ∧ (Unit → at2 ll2 i i ≠ 0) ∧ (-turn) * det N R2 = det N (mx ll) :=
          ⟨_, _, _, sS, bS, fun _ => by unfold at2; rw [swL_get _ _ _ _ (by omega), show swp i (i + k) i = i + k by simp [swp]]; exact hk2, by rw [dS, ← ht2, Int.neg_mul_neg]⟩
        clear hv1 hq sA sR1 e1 e2 sW sW2 sS hrow1 hrow2 hbox1 bS dS x1 x2 tn hl1 hl2 hne
        generalize wr (wr (upd hp m (some ⟨3, [.int .i64 (i : Int)], true, 0⟩)) (bid o) (boff o + i) (ws1.getD (i + k) .any)) (bid o) (boff o + (i + k)) (ws1.getD i .any) = H1 at hbox holdA sR2 ⊢
        generalize hT1 : -turn = turn1 at ht3 ⊢
        have ht4 : Unit → (turn1 = 1 ∨ turn1 = -1) := fun _ => by omega
        clear ht2 ht1 hT1 hk0 hk1 hk2 hk3
        have hn3 : m + 1 ≤ n2 := by omega
        generalize n2 = n3 at hn3 ⊢
        simp (maxSteps := 2000000) -implicitDefEqProofs (disch := omega) only [xsW, xsC, xsD, xsE, fillA, reduceCtorEq, Nat.reduceAdd, Nat.reduceSub, Nat.reduceLeDiff, Nat.reduceMul, Int.reduceLT, Int.reduceLE, Int.reduceEq, Int.reduceNe, Int.reduceAdd, Int.reduceSub, Int.reduceMul, Int.reduceNeg, Int.reduceToNat,  hbox]
        have hL2 := b2.sq.1
        have hm3 : n0 ≤ m := hm0
        have h2below := sR2.out.below (by rw [sR2.slen]; omega)
        refine Sl.slo sR2.out (by intro e; rw [e] at hoS; simp [isSl] at hoS) (by omega) (by rw [sR2.slen]; omega) fun v2 hv2 hlen2 hbv => ?_
        rw [sR2.slen] at hlen2
        obtain ⟨hbv1, hbv2, _, _⟩ := hbv hoS
        have hlen3 : (slen v2 : Int) = ((N - (i + 1) : Nat) : Int) := by omega
        simp (maxSteps := 2000000) -implicitDefEqProofs (disch := omega) only [xsW, xsC, xsD, xsE, fillA, reduceCtorEq, Nat.reduceAdd, Nat.reduceSub, Nat.reduceLeDiff, Nat.reduceMul, Int.reduceLT, Int.reduceLE, Int.reduceEq, Int.reduceNe, Int.reduceAdd, Int.reduceSub, Int.reduceMul, Int.reduceNeg, Int.reduceToNat,  hv2.ln, hlen3]
        refine loop_for (N - (i + 1)) 0 (fun a p => [v, .any, .int .i64 0, o, .int .i64 last, .int .i64 turn1, .ptr m 0, .any, .any, .any, .any, .any, .any, .any, o, .int .i64 ll.length, .int .i64 i, .any, .any, .any, .any, .any, .any, .any, .any, .any, .any, .any, .any, .any, .any, .any, .any, .any, .any, .any, .any, .any, .any, .any, .any, .any, .any, .any, .any, .any, .any, .any, .any, .any, .any, v2, .int .i64 ((N - (i + 1) : Nat) : Int), .int .i64 a, .any, .any, .any, .any, .any, .any, .any, .any, .any, .any, .any, .any, .any, .any, .any, .any, .any, .any, .any, .any, .any, .any, .any, .any, .any, .any, .any, .any, .any, .any, .any, .any, .any, .any, .any, .any, .any, .any, .any, .any, .any, .any, .any, .any, .any, .any, .any, .any, .any, .any, .any, .any, .any]) (fun _ (p : AH × List (List Int)) => p.1)
          (fun a p mm => Rows true n n0 p.1 o ws2 p.2 ∧ Sq N p.2 ∧ (∀ r c, r < N → (r ≤ i ∨ i + 1 + a ≤ r) → at2 p.2 r c = at2 ll2 r c) ∧ (∀ r c, i < r → r < i + 1 + a → i ≤ c → c < N → at2 p.2 r c = bord (i + 1) R2 r c) ∧ (∀ j, (j < n ∨ n0 ≤ j) → p.1 j = H1 j) ∧ p.1 (bid o) = H1 (bid o) ∧ m + 1 ≤ mm)
          (H1, ll2) (Nat.zero_le _) ⟨sR2, b2.sq, fun _ _ _ _ => rfl, fun r c h1 h2 => by omega, fun _ _ => rfl, rfl, hn3⟩ (by simp [LeL, Le1]) (fun _ _ h => h) ?_
        rintro a ⟨hp3, ll3⟩ m3 - ha1 hm4 ⟨sR3, q3, g3, g4, g5, g6, g7⟩
        simp only at sR3 q3 g3 g4 g5 g6
        simp (maxSteps := 2000000) -implicitDefEqProofs (disch := omega) only [xsW, xsC, xsD, xsE, fillA, reduceCtorEq, Nat.reduceAdd, Nat.reduceSub, Nat.reduceLeDiff, Nat.reduceMul, Int.reduceLT, Int.reduceLE, Int.reduceEq, Int.reduceNe, Int.reduceAdd, Int.reduceSub, Int.reduceMul, Int.reduceNeg, Int.reduceToNat]
        (refine cd_dec (fun c3 => ?_) (fun c3 => ?_) <;> simp (maxSteps := 2000000) -implicitDefEqProofs (disch := omega) only [xsW, xsC, xsD, xsE, fillA, reduceCtorEq, Nat.reduceAdd, Nat.reduceSub, Nat.reduceLeDiff, Nat.reduceMul, Int.reduceLT, Int.reduceLE, Int.reduceEq, Int.reduceNe, Int.reduceAdd, Int.reduceSub, Int.reduceMul, Int.reduceNeg, Int.reduceToNat,  c3])
        · have ha2 : i + 1 + a < N := by omega
          have hv3 : Sl true n n0 hp3 1 v2 (ws2.drop (i + 1)) := by
            have := hv2.keep1 (h' := hp3) fun _ => by rw [hbv2, g6]
            rw [show ((i : Int) + 1).toNat * 1 = i + 1 by omega] at this
            exact this
          have hl3 := q3.1
          have hrow := sR3.row (i + 1 + a) (by omega)
          have hlr := q3.2 (i + 1 + a) ha2
          have hrowi := sR3.row i (by omega)
          have hlri := q3.2 i hi2
          have hsr := Sl.isReal hrow (slen_ne hrow (by omega)).2
          have hsi := Sl.isReal hrowi (slen_ne hrowi (by omega)).2
          have hown := Sl.own hrow hsr
          have hnb : Unit → bid (ws2.getD i .any) ≠ bid (ws2.getD (i + 1 + a) .any) := fun _ => sR3.rows.apart rfl _ _ (by omega) (by omega) (by omega) hsi hsr
          have hno : Unit → bid (ws2.getD (i + 1 + a) .any) ≠ bid o := fun _ => sR3.outer rfl _ (by omega) hsr
          have gd : (ws2.drop (i + 1)).getD a .any = ws2.getD (i + 1 + a) .any := by simp [List.getD]
          have ea : at2 ll2 (i + 1 + a) i = bord i R2 (i + 1 + a) i := b2.ent _ _ (by omega) ha2 (Nat.le_refl _) hi2
          have eb : (ll3.getD (i + 1 + a) []).getD i 0 = bord i R2 (i + 1 + a) i := by rw [← ea, ← g3 _ _ ha2 (by omega)]; rfl
          have hbx := g5 m (.inr hm3)
          rw [hbox] at hbx
          have hnl : a < (ws2.drop (i + 1)).length := by have h8 := sR3.len; simp; omega
          have x1 : ∀ K h' n', IA 1 v2 (.int .i64 (a : Int)) K h' n' = K (.ptr (bid v2) (boff v2 + a)) h' n' := fun K h' n' => by rw [hv3.ia (by omega) (by omega)]; simp
          have x2 : ∀ K h' n', L2 (hp3 (bid v2)) (boff v2 + a) K h' n' = K (ws2.getD (i + 1 + a) .any) h' n' := fun K h' n' => by rw [hv3.ld hnl, gd]
          simp (maxSteps := 2000000) -implicitDefEqProofs (disch := omega) only [xsW, xsC, xsD, xsE, fillA, reduceCtorEq, Nat.reduceAdd, Nat.reduceSub, Nat.reduceLeDiff, Nat.reduceMul, Int.reduceLT, Int.reduceLE, Int.reduceEq, Int.reduceNe, Int.reduceAdd, Int.reduceSub, Int.reduceMul, Int.reduceNeg, Int.reduceToNat,  x1, x2, hbx, hrow.ia, hrow.ld, eb]
          refine loop_for N i (fun c p => [v, .any, .int .i64 0, o, .int .i64 last, .int .i64 turn1, .ptr m 0, .any, .any, ws2.getD (i + 1 + a) .any, .int .i64 (bord i R2 (i + 1 + a) i), .int .i64 c, .any, .any, o, .int .i64 ll.length, .int .i64 i, .any, .any, .any, .any, .any, .any, .any, .any, .any, .any, .any, .any, .any, .any, .any, .any, .any, .any, .any, .any, .any, .any, .any, .any, .any, .any, .any, .any, .any, .any, .any, .any, .any, .any, v2, .int .i64 ((N - (i + 1) : Nat) : Int), .int .i64 a, .any, .any, .any, .any, .any, .any, .any, .any, .any, .any, .any, .any, .any, .any, .any, .any, .any, .any, .any, .any, .any, .any, .any, .any, .any, .any, .any, .any, .any, .any, .any, .any, .any, .any, .any, .any, .any, .any, .any, .any, .any, .any, .any, .any, .any, .any, .any, .any, .any, .any, .any, .any, .any]) (fun _ (p : AH × List Int) => p.1)
            (fun c p mm => Ints true n n0 p.1 (ws2.getD (i + 1 + a) .any) p.2 ∧ p.2.length = N ∧ (∀ b, b < N → p.2.getD b 0 = if i ≤ b ∧ b < c then bord (i + 1) R2 (i + 1 + a) b else at2 ll3 (i + 1 + a) b) ∧ (∀ j, j ≠ bid (ws2.getD (i + 1 + a) .any) → p.1 j = hp3 j) ∧ m + 1 ≤ mm)
            (hp3, ll3.getD (i + 1 + a) []) (Nat.le_of_lt hi2) ⟨hrow, hlr, fun b hb => by rw [if_neg (by omega)]; rfl, fun _ _ => rfl, g7⟩ (by simp [LeL, Le1]) (fun _ _ h => h) ?_
          rintro c ⟨hp4, l4⟩ m4 hc0 hc1 hm5 ⟨sR4, q4, k1, k2, k3⟩
          simp only at sR4 q4 k1 k2
          simp (maxSteps := 2000000) -implicitDefEqProofs (disch := omega) only [xsW, xsC, xsD, xsE, fillA, reduceCtorEq, Nat.reduceAdd, Nat.reduceSub, Nat.reduceLeDiff, Nat.reduceMul, Int.reduceLT, Int.reduceLE, Int.reduceEq, Int.reduceNe, Int.reduceAdd, Int.reduceSub, Int.reduceMul, Int.reduceNeg, Int.reduceToNat,  sR4.ln]
          (refine cd_dec (fun c4 => ?_) (fun c4 => ?_) <;> simp (maxSteps := 2000000) -implicitDefEqProofs (disch := omega) only [xsW, xsC, xsD, xsE, fillA, reduceCtorEq, Nat.reduceAdd, Nat.reduceSub, Nat.reduceLeDiff, Nat.reduceMul, Int.reduceLT, Int.reduceLE, Int.reduceEq, Int.reduceNe, Int.reduceAdd, Int.reduceSub, Int.reduceMul, Int.reduceNeg, Int.reduceToNat,  c4])
          · have hc2 : c < N := by omega
            obtain ⟨w1, w2, w3, w4⟩ := b2.val hN (r := i + 1 + a) (c := c) (by omega) ha2 hc0 hc2
            have z1 : l4.getD c 0 = bord i R2 (i + 1 + a) c := by
              rw [k1 c hc2, if_neg (by omega), g3 _ _ ha2 (by omega)]
              exact b2.ent _ _ (by omega) ha2 hc0 hc2
            have z2 : (ll3.getD i []).getD i 0 = bord i R2 i i := by
              have := g3 i i hi2 (by omega)
              rw [b2.ent _ _ (Nat.le_refl _) hi2 (Nat.le_refl _) hi2] at this
              exact this
            have z3 : (ll3.getD i []).getD c 0 = bord i R2 i c := by
              have := g3 i c hi2 (by omega)
              rw [b2.ent _ _ (Nat.le_refl _) hi2 hc0 hc2] at this
              exact this
            have hne := b2.ne
            have n1 := k2 m (by omega)
            rw [hbx] at n1
            have n2 := k2 (bid o) (fun e => hno () e.symm)
            have n3 := k2 (bid (ws2.getD i .any)) (hnb ())
            have e1 := fun K => Ints.st sR4 (k := c) (x := bord (i + 1) R2 (i + 1 + a) c) (n0 := n) (n := m4) (W := none') (by omega) (fun i a b => .inl a) (by omega) K
            simp (maxSteps := 2000000) -implicitDefEqProofs (disch := omega) only [xsW, xsC, xsD, xsE, fillA, reduceCtorEq, Nat.reduceAdd, Nat.reduceSub, Nat.reduceLeDiff, Nat.reduceMul, Int.reduceLT, Int.reduceLE, Int.reduceEq, Int.reduceNe, Int.reduceAdd, Int.reduceSub, Int.reduceMul, Int.reduceNeg, Int.reduceToNat,  sR4.ia, sR4.ld, sR3.ia, sR3.ld, hrowi.ia, hrowi.ld, n1, n2, n3, z1, z2, z3, w3, e1]
            refine ⟨(_, l4.set c (bord (i + 1) R2 (i + 1 + a) c)), ⟨sR4.wr (by omega) _, by simpa using q4, fun b hb => ?_, fun j hj => (wr_other hj).trans (k2 j hj), by omega⟩, by omega, by omega, (by simp [LeL, Le1]), fun _ _ h => h⟩
            rw [getD_set, k1 b hb, q4]
            by_cases e : c = b
            · subst e; rw [if_pos ⟨rfl, hc2⟩, if_pos ⟨hc0, by omega⟩]
            · rw [if_neg fun h => e h.1]
              by_cases e2 : i ≤ b ∧ b < c
              · rw [if_pos e2, if_pos ⟨e2.1, by omega⟩]
              · rw [if_neg e2, if_neg (by omega)]
          · have hc3 : c = N := by omega
            subst hc3
            have sR5 := sR3.row1 (by omega) sR4 (.inl hsr) k2
            refine ⟨(hp4, _), ⟨sR5, ⟨by simpa using hl3, fun b hb => ?_⟩, fun r c' hr hr2 => ?_, fun r c' h1 h2 h3 h4 => ?_, fun j hj => (k2 j (by omega)).trans (g5 j hj), (k2 _ (fun e => hno () e.symm)).trans g6, by omega⟩, by omega, by omega, (by simp [LeL, Le1]), fun _ _ h => h⟩
            · rw [getD_set]
              split
              · exact q4
              · exact q3.2 b hb
            · rw [← g3 r c' hr (by omega)]
              unfold at2
              rw [getD_set, if_neg (by omega)]
            · unfold at2
              rw [getD_set]
              by_cases e : i + 1 + a = r
              · subst e
                rw [if_pos ⟨rfl, by omega⟩, k1 c' h4, if_pos ⟨h3, h4⟩]
              · rw [if_neg fun h => e h.1]
                exact g4 r c' h1 (by omega) h3 h4
        · have ha3 : i + 1 + a = N := by omega
          have hl3 := q3.1
          have hrowi := sR3.row i (by omega)
          have hlri := q3.2 i hi2
          have z2 : (ll3.getD i []).getD i 0 = at2 ll2 i i := g3 i i hi2 (by omega)
          have hbx := g5 m (.inr hm3)
          rw [hbox] at hbx
          simp (maxSteps := 2000000) -implicitDefEqProofs (disch := omega) only [xsW, xsC, xsD, xsE, fillA, reduceCtorEq, Nat.reduceAdd, Nat.reduceSub, Nat.reduceLeDiff, Nat.reduceMul, Int.reduceLT, Int.reduceLE, Int.reduceEq, Int.reduceNe, Int.reduceAdd, Int.reduceSub, Int.reduceMul, Int.reduceNeg, Int.reduceToNat,  hbx, sR3.ia, sR3.ld, hrowi.ia, hrowi.ld, z2]
          refine ⟨(hp3, ws2, ll3, R2, at2 ll2 i i, turn1), ⟨sR3, b2.next hi2 (hpv ()) q3 (fun r c h1 h2 h3 h4 => g4 r c h1 (by omega) h3 h4), ht4 (), ht3, fun j hj => (g5 j (.inl hj)).trans (holdA j hj), by omega⟩, by omega, by omega, (by simp [LeL, Le1]), fun _ _ h => h⟩
  · have e : i = N := by omega
    subst e
    have hb := b1.lst
    rw [← hb] at ht2
    obtain ⟨q, hq⟩ := hl
    have := det_small hq hN
    rw [ht2]
    unfold in64
    omega
def c_impl_has : F := ⟨(.seq (.reg false [⟨some 4, .mv (.c (.bool false)), none⟩]) (.seq (.reg false [⟨some 5, .mv (.t 0), none⟩, ⟨some 6, .mv (.t 1), none⟩, ⟨some 7, .bin .shr (.t 5) (.t 6), none⟩, ⟨some 8, .bin .and (.t 7) (.c (.int .i64 1)), none⟩, ⟨some 9, .bin .eql (.t 8) (.c (.int .i64 1)), none⟩, ⟨some 4, .mv (.t 9), none⟩]) .ret)), 10, [(.t 4)]⟩
theorem k_impl_has : compF Tryz.prog Tryz.f112 = some c_impl_has := by kernel_rfl
def c_impl_isSet : F := ⟨(.seq (.reg false [⟨some 4, .mv (.c (.bool false)), none⟩]) (.seq (.reg false [⟨some 5, .mv (.t 0), none⟩, ⟨some 6, .mv (.t 1), none⟩, ⟨some 7, .bin .shl (.c (.int .i64 1)) (.t 6), none⟩, ⟨some 8, .bin .sub (.t 7) (.c (.int .i64 1)), none⟩, ⟨some 9, .call (.f 94) [(.t 5), (.c (.int .i64 0)), (.t 8)], none⟩, ⟨some 4, .mv (.t 9), none⟩]) .ret)), 10, [(.t 4)]⟩
theorem k_impl_isSet : compF Tryz.prog Tryz.f109 = some c_impl_isSet := by kernel_rfl

def pw (n : Nat) : Nat := 2 ^ n
theorem pw_le {n : Nat} (h : n ≤ 5) : 1 ≤ pw n ∧ pw n ≤ 32 := by
  match n, h with
  | 0, _ | 1, _ | 2, _ | 3, _ | 4, _ | 5, _ => decide
theorem shl1 {n : Nat} (h : n ≤ 5) : (1 : Int) * 2 ^ (min n IntKind.i64.bits) = (pw n : Int) := by
  match n, h with
  | 0, _ | 1, _ | 2, _ | 3, _ | 4, _ | 5, _ => decide
theorem bitf (s : Int) (i : Nat) : bitv .and .i64 (s.fdiv (2 ^ (min i IntKind.i64.bits))) 1 = bitI s i := rfl
def inSet (n : Nat) (s : Int) : Bool := decide (0 ≤ s ∧ s ≤ (pw n : Int) - 1)
theorem impl_has (s : Int) (i : Nat) (h : AH) (n : Nat) : Q Tryz.prog 112 [.int .i64 s, .int .i64 i] h n (.bool (hasB s i)) := by
  refine q_intro Tryz.func112 k_impl_has ?_
  simp (maxSteps := 2000000) -implicitDefEqProofs (disch := omega) only [c_impl_has, bitf, xsW, xsC, xsD, xsE, fillA, reduceCtorEq, Nat.reduceAdd, Nat.reduceSub, Nat.reduceLeDiff, Nat.reduceMul, Int.reduceLT, Int.reduceLE, Int.reduceEq, Int.reduceNe, Int.reduceAdd, Int.reduceSub, Int.reduceMul, Int.reduceNeg, Int.reduceToNat]
  rfl
theorem impl_isSet (s : Int) (N : Nat) (hN : N ≤ 5) (h : AH) (n : Nat) : Q Tryz.prog 109 [.int .i64 s, .int .i64 N] h n (.bool (inSet N s)) := by
  refine q_intro Tryz.func109 k_impl_isSet ?_
  have hp := pw_le hN
  simp (maxSteps := 2000000) -implicitDefEqProofs (disch := omega) only [c_impl_isSet, shl1, xsW, xsC, xsD, xsE, fillA, reduceCtorEq, Nat.reduceAdd, Nat.reduceSub, Nat.reduceLeDiff, Nat.reduceMul, Int.reduceLT, Int.reduceLE, Int.reduceEq, Int.reduceNe, Int.reduceAdd, Int.reduceSub, Int.reduceMul, Int.reduceNeg, Int.reduceToNat]
  refine q_use (impl_within _ _ _ _ _) fun n1 hn1 => ?_
  simp (maxSteps := 2000000) -implicitDefEqProofs (disch := omega) only [xsW, xsC, xsD, xsE, fillA, reduceCtorEq, Nat.reduceAdd, Nat.reduceSub, Nat.reduceLeDiff, Nat.reduceMul, Int.reduceLT, Int.reduceLE, Int.reduceEq, Int.reduceNe, Int.reduceAdd, Int.reduceSub, Int.reduceMul, Int.reduceNeg, Int.reduceToNat]
  rfl

def c_impl_setCode : F := ⟨(.seq (.reg false [⟨some 2, .box 30 (.t 0), none⟩, ⟨some 4, .mv (.c (.int .i64 0)), none⟩]) (.seq (.block 0 (.seq (.reg false [⟨some 6, .ld 2 (.t 2), none⟩, ⟨some 7, .call (.f 91) [(.t 6)], none⟩, ⟨some 8, .un .not (.t 7), none⟩, ⟨some 5, .mv (.t 8), none⟩]) (.cond (.t 5) (.seq (.reg false [⟨some 4, .mv (.c (.int .i64 1)), none⟩]) .ret) (.seq (.reg false [⟨some 10, .mv (.t 1), none⟩, ⟨some 11, .fa 1 (.t 2), none⟩, ⟨some 12, .ld1 (.t 11), none⟩, ⟨some 13, .len (.t 12), none⟩, ⟨some 14, .call (.f 109) [(.t 10), (.t 13)], none⟩, ⟨some 15, .un .not (.t 14), none⟩, ⟨some 9, .mv (.t 15), none⟩]) (.cond (.t 9) (.seq (.reg false [⟨some 4, .mv (.c (.int .i64 2)), none⟩]) .ret) .skip))))) (.seq (.reg false [⟨some 4, .mv (.c (.int .i64 0)), none⟩]) .ret))), 16, [(.t 4)]⟩
theorem k_impl_setCode : compF Tryz.prog Tryz.f80 = some c_impl_setCode := by kernel_rfl
def c_spec_l02Code : F := ⟨(.seq (.reg false [⟨some 2, .box 30 (.t 0), none⟩, ⟨some 4, .mv (.c (.int .i64 0)), none⟩]) (.seq (.block 0 (.seq (.reg false [⟨some 6, .ld 2 (.t 2), none⟩, ⟨some 7, .call (.f 30) [(.t 6)], none⟩, ⟨some 8, .un .not (.t 7), none⟩, ⟨some 5, .mv (.t 8), none⟩]) (.cond (.t 5) (.seq (.reg false [⟨some 4, .mv (.c (.int .i64 1)), none⟩]) .ret) (.seq (.reg false [⟨some 10, .mv (.t 1), none⟩, ⟨some 11, .fa 1 (.t 2), none⟩, ⟨some 12, .ld1 (.t 11), none⟩, ⟨some 13, .len (.t 12), none⟩, ⟨some 14, .cvi .u64 (.t 13), none⟩, ⟨some 15, .bin .shl (.c (.int .i64 1)) (.t 14), none⟩, ⟨some 16, .bin .sub (.t 15) (.c (.int .i64 1)), none⟩, ⟨some 17, .call (.f 62) [(.t 10), (.c (.int .i64 0)), (.t 16)], none⟩, ⟨some 18, .un .not (.t 17), none⟩, ⟨some 9, .mv (.t 18), none⟩]) (.cond (.t 9) (.seq (.reg false [⟨some 4, .mv (.c (.int .i64 2)), none⟩]) .ret) .skip))))) (.seq (.reg false [⟨some 4, .mv (.c (.int .i64 0)), none⟩]) .ret))), 19, [(.t 4)]⟩
theorem k_spec_l02Code : compF Tryz.prog Tryz.f124 = some c_spec_l02Code := by kernel_rfl
def c_impl_Problem_column : F := ⟨(.seq (.reg false [⟨some 3, .box 30 (.t 0), none⟩, ⟨some 6, .mv (.c .nilsl), none⟩]) (.seq (.reg false [⟨some 10, .fa 1 (.t 3), none⟩, ⟨some 11, .ld1 (.t 10), none⟩, ⟨some 12, .len (.t 11), none⟩, ⟨some 13, .mks 2 1 [(.int .i64 0)] (.t 12) (.t 12), none⟩, ⟨some 7, .mv (.t 13), none⟩]) (.seq (.seq (.reg false [⟨some 14, .fa 0 (.t 3), none⟩, ⟨some 15, .ld1 (.t 14), none⟩, ⟨some 16, .len (.t 15), none⟩, ⟨some 17, .mv (.c (.int .i64 0)), none⟩]) (.block 0 (.loop (.seq (.reg false [⟨some 18, .bin .lss (.t 17) (.t 16), none⟩]) (.seq (.cond (.t 18) .skip (.exit 0)) (.seq (.block 1 (.seq (.reg false [⟨some 19, .mv (.t 17), none⟩, ⟨some 20, .ia 1 (.t 15) (.t 17), none⟩, ⟨some 21, .ld1 (.t 20), none⟩, ⟨some 8, .mv (.t 19), none⟩, ⟨some 9, .mv (.t 21), none⟩]) (.seq (.reg false [⟨some 22, .mv (.t 2), none⟩]) (.cond (.t 22) (.reg false [⟨some 23, .mv (.t 7), none⟩, ⟨some 24, .mv (.t 8), none⟩, ⟨some 25, .mv (.t 9), none⟩, ⟨some 26, .mv (.t 1), none⟩, ⟨some 27, .ia 1 (.t 25) (.t 26), none⟩, ⟨some 28, .ld1 (.t 27), none⟩, ⟨some 29, .un .neg (.t 28), none⟩, ⟨some 30, .ia 1 (.t 23) (.t 24), none⟩, ⟨none, .st 1 (.t 30) (.t 29), none⟩]) .skip)))) (.reg false [⟨some 31, .bin .add (.t 17) (.c (.int .i64 1)), none⟩, ⟨some 17, .mv (.t 31), none⟩]))))))) (.seq (.seq (.reg false [⟨some 32, .mv (.t 2), none⟩, ⟨some 33, .un .not (.t 32), none⟩]) (.cond (.t 33) (.reg false [⟨some 34, .mv (.t 7), none⟩, ⟨some 35, .mv (.t 1), none⟩, ⟨some 36, .ia 1 (.t 34) (.t 35), none⟩, ⟨none, .st 1 (.t 36) (.c (.int .i64 1)), none⟩]) .skip)) (.seq (.reg false [⟨some 37, .mv (.t 7), none⟩, ⟨some 6, .mv (.t 37), none⟩]) .ret))))), 38, [(.t 6)]⟩
theorem k_impl_Problem_column : compF Tryz.prog Tryz.f150 = some c_impl_Problem_column := by kernel_rfl
def c_impl_put : F := ⟨(.seq (.reg false [⟨some 8, .mv (.t 0), none⟩, ⟨some 9, .len (.t 8), none⟩, ⟨some 10, .mv (.c (.int .i64 0)), none⟩]) (.block 0 (.loop (.seq (.reg false [⟨some 11, .bin .lss (.t 10) (.t 9), none⟩]) (.seq (.cond (.t 11) .skip (.exit 0)) (.seq (.block 1 (.seq (.reg false [⟨some 12, .mv (.t 10), none⟩, ⟨some 13, .ia 1 (.t 8) (.t 10), none⟩, ⟨some 14, .ld1 (.t 13), none⟩, ⟨some 6, .mv (.t 12), none⟩, ⟨some 7, .mv (.t 14), none⟩]) (.reg false [⟨some 15, .mv (.t 7), none⟩, ⟨some 16, .mv (.t 1), none⟩, ⟨some 17, .mv (.t 2), none⟩, ⟨some 18, .mv (.t 6), none⟩, ⟨some 19, .ia 1 (.t 17) (.t 18), none⟩, ⟨some 20, .ld1 (.t 19), none⟩, ⟨some 21, .ia 1 (.t 15) (.t 16), none⟩, ⟨none, .st 1 (.t 21) (.t 20), none⟩]))) (.reg false [⟨some 22, .bin .add (.t 10) (.c (.int .i64 1)), none⟩, ⟨some 10, .mv (.t 22), none⟩]))))))), 23, []⟩
theorem k_impl_put : compF Tryz.prog Tryz.f139 = some c_impl_put := by kernel_rfl
def c_impl_Problem_columns : F := ⟨(.seq (.reg false [⟨some 2, .box 30 (.t 0), none⟩, ⟨some 4, .mv (.c .nilsl), none⟩]) (.seq (.reg false [⟨some 9, .fa 1 (.t 2), none⟩, ⟨some 10, .ld1 (.t 9), none⟩, ⟨some 11, .len (.t 10), none⟩, ⟨some 5, .mv (.t 11), none⟩]) (.seq (.reg false [⟨some 12, .mv (.t 5), none⟩, ⟨some 13, .mks 23 1 [.nilsl] (.t 12) (.t 12), none⟩, ⟨some 6, .mv (.t 13), none⟩]) (.seq (.seq (.reg false [⟨some 14, .mv (.t 6), none⟩, ⟨some 15, .len (.t 14), none⟩, ⟨some 16, .mv (.c (.int .i64 0)), none⟩]) (.block 0 (.loop (.seq (.reg false [⟨some 17, .bin .lss (.t 16) (.t 15), none⟩]) (.seq (.cond (.t 17) .skip (.exit 0)) (.seq (.block 1 (.seq (.reg false [⟨some 18, .mv (.t 16), none⟩, ⟨some 7, .mv (.t 18), none⟩]) (.reg false [⟨some 19, .mv (.t 6), none⟩, ⟨some 20, .mv (.t 7), none⟩, ⟨some 21, .mv (.t 5), none⟩, ⟨some 22, .mks 2 1 [(.int .i64 0)] (.t 21) (.t 21), none⟩, ⟨some 23, .ia 1 (.t 19) (.t 20), none⟩, ⟨none, .st 1 (.t 23) (.t 22), none⟩]))) (.reg false [⟨some 24, .bin .add (.t 16) (.c (.int .i64 1)), none⟩, ⟨some 16, .mv (.t 24), none⟩]))))))) (.seq (.seq (.reg false [⟨some 25, .mv (.t 5), none⟩, ⟨some 26, .mv (.c (.int .i64 0)), none⟩]) (.block 2 (.loop (.seq (.reg false [⟨some 27, .bin .lss (.t 26) (.t 25), none⟩]) (.seq (.cond (.t 27) .skip (.exit 2)) (.seq (.block 3 (.seq (.reg false [⟨some 28, .mv (.t 26), none⟩, ⟨some 8, .mv (.t 28), none⟩]) (.reg true [⟨some 29, .mv (.t 6), none⟩, ⟨some 30, .mv (.t 8), none⟩, ⟨some 31, .ld 2 (.t 2), none⟩, ⟨some 32, .mv (.t 8), none⟩, ⟨some 33, .mv (.t 1), none⟩, ⟨some 34, .mv (.t 8), none⟩, ⟨some 35, .call (.f 112) [(.t 33), (.t 34)], none⟩, ⟨some 36, .call (.f 150) [(.t 31), (.t 32), (.t 35)], none⟩, ⟨some 37, .callw (.f 139) [(.t 29), (.t 30), (.t 36)], none⟩]))) (.reg false [⟨some 38, .bin .add (.t 26) (.c (.int .i64 1)), none⟩, ⟨some 26, .mv (.t 38), none⟩]))))))) (.seq (.reg false [⟨some 39, .mv (.t 6), none⟩, ⟨some 4, .mv (.t 39), none⟩]) .ret)))))), 40, [(.t 4)]⟩
theorem k_impl_Problem_columns : compF Tryz.prog Tryz.f136 = some c_impl_Problem_columns := by kernel_rfl
def c_spec_l01Columns : F := ⟨(.seq (.reg false [⟨some 4, .mv (.c .nilsl), none⟩]) (.seq (.reg false [⟨some 9, .lit 23 1 0 [.nilsl] [], none⟩, ⟨some 5, .mv (.t 9), none⟩]) (.seq (.seq (.reg false [⟨some 6, .mv (.c (.int .i64 0)), none⟩]) (.block 0 (.loop (.seq (.seq (.reg false [⟨some 10, .mv (.t 6), none⟩, ⟨some 11, .mv (.t 0), none⟩, ⟨some 12, .len (.t 11), none⟩, ⟨some 13, .bin .lss (.t 10) (.t 12), none⟩]) (.cond (.t 13) .skip (.exit 0))) (.seq (.block 1 (.seq (.reg false [⟨some 16, .lit 2 1 0 [(.int .i64 0)] [], none⟩, ⟨some 7, .mv (.t 16), none⟩]) (.seq (.seq (.reg false [⟨some 8, .mv (.c (.int .i64 0)), none⟩]) (.block 2 (.loop (.seq (.seq (.reg false [⟨some 17, .mv (.t 8), none⟩, ⟨some 18, .mv (.t 0), none⟩, ⟨some 19, .len (.t 18), none⟩, ⟨some 20, .bin .lss (.t 17) (.t 19), none⟩]) (.cond (.t 20) .skip (.exit 2))) (.seq (.block 3 (.block 4 (.seq (.reg false [⟨some 27, .mv (.t 1), none⟩, ⟨some 28, .mv (.t 8), none⟩, ⟨some 29, .cvi .u64 (.t 28), none⟩, ⟨some 30, .bin .shr (.t 27) (.t 29), none⟩, ⟨some 31, .bin .and (.t 30) (.c (.int .i64 1)), none⟩, ⟨some 32, .bin .eql (.t 31) (.c (.int .i64 1)), none⟩, ⟨some 26, .mv (.t 32), none⟩]) (.cond (.t 26) (.reg false [⟨some 33, .mv (.t 7), none⟩, ⟨some 34, .mv (.t 0), none⟩, ⟨some 35, .mv (.t 6), none⟩, ⟨some 36, .ia 1 (.t 34) (.t 35), none⟩, ⟨some 37, .ld1 (.t 36), none⟩, ⟨some 38, .mv (.t 8), none⟩, ⟨some 39, .ia 1 (.t 37) (.t 38), none⟩, ⟨some 40, .ld1 (.t 39), none⟩, ⟨some 41, .un .neg (.t 40), none⟩, ⟨some 42, .lit 2 1 1 [(.int .i64 0)] [(0, (.t 41))], none⟩, ⟨some 43, .app 2 1 8 [(.int .i64 0)] (.t 33) (.t 42), none⟩, ⟨some 7, .mv (.t 43), none⟩]) (.seq (.reg false [⟨some 45, .mv (.t 6), none⟩, ⟨some 46, .mv (.t 8), none⟩, ⟨some 47, .bin .eql (.t 45) (.t 46), none⟩, ⟨some 44, .mv (.t 47), none⟩]) (.cond (.t 44) (.reg false [⟨some 48, .mv (.t 7), none⟩, ⟨some 49, .lit 2 1 1 [(.int .i64 0)] [(0, (.c (.int .i64 1)))], none⟩, ⟨some 50, .app 2 1 8 [(.int .i64 0)] (.t 48) (.t 49), none⟩, ⟨some 7, .mv (.t 50), none⟩]) (.reg false [⟨some 23, .mv (.t 7), none⟩, ⟨some 24, .lit 2 1 1 [(.int .i64 0)] [(0, (.c (.int .i64 0)))], none⟩, ⟨some 25, .app 2 1 8 [(.int .i64 0)] (.t 23) (.t 24), none⟩, ⟨some 7, .mv (.t 25), none⟩]))))))) (.reg false [⟨some 21, .mv (.t 8), none⟩, ⟨some 22, .bin .add (.t 21) (.c (.int .i64 1)), none⟩, ⟨some 8, .mv (.t 22), none⟩])))))) (.reg false [⟨some 51, .mv (.t 5), none⟩, ⟨some 52, .mv (.t 7), none⟩, ⟨some 53, .lit 23 1 1 [.nilsl] [(0, (.t 52))], none⟩, ⟨some 54, .app 23 1 24 [.nilsl] (.t 51) (.t 53), none⟩, ⟨some 5, .mv (.t 54), none⟩])))) (.reg false [⟨some 14, .mv (.t 6), none⟩, ⟨some 15, .bin .add (.t 14) (.c (.int .i64 1)), none⟩, ⟨some 6, .mv (.t 15), none⟩])))))) (.seq (.reg false [⟨some 55, .mv (.t 5), none⟩, ⟨some 4, .mv (.t 55), none⟩]) .ret)))), 56, [(.t 4)]⟩
theorem k_spec_l01Columns : compF Tryz.prog Tryz.f131 = some c_spec_l01Columns := by kernel_rfl

theorem isProb_facts {ll : List (List Int)} {q : List Int} (h : isProb ll q = true) : isMat ll = true ∧ q.length = ll.length ∧ within 100 q = true := by
  simp only [isProb, Bool.and_eq_true, decide_eq_true_eq] at h
  exact ⟨h.1.1, h.1.2, h.2⟩
def codeP (ll : List (List Int)) (q : List Int) (s : Int) : Int := if isProb ll q = true then (if inSet ll.length s = true then 0 else 2) else 1
theorem codeP_zero {ll : List (List Int)} {q : List Int} {s : Int} : codeP ll q s = 0 ↔ isProb ll q = true ∧ inSet ll.length s = true := by
  unfold codeP
  by_cases h1 : isProb ll q = true
  · by_cases h2 : inSet ll.length s = true <;> simp [h1, h2]
  · simp [h1]
section
variable {w : Bool} {lo hi : Nat} {h : AH} {v u : AV} {vs : List AV} {ll : List (List Int)} {q : List Int}
theorem impl_setCode (s : Prob w lo hi h v u vs ll q) (hl : ll.length ≤ 1048576) (hll : ∀ l ∈ ll, l.length ≤ 1048576) (hq : q.length ≤ 1048576) (a : Int) (n : Nat) (hn : hi ≤ n) :
    Q Tryz.prog 80 [.agg [v, u], .int .i64 a] h n (.int .i64 (codeP ll q a)) := by
  refine q_intro Tryz.func80 k_impl_setCode ?_
  have o1 := one_any (Sl.any s.M.out)
  have o2 := one_any (Sl.any s.Q)
  simp (maxSteps := 2000000) -implicitDefEqProofs (disch := omega) only [c_impl_setCode, o1, o2, xsW, xsC, xsD, xsE, fillA, reduceCtorEq, Nat.reduceAdd, Nat.reduceSub, Nat.reduceLeDiff, Nat.reduceMul, Int.reduceLT, Int.reduceLE, Int.reduceEq, Int.reduceNe, Int.reduceAdd, Int.reduceSub, Int.reduceMul, Int.reduceNeg, Int.reduceToNat]
  refine q_use (impl_IsProblem (s.keep (fun i _ hi9 => by simp (disch := omega) only [upd_other])) hl hll hq _ (by omega)) fun n1 hn1 => ?_
  unfold codeP
  cases hm : isProb ll q
  · simp (maxSteps := 2000000) -implicitDefEqProofs (disch := omega) only [xsW, xsC, xsD, xsE, fillA, reduceCtorEq, Nat.reduceAdd, Nat.reduceSub, Nat.reduceLeDiff, Nat.reduceMul, Int.reduceLT, Int.reduceLE, Int.reduceEq, Int.reduceNe, Int.reduceAdd, Int.reduceSub, Int.reduceMul, Int.reduceNeg, Int.reduceToNat]
  · obtain ⟨h1, h2, h3⟩ := isProb_facts hm
    have hN := ((isMat_iff ll).1 h1).2.1
    simp (maxSteps := 2000000) -implicitDefEqProofs (disch := omega) only [xsW, xsC, xsD, xsE, fillA, reduceCtorEq, Nat.reduceAdd, Nat.reduceSub, Nat.reduceLeDiff, Nat.reduceMul, Int.reduceLT, Int.reduceLE, Int.reduceEq, Int.reduceNe, Int.reduceAdd, Int.reduceSub, Int.reduceMul, Int.reduceNeg, Int.reduceToNat,  s.Q.ln]
    refine q_use (impl_isSet _ _ (by omega) _ _) fun n2 hn2 => ?_
    rw [h2]
    cases ha : inSet ll.length a
    · simp (maxSteps := 2000000) -implicitDefEqProofs (disch := omega) only [xsW, xsC, xsD, xsE, fillA, reduceCtorEq, Nat.reduceAdd, Nat.reduceSub, Nat.reduceLeDiff, Nat.reduceMul, Int.reduceLT, Int.reduceLE, Int.reduceEq, Int.reduceNe, Int.reduceAdd, Int.reduceSub, Int.reduceMul, Int.reduceNeg, Int.reduceToNat]
    · simp (maxSteps := 2000000) -implicitDefEqProofs (disch := omega) only [xsW, xsC, xsD, xsE, fillA, reduceCtorEq, Nat.reduceAdd, Nat.reduceSub, Nat.reduceLeDiff, Nat.reduceMul, Int.reduceLT, Int.reduceLE, Int.reduceEq, Int.reduceNe, Int.reduceAdd, Int.reduceSub, Int.reduceMul, Int.reduceNeg, Int.reduceToNat]
theorem spec_l02Code (s : Prob w lo hi h v u vs ll q) (hl : ll.length ≤ 1048576) (hll : ∀ l ∈ ll, l.length ≤ 1048576) (hq : q.length ≤ 1048576) (a : Int) (n : Nat) (hn : hi ≤ n) :
    Q Tryz.prog 124 [.agg [v, u], .int .i64 a] h n (.int .i64 (codeP ll q a)) := by
  refine q_intro Tryz.func124 k_spec_l02Code ?_
  have o1 := one_any (Sl.any s.M.out)
  have o2 := one_any (Sl.any s.Q)
  simp (maxSteps := 2000000) -implicitDefEqProofs (disch := omega) only [c_spec_l02Code, o1, o2, xsW, xsC, xsD, xsE, fillA, reduceCtorEq, Nat.reduceAdd, Nat.reduceSub, Nat.reduceLeDiff, Nat.reduceMul, Int.reduceLT, Int.reduceLE, Int.reduceEq, Int.reduceNe, Int.reduceAdd, Int.reduceSub, Int.reduceMul, Int.reduceNeg, Int.reduceToNat]
  refine q_use (spec_l01Is (s.keep (fun i _ hi9 => by simp (disch := omega) only [upd_other])) hl hll hq _ (by omega)) fun n1 hn1 => ?_
  unfold codeP
  cases hm : isProb ll q
  · simp (maxSteps := 2000000) -implicitDefEqProofs (disch := omega) only [xsW, xsC, xsD, xsE, fillA, reduceCtorEq, Nat.reduceAdd, Nat.reduceSub, Nat.reduceLeDiff, Nat.reduceMul, Int.reduceLT, Int.reduceLE, Int.reduceEq, Int.reduceNe, Int.reduceAdd, Int.reduceSub, Int.reduceMul, Int.reduceNeg, Int.reduceToNat]
  · obtain ⟨h1, h2, h3⟩ := isProb_facts hm
    have hN := ((isMat_iff ll).1 h1).2.1
    have hp := pw_le hN
    simp (maxSteps := 2000000) -implicitDefEqProofs (disch := omega) only [xsW, xsC, xsD, xsE, fillA, reduceCtorEq, Nat.reduceAdd, Nat.reduceSub, Nat.reduceLeDiff, Nat.reduceMul, Int.reduceLT, Int.reduceLE, Int.reduceEq, Int.reduceNe, Int.reduceAdd, Int.reduceSub, Int.reduceMul, Int.reduceNeg, Int.reduceToNat,  s.Q.ln, h2, shl1]
    refine q_use (spec_l01In _ _ _ _ _) fun n2 hn2 => ?_
    have e : decide (0 ≤ a ∧ a ≤ (pw ll.length : Int) - 1) = inSet ll.length a := rfl
    rw [e]
    cases ha : inSet ll.length a
    · simp (maxSteps := 2000000) -implicitDefEqProofs (disch := omega) only [xsW, xsC, xsD, xsE, fillA, reduceCtorEq, Nat.reduceAdd, Nat.reduceSub, Nat.reduceLeDiff, Nat.reduceMul, Int.reduceLT, Int.reduceLE, Int.reduceEq, Int.reduceNe, Int.reduceAdd, Int.reduceSub, Int.reduceMul, Int.reduceNeg, Int.reduceToNat]
    · simp (maxSteps := 2000000) -implicitDefEqProofs (disch := omega) only [xsW, xsC, xsD, xsE, fillA, reduceCtorEq, Nat.reduceAdd, Nat.reduceSub, Nat.reduceLeDiff, Nat.reduceMul, Int.reduceLT, Int.reduceLE, Int.reduceEq, Int.reduceNe, Int.reduceAdd, Int.reduceSub, Int.reduceMul, Int.reduceNeg, Int.reduceToNat]
end
def colE (ll : List (List Int)) (s : Int) (r c : Nat) : Int := if hasB s c = true then -at2 ll r c else if r = c then 1 else 0
def colsL (ll : List (List Int)) (s : Int) : List (List Int) := rowsOf ll.length fun r => rowOf ll.length fun c => colE ll s r c
theorem colsL_at {ll : List (List Int)} {s : Int} {r c : Nat} (hr : r < ll.length) (hc : c < ll.length) : at2 (colsL ll s) r c = colE ll s r c := by
  unfold at2 colsL
  rw [rowsOf_get hr, rowOf_get hc]
theorem colsL_sq (ll : List (List Int)) (s : Int) : Sq ll.length (colsL ll s) := ⟨rowsOf_len _ _, fun k hk => by rw [colsL, rowsOf_get hk, rowOf_len]⟩
theorem colE_b {ll : List (List Int)} (hm : isMat ll = true) (s : Int) {r c : Nat} (hr : r < ll.length) (hc : c < ll.length) : -20 ≤ colE ll s r c ∧ colE ll s r c ≤ 20 := by
  have := isMat_at hm hr hc
  unfold colE
  split
  · omega
  · split <;> omega
theorem colsL_lim {ll : List (List Int)} (hm : isMat ll = true) (s : Int) : Lim 0 ll.length (mx (colsL ll s)) := fun r c hr hc => by
  have := colE_b hm s hr hc
  unfold mx
  rw [colsL_at hr hc]
  split <;> omega
def colV (ll : List (List Int)) (i : Nat) (z : Bool) : List Int := rowOf ll.length fun k => if z = true then -at2 ll k i else if k = i then 1 else 0
theorem one_in (N i : Nat) (hi : i < N) : (List.replicate N (AV.int .i64 0)).set i (.int .i64 1) = ints (rowOf N fun k => if k = i then 1 else 0) := by
  refine List.ext_getElem (by simp [ints, rowOf]) fun j h1 h2 => ?_
  simp only [List.length_set, List.length_replicate] at h1
  simp only [List.getElem_set, List.getElem_replicate, ints, rowOf, List.getElem_map, List.getElem_range]
  by_cases e : i = j
  · subst e; simp
  · rw [if_neg e, if_neg fun h => e h.symm]
section
variable {w : Bool} {lo hi : Nat} {h : AH} {v u : AV} {vs : List AV} {ll : List (List Int)} {q : List Int}
theorem impl_column (s : Prob w lo hi h v u vs ll q) (hp : isProb ll q = true) (i : Nat) (hi2 : i < ll.length) (z : Bool) (n : Nat) (hn : hi ≤ n) :
    FQ Tryz.prog 150 [.agg [v, u], .int .i64 i, .bool z] h n fun v' h' n' => Ints true n n' h' v' (colV ll i z) := by
  refine fq_intro Tryz.func150 k_impl_Problem_column ?_
  obtain ⟨hm, hq, _⟩ := isProb_facts hp
  have hM := ((isMat_iff ll).1 hm).2
  have hN := hM.1
  have o1 := one_any (Sl.any s.M.out)
  have o2 := one_any (Sl.any s.Q)
  have hlen : (colV ll i z).length = ll.length := rowOf_len _ _
  simp (maxSteps := 2000000) -implicitDefEqProofs (disch := omega) only [c_impl_Problem_column, o1, o2, s.Q.ln, s.M.ln, hq, xsW, xsC, xsD, xsE, fillA, reduceCtorEq, Nat.reduceAdd, Nat.reduceSub, Nat.reduceLeDiff, Nat.reduceMul, Int.reduceLT, Int.reduceLE, Int.reduceEq, Int.reduceNe, Int.reduceAdd, Int.reduceSub, Int.reduceMul, Int.reduceNeg, Int.reduceToNat]
  cases z
  · refine loop_for ll.length 0 (fun k (_ : Unit) => [.agg [v, u], .int .i64 i, .bool false, .ptr n 0, .any, .any, .nilsl, .sl (n + 1) 0 ll.length ll.length, .any, .any, .any, .any, .any, .any, .any, v, .int .i64 ll.length, .int .i64 k, .any, .any, .any, .any, .any, .any, .any, .any, .any, .any, .any, .any, .any, .any, .any, .any, .any, .any, .any, .any])
      (fun k _ => upd (upd h n (some ⟨30, [v, u], true, 0⟩)) (n + 1) (some ⟨2, List.replicate ll.length (.int .i64 0), true, 0⟩)) (fun _ _ _ => True) () (Nat.zero_le _) trivial (by simp [LeL, Le1]) (fun _ _ h => h) ?_
    rintro k - n1 - hk hn1 -
    simp (maxSteps := 2000000) -implicitDefEqProofs (disch := omega) only [xsW, xsC, xsD, xsE, fillA, reduceCtorEq, Nat.reduceAdd, Nat.reduceSub, Nat.reduceLeDiff, Nat.reduceMul, Int.reduceLT, Int.reduceLE, Int.reduceEq, Int.reduceNe, Int.reduceAdd, Int.reduceSub, Int.reduceMul, Int.reduceNeg, Int.reduceToNat]
    (refine cd_dec (fun c1 => ?_) (fun c1 => ?_) <;> simp (maxSteps := 2000000) -implicitDefEqProofs (disch := omega) only [xsW, xsC, xsD, xsE, fillA, reduceCtorEq, Nat.reduceAdd, Nat.reduceSub, Nat.reduceLeDiff, Nat.reduceMul, Int.reduceLT, Int.reduceLE, Int.reduceEq, Int.reduceNe, Int.reduceAdd, Int.reduceSub, Int.reduceMul, Int.reduceNeg, Int.reduceToNat,  c1])
    · have hk2 : k < ll.length := by omega
      have hb := s.M.out.below (by rw [s.M.slen]; omega)
      simp (maxSteps := 2000000) -implicitDefEqProofs (disch := omega) only [xsW, xsC, xsD, xsE, fillA, reduceCtorEq, Nat.reduceAdd, Nat.reduceSub, Nat.reduceLeDiff, Nat.reduceMul, Int.reduceLT, Int.reduceLE, Int.reduceEq, Int.reduceNe, Int.reduceAdd, Int.reduceSub, Int.reduceMul, Int.reduceNeg, Int.reduceToNat,  s.M.ia, s.M.ld]
      exact ⟨(), by omega, by omega, (by simp [LeL, Le1])⟩
    · refine ⟨by omega, ?_⟩
      intro _ h2 hh
      refine Sl.of_sl (ty := 2) (op := 0) ?_ (by simp [ints, hlen]) (Nat.le_refl _) (by omega) (by omega)
      rw [hh (n + 1) (by omega) (by omega), upd_same, putA_eq_set (by simp; omega), one_in _ _ hi2]
      simp [colV]
  · refine loop_for ll.length 0 (fun k (_ : Unit) => [.agg [v, u], .int .i64 i, .bool true, .ptr n 0, .any, .any, .nilsl, .sl (n + 1) 0 ll.length ll.length, .any, .any, .any, .any, .any, .any, .any, v, .int .i64 ll.length, .int .i64 k, .any, .any, .any, .any, .any, .any, .any, .any, .any, .any, .any, .any, .any, .any, .any, .any, .any, .any, .any, .any])
      (fun k _ => upd (upd h n (some ⟨30, [v, u], true, 0⟩)) (n + 1) (some ⟨2, (ints (colV ll i true)).take k ++ List.replicate ((colV ll i true).length - k) (.int .i64 0), true, 0⟩)) (fun _ _ _ => True) () (Nat.zero_le _) trivial (by simp [LeL, Le1]) (by simp [hlen]) ?_
    rintro k - n1 - hk hn1 -
    simp (maxSteps := 2000000) -implicitDefEqProofs (disch := omega) only [xsW, xsC, xsD, xsE, fillA, reduceCtorEq, Nat.reduceAdd, Nat.reduceSub, Nat.reduceLeDiff, Nat.reduceMul, Int.reduceLT, Int.reduceLE, Int.reduceEq, Int.reduceNe, Int.reduceAdd, Int.reduceSub, Int.reduceMul, Int.reduceNeg, Int.reduceToNat]
    (refine cd_dec (fun c1 => ?_) (fun c1 => ?_) <;> simp (maxSteps := 2000000) -implicitDefEqProofs (disch := omega) only [xsW, xsC, xsD, xsE, fillA, reduceCtorEq, Nat.reduceAdd, Nat.reduceSub, Nat.reduceLeDiff, Nat.reduceMul, Int.reduceLT, Int.reduceLE, Int.reduceEq, Int.reduceNe, Int.reduceAdd, Int.reduceSub, Int.reduceMul, Int.reduceNeg, Int.reduceToNat,  c1])
    · have hk2 : k < ll.length := by omega
      have hb := s.M.out.below (by rw [s.M.slen]; omega)
      have hr := s.M.row k hk2
      have lr := (hM.2 k hk2).1
      have hbr := Sl.below hr (by rw [hr.slen]; omega)
      have xk := isMat_at hm hk2 hi2
      have e : -(ll.getD k []).getD i 0 = (colV ll i true).getD k 0 := by rw [colV, rowOf_get hk2]; simp [at2]
      unfold at2 at xk
      simp (maxSteps := 2000000) -implicitDefEqProofs (disch := omega) only [xsW, xsC, xsD, xsE, fillA, reduceCtorEq, Nat.reduceAdd, Nat.reduceSub, Nat.reduceLeDiff, Nat.reduceMul, Int.reduceLT, Int.reduceLE, Int.reduceEq, Int.reduceNe, Int.reduceAdd, Int.reduceSub, Int.reduceMul, Int.reduceNeg, Int.reduceToNat,  s.M.ia, s.M.ld, hr.ia, hr.ld, e, fill_ints]
      exact ⟨by omega, (), by omega, by omega, (by simp [LeL, Le1])⟩
    · have e : k = ll.length := by omega
      subst e
      intro _ h2 hh
      refine Sl.of_sl (ty := 2) (op := 0) ?_ (by simp [ints, hlen]) (Nat.le_refl _) (by omega) (by omega)
      rw [hh (n + 1) (by omega) (by omega), upd_same]
      simp [hlen, ints, List.take_of_length_le]
end
def putL (ll : List (List Int)) (i : Nat) (c : List Int) : List (List Int) := rowsOf ll.length fun r => (ll.getD r []).set i (c.getD r 0)
theorem impl_put {lo hi : Nat} {h : AH} {v : AV} {vs : List AV} {ll : List (List Int)} (sR : Rows true lo hi h v vs ll) (hl : ll.length ≤ 1048576) {w' : Bool} {lo' hi' : Nat} {u : AV} {c : List Int} (qc : Ints w' lo' hi' h u c) (hc : c.length = ll.length) (hd : hi' ≤ lo ∨ hi ≤ lo') (i : Nat)
    (hi2 : ∀ r, r < ll.length → i < (ll.getD r []).length) (n : Nat) (hn : hi ≤ n) :
    MQ Tryz.prog 139 [v, .int .i64 i, u] h n lo hi fun x h' n' => Rows true lo hi h' v vs (putL ll i c) ∧ ∀ j, (j < lo ∨ hi ≤ j) → h' j = h j := by
  refine mq_intro Tryz.func139 k_impl_put ?_
  simp (maxSteps := 2000000) -implicitDefEqProofs (disch := omega) only [c_impl_put, sR.ln, xsW, xsC, xsD, xsE, fillA, reduceCtorEq, Nat.reduceAdd, Nat.reduceSub, Nat.reduceLeDiff, Nat.reduceMul, Int.reduceLT, Int.reduceLE, Int.reduceEq, Int.reduceNe, Int.reduceAdd, Int.reduceSub, Int.reduceMul, Int.reduceNeg, Int.reduceToNat]
  refine loop_for ll.length 0 (fun k _ => [v, .int .i64 i, u, .any, .any, .any, .any, .any, v, .int .i64 ll.length, .int .i64 k, .any, .any, .any, .any, .any, .any, .any, .any, .any, .any, .any, .any]) (fun _ (p : AH × List (List Int)) => p.1)
    (fun k p m => Rows true lo hi p.1 v vs p.2 ∧ p.2.length = ll.length ∧ (∀ r, r < ll.length → p.2.getD r [] = if r < k then (ll.getD r []).set i (c.getD r 0) else ll.getD r []) ∧ ∀ j, (j < lo ∨ hi ≤ j) → p.1 j = h j)
    (h, ll) (Nat.zero_le _) ⟨sR, rfl, fun r hr => by rw [if_neg (by omega)], fun _ _ => rfl⟩ (by simp [LeL, Le1]) (fun _ _ h => h) ?_
  rintro k ⟨hp, l1⟩ m - hk hm ⟨g1, g2, g3, g4⟩
  simp only at g1 g2 g3 g4
  simp (maxSteps := 2000000) -implicitDefEqProofs (disch := omega) only [xsW, xsC, xsD, xsE, fillA, reduceCtorEq, Nat.reduceAdd, Nat.reduceSub, Nat.reduceLeDiff, Nat.reduceMul, Int.reduceLT, Int.reduceLE, Int.reduceEq, Int.reduceNe, Int.reduceAdd, Int.reduceSub, Int.reduceMul, Int.reduceNeg, Int.reduceToNat]
  (refine cd_dec (fun c1 => ?_) (fun c1 => ?_) <;> simp (maxSteps := 2000000) -implicitDefEqProofs (disch := omega) only [xsW, xsC, xsD, xsE, fillA, reduceCtorEq, Nat.reduceAdd, Nat.reduceSub, Nat.reduceLeDiff, Nat.reduceMul, Int.reduceLT, Int.reduceLE, Int.reduceEq, Int.reduceNe, Int.reduceAdd, Int.reduceSub, Int.reduceMul, Int.reduceNeg, Int.reduceToNat,  c1])
  · have hk2 : k < ll.length := by omega
    have hr := g1.row k (by omega)
    rw [g3 k hk2, if_neg (by omega)] at hr
    have hl2 := hi2 k hk2
    have qk := qc.keep (h' := hp) fun j a b => g4 j (by omega)
    have hsr := Sl.isReal hr (slen_ne hr (by omega)).2
    have e1 := fun K => Ints.st hr (k := i) (x := c.getD k 0) (n0 := n) (n := m) (W := fun i => lo ≤ i ∧ i < hi) hl2 (fun i a b => .inr ⟨a, b⟩) (by omega) K
    simp (maxSteps := 2000000) -implicitDefEqProofs (disch := omega) only [xsW, xsC, xsD, xsE, fillA, reduceCtorEq, Nat.reduceAdd, Nat.reduceSub, Nat.reduceLeDiff, Nat.reduceMul, Int.reduceLT, Int.reduceLE, Int.reduceEq, Int.reduceNe, Int.reduceAdd, Int.reduceSub, Int.reduceMul, Int.reduceNeg, Int.reduceToNat,  g1.ia, g1.ld, qk.ia, qk.ld, hr.ia, e1]
    have hown := Sl.own hr hsr
    refine ⟨(wr hp (bid (vs.getD k .any)) (boff (vs.getD k .any) + i) (.int .i64 (c.getD k 0)), _), ⟨g1.row1 (by omega) (hr.wr hl2 (c.getD k 0)) (.inl hsr) (fun j hj => wr_other hj), by simpa using g2, fun r hr' => ?_, fun j hj => (wr_other (by omega)).trans (g4 j hj)⟩, by omega, by omega, (by simp [LeL, Le1]), fun _ _ h => h⟩
    rw [getD_set, g3 r hr']
    by_cases e : k = r
    · subst e; rw [if_pos ⟨rfl, by omega⟩, if_pos (by omega)]
    · rw [if_neg fun h => e h.1]
      by_cases e2 : r < k
      · rw [if_pos e2, if_pos (by omega)]
      · rw [if_neg e2, if_neg (by omega)]
  · have e : k = ll.length := by omega
    subst e
    refine ⟨?_, g4⟩
    have : l1 = putL ll i c := getD_ext (d := []) (by rw [g2, putL, rowsOf_len]) fun r hr => by rw [g3 r (by omega), if_pos (by omega), putL, rowsOf_get (by omega)]
    rw [← this]; exact g1
section
variable {w : Bool} {lo hi : Nat} {h : AH} {v u : AV} {vs : List AV} {ll : List (List Int)} {q : List Int}
theorem impl_columns (s : Prob w lo hi h v u vs ll q) (hp : isProb ll q = true) (a : Int) (n : Nat) (hn : hi ≤ n) :
    FQ Tryz.prog 136 [.agg [v, u], .int .i64 a] h n fun v' h' n' => ∃ vs', Rows true n n' h' v' vs' (colsL ll a) := by
  refine fq_intro Tryz.func136 k_impl_Problem_columns ?_
  obtain ⟨hm, hq, _⟩ := isProb_facts hp
  have hM := ((isMat_iff ll).1 hm).2
  have hN := hM.1
  have o1 := one_any (Sl.any s.M.out)
  have o2 := one_any (Sl.any s.Q)
  simp (maxSteps := 2000000) -implicitDefEqProofs (disch := omega) only [c_impl_Problem_columns, o1, o2, s.Q.ln, hq, xsW, xsC, xsD, xsE, fillA, reduceCtorEq, Nat.reduceAdd, Nat.reduceSub, Nat.reduceLeDiff, Nat.reduceMul, Int.reduceLT, Int.reduceLE, Int.reduceEq, Int.reduceNe, Int.reduceAdd, Int.reduceSub, Int.reduceMul, Int.reduceNeg, Int.reduceToNat]
  refine loop_for ll.length 0 (fun k _ => [.agg [v, u], .int .i64 a, .ptr n 0, .any, .nilsl, .int .i64 ll.length, .sl (n + 1) 0 ll.length ll.length, .any, .any, .any, .any, .any, .any, .any, .sl (n + 1) 0 ll.length ll.length, .int .i64 ll.length, .int .i64 k, .any, .any, .any, .any, .any, .any, .any, .any, .any, .any, .any, .any, .any, .any, .any, .any, .any, .any, .any, .any, .any, .any, .any]) (fun _ (p : List AV × AH) => p.2)
    (fun k p m => p.1.length = k ∧ p.2 (n + 1) = some ⟨23, p.1 ++ List.replicate (ll.length - k) .nilsl, true, 0⟩ ∧ (∀ i, i < n + 1 → p.2 i = upd h n (some ⟨30, [v, u], true, 0⟩) i) ∧ n + 2 ≤ m ∧ RowsV true (n + 2) m p.2 p.1 (List.replicate k (List.replicate ll.length 0)))
    ([], upd (upd h n (some ⟨30, [v, u], true, 0⟩)) (n + 1) (some ⟨23, List.replicate ll.length .nilsl, true, 0⟩)) (Nat.zero_le _) ⟨rfl, by simp [upd], fun i hi => upd_other (by omega), by omega, RowsV.nil⟩ (by simp [LeL, Le1]) (fun _ _ h => h) ?_
  rintro k ⟨ws, hp1⟩ m - hk hm1 ⟨g1, g2, g3, g4, g5⟩
  simp only at g1 g2 g3 g4 g5
  simp (maxSteps := 2000000) -implicitDefEqProofs (disch := omega) only [xsW, xsC, xsD, xsE, fillA, reduceCtorEq, Nat.reduceAdd, Nat.reduceSub, Nat.reduceLeDiff, Nat.reduceMul, Int.reduceLT, Int.reduceLE, Int.reduceEq, Int.reduceNe, Int.reduceAdd, Int.reduceSub, Int.reduceMul, Int.reduceNeg, Int.reduceToNat]
  (refine cd_dec (fun c1 => ?_) (fun c1 => ?_) <;> simp (maxSteps := 2000000) -implicitDefEqProofs (disch := omega) only [xsW, xsC, xsD, xsE, fillA, reduceCtorEq, Nat.reduceAdd, Nat.reduceSub, Nat.reduceLeDiff, Nat.reduceMul, Int.reduceLT, Int.reduceLE, Int.reduceEq, Int.reduceNe, Int.reduceAdd, Int.reduceSub, Int.reduceMul, Int.reduceNeg, Int.reduceToNat,  c1])
  · have hk2 : k < ll.length := by omega
    simp (maxSteps := 2000000) -implicitDefEqProofs (disch := omega) only [xsW, xsC, xsD, xsE, fillA, reduceCtorEq, Nat.reduceAdd, Nat.reduceSub, Nat.reduceLeDiff, Nat.reduceMul, Int.reduceLT, Int.reduceLE, Int.reduceEq, Int.reduceNe, Int.reduceAdd, Int.reduceSub, Int.reduceMul, Int.reduceNeg, Int.reduceToNat,  g2, fill_avs]
    refine ⟨by omega, (ws ++ [.sl m 0 ll.length ll.length], upd (upd hp1 m (some ⟨2, List.replicate ll.length (.int .i64 0), true, 0⟩)) (n + 1) (some ⟨23, (ws ++ [.sl m 0 ll.length ll.length]) ++ List.replicate (ll.length - (k + 1)) .nilsl, true, 0⟩)), ⟨by simp [g1], upd_same _ _ _, fun i hi => (upd_other (by omega)).trans ((upd_other (by omega)).trans (g3 i hi)), by omega, ?_⟩, by omega, by omega, (by simp [LeL, Le1]), fun _ _ h => h⟩
    dsimp only
    rw [show List.replicate ll.length (0 : Int) :: List.replicate k (List.replicate ll.length 0) = List.replicate k (List.replicate ll.length 0) ++ [List.replicate ll.length 0] by rw [← List.replicate_succ, List.replicate_succ']]
    refine g5.snoc (fun i h1 h2 => by rw [upd_other (by omega), upd_other (by omega)]) (Sl.of_sl (ty := 2) (op := 0) (by rw [upd_other (by omega), upd_same]; simp [ints]) (by simp [ints]) (Nat.le_refl _) (Nat.le_refl _) (by omega)) g4 (by omega)
  · have e : k = ll.length := by omega
    subst e
    have hR : Rows true (n + 1) m hp1 (.sl (n + 1) 0 ll.length ll.length) ws (List.replicate ll.length (List.replicate ll.length 0)) := by
      refine ⟨Sl.of_sl (ty := 23) (op := 0) (by rw [g2]; simp) (by omega) (Nat.le_refl _) (Nat.le_refl _) (by omega), g5.wide (by omega) (Nat.le_refl _), fun _ j hj hsl => ?_⟩
      have := Sl.own (g5.row j hj) hsl
      change bid _ ≠ n + 1
      omega
    have hbox : hp1 n = some ⟨30, [v, u], true, 0⟩ := by rw [g3 n (by omega), upd_same]
    refine loop_for ll.length 0 (fun k _ => [.agg [v, u], .int .i64 a, .ptr n 0, .any, .nilsl, .int .i64 ll.length, .sl (n + 1) 0 ll.length ll.length, .any, .any, .any, .any, .any, .any, .any, .any, .any, .any, .any, .any, .any, .any, .any, .any, .any, .any, .int .i64 ll.length, .int .i64 k, .any, .any, .any, .any, .any, .any, .any, .any, .any, .any, .any, .any, .any]) (fun _ (p : AH × List (List Int)) => p.1)
      (fun k p m' => Rows true (n + 1) m p.1 (.sl (n + 1) 0 ll.length ll.length) ws p.2 ∧ Sq ll.length p.2 ∧ (∀ r c, r < ll.length → c < ll.length → at2 p.2 r c = if c < k then colE ll a r c else 0) ∧ (∀ j, j < n + 1 → p.1 j = hp1 j) ∧ m ≤ m')
      (hp1, List.replicate ll.length (List.replicate ll.length 0)) (Nat.zero_le _) ⟨hR, ⟨by simp, fun r hr => by simp [List.getD, hr]⟩, fun r c hr hc => by rw [if_neg (by omega)]; simp [at2, List.getD, hr, hc], fun _ _ => rfl, Nat.le_refl _⟩ (by simp [LeL, Le1]) (fun _ _ h => h) ?_
    rintro i ⟨hp2, l2⟩ m2' - hi1 hm2 ⟨f1', f2', f3', f4', f5'⟩
    simp only at f1' f2' f3' f4'
    have hL2 := f2'.1
    simp (maxSteps := 2000000) -implicitDefEqProofs (disch := omega) only [xsW, xsC, xsD, xsE, fillA, reduceCtorEq, Nat.reduceAdd, Nat.reduceSub, Nat.reduceLeDiff, Nat.reduceMul, Int.reduceLT, Int.reduceLE, Int.reduceEq, Int.reduceNe, Int.reduceAdd, Int.reduceSub, Int.reduceMul, Int.reduceNeg, Int.reduceToNat]
    (refine cd_dec (fun c2 => ?_) (fun c2 => ?_) <;> simp (maxSteps := 2000000) -implicitDefEqProofs (disch := omega) only [xsW, xsC, xsD, xsE, fillA, reduceCtorEq, Nat.reduceAdd, Nat.reduceSub, Nat.reduceLeDiff, Nat.reduceMul, Int.reduceLT, Int.reduceLE, Int.reduceEq, Int.reduceNe, Int.reduceAdd, Int.reduceSub, Int.reduceMul, Int.reduceNeg, Int.reduceToNat,  c2])
    · have hi2 : i < ll.length := by omega
      have hbox2 := f4' n (by omega)
      rw [hbox] at hbox2
      simp (maxSteps := 2000000) -implicitDefEqProofs (disch := omega) only [xsW, xsC, xsD, xsE, fillA, reduceCtorEq, Nat.reduceAdd, Nat.reduceSub, Nat.reduceLeDiff, Nat.reduceMul, Int.reduceLT, Int.reduceLE, Int.reduceEq, Int.reduceNe, Int.reduceAdd, Int.reduceSub, Int.reduceMul, Int.reduceNeg, Int.reduceToNat,  hbox2]
      refine q_use (impl_has _ _ _ _) fun n3 hn3 => ?_
      simp (maxSteps := 2000000) -implicitDefEqProofs (disch := omega) only [xsW, xsC, xsD, xsE, fillA, reduceCtorEq, Nat.reduceAdd, Nat.reduceSub, Nat.reduceLeDiff, Nat.reduceMul, Int.reduceLT, Int.reduceLE, Int.reduceEq, Int.reduceNe, Int.reduceAdd, Int.reduceSub, Int.reduceMul, Int.reduceNeg, Int.reduceToNat,  hbox2]
      have hs2 : ∀ i, i < n → hp2 i = h i := fun i hi => by rw [f4' i (by omega), g3 i (by omega), upd_other (by omega)]
      refine fq_use (impl_column (s.keep (h' := hp2) (fun i _ hi9 => by simp (disch := omega) only [upd_other, hs2])) hp i hi2 (hasB a i) n3 (by omega)) fun v4 h4 n4 hn4 hs4 hv4 => ?_
      simp (maxSteps := 2000000) -implicitDefEqProofs (disch := omega) only [xsW, xsC, xsD, xsE, fillA, reduceCtorEq, Nat.reduceAdd, Nat.reduceSub, Nat.reduceLeDiff, Nat.reduceMul, Int.reduceLT, Int.reduceLE, Int.reduceEq, Int.reduceNe, Int.reduceAdd, Int.reduceSub, Int.reduceMul, Int.reduceNeg, Int.reduceToNat]
      have f1k := f1'.keep (h' := h4) (fun i _ hi9 => by simp (disch := omega) only [upd_other, hs4])
      refine mqw_use (impl_put f1k (by omega) hv4 (by rw [colV, rowOf_len, hL2]) (.inr (by omega)) i (fun r hr => by rw [f2'.2 r (by omega)]; exact hi2) n4 (by omega)) (fun j h1 h2 => .inl (by omega)) (fun _ _ _ hr _ j hj => hr.2 j (by omega)) fun v5 h5 n5 hn5 ⟨r1', r2'⟩ => ?_
      simp (maxSteps := 2000000) -implicitDefEqProofs (disch := omega) only [xsW, xsC, xsD, xsE, fillA, reduceCtorEq, Nat.reduceAdd, Nat.reduceSub, Nat.reduceLeDiff, Nat.reduceMul, Int.reduceLT, Int.reduceLE, Int.reduceEq, Int.reduceNe, Int.reduceAdd, Int.reduceSub, Int.reduceMul, Int.reduceNeg, Int.reduceToNat]
      refine ⟨(h5, putL l2 i (colV ll i (hasB a i))), ⟨r1', ⟨by dsimp only; rw [putL, rowsOf_len, hL2], fun r hr => by dsimp only; rw [putL, rowsOf_get (by omega), List.length_set]; exact f2'.2 r hr⟩, fun r c hr hc => ?_, fun j hj => (r2' j (by omega)).trans ((hs4 j (by omega)).trans (f4' j hj)), by omega⟩, by omega, by omega, (by simp [LeL, Le1]), fun _ _ h => h⟩
      dsimp only
      unfold at2
      rw [putL, rowsOf_get (by omega), getD_set, colV, rowOf_get hr]
      by_cases e : i = c
      · subst e
        rw [if_pos ⟨rfl, by rw [f2'.2 r hr]; exact hc⟩, if_pos (show i < i + 1 by omega)]
        rfl
      · rw [if_neg fun h => e h.1]
        have := f3' r c hr hc
        unfold at2 at this
        rw [this]
        by_cases e2 : c < i
        · rw [if_pos e2, if_pos (by omega)]
        · rw [if_neg e2, if_neg (by omega)]
    · have e : i = ll.length := by omega
      subst e
      intro _ h2 hh
      refine ⟨ws, ?_⟩
      have : l2 = colsL ll a := getD_ext (d := []) (by rw [hL2, (colsL_sq ll a).1]) fun r hr => getD_ext (d := 0) (by rw [f2'.2 r (by omega), (colsL_sq ll a).2 r (by omega)]) fun c hc => by
        have h1 := f3' r c (by omega) (by rw [f2'.2 r (by omega)] at hc; exact hc)
        rw [if_pos (by rw [f2'.2 r (by omega)] at hc; exact hc), ← colsL_at (by omega) (by rw [f2'.2 r (by omega)] at hc; exact hc)] at h1
        exact h1
      rw [← this]
      exact (f1'.keep fun i h1 h2 => hh i (by omega) (by omega)).wide (by omega) (by omega)
theorem spec_l01Columns (sR : Rows w lo hi h v vs ll) (hm : isMat ll = true) (a : Int) (n : Nat) (hn : hi ≤ n) :
    FQ Tryz.prog 131 [v, .int .i64 a] h n fun v' h' n' => ∃ vs', Rows true n n' h' v' vs' (colsL ll a) := by
  refine fq_intro Tryz.func131 k_spec_l01Columns ?_
  have hN := ((isMat_iff ll).1 hm).2
  simp (maxSteps := 2000000) -implicitDefEqProofs (disch := omega) only [c_spec_l01Columns, xsW, xsC, xsD, xsE, fillA, reduceCtorEq, Nat.reduceAdd, Nat.reduceSub, Nat.reduceLeDiff, Nat.reduceMul, Int.reduceLT, Int.reduceLE, Int.reduceEq, Int.reduceNe, Int.reduceAdd, Int.reduceSub, Int.reduceMul, Int.reduceNeg, Int.reduceToNat]
  refine loop_for ll.length 0 (fun k p => [v, .int .i64 a, .any, .any, .nilsl, p.1, .int .i64 k, .any, .any, .any, .any, .any, .any, .any, .any, .any, .any, .any, .any, .any, .any, .any, .any, .any, .any, .any, .any, .any, .any, .any, .any, .any, .any, .any, .any, .any, .any, .any, .any, .any, .any, .any, .any, .any, .any, .any, .any, .any, .any, .any, .any, .any, .any, .any, .any, .any]) (fun k (p : AV × List AV × AH) => p.2.2)
    (fun k p m => Grow n m h p.2.2 23 p.1 p.2.1 (rowsOf k fun i => rowOf ll.length fun k => colE ll a i k)) (.sl n 0 0 0, [], _) (Nat.zero_le _) (Grow.start0 rfl) (by simp [LeL, Le1]) (fun _ _ h => h) ?_
  rintro i ⟨out, ws, hp⟩ m - hi1 hm1 g
  simp only at g
  have hold := g.old
  simp (maxSteps := 2000000) -implicitDefEqProofs (disch := omega) only [xsW, xsC, xsD, xsE, fillA, reduceCtorEq, Nat.reduceAdd, Nat.reduceSub, Nat.reduceLeDiff, Nat.reduceMul, Int.reduceLT, Int.reduceLE, Int.reduceEq, Int.reduceNe, Int.reduceAdd, Int.reduceSub, Int.reduceMul, Int.reduceNeg, Int.reduceToNat,  sR.ln]
  (refine cd_dec (fun c1 => ?_) (fun c1 => ?_) <;> simp (maxSteps := 2000000) -implicitDefEqProofs (disch := omega) only [xsW, xsC, xsD, xsE, fillA, reduceCtorEq, Nat.reduceAdd, Nat.reduceSub, Nat.reduceLeDiff, Nat.reduceMul, Int.reduceLT, Int.reduceLE, Int.reduceEq, Int.reduceNe, Int.reduceAdd, Int.reduceSub, Int.reduceMul, Int.reduceNeg, Int.reduceToNat,  c1])
  · have hi2 : i < ll.length := by omega
    have hri := sR.row i hi2
    have hb := sR.out.below (by rw [sR.slen]; omega)
    refine loop_for ll.length 0 (fun k p => [v, .int .i64 a, .any, .any, .nilsl, out, .int .i64 i, p.1, .int .i64 k, .any, .any, .any, .any, .any, .any, .any, .any, .any, .any, .any, .any, .any, .any, .any, .any, .any, .any, .any, .any, .any, .any, .any, .any, .any, .any, .any, .any, .any, .any, .any, .any, .any, .any, .any, .any, .any, .any, .any, .any, .any, .any, .any, .any, .any, .any, .any]) (fun k (p : AV × AH) => p.2)
      (fun k p m' => Acc m m' p.2 2 1 p.1 (ints (rowOf k fun k => colE ll a i k)) ∧ m ≤ m' ∧ ∀ j, j < m → p.2 j = hp j) (.sl m 0 0 0, _) (Nat.zero_le _) ⟨Acc.empty (upd_same _ _ _) rfl (Nat.le_refl _) (by omega), by omega, fun j hj => upd_other (by omega)⟩ (by simp [LeL, Le1]) (fun _ _ h => h) ?_
    rintro k ⟨row, hq⟩ mq - hk1 hm2 ⟨acc, hle, hold2⟩
    simp only at acc hold2
    simp (maxSteps := 2000000) -implicitDefEqProofs (disch := omega) only [xsW, xsC, xsD, xsE, fillA, reduceCtorEq, Nat.reduceAdd, Nat.reduceSub, Nat.reduceLeDiff, Nat.reduceMul, Int.reduceLT, Int.reduceLE, Int.reduceEq, Int.reduceNe, Int.reduceAdd, Int.reduceSub, Int.reduceMul, Int.reduceNeg, Int.reduceToNat,  sR.ln]
    (refine cd_dec (fun c2 => ?_) (fun c2 => ?_) <;> simp (maxSteps := 2000000) -implicitDefEqProofs (disch := omega) only [xsW, xsC, xsD, xsE, fillA, reduceCtorEq, Nat.reduceAdd, Nat.reduceSub, Nat.reduceLeDiff, Nat.reduceMul, Int.reduceLT, Int.reduceLE, Int.reduceEq, Int.reduceNe, Int.reduceAdd, Int.reduceSub, Int.reduceMul, Int.reduceNeg, Int.reduceToNat,  c2])
    · have hk2 : k < ll.length := by omega
      have li := (hN.2 i hi2).1
      have bi := Sl.below hri (by rw [hri.slen]; omega)
      have xi := isMat_at hm hi2 hk2
      unfold at2 at xi
      simp (maxSteps := 2000000) -implicitDefEqProofs (disch := omega) only [xsW, xsC, xsD, xsE, fillA, reduceCtorEq, Nat.reduceAdd, Nat.reduceSub, Nat.reduceLeDiff, Nat.reduceMul, Int.reduceLT, Int.reduceLE, Int.reduceEq, Int.reduceNe, Int.reduceAdd, Int.reduceSub, Int.reduceMul, Int.reduceNeg, Int.reduceToNat,  bitf]
      have hz : ∃ z, z = colE ll a i k := ⟨_, rfl⟩
      obtain ⟨z, hz⟩ := hz
      (refine cd_dec (fun c3 => ?_) (fun c3 => ?_) <;> simp (maxSteps := 2000000) -implicitDefEqProofs (disch := omega) only [xsW, xsC, xsD, xsE, fillA, reduceCtorEq, Nat.reduceAdd, Nat.reduceSub, Nat.reduceLeDiff, Nat.reduceMul, Int.reduceLT, Int.reduceLE, Int.reduceEq, Int.reduceNe, Int.reduceAdd, Int.reduceSub, Int.reduceMul, Int.reduceNeg, Int.reduceToNat,  c3])
      · have hB := hasB_t.2 c3
        simp (maxSteps := 2000000) -implicitDefEqProofs (disch := omega) only [xsW, xsC, xsD, xsE, fillA, reduceCtorEq, Nat.reduceAdd, Nat.reduceSub, Nat.reduceLeDiff, Nat.reduceMul, Int.reduceLT, Int.reduceLE, Int.reduceEq, Int.reduceNe, Int.reduceAdd, Int.reduceSub, Int.reduceMul, Int.reduceNeg, Int.reduceToNat,  hold2, hold, sR.ia, sR.ld, hri.ia, hri.ld]
        refine app_int (y := z) (acc.keep (fun i _ hi9 => by simp (disch := omega) only [upd_other]) |>.wide (Nat.le_refl _) (by omega)) (by omega) (by omega) ⟨rfl, _, upd_same _ _ _, by simp, by simp [cutA, hz, colE, hB, at2]⟩ (by rw [rowOf_len]; omega) fun v' h' n' q1 q2 q3 => ?_
        simp (maxSteps := 2000000) -implicitDefEqProofs (disch := omega) only [xsW, xsC, xsD, xsE, fillA, reduceCtorEq, Nat.reduceAdd, Nat.reduceSub, Nat.reduceLeDiff, Nat.reduceMul, Int.reduceLT, Int.reduceLE, Int.reduceEq, Int.reduceNe, Int.reduceAdd, Int.reduceSub, Int.reduceMul, Int.reduceNeg, Int.reduceToNat]
        exact ⟨(v', h'), ⟨by rw [rowOf_succ, ← hz]; exact q2, by omega, fun j hj => (q3 j hj).trans (by rw [upd_other (by omega), hold2 j hj])⟩, by omega, by omega, (by simp [LeL, Le1]), fun _ _ h => h⟩
      · have hB := hasB_f.2 ((bitI_or a k).resolve_right c3)
        (refine cd_dec (fun c4 => ?_) (fun c4 => ?_) <;> simp (maxSteps := 2000000) -implicitDefEqProofs (disch := omega) only [xsW, xsC, xsD, xsE, fillA, reduceCtorEq, Nat.reduceAdd, Nat.reduceSub, Nat.reduceLeDiff, Nat.reduceMul, Int.reduceLT, Int.reduceLE, Int.reduceEq, Int.reduceNe, Int.reduceAdd, Int.reduceSub, Int.reduceMul, Int.reduceNeg, Int.reduceToNat,  c4])
        · have e4 : i = k := by omega
          refine app_int (y := z) (acc.keep (fun i _ hi9 => by simp (disch := omega) only [upd_other]) |>.wide (Nat.le_refl _) (by omega)) (by omega) (by omega) ⟨rfl, _, upd_same _ _ _, by simp, by simp [cutA, hz, colE, hB, e4]⟩ (by rw [rowOf_len]; omega) fun v' h' n' q1 q2 q3 => ?_
          simp (maxSteps := 2000000) -implicitDefEqProofs (disch := omega) only [xsW, xsC, xsD, xsE, fillA, reduceCtorEq, Nat.reduceAdd, Nat.reduceSub, Nat.reduceLeDiff, Nat.reduceMul, Int.reduceLT, Int.reduceLE, Int.reduceEq, Int.reduceNe, Int.reduceAdd, Int.reduceSub, Int.reduceMul, Int.reduceNeg, Int.reduceToNat]
          exact ⟨(v', h'), ⟨by rw [rowOf_succ, ← hz]; exact q2, by omega, fun j hj => (q3 j hj).trans (by rw [upd_other (by omega), hold2 j hj])⟩, by omega, by omega, (by simp [LeL, Le1]), fun _ _ h => h⟩
        · have e4 : ¬ i = k := by omega
          refine app_int (y := z) (acc.keep (fun i _ hi9 => by simp (disch := omega) only [upd_other]) |>.wide (Nat.le_refl _) (by omega)) (by omega) (by omega) ⟨rfl, _, upd_same _ _ _, by simp, by simp [cutA, hz, colE, hB, e4]⟩ (by rw [rowOf_len]; omega) fun v' h' n' q1 q2 q3 => ?_
          simp (maxSteps := 2000000) -implicitDefEqProofs (disch := omega) only [xsW, xsC, xsD, xsE, fillA, reduceCtorEq, Nat.reduceAdd, Nat.reduceSub, Nat.reduceLeDiff, Nat.reduceMul, Int.reduceLT, Int.reduceLE, Int.reduceEq, Int.reduceNe, Int.reduceAdd, Int.reduceSub, Int.reduceMul, Int.reduceNeg, Int.reduceToNat]
          exact ⟨(v', h'), ⟨by rw [rowOf_succ, ← hz]; exact q2, by omega, fun j hj => (q3 j hj).trans (by rw [upd_other (by omega), hold2 j hj])⟩, by omega, by omega, (by simp [LeL, Le1]), fun _ _ h => h⟩
    · have e : k = ll.length := by omega
      subst e
      have o1 := one_any acc.any
      have o2 := sto_any acc.any
      have o3 := cel_any acc.any
      simp (maxSteps := 2000000) -implicitDefEqProofs (disch := omega) only [xsW, xsC, xsD, xsE, fillA, reduceCtorEq, Nat.reduceAdd, Nat.reduceSub, Nat.reduceLeDiff, Nat.reduceMul, Int.reduceLT, Int.reduceLE, Int.reduceEq, Int.reduceNe, Int.reduceAdd, Int.reduceSub, Int.reduceMul, Int.reduceNeg, Int.reduceToNat,  o1, o2, o3]
      refine g.app (hB := upd hq mq _) (v1 := row) (l := rowOf ll.length fun k => colE ll a i k) (acc.sl.keep (fun i _ hi9 => by simp (disch := omega) only [upd_other])) (fun i hi9 => by simp (disch := omega) only [upd_other, hold2]) hle (by omega) (by omega) ⟨rfl, _, upd_same _ _ _, by simp, by simp [cutA]⟩ (by rw [rowsOf_len]; omega) fun out' h' n' q1 q2 => ?_
      simp (maxSteps := 2000000) -implicitDefEqProofs (disch := omega) only [xsW, xsC, xsD, xsE, fillA, reduceCtorEq, Nat.reduceAdd, Nat.reduceSub, Nat.reduceLeDiff, Nat.reduceMul, Int.reduceLT, Int.reduceLE, Int.reduceEq, Int.reduceNe, Int.reduceAdd, Int.reduceSub, Int.reduceMul, Int.reduceNeg, Int.reduceToNat]
      exact ⟨(out', ws ++ [row], h'), by rw [rowsOf_succ]; exact q2, by omega, by omega, (by simp [LeL, Le1]), fun _ _ h => h⟩
  · intro _ h2 hh
    have e : i = ll.length := by omega
    subst e
    exact ⟨ws, g.rowsOf hh⟩
end
end Go.Proofs.YtkpibnhddhdooadGreat.L
