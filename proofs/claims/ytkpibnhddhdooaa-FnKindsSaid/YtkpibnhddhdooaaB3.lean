/- Contracts: determinants by the first row (the reference's), and what a slice of a row is. -/
import Derived.Test.YtkpibnhddhdooaaB2
set_option linter.unusedSimpArgs false
set_option linter.unusedVariables false
namespace Go.Proofs.Ytkpibnhddhdooaa.L
open Go
def c_spec_l01Det : F := ⟨(.seq (.reg false [⟨some 2, .mv (.c (.int .i64 0)), none⟩]) (.seq (.seq (.reg false [⟨some 8, .mv (.t 0), none⟩, ⟨some 9, .len (.t 8), none⟩, ⟨some 10, .bin .eql (.t 9) (.c (.int .i64 0)), none⟩]) (.cond (.t 10) (.seq (.reg false [⟨some 2, .mv (.c (.int .i64 1)), none⟩]) .ret) .skip)) (.seq (.reg false [⟨some 3, .mv (.c (.int .i64 0)), none⟩]) (.seq (.seq (.reg false [⟨some 4, .mv (.c (.int .i64 0)), none⟩]) (.block 0 (.loop (.seq (.seq (.reg false [⟨some 11, .mv (.t 4), none⟩, ⟨some 12, .mv (.t 0), none⟩, ⟨some 13, .len (.t 12), none⟩, ⟨some 14, .bin .lss (.t 11) (.t 13), none⟩]) (.cond (.t 14) .skip (.exit 0))) (.seq (.block 1 (.seq (.seq (.reg false [⟨some 17, .mv (.t 0), none⟩, ⟨some 18, .ia 1 (.t 17) (.c (.int .i64 0)), none⟩, ⟨some 19, .ld1 (.t 18), none⟩, ⟨some 20, .mv (.t 4), none⟩, ⟨some 21, .ia 1 (.t 19) (.t 20), none⟩, ⟨some 22, .ld1 (.t 21), none⟩, ⟨some 23, .bin .eql (.t 22) (.c (.int .i64 0)), none⟩]) (.cond (.t 23) (.exit 1) .skip)) (.seq (.reg false [⟨some 24, .lit 29 1 0 [.nilsl] [], none⟩, ⟨some 5, .mv (.t 24), none⟩]) (.seq (.seq (.reg false [⟨some 6, .mv (.c (.int .i64 1)), none⟩]) (.block 2 (.loop (.seq (.seq (.reg false [⟨some 25, .mv (.t 6), none⟩, ⟨some 26, .mv (.t 0), none⟩, ⟨some 27, .len (.t 26), none⟩, ⟨some 28, .bin .lss (.t 25) (.t 27), none⟩]) (.cond (.t 28) .skip (.exit 2))) (.seq (.block 3 (.reg true [⟨some 31, .mv (.t 5), none⟩, ⟨some 32, .mv (.t 0), none⟩, ⟨some 33, .mv (.t 6), none⟩, ⟨some 34, .ia 1 (.t 32) (.t 33), none⟩, ⟨some 35, .ld1 (.t 34), none⟩, ⟨some 36, .mv (.t 4), none⟩, ⟨some 37, .slc 1 (.t 35) none (some (.t 36)) none, none⟩, ⟨some 39, .mv (.t 0), none⟩, ⟨some 40, .mv (.t 6), none⟩, ⟨some 41, .ia 1 (.t 39) (.t 40), none⟩, ⟨some 42, .ld1 (.t 41), none⟩, ⟨some 43, .mv (.t 4), none⟩, ⟨some 44, .bin .add (.t 43) (.c (.int .i64 1)), none⟩, ⟨some 45, .slc 1 (.t 42) (some (.t 44)) none none, none⟩, ⟨some 38, .call (.f 88) [(.t 37)], none⟩, ⟨some 46, .app 2 1 8 [(.int .i64 0)] (.t 38) (.t 45), none⟩, ⟨some 47, .lit 29 1 1 [.nilsl] [(0, (.t 46))], none⟩, ⟨some 48, .app 29 1 24 [.nilsl] (.t 31) (.t 47), none⟩, ⟨some 5, .mv (.t 48), none⟩])) (.reg false [⟨some 29, .mv (.t 6), none⟩, ⟨some 30, .bin .add (.t 29) (.c (.int .i64 1)), none⟩, ⟨some 6, .mv (.t 30), none⟩])))))) (.seq (.reg true [⟨some 49, .mv (.t 0), none⟩, ⟨some 50, .ia 1 (.t 49) (.c (.int .i64 0)), none⟩, ⟨some 51, .ld1 (.t 50), none⟩, ⟨some 52, .mv (.t 4), none⟩, ⟨some 53, .ia 1 (.t 51) (.t 52), none⟩, ⟨some 54, .ld1 (.t 53), none⟩, ⟨some 55, .mv (.t 5), none⟩, ⟨some 56, .call (.f 114) [(.t 55)], none⟩, ⟨some 57, .bin .mul (.t 54) (.t 56), none⟩, ⟨some 7, .mv (.t 57), none⟩]) (.seq (.seq (.reg false [⟨some 58, .mv (.t 4), none⟩, ⟨some 59, .bin .rem (.t 58) (.c (.int .i64 2)), none⟩, ⟨some 60, .bin .eql (.t 59) (.c (.int .i64 1)), none⟩]) (.cond (.t 60) (.reg false [⟨some 61, .mv (.t 7), none⟩, ⟨some 62, .un .neg (.t 61), none⟩, ⟨some 7, .mv (.t 62), none⟩]) .skip)) (.reg false [⟨some 63, .mv (.t 3), none⟩, ⟨some 64, .mv (.t 7), none⟩, ⟨some 65, .bin .add (.t 63) (.t 64), none⟩, ⟨some 3, .mv (.t 65), none⟩]))))))) (.reg false [⟨some 15, .mv (.t 4), none⟩, ⟨some 16, .bin .add (.t 15) (.c (.int .i64 1)), none⟩, ⟨some 4, .mv (.t 16), none⟩])))))) (.seq (.reg false [⟨some 66, .mv (.t 3), none⟩, ⟨some 2, .mv (.t 66), none⟩]) .ret))))), 67, [(.t 2)]⟩
theorem k_spec_l01Det : compF Try.prog Try.f114 = some c_spec_l01Det := by kernel_rfl

theorem spec_l01OwnA {w : Bool} {lo hi : Nat} {h : AH} {v : AV} {l : List Int} (s : Ints w lo hi h v l) (hl : l.length ≤ 1048576) (n : Nat) (hn : hi ≤ n) :
    FQ Try.prog 88 [v] h n fun v' h' n' => Acc n n' h' 2 1 v' (ints l) := by
  refine fq_intro Try.func88 k_spec_l01Own ?_
  simp (maxSteps := 2000000) -implicitDefEqProofs (disch := omega) only [c_spec_l01Own, xsW, xsC, xsD, xsE, fillA, reduceCtorEq, Nat.reduceAdd, Nat.reduceSub, Nat.reduceLeDiff, Nat.reduceMul, Int.reduceLT, Int.reduceLE, Int.reduceEq, Int.reduceNe, Int.reduceAdd, Int.reduceSub, Int.reduceMul, Int.reduceNeg, Int.reduceToNat]
  refine app_acc (lo := n) (Acc.empty (upd_same _ _ _) rfl (Nat.le_refl _) (by omega)) (Nat.le_refl _) (by omega) (Sl.src (s.keep (fun i _ hi9 => by simp (disch := omega) only [upd_other]))) (by rw [Sl.len s]) (ints_one l) (by rw [s.slen]; simp [slen]; omega) fun v' h' n' g1 g2 g3 g4 g5 g6 => ?_
  simp (maxSteps := 2000000) -implicitDefEqProofs (disch := omega) only [xsW, xsC, xsD, xsE, fillA, reduceCtorEq, Nat.reduceAdd, Nat.reduceSub, Nat.reduceLeDiff, Nat.reduceMul, Int.reduceLT, Int.reduceLE, Int.reduceEq, Int.reduceNe, Int.reduceAdd, Int.reduceSub, Int.reduceMul, Int.reduceNeg, Int.reduceToNat]
  intro _ h2 hh
  exact g3.keep fun i a b => hh i a b
theorem ints_take (l : List Int) (k : Nat) : (ints l).take k = ints (l.take k) := by simp [ints]
theorem ints_drop (l : List Int) (k : Nat) : (ints l).drop k = ints (l.drop k) := by simp [ints]
theorem ints_append (l m : List Int) : ints l ++ ints m = ints (l ++ m) := by simp [ints]
theorem slen_ne {w : Bool} {lo hi : Nat} {h : AH} {v : AV} {l : List Int} (s : Ints w lo hi h v l) (hl : 0 < l.length) : v ≠ .sl0 ∧ v ≠ .nilsl := by
  have := s.slen
  constructor <;> intro e <;> (rw [e] at this; simp [slen] at this; omega)
theorem tm2 (k : Nat) : (k : Int).tmod 2 = ((k % 2 : Nat) : Int) := by rw [Int.tmod_eq_emod_of_nonneg (by omega)]; omega
def cutRow (l : List Int) (k : Nat) : List Int := l.take k ++ l.drop (k + 1)
theorem cutRow_get (l : List Int) (k j : Nat) (hk : k < l.length) (hj : j + 1 < l.length) : (cutRow l k).getD j 0 = l.getD (sk k j) 0 := by
  unfold cutRow sk
  by_cases e : j < k
  · rw [if_pos e]
    simp only [List.getD, List.getElem?_append, List.length_take]
    rw [if_pos (by omega), List.getElem?_take, if_pos e]
  · rw [if_neg e]
    simp only [List.getD, List.getElem?_append, List.length_take]
    rw [if_neg (by omega), List.getElem?_drop]
    congr 2
    omega
theorem cutRow_len (l : List Int) (k : Nat) (hk : k < l.length) : (cutRow l k).length = l.length - 1 := by simp [cutRow]; omega
def restL (ll : List (List Int)) (k m : Nat) : List (List Int) := rowsOf m fun j => cutRow (ll.getD (j + 1) []) k
theorem restL_sq {n k : Nat} {ll : List (List Int)} (hs : Sq (n + 1) ll) (hk : k < n + 1) : Sq n (restL ll k n) := by
  refine ⟨rowsOf_len _ _, fun j hj => ?_⟩
  rw [restL, rowsOf_get hj, cutRow_len _ _ (by rw [hs.2 _ (by omega)]; exact hk), hs.2 _ (by omega)]; omega
theorem restL_at {n k : Nat} {ll : List (List Int)} (hs : Sq (n + 1) ll) (hk : k < n + 1) {r c : Nat} (hr : r < n) (hc : c < n) : mx (restL ll k n) r c = mi (mx ll) 0 k r c := by
  have h1 := hs.2 (r + 1) (by omega)
  simp only [mx, at2, mi, restL]
  rw [rowsOf_get hr, cutRow_get _ _ _ (by omega) (by omega)]
  rfl
theorem restL_lim {n k : Nat} {ll : List (List Int)} (hs : Sq (n + 1) ll) (hk : k < n + 1) (hl : ∃ q, Lim q (n + 1) (mx ll)) : ∃ q, Lim q n (mx (restL ll k n)) := by
  obtain ⟨q, hq⟩ := hl
  obtain ⟨q', h'⟩ := hq.sub (m := n) (sk 0) (sk k) (fun a ha => sk_lt ha) (fun a ha => sk_lt ha) (fun a b _ _ e => by unfold sk at e; grind)
  exact ⟨q', fun r c hr hc => by rw [restL_at hs hk hr hc]; exact h' r c hr hc⟩
theorem spec_l01Det (N : Nat) : ∀ {w : Bool} {lo hi : Nat} {h : AH} {v : AV} {vs : List AV} {ll : List (List Int)} (_ : Rows w lo hi h v vs ll) (_ : N ≤ 5) (_ : Sq N ll) (_ : ∃ q, Lim q N (mx ll)) (n : Nat) (_ : hi ≤ n),
    Q Try.prog 114 [v] h n (.int .i64 (det N (mx ll))) := by
  induction N with
  | zero =>
    intro w lo hi h v vs ll s hN hs hl n hn
    refine q_intro Try.func114 k_spec_l01Det ?_
    have hL := hs.1
    simp (maxSteps := 2000000) -implicitDefEqProofs (disch := omega) only [c_spec_l01Det, s.ln, xsW, xsC, xsD, xsE, fillA, reduceCtorEq, Nat.reduceAdd, Nat.reduceSub, Nat.reduceLeDiff, Nat.reduceMul, Int.reduceLT, Int.reduceLE, Int.reduceEq, Int.reduceNe, Int.reduceAdd, Int.reduceSub, Int.reduceMul, Int.reduceNeg, Int.reduceToNat]
    simp [det]
  | succ N ih =>
    intro w lo hi h v vs ll s hN hs hl n hn
    refine q_intro Try.func114 k_spec_l01Det ?_
    have hL := hs.1
    obtain ⟨q, hq⟩ := hl
    have hT := Tm_le4 (n := N) (by omega)
    have term : ∀ k, k < N + 1 → 2 * (sg k * (mx ll) 0 k * det N (mi (mx ll) 0 k)).natAbs ≤ 12288000000 := fun k hk => by
      have := hq.term.2.2 k hk
      simp only [Nat.add_sub_cancel] at this
      omega
    have psum : ∀ k, k ≤ N + 1 → 2 * (sumTo k fun k => sg k * (mx ll) 0 k * det N (mi (mx ll) 0 k)).natAbs ≤ 61440000000 := fun k hk => by
      have := sumTo_abs (n := k) fun i hi => term i (by omega)
      omega
    simp (maxSteps := 2000000) -implicitDefEqProofs (disch := omega) only [c_spec_l01Det, s.ln, xsW, xsC, xsD, xsE, fillA, reduceCtorEq, Nat.reduceAdd, Nat.reduceSub, Nat.reduceLeDiff, Nat.reduceMul, Int.reduceLT, Int.reduceLE, Int.reduceEq, Int.reduceNe, Int.reduceAdd, Int.reduceSub, Int.reduceMul, Int.reduceNeg, Int.reduceToNat]
    refine loop_for (N + 1) 0 (fun k _ => [v, .any, .int .i64 0, .int .i64 (sumTo k fun k => sg k * (mx ll) 0 k * det N (mi (mx ll) 0 k)), .int .i64 k, .any, .any, .any, .any, .any, .any, .any, .any, .any, .any, .any, .any, .any, .any, .any, .any, .any, .any, .any, .any, .any, .any, .any, .any, .any, .any, .any, .any, .any, .any, .any, .any, .any, .any, .any, .any, .any, .any, .any, .any, .any, .any, .any, .any, .any, .any, .any, .any, .any, .any, .any, .any, .any, .any, .any, .any, .any, .any, .any, .any, .any, .any]) (fun _ hp => hp)
      (fun k hp m => ∀ i, i < n → hp i = h i) h (Nat.zero_le _) (fun _ _ => rfl) (by simp [LeL, Le1, sumTo]) (fun _ _ h => h) ?_
    rintro k hp m - hk hm hold
    simp (maxSteps := 2000000) -implicitDefEqProofs (disch := omega) only [xsW, xsC, xsD, xsE, fillA, reduceCtorEq, Nat.reduceAdd, Nat.reduceSub, Nat.reduceLeDiff, Nat.reduceMul, Int.reduceLT, Int.reduceLE, Int.reduceEq, Int.reduceNe, Int.reduceAdd, Int.reduceSub, Int.reduceMul, Int.reduceNeg, Int.reduceToNat,  s.ln]
    (refine cd_dec (fun c1 => ?_) (fun c1 => ?_) <;> simp (maxSteps := 2000000) -implicitDefEqProofs (disch := omega) only [xsW, xsC, xsD, xsE, fillA, reduceCtorEq, Nat.reduceAdd, Nat.reduceSub, Nat.reduceLeDiff, Nat.reduceMul, Int.reduceLT, Int.reduceLE, Int.reduceEq, Int.reduceNe, Int.reduceAdd, Int.reduceSub, Int.reduceMul, Int.reduceNeg, Int.reduceToNat,  c1])
    · have hk2 : k < N + 1 := by omega
      have hb := s.out.below (by rw [s.slen]; omega)
      have hr0 := s.row 0 (by omega)
      have l0 := hs.2 0 (by omega)
      have hb0 := Sl.below hr0 (by rw [hr0.slen]; omega)
      have b1 := term k hk2
      have b2 := psum k hk
      have b3 := psum (k + 1) hk2
      rw [sumTo_succ] at b3
      simp (maxSteps := 2000000) -implicitDefEqProofs (disch := omega) only [xsW, xsC, xsD, xsE, fillA, reduceCtorEq, Nat.reduceAdd, Nat.reduceSub, Nat.reduceLeDiff, Nat.reduceMul, Int.reduceLT, Int.reduceLE, Int.reduceEq, Int.reduceNe, Int.reduceAdd, Int.reduceSub, Int.reduceMul, Int.reduceNeg, Int.reduceToNat,  hold, s.ia, s.ld0, hr0.ia, hr0.ld]
      (refine cd_dec (fun c2 => ?_) (fun c2 => ?_) <;> simp (maxSteps := 2000000) -implicitDefEqProofs (disch := omega) only [xsW, xsC, xsD, xsE, fillA, reduceCtorEq, Nat.reduceAdd, Nat.reduceSub, Nat.reduceLeDiff, Nat.reduceMul, Int.reduceLT, Int.reduceLE, Int.reduceEq, Int.reduceNe, Int.reduceAdd, Int.reduceSub, Int.reduceMul, Int.reduceNeg, Int.reduceToNat,  c2])
      · have e0 : mx ll 0 k = 0 := c2
        exact ⟨hp, hold, by omega, by omega, by simp [LeL, Le1, sumTo, e0], fun _ _ h => h⟩
      · refine loop_for (N + 1) 1 (fun i p => [v, .any, .int .i64 0, .int .i64 (sumTo k fun k => sg k * (mx ll) 0 k * det N (mi (mx ll) 0 k)), .int .i64 k, p.1, .int .i64 i, .any, .any, .any, .any, .any, .any, .any, .any, .any, .any, .any, .any, .any, .any, .any, .any, .any, .any, .any, .any, .any, .any, .any, .any, .any, .any, .any, .any, .any, .any, .any, .any, .any, .any, .any, .any, .any, .any, .any, .any, .any, .any, .any, .any, .any, .any, .any, .any, .any, .any, .any, .any, .any, .any, .any, .any, .any, .any, .any, .any]) (fun _ (p : AV × List AV × AH) => p.2.2)
          (fun i p m' => Grow m m' hp p.2.2 29 p.1 p.2.1 (restL ll k (i - 1))) (.sl m 0 0 0, [], _) (by omega) (Grow.start0 rfl) (by simp [LeL, Le1]) (fun _ _ h => h) ?_
        rintro i ⟨out, ws, hr⟩ mB hi1 hi2 hm2 g
        simp only at g
        have hold2 := g.old
        simp (maxSteps := 2000000) -implicitDefEqProofs (disch := omega) only [xsW, xsC, xsD, xsE, fillA, reduceCtorEq, Nat.reduceAdd, Nat.reduceSub, Nat.reduceLeDiff, Nat.reduceMul, Int.reduceLT, Int.reduceLE, Int.reduceEq, Int.reduceNe, Int.reduceAdd, Int.reduceSub, Int.reduceMul, Int.reduceNeg, Int.reduceToNat,  s.ln]
        (refine cd_dec (fun c3 => ?_) (fun c3 => ?_) <;> simp (maxSteps := 2000000) -implicitDefEqProofs (disch := omega) only [xsW, xsC, xsD, xsE, fillA, reduceCtorEq, Nat.reduceAdd, Nat.reduceSub, Nat.reduceLeDiff, Nat.reduceMul, Int.reduceLT, Int.reduceLE, Int.reduceEq, Int.reduceNe, Int.reduceAdd, Int.reduceSub, Int.reduceMul, Int.reduceNeg, Int.reduceToNat,  c3])
        · have hi3 : i < N + 1 := by omega
          have hri := s.row i (by omega)
          have li := hs.2 i hi3
          have hne := slen_ne hri (by omega)
          have hsl := hri.slen
          simp (maxSteps := 2000000) -implicitDefEqProofs (disch := omega) only [xsW, xsC, xsD, xsE, fillA, reduceCtorEq, Nat.reduceAdd, Nat.reduceSub, Nat.reduceLeDiff, Nat.reduceMul, Int.reduceLT, Int.reduceLE, Int.reduceEq, Int.reduceNe, Int.reduceAdd, Int.reduceSub, Int.reduceMul, Int.reduceNeg, Int.reduceToNat,  hold2, hold, s.ia, s.ld]
          have hri2 := hri.keep (h' := hr) (fun i _ hi9 => by simp (disch := omega) only [upd_other, hold2, hold])
          refine Sl.shi hri2 hne.1 (by omega) (by omega) fun v1 hv1 _ _ => ?_
          rw [Nat.mul_one, ints_take] at hv1
          simp (maxSteps := 2000000) -implicitDefEqProofs (disch := omega) only [xsW, xsC, xsD, xsE, fillA, reduceCtorEq, Nat.reduceAdd, Nat.reduceSub, Nat.reduceLeDiff, Nat.reduceMul, Int.reduceLT, Int.reduceLE, Int.reduceEq, Int.reduceNe, Int.reduceAdd, Int.reduceSub, Int.reduceMul, Int.reduceNeg, Int.reduceToNat,  hold2, hold, s.ia, s.ld]
          refine Sl.slo hri2 hne.1 (by omega) (by omega) fun v2 hv2 _ _ => ?_
          rw [Nat.mul_one, ints_drop] at hv2
          simp (maxSteps := 2000000) -implicitDefEqProofs (disch := omega) only [xsW, xsC, xsD, xsE, fillA, reduceCtorEq, Nat.reduceAdd, Nat.reduceSub, Nat.reduceLeDiff, Nat.reduceMul, Int.reduceLT, Int.reduceLE, Int.reduceEq, Int.reduceNe, Int.reduceAdd, Int.reduceSub, Int.reduceMul, Int.reduceNeg, Int.reduceToNat]
          refine fq_use (spec_l01OwnA hv1 (by simp; omega) mB (by omega)) fun v3 h3 n3 hn3 hs3 a3 => ?_
          simp (maxSteps := 2000000) -implicitDefEqProofs (disch := omega) only [xsW, xsC, xsD, xsE, fillA, reduceCtorEq, Nat.reduceAdd, Nat.reduceSub, Nat.reduceLeDiff, Nat.reduceMul, Int.reduceLT, Int.reduceLE, Int.reduceEq, Int.reduceNe, Int.reduceAdd, Int.reduceSub, Int.reduceMul, Int.reduceNeg, Int.reduceToNat]
          refine app_acc a3 (by omega) hn3 (Sl.src (Sl.keep hv2 (fun i _ hi9 => by simp (disch := omega) only [upd_other, hs3]))) (Sl.len hv2) (ints_one _) (by have h1 := a3.len; have h2 := Sl.len hv2; simp [ints] at h1 h2; omega) fun v4 h4 n4 q1 q2 q3 q4 q5 q6 => ?_
          rw [ints_append] at q3
          have o1 := one_any q3.any
          have o2 := sto_any q3.any
          have o3 := cel_any q3.any
          simp (maxSteps := 2000000) -implicitDefEqProofs (disch := omega) only [xsW, xsC, xsD, xsE, fillA, reduceCtorEq, Nat.reduceAdd, Nat.reduceSub, Nat.reduceLeDiff, Nat.reduceMul, Int.reduceLT, Int.reduceLE, Int.reduceEq, Int.reduceNe, Int.reduceAdd, Int.reduceSub, Int.reduceMul, Int.reduceNeg, Int.reduceToNat,  o1, o2, o3]
          refine g.app (hB := upd h4 n4 _) (v1 := v4) (l := cutRow (ll.getD i []) k) (m1 := n4) ?_ (fun i hi9 => by simp (disch := omega) only [upd_other, q5, hs3]) (by omega) (by omega) (by omega) ⟨rfl, _, upd_same _ _ _, by simp, by simp [cutA]⟩ (by rw [restL, rowsOf_len]; omega) fun out' h' n' p1 p2 => ?_
          · have := (q3.sl.keep (h' := upd h4 n4 (some ⟨29, [v4], true, 0⟩)) (fun i _ hi9 => by simp (disch := omega) only [upd_other])).wide (lo' := mB) (hi' := n4) (by omega) (by omega)
            simpa [Ints, cutRow] using this
          · simp (maxSteps := 2000000) -implicitDefEqProofs (disch := omega) only [xsW, xsC, xsD, xsE, fillA, reduceCtorEq, Nat.reduceAdd, Nat.reduceSub, Nat.reduceLeDiff, Nat.reduceMul, Int.reduceLT, Int.reduceLE, Int.reduceEq, Int.reduceNe, Int.reduceAdd, Int.reduceSub, Int.reduceMul, Int.reduceNeg, Int.reduceToNat]
            refine ⟨(out', ws ++ [v4], h'), ?_, by omega, by omega, (by simp [LeL, Le1]), fun _ _ h => h⟩
            have e : restL ll k (i + 1 - 1) = restL ll k (i - 1) ++ [cutRow (ll.getD i []) k] := by
              rw [show i + 1 - 1 = (i - 1) + 1 by omega, restL, rowsOf_succ, show i - 1 + 1 = i by omega]; rfl
            rw [e]; exact p2
        · have e : i - 1 = N := by omega
          rw [e] at g
          have hR := g.rowsOf (h2 := hr) fun _ _ _ => rfl
          simp (maxSteps := 2000000) -implicitDefEqProofs (disch := omega) only [xsW, xsC, xsD, xsE, fillA, reduceCtorEq, Nat.reduceAdd, Nat.reduceSub, Nat.reduceLeDiff, Nat.reduceMul, Int.reduceLT, Int.reduceLE, Int.reduceEq, Int.reduceNe, Int.reduceAdd, Int.reduceSub, Int.reduceMul, Int.reduceNeg, Int.reduceToNat,  hold2, hold, s.ia, s.ld0, hr0.ia, hr0.ld]
          refine q_use (ih hR (by omega) (restL_sq hs hk2) (restL_lim hs hk2 ⟨q, hq⟩) mB (Nat.le_refl _)) fun n5 hn5 => ?_
          have eD : det N (mx (restL ll k N)) = det N (mi (mx ll) 0 k) := det_congr fun r c hr hc => restL_at hs hk2 hr hc
          rw [eD]
          have e1 : mx ll 0 k = (ll.getD 0 []).getD k 0 := rfl
          rw [e1, sg_even] at b1 b3
          by_cases e2 : k % 2 = 1
          · rw [if_pos e2] at b1 b3
            simp only [Int.neg_mul, Int.one_mul, Int.natAbs_neg] at b1 b3
            simp (maxSteps := 2000000) -implicitDefEqProofs (disch := omega) only [xsW, xsC, xsD, xsE, fillA, reduceCtorEq, Nat.reduceAdd, Nat.reduceSub, Nat.reduceLeDiff, Nat.reduceMul, Int.reduceLT, Int.reduceLE, Int.reduceEq, Int.reduceNe, Int.reduceAdd, Int.reduceSub, Int.reduceMul, Int.reduceNeg, Int.reduceToNat,  tm2]
            refine ⟨hr, fun i hi => by rw [hold2 i (by omega), hold i hi], by omega, by omega, ?_, fun _ _ h => h⟩
            simp [LeL, Le1, sumTo, sg_even, e2, e1, Int.neg_mul]
          · rw [if_neg e2] at b1 b3
            simp only [Int.one_mul] at b1 b3
            simp (maxSteps := 2000000) -implicitDefEqProofs (disch := omega) only [xsW, xsC, xsD, xsE, fillA, reduceCtorEq, Nat.reduceAdd, Nat.reduceSub, Nat.reduceLeDiff, Nat.reduceMul, Int.reduceLT, Int.reduceLE, Int.reduceEq, Int.reduceNe, Int.reduceAdd, Int.reduceSub, Int.reduceMul, Int.reduceNeg, Int.reduceToNat,  tm2]
            refine ⟨hr, fun i hi => by rw [hold2 i (by omega), hold i hi], by omega, by omega, ?_, fun _ _ h => h⟩
            simp [LeL, Le1, sumTo, sg_even, e2, e1, Int.neg_mul]
    · have e : k = N + 1 := by omega
      subst e
      rfl
def c_impl_determinant : F := ⟨(.seq (.reg false [⟨some 2, .mv (.c (.int .i64 0)), none⟩]) (.seq (.reg false [⟨some 12, .mv (.t 0), none⟩, ⟨some 13, .call (.f 87) [(.t 12)], none⟩, ⟨some 3, .mv (.t 13), none⟩]) (.seq (.reg false [⟨some 4, .mv (.c (.int .i64 1)), none⟩, ⟨some 5, .mv (.c (.int .i64 1)), none⟩]) (.seq (.seq (.reg false [⟨some 14, .mv (.t 3), none⟩, ⟨some 15, .len (.t 14), none⟩, ⟨some 16, .mv (.c (.int .i64 0)), none⟩]) (.block 0 (.loop (.seq (.reg false [⟨some 17, .bin .lss (.t 16) (.t 15), none⟩]) (.seq (.cond (.t 17) .skip (.exit 0)) (.seq (.block 1 (.seq (.reg false [⟨some 18, .mv (.t 16), none⟩, ⟨some 6, .alloc 3 [(.int .i64 0)], none⟩, ⟨none, .st 1 (.t 6) (.t 18), none⟩]) (.seq (.reg false [⟨some 19, .mv (.t 3), none⟩, ⟨some 20, .ld1 (.t 6), none⟩, ⟨some 21, .slc 1 (.t 19) (some (.t 20)) none none, none⟩, ⟨some 22, .mkf 117 [(.t 6)], none⟩, ⟨some 23, .call (.f 116) [(.t 21), (.t 22)], none⟩, ⟨some 7, .mv (.t 23), none⟩]) (.seq (.seq (.reg false [⟨some 24, .mv (.t 7), none⟩, ⟨some 25, .bin .lss (.t 24) (.c (.int .i64 0)), none⟩]) (.cond (.t 25) (.seq (.reg false [⟨some 2, .mv (.c (.int .i64 0)), none⟩]) .ret) .skip)) (.seq (.seq (.reg false [⟨some 26, .mv (.t 7), none⟩, ⟨some 27, .bin .gtr (.t 26) (.c (.int .i64 0)), none⟩]) (.cond (.t 27) (.seq (.seq (.reg true [⟨some 28, .mv (.t 3), none⟩, ⟨some 29, .ld1 (.t 6), none⟩, ⟨some 30, .mv (.t 3), none⟩, ⟨some 31, .ld1 (.t 6), none⟩, ⟨some 32, .mv (.t 7), none⟩, ⟨some 33, .bin .add (.t 31) (.t 32), none⟩, ⟨some 34, .mv (.t 3), none⟩, ⟨some 35, .ld1 (.t 6), none⟩, ⟨some 36, .mv (.t 7), none⟩, ⟨some 37, .bin .add (.t 35) (.t 36), none⟩, ⟨some 38, .ia 1 (.t 34) (.t 37), none⟩, ⟨some 39, .ld1 (.t 38), none⟩, ⟨some 40, .mv (.t 3), none⟩, ⟨some 41, .ld1 (.t 6), none⟩, ⟨some 42, .ia 1 (.t 40) (.t 41), none⟩, ⟨some 43, .ld1 (.t 42), none⟩, ⟨some 44, .ia 1 (.t 28) (.t 29), none⟩, ⟨none, .st 1 (.t 44) (.t 39), none⟩, ⟨some 45, .ia 1 (.t 30) (.t 33), none⟩, ⟨none, .st 1 (.t 45) (.t 43), none⟩]) (.chk [((.t 44), (.t 6))])) (.reg false [⟨some 46, .mv (.t 5), none⟩, ⟨some 47, .un .neg (.t 46), none⟩, ⟨some 5, .mv (.t 47), none⟩])) .skip)) (.seq (.seq (.reg false [⟨some 48, .mv (.t 3), none⟩, ⟨some 49, .ld1 (.t 6), none⟩, ⟨some 50, .bin .add (.t 49) (.c (.int .i64 1)), none⟩, ⟨some 51, .slc 1 (.t 48) (some (.t 50)) none none, none⟩, ⟨some 52, .len (.t 51), none⟩, ⟨some 53, .mv (.c (.int .i64 0)), none⟩]) (.block 2 (.loop (.seq (.reg false [⟨some 54, .bin .lss (.t 53) (.t 52), none⟩]) (.seq (.cond (.t 54) .skip (.exit 2)) (.seq (.block 3 (.seq (.reg false [⟨some 55, .ia 1 (.t 51) (.t 53), none⟩, ⟨some 56, .ld1 (.t 55), none⟩, ⟨some 9, .mv (.t 56), none⟩]) (.seq (.reg false [⟨some 57, .mv (.t 9), none⟩, ⟨some 58, .ld1 (.t 6), none⟩, ⟨some 59, .ia 1 (.t 57) (.t 58), none⟩, ⟨some 60, .ld1 (.t 59), none⟩, ⟨some 10, .mv (.t 60), none⟩]) (.seq (.reg false [⟨some 61, .ld1 (.t 6), none⟩, ⟨some 11, .mv (.t 61), none⟩]) (.block 4 (.loop (.seq (.seq (.reg false [⟨some 62, .mv (.t 11), none⟩, ⟨some 63, .mv (.t 9), none⟩, ⟨some 64, .len (.t 63), none⟩, ⟨some 65, .bin .lss (.t 62) (.t 64), none⟩]) (.cond (.t 65) .skip (.exit 4))) (.seq (.block 5 (.reg true [⟨some 68, .mv (.t 9), none⟩, ⟨some 69, .mv (.t 11), none⟩, ⟨some 70, .mv (.t 9), none⟩, ⟨some 71, .mv (.t 11), none⟩, ⟨some 72, .ia 1 (.t 70) (.t 71), none⟩, ⟨some 73, .ld1 (.t 72), none⟩, ⟨some 74, .mv (.t 3), none⟩, ⟨some 75, .ld1 (.t 6), none⟩, ⟨some 76, .ia 1 (.t 74) (.t 75), none⟩, ⟨some 77, .ld1 (.t 76), none⟩, ⟨some 78, .ld1 (.t 6), none⟩, ⟨some 79, .ia 1 (.t 77) (.t 78), none⟩, ⟨some 80, .ld1 (.t 79), none⟩, ⟨some 81, .bin .mul (.t 73) (.t 80), none⟩, ⟨some 82, .mv (.t 10), none⟩, ⟨some 83, .mv (.t 3), none⟩, ⟨some 84, .ld1 (.t 6), none⟩, ⟨some 85, .ia 1 (.t 83) (.t 84), none⟩, ⟨some 86, .ld1 (.t 85), none⟩, ⟨some 87, .mv (.t 11), none⟩, ⟨some 88, .ia 1 (.t 86) (.t 87), none⟩, ⟨some 89, .ld1 (.t 88), none⟩, ⟨some 90, .bin .mul (.t 82) (.t 89), none⟩, ⟨some 91, .bin .sub (.t 81) (.t 90), none⟩, ⟨some 92, .mv (.t 4), none⟩, ⟨some 93, .bin .quo (.t 91) (.t 92), none⟩, ⟨some 94, .ia 1 (.t 68) (.t 69), none⟩, ⟨none, .st 1 (.t 94) (.t 93), none⟩])) (.reg false [⟨some 66, .mv (.t 11), none⟩, ⟨some 67, .bin .add (.t 66) (.c (.int .i64 1)), none⟩, ⟨some 11, .mv (.t 67), none⟩]))))))))) (.reg false [⟨some 95, .bin .add (.t 53) (.c (.int .i64 1)), none⟩, ⟨some 53, .mv (.t 95), none⟩]))))))) (.reg true [⟨some 96, .mv (.t 3), none⟩, ⟨some 97, .ld1 (.t 6), none⟩, ⟨some 98, .ia 1 (.t 96) (.t 97), none⟩, ⟨some 99, .ld1 (.t 98), none⟩, ⟨some 100, .ld1 (.t 6), none⟩, ⟨some 101, .ia 1 (.t 99) (.t 100), none⟩, ⟨some 102, .ld1 (.t 101), none⟩, ⟨some 4, .mv (.t 102), none⟩]))))))) (.reg false [⟨some 103, .bin .add (.t 16) (.c (.int .i64 1)), none⟩, ⟨some 16, .mv (.t 103), none⟩]))))))) (.seq (.reg false [⟨some 104, .mv (.t 5), none⟩, ⟨some 105, .mv (.t 4), none⟩, ⟨some 106, .bin .mul (.t 104) (.t 105), none⟩, ⟨some 2, .mv (.t 106), none⟩]) .ret))))), 107, [(.t 2)]⟩
theorem k_impl_determinant : compF Try.prog Try.f71 = some c_impl_determinant := by kernel_rfl
def c_impl_determinant_1 : F := ⟨(.seq (.reg false [⟨some 3, .mv (.c (.bool false)), none⟩]) (.seq (.reg false [⟨some 4, .mv (.t 0), none⟩, ⟨some 5, .ld1 (.t 1), none⟩, ⟨some 6, .ia 1 (.t 4) (.t 5), none⟩, ⟨some 7, .ld1 (.t 6), none⟩, ⟨some 8, .bin .neq (.t 7) (.c (.int .i64 0)), none⟩, ⟨some 3, .mv (.t 8), none⟩]) .ret)), 9, [(.t 3)]⟩
theorem k_impl_determinant_1 : compF Try.prog Try.f117 = some c_impl_determinant_1 := by kernel_rfl

def swL (ll : List (List Int)) (i j : Nat) : List (List Int) := (ll.set i (ll.getD j [])).set j (ll.getD i [])
theorem swL_len (ll : List (List Int)) (i j : Nat) : (swL ll i j).length = ll.length := by simp [swL]
theorem set2_get {α : Type} (l : List α) (d : α) (i j k : Nat) (hk : k < l.length) : ((l.set i (l.getD j d)).set j (l.getD i d)).getD k d = l.getD (swp i j k) d := by
  rw [getD_set, getD_set]
  simp only [List.length_set]
  unfold swp
  by_cases e1 : j = k
  · subst e1
    rw [if_pos ⟨rfl, hk⟩]
    by_cases e2 : j = i
    · subst e2; simp
    · rw [if_neg e2, if_pos rfl]
  · rw [if_neg fun h => e1 h.1]
    by_cases e2 : i = k
    · subst e2
      rw [if_pos ⟨rfl, hk⟩, if_pos rfl]
    · rw [if_neg fun h => e2 h.1, if_neg fun h => e2 h.symm, if_neg fun h => e1 h.symm]
theorem swL_get (ll : List (List Int)) (i j k : Nat) (hk : k < ll.length) : (swL ll i j).getD k [] = ll.getD (swp i j k) [] := set2_get ll [] i j k hk
theorem swp_lt {n i j k : Nat} (hi : i < n) (hj : j < n) (hk : k < n) : swp i j k < n := by unfold swp; split <;> (try split) <;> omega
theorem swp_inj {i j a b : Nat} (h : swp i j a = swp i j b) : a = b := by unfold swp at h; grind
theorem Rows.swap {lo hi : Nat} {h h2 : AH} {v : AV} {vs vs' : List AV} {ll : List (List Int)} (s : Rows true lo hi h v vs ll) {i j : Nat} (hi' : i < ll.length) (hj : j < ll.length) (hout : Sl true lo hi h2 1 v vs') (hh : ∀ k, k ≠ bid v → h2 k = h k)
    (hv : ∀ k, k < ll.length → vs'.getD k .any = vs.getD (swp i j k) .any) (hvl : vs'.length = vs.length) : Rows true lo hi h2 v vs' (swL ll i j) := by
  refine ⟨hout, ⟨by rw [swL_len, hvl, s.len], fun k hk => ?_, fun _ a b ha hb hne h1 h2 => ?_⟩, fun _ k hk h1 => ?_⟩
  · rw [swL_len] at hk
    rw [hv k hk, swL_get _ _ _ _ hk]
    have := swp_lt hi' hj hk
    exact Sl.keep1 (s.row _ this) fun hs => hh _ (s.outer rfl _ this hs)
  · rw [swL_len] at ha hb
    rw [hv a ha] at h1 ⊢
    rw [hv b hb] at h2 ⊢
    exact s.rows.apart rfl _ _ (swp_lt hi' hj ha) (swp_lt hi' hj hb) (fun e => hne (swp_inj e)) h1 h2
  · rw [swL_len] at hk
    rw [hv k hk] at h1 ⊢
    exact s.outer rfl _ (swp_lt hi' hj hk) h1
theorem impl_determinant1 {w : Bool} {lo hi : Nat} {h : AH} {v : AV} {l : List Int} (s : Ints w lo hi h v l) {i b n : Nat} {op : Nat} {wr : Bool} {ty : Nat} (hb : h b = some ⟨ty, [.int .i64 i], wr, op⟩) (hi2 : i < l.length) :
    Q Try.prog 117 [v, .ptr b 0] h n (.bool (decide (¬ l.getD i 0 = 0))) := by
  refine q_intro Try.func117 k_impl_determinant_1 ?_
  simp (maxSteps := 2000000) -implicitDefEqProofs (disch := omega) only [c_impl_determinant_1, hb, s.ia, s.ld, xsW, xsC, xsD, xsE, fillA, reduceCtorEq, Nat.reduceAdd, Nat.reduceSub, Nat.reduceLeDiff, Nat.reduceMul, Int.reduceLT, Int.reduceLE, Int.reduceEq, Int.reduceNe, Int.reduceAdd, Int.reduceSub, Int.reduceMul, Int.reduceNeg, Int.reduceToNat]
set_option maxHeartbeats 4000000 in
theorem impl_determinant (N : Nat) {lo hi : Nat} {h : AH} {v : AV} {vs : List AV} {ll : List (List Int)} (s : Rows true lo hi h v vs ll) (hN : N ≤ 5) (hs : Sq N ll) (hl : ∃ q, Lim q N (mx ll)) (n : Nat) (hn : hi ≤ n) :
    Q Try.prog 71 [v] h n (.int .i64 (det N (mx ll))) := by
  refine q_intro Try.func71 k_impl_determinant ?_
  have hL := hs.1
  simp (maxSteps := 2000000) -implicitDefEqProofs (disch := omega) only [c_impl_determinant, xsW, xsC, xsD, xsE, fillA, reduceCtorEq, Nat.reduceAdd, Nat.reduceSub, Nat.reduceLeDiff, Nat.reduceMul, Int.reduceLT, Int.reduceLE, Int.reduceEq, Int.reduceNe, Int.reduceAdd, Int.reduceSub, Int.reduceMul, Int.reduceNeg, Int.reduceToNat]
  refine fq_use (impl_copyRows s (by omega) (fun l hm => by
    obtain ⟨k, hk, rfl⟩ := List.mem_iff_getElem.1 hm
    have := hs.2 k (by omega)
    simp [List.getD, hk] at this
    omega) n hn) fun o h0 n0 hn0 hs0 ⟨ws, ho⟩ => ?_
  simp (maxSteps := 2000000) -implicitDefEqProofs (disch := omega) only [xsW, xsC, xsD, xsE, fillA, reduceCtorEq, Nat.reduceAdd, Nat.reduceSub, Nat.reduceLeDiff, Nat.reduceMul, Int.reduceLT, Int.reduceLE, Int.reduceEq, Int.reduceNe, Int.reduceAdd, Int.reduceSub, Int.reduceMul, Int.reduceNeg, Int.reduceToNat,  ho.ln]
  refine loop_for N 0 (fun i p => [v, .any, .int .i64 0, o, .int .i64 p.2.2.2.2.1, .int .i64 p.2.2.2.2.2, .any, .any, .any, .any, .any, .any, .any, .any, o, .int .i64 ll.length, .int .i64 i, .any, .any, .any, .any, .any, .any, .any, .any, .any, .any, .any, .any, .any, .any, .any, .any, .any, .any, .any, .any, .any, .any, .any, .any, .any, .any, .any, .any, .any, .any, .any, .any, .any, .any, .any, .any, .any, .any, .any, .any, .any, .any, .any, .any, .any, .any, .any, .any, .any, .any, .any, .any, .any, .any, .any, .any, .any, .any, .any, .any, .any, .any, .any, .any, .any, .any, .any, .any, .any, .any, .any, .any, .any, .any, .any, .any, .any, .any, .any, .any, .any, .any, .any, .any, .any, .any, .any, .any, .any, .any]) (fun _ (p : AH × List AV × List (List Int) × Mx × Int × Int) => p.1)
    (fun i p m => Rows true n n0 p.1 o p.2.1 p.2.2.1 ∧ Bare N i p.2.2.2.1 p.2.2.2.2.1 p.2.2.1 ∧ (p.2.2.2.2.2 = 1 ∨ p.2.2.2.2.2 = -1) ∧ p.2.2.2.2.2 * det N p.2.2.2.1 = det N (mx ll) ∧ (∀ j, j < n → p.1 j = h j) ∧ n0 ≤ m)
    (h0, ws, ll, mx ll, 1, 1) (Nat.zero_le _) ⟨ho, Bare.start hs hl, .inl rfl, by simp, hs0, Nat.le_refl _⟩ (by simp [LeL, Le1]) (fun _ _ h => h) ?_
  rintro i ⟨hp, ws1, ll1, R, last, turn⟩ m - hi1 hm ⟨sR1, b1, ht1, ht2, hold, hm0⟩
  simp only at sR1 b1 ht1 ht2 hold
  have hL1 := b1.sq.1
  simp (maxSteps := 2000000) -implicitDefEqProofs (disch := omega) only [xsW, xsC, xsD, xsE, fillA, reduceCtorEq, Nat.reduceAdd, Nat.reduceSub, Nat.reduceLeDiff, Nat.reduceMul, Int.reduceLT, Int.reduceLE, Int.reduceEq, Int.reduceNe, Int.reduceAdd, Int.reduceSub, Int.reduceMul, Int.reduceNeg, Int.reduceToNat]
  (refine cd_dec (fun c1 => ?_) (fun c1 => ?_) <;> simp (maxSteps := 2000000) -implicitDefEqProofs (disch := omega) only [xsW, xsC, xsD, xsE, fillA, reduceCtorEq, Nat.reduceAdd, Nat.reduceSub, Nat.reduceLeDiff, Nat.reduceMul, Int.reduceLT, Int.reduceLE, Int.reduceEq, Int.reduceNe, Int.reduceAdd, Int.reduceSub, Int.reduceMul, Int.reduceNeg, Int.reduceToNat,  c1])
  · have hi2 : i < N := by omega
    have hob := sR1.out.below (by rw [sR1.slen]; omega)
    have hoS : isSl o = true := by
      have := sR1.out.isReal (by intro e; have := sR1.slen; rw [e] at this; simp [slen] at this; omega)
      exact this
    have sA := sR1.keep (h' := upd hp m (some ⟨3, [.int .i64 i], true, 0⟩)) (fun i _ hi9 => by simp (disch := omega) only [upd_other])
    refine Sl.slo sA.out (by intro e; rw [e] at hoS; simp [isSl] at hoS) (by omega) (by rw [sR1.slen]; omega) fun v1 hv1 hlen1 _ => ?_
    rw [sR1.slen] at hlen1
    obtain ⟨r, hr, hq⟩ := idx_rows hv1 (by omega) 117 [.ptr m 0] (fun k => decide (¬ at2 ll1 (i + k) i = 0)) (m + 1) (fun k n' hk _ => by
      have e : (ws1.drop ((i : Int).toNat * 1)).getD k .any = ws1.getD (i + k) .any := by simp [List.getD]
      rw [e]
      have := b1.sq.2 (i + k) (by omega)
      exact impl_determinant1 (sA.row (i + k) (by omega)) (upd_same _ _ _) (by omega))
    simp (maxSteps := 2000000) -implicitDefEqProofs (disch := omega) only [xsW, xsC, xsD, xsE, fillA, reduceCtorEq, Nat.reduceAdd, Nat.reduceSub, Nat.reduceLeDiff, Nat.reduceMul, Int.reduceLT, Int.reduceLE, Int.reduceEq, Int.reduceNe, Int.reduceAdd, Int.reduceSub, Int.reduceMul, Int.reduceNeg, Int.reduceToNat]
    refine q_use hq fun n2 hn2 => ?_
    rcases hr with ⟨rfl, hr⟩ | ⟨k, rfl, hk1, hk2, hk3⟩
    · simp (maxSteps := 2000000) -implicitDefEqProofs (disch := omega) only [xsW, xsC, xsD, xsE, fillA, reduceCtorEq, Nat.reduceAdd, Nat.reduceSub, Nat.reduceLeDiff, Nat.reduceMul, Int.reduceLT, Int.reduceLE, Int.reduceEq, Int.reduceNe, Int.reduceAdd, Int.reduceSub, Int.reduceMul, Int.reduceNeg, Int.reduceToNat]
      rw [← ht2, b1.none hi2 fun a ha1 ha2 => by
        have := hr (a - i) (by omega)
        rw [show i + (a - i) = a by omega] at this
        simpa using this]
      simp
    · have hk4 : i + k < N := by omega
      simp only [decide_eq_true_eq] at hk2
      by_cases hk0 : k = 0
      · subst hk0
        simp (maxSteps := 2000000) -implicitDefEqProofs (disch := omega) only [xsW, xsC, xsD, xsE, fillA, reduceCtorEq, Nat.reduceAdd, Nat.reduceSub, Nat.reduceLeDiff, Nat.reduceMul, Int.reduceLT, Int.reduceLE, Int.reduceEq, Int.reduceNe, Int.reduceAdd, Int.reduceSub, Int.reduceMul, Int.reduceNeg, Int.reduceToNat]
        have hbox : upd hp m (some ⟨3, [.int .i64 (i : Int)], true, 0⟩) m = some ⟨3, [.int .i64 (i : Int)], true, 0⟩ := upd_same _ _ _
        have holdA : ∀ j, j < n → upd hp m (some ⟨3, [.int .i64 (i : Int)], true, 0⟩) j = h j := fun j hj => by rw [upd_other (by omega), hold j hj]
        obtain ⟨ws2, ll2, R2, sR2, b2, hpv, ht3⟩ : ∃ ws2 ll2 R2, Rows true n n0 (upd hp m (some ⟨3, [.int .i64 (i : Int)], true, 0⟩)) o ws2 ll2 ∧ Bare N i R2 last ll2 ∧ (Unit → at2 ll2 i i ≠ 0) ∧ turn * det N R2 = det N (mx ll) := ⟨ws1, ll1, R, sA, b1, fun _ => hk2, ht2⟩
        clear hv1 hq sA sR1
        generalize upd hp m (some ⟨3, [.int .i64 (i : Int)], true, 0⟩) = H1 at hbox holdA sR2 ⊢
        generalize hT1 : turn = turn1 at ht3 ⊢
        have ht4 : Unit → (turn1 = 1 ∨ turn1 = -1) := fun _ => by omega
        clear hT1 ht1 ht2 turn hk1 hk2 hk3
        have hn3 : m + 1 ≤ n2 := by omega
        generalize n2 = n3 at hn3 ⊢
        have hL2 := b2.sq.1
        have hm3 : n0 ≤ m := hm0
        have h2below := sR2.out.below (by rw [sR2.slen]; omega)
        refine Sl.slo sR2.out (by intro e; rw [e] at hoS; simp [isSl] at hoS) (by omega) (by rw [sR2.slen]; omega) fun v2 hv2 hlen2 hbv => ?_
        rw [sR2.slen] at hlen2
        obtain ⟨hbv1, hbv2, _, _⟩ := hbv hoS
        have hlen3 : (slen v2 : Int) = ((N - (i + 1) : Nat) : Int) := by omega
        simp (maxSteps := 2000000) -implicitDefEqProofs (disch := omega) only [xsW, xsC, xsD, xsE, fillA, reduceCtorEq, Nat.reduceAdd, Nat.reduceSub, Nat.reduceLeDiff, Nat.reduceMul, Int.reduceLT, Int.reduceLE, Int.reduceEq, Int.reduceNe, Int.reduceAdd, Int.reduceSub, Int.reduceMul, Int.reduceNeg, Int.reduceToNat,  hv2.ln, hlen3]
        refine loop_for (N - (i + 1)) 0 (fun a p => [v, .any, .int .i64 0, o, .int .i64 last, .int .i64 turn1, .ptr m 0, .any, .any, .any, .any, .any, .any, .any, o, .int .i64 ll.length, .int .i64 i, .any, .any, .any, .any, .any, .any, .any, .any, .any, .any, .any, .any, .any, .any, .any, .any, .any, .any, .any, .any, .any, .any, .any, .any, .any, .any, .any, .any, .any, .any, .any, .any, .any, .any, v2, .int .i64 ((N - (i + 1) : Nat) : Int), .int .i64 a, .any, .any, .any, .any, .any, .any, .any, .any, .any, .any, .any, .any, .any, .any, .any, .any, .any, .any, .any, .any, .any, .any, .any, .any, .any, .any, .any, .any, .any, .any, .any, .any, .any, .any, .any, .any, .any, .any, .any, .any, .any, .any, .any, .any, .any, .any, .any, .any, .any, .any, .any, .any, .any]) (fun _ (p : AH × List (List Int)) => p.1)
          (fun a p mm => Rows true n n0 p.1 o ws2 p.2 ∧ Sq N p.2 ∧ (∀ r c, r < N → (r ≤ i ∨ i + 1 + a ≤ r) → at2 p.2 r c = at2 ll2 r c) ∧ (∀ r c, i < r → r < i + 1 + a → i ≤ c → c < N → at2 p.2 r c = bord (i + 1) R2 r c) ∧ (∀ j, (j < n ∨ n0 ≤ j) → p.1 j = H1 j) ∧ p.1 (bid o) = H1 (bid o) ∧ m + 1 ≤ mm)
          (H1, ll2) (Nat.zero_le _) ⟨sR2, b2.sq, fun _ _ _ _ => rfl, fun r c h1 h2 => by omega, fun _ _ => rfl, rfl, hn3⟩ (by simp [LeL, Le1]) (fun _ _ h => h) ?_
        rintro a ⟨hp3, ll3⟩ m3 - ha1 hm4 ⟨sR3, q3, g3, g4, g5, g6, g7⟩
        simp only at sR3 q3 g3 g4 g5 g6
        simp (maxSteps := 2000000) -implicitDefEqProofs (disch := omega) only [xsW, xsC, xsD, xsE, fillA, reduceCtorEq, Nat.reduceAdd, Nat.reduceSub, Nat.reduceLeDiff, Nat.reduceMul, Int.reduceLT, Int.reduceLE, Int.reduceEq, Int.reduceNe, Int.reduceAdd, Int.reduceSub, Int.reduceMul, Int.reduceNeg, Int.reduceToNat]
        (refine cd_dec (fun c3 => ?_) (fun c3 => ?_) <;> simp (maxSteps := 2000000) -implicitDefEqProofs (disch := omega) only [xsW, xsC, xsD, xsE, fillA, reduceCtorEq, Nat.reduceAdd, Nat.reduceSub, Nat.reduceLeDiff, Nat.reduceMul, Int.reduceLT, Int.reduceLE, Int.reduceEq, Int.reduceNe, Int.reduceAdd, Int.reduceSub, Int.reduceMul, Int.reduceNeg, Int.reduceToNat,  c3])
        · have ha2 : i + 1 + a < N := by omega
          have hv3 : Sl true n n0 hp3 1 v2 (ws2.drop (i + 1)) := by
            have := hv2.keep1 (h' := hp3) fun _ => by rw [hbv2, g6]
            rw [show ((i : Int) + 1).toNat * 1 = i + 1 by omega] at this
            exact this
          have hl3 := q3.1
          have hrow := sR3.row (i + 1 + a) (by omega)
          have hlr := q3.2 (i + 1 + a) ha2
          have hrowi := sR3.row i (by omega)
          have hlri := q3.2 i hi2
          have hsr := Sl.isReal hrow (slen_ne hrow (by omega)).2
          have hsi := Sl.isReal hrowi (slen_ne hrowi (by omega)).2
          have hown := Sl.own hrow hsr
          have hnb : Unit → bid (ws2.getD i .any) ≠ bid (ws2.getD (i + 1 + a) .any) := fun _ => sR3.rows.apart rfl _ _ (by omega) (by omega) (by omega) hsi hsr
          have hno : Unit → bid (ws2.getD (i + 1 + a) .any) ≠ bid o := fun _ => sR3.outer rfl _ (by omega) hsr
          have gd : (ws2.drop (i + 1)).getD a .any = ws2.getD (i + 1 + a) .any := by simp [List.getD]
          have ea : at2 ll2 (i + 1 + a) i = bord i R2 (i + 1 + a) i := b2.ent _ _ (by omega) ha2 (Nat.le_refl _) hi2
          have eb : (ll3.getD (i + 1 + a) []).getD i 0 = bord i R2 (i + 1 + a) i := by rw [← ea, ← g3 _ _ ha2 (by omega)]; rfl
          have hbx := g5 m (.inr hm3)
          rw [hbox] at hbx
          have hnl : a < (ws2.drop (i + 1)).length := by have h8 := sR3.len; simp; omega
          have x1 : ∀ K h' n', IA 1 v2 (.int .i64 (a : Int)) K h' n' = K (.ptr (bid v2) (boff v2 + a)) h' n' := fun K h' n' => by rw [hv3.ia (by omega) (by omega)]; simp
          have x2 : ∀ K h' n', L2 (hp3 (bid v2)) (boff v2 + a) K h' n' = K (ws2.getD (i + 1 + a) .any) h' n' := fun K h' n' => by rw [hv3.ld hnl, gd]
          simp (maxSteps := 2000000) -implicitDefEqProofs (disch := omega) only [xsW, xsC, xsD, xsE, fillA, reduceCtorEq, Nat.reduceAdd, Nat.reduceSub, Nat.reduceLeDiff, Nat.reduceMul, Int.reduceLT, Int.reduceLE, Int.reduceEq, Int.reduceNe, Int.reduceAdd, Int.reduceSub, Int.reduceMul, Int.reduceNeg, Int.reduceToNat,  x1, x2, hbx, hrow.ia, hrow.ld, eb]
          refine loop_for N i (fun c p => [v, .any, .int .i64 0, o, .int .i64 last, .int .i64 turn1, .ptr m 0, .any, .any, ws2.getD (i + 1 + a) .any, .int .i64 (bord i R2 (i + 1 + a) i), .int .i64 c, .any, .any, o, .int .i64 ll.length, .int .i64 i, .any, .any, .any, .any, .any, .any, .any, .any, .any, .any, .any, .any, .any, .any, .any, .any, .any, .any, .any, .any, .any, .any, .any, .any, .any, .any, .any, .any, .any, .any, .any, .any, .any, .any, v2, .int .i64 ((N - (i + 1) : Nat) : Int), .int .i64 a, .any, .any, .any, .any, .any, .any, .any, .any, .any, .any, .any, .any, .any, .any, .any, .any, .any, .any, .any, .any, .any, .any, .any, .any, .any, .any, .any, .any, .any, .any, .any, .any, .any, .any, .any, .any, .any, .any, .any, .any, .any, .any, .any, .any, .any, .any, .any, .any, .any, .any, .any, .any, .any]) (fun _ (p : AH × List Int) => p.1)
            (fun c p mm => Ints true n n0 p.1 (ws2.getD (i + 1 + a) .any) p.2 ∧ p.2.length = N ∧ (∀ b, b < N → p.2.getD b 0 = if i ≤ b ∧ b < c then bord (i + 1) R2 (i + 1 + a) b else at2 ll3 (i + 1 + a) b) ∧ (∀ j, j ≠ bid (ws2.getD (i + 1 + a) .any) → p.1 j = hp3 j) ∧ m + 1 ≤ mm)
            (hp3, ll3.getD (i + 1 + a) []) (Nat.le_of_lt hi2) ⟨hrow, hlr, fun b hb => by rw [if_neg (by omega)]; rfl, fun _ _ => rfl, g7⟩ (by simp [LeL, Le1]) (fun _ _ h => h) ?_
          rintro c ⟨hp4, l4⟩ m4 hc0 hc1 hm5 ⟨sR4, q4, k1, k2, k3⟩
          simp only at sR4 q4 k1 k2
          simp (maxSteps := 2000000) -implicitDefEqProofs (disch := omega) only [xsW, xsC, xsD, xsE, fillA, reduceCtorEq, Nat.reduceAdd, Nat.reduceSub, Nat.reduceLeDiff, Nat.reduceMul, Int.reduceLT, Int.reduceLE, Int.reduceEq, Int.reduceNe, Int.reduceAdd, Int.reduceSub, Int.reduceMul, Int.reduceNeg, Int.reduceToNat,  sR4.ln]
          (refine cd_dec (fun c4 => ?_) (fun c4 => ?_) <;> simp (maxSteps := 2000000) -implicitDefEqProofs (disch := omega) only [xsW, xsC, xsD, xsE, fillA, reduceCtorEq, Nat.reduceAdd, Nat.reduceSub, Nat.reduceLeDiff, Nat.reduceMul, Int.reduceLT, Int.reduceLE, Int.reduceEq, Int.reduceNe, Int.reduceAdd, Int.reduceSub, Int.reduceMul, Int.reduceNeg, Int.reduceToNat,  c4])
          · have hc2 : c < N := by omega
            obtain ⟨w1, w2, w3, w4⟩ := b2.val hN (r := i + 1 + a) (c := c) (by omega) ha2 hc0 hc2
            have z1 : l4.getD c 0 = bord i R2 (i + 1 + a) c := by
              rw [k1 c hc2, if_neg (by omega), g3 _ _ ha2 (by omega)]
              exact b2.ent _ _ (by omega) ha2 hc0 hc2
            have z2 : (ll3.getD i []).getD i 0 = bord i R2 i i := by
              have := g3 i i hi2 (by omega)
              rw [b2.ent _ _ (Nat.le_refl _) hi2 (Nat.le_refl _) hi2] at this
              exact this
            have z3 : (ll3.getD i []).getD c 0 = bord i R2 i c := by
              have := g3 i c hi2 (by omega)
              rw [b2.ent _ _ (Nat.le_refl _) hi2 hc0 hc2] at this
              exact this
            have hne := b2.ne
            have n1 := k2 m (by omega)
            rw [hbx] at n1
            have n2 := k2 (bid o) (fun e => hno () e.symm)
            have n3 := k2 (bid (ws2.getD i .any)) (hnb ())
            have e1 := fun K => Ints.st sR4 (k := c) (x := bord (i + 1) R2 (i + 1 + a) c) (n0 := n) (n := m4) (W := none') (by omega) (fun i a b => .inl a) (by omega) K
            simp (maxSteps := 2000000) -implicitDefEqProofs (disch := omega) only [xsW, xsC, xsD, xsE, fillA, reduceCtorEq, Nat.reduceAdd, Nat.reduceSub, Nat.reduceLeDiff, Nat.reduceMul, Int.reduceLT, Int.reduceLE, Int.reduceEq, Int.reduceNe, Int.reduceAdd, Int.reduceSub, Int.reduceMul, Int.reduceNeg, Int.reduceToNat,  sR4.ia, sR4.ld, sR3.ia, sR3.ld, hrowi.ia, hrowi.ld, n1, n2, n3, z1, z2, z3, w3, e1]
            refine ⟨(_, l4.set c (bord (i + 1) R2 (i + 1 + a) c)), ⟨sR4.wr (by omega) _, by simpa using q4, fun b hb => ?_, fun j hj => (wr_other hj).trans (k2 j hj), by omega⟩, by omega, by omega, (by simp [LeL, Le1]), fun _ _ h => h⟩
            rw [getD_set, k1 b hb, q4]
            by_cases e : c = b
            · subst e; rw [if_pos ⟨rfl, hc2⟩, if_pos ⟨hc0, by omega⟩]
            · rw [if_neg fun h => e h.1]
              by_cases e2 : i ≤ b ∧ b < c
              · rw [if_pos e2, if_pos ⟨e2.1, by omega⟩]
              · rw [if_neg e2, if_neg (by omega)]
          · have hc3 : c = N := by omega
            subst hc3
            have sR5 := sR3.row1 (by omega) sR4 (.inl hsr) k2
            refine ⟨(hp4, _), ⟨sR5, ⟨by simpa using hl3, fun b hb => ?_⟩, fun r c' hr hr2 => ?_, fun r c' h1 h2 h3 h4 => ?_, fun j hj => (k2 j (by omega)).trans (g5 j hj), (k2 _ (fun e => hno () e.symm)).trans g6, by omega⟩, by omega, by omega, (by simp [LeL, Le1]), fun _ _ h => h⟩
            · rw [getD_set]
              split
              · exact q4
              · exact q3.2 b hb
            · rw [← g3 r c' hr (by omega)]
              unfold at2
              rw [getD_set, if_neg (by omega)]
            · unfold at2
              rw [getD_set]
              by_cases e : i + 1 + a = r
              · subst e
                rw [if_pos ⟨rfl, by omega⟩, k1 c' h4, if_pos ⟨h3, h4⟩]
              · rw [if_neg fun h => e h.1]
                exact g4 r c' h1 (by omega) h3 h4
        · have ha3 : i + 1 + a = N := by omega
          have hl3 := q3.1
          have hrowi := sR3.row i (by omega)
          have hlri := q3.2 i hi2
          have z2 : (ll3.getD i []).getD i 0 = at2 ll2 i i := g3 i i hi2 (by omega)
          have hbx := g5 m (.inr hm3)
          rw [hbox] at hbx
          simp (maxSteps := 2000000) -implicitDefEqProofs (disch := omega) only [xsW, xsC, xsD, xsE, fillA, reduceCtorEq, Nat.reduceAdd, Nat.reduceSub, Nat.reduceLeDiff, Nat.reduceMul, Int.reduceLT, Int.reduceLE, Int.reduceEq, Int.reduceNe, Int.reduceAdd, Int.reduceSub, Int.reduceMul, Int.reduceNeg, Int.reduceToNat,  hbx, sR3.ia, sR3.ld, hrowi.ia, hrowi.ld, z2]
          refine ⟨(hp3, ws2, ll3, R2, at2 ll2 i i, turn1), ⟨sR3, b2.next hi2 (hpv ()) q3 (fun r c h1 h2 h3 h4 => g4 r c h1 (by omega) h3 h4), ht4 (), ht3, fun j hj => (g5 j (.inl hj)).trans (holdA j hj), by omega⟩, by omega, by omega, (by simp [LeL, Le1]), fun _ _ h => h⟩
      · have hrow1 := sA.row i (by omega)
        have hrow2 := sA.row (i + k) (by omega)
        have hl1 := b1.sq.2 i hi2
        have hl2 := b1.sq.2 (i + k) hk4
        have x1 := Sl.any hrow1
        have x2 := Sl.any hrow2
        have e1 := fun K => Sl.st sA.out (k := i) (x := ws1.getD (i + k) .any) (n0 := n) (n := n2) (W := none') (by rw [sR1.len]; omega) (one_any x2) (cel_any x2) (sto_any x2) (fun i a b => .inl a) (by omega) K
        have sW := sA.out.wr (k := i) (by rw [sR1.len]; omega) (ws1.getD (i + k) .any)
        have e2 := fun K => Sl.st sW (k := i + k) (x := ws1.getD i .any) (n0 := n) (n := n2) (W := none') (by rw [List.length_set, sR1.len]; omega) (one_any x1) (cel_any x1) (sto_any x1) (fun i a b => .inl a) (by omega) K
        have sW2 := sW.wr (k := i + k) (by rw [List.length_set, sR1.len]; omega) (ws1.getD i .any)
        have hne : bid o ≠ m := by omega
        have tn : ((i : Int) + (k : Int)).toNat = i + k := by omega
        have hbox : wr (wr (upd hp m (some ⟨3, [.int .i64 (i : Int)], true, 0⟩)) (bid o) (boff o + i) (ws1.getD (i + k) .any)) (bid o) (boff o + (i + k)) (ws1.getD i .any) m = some ⟨3, [.int .i64 (i : Int)], true, 0⟩ := by
          rw [wr_other (fun e => hne e.symm), wr_other (fun e => hne e.symm), upd_same]
        have hbox1 : wr (upd hp m (some ⟨3, [.int .i64 (i : Int)], true, 0⟩)) (bid o) (boff o + i) (ws1.getD (i + k) .any) m = some ⟨3, [.int .i64 (i : Int)], true, 0⟩ := by
          rw [wr_other (fun e => hne e.symm), upd_same]
        simp (maxSteps := 2000000) -implicitDefEqProofs (disch := omega) only [xsW, xsC, xsD, xsE, fillA, reduceCtorEq, Nat.reduceAdd, Nat.reduceSub, Nat.reduceLeDiff, Nat.reduceMul, Int.reduceLT, Int.reduceLE, Int.reduceEq, Int.reduceNe, Int.reduceAdd, Int.reduceSub, Int.reduceMul, Int.reduceNeg, Int.reduceToNat,  sR1.ia, sR1.ld, tn, e1, e2]
        refine ⟨hne, ?_⟩
        have sS := Rows.swap (i := i) (j := i + k) sA (by omega) (by omega) sW2 (fun a ha => by rw [wr_other ha, wr_other ha]) (fun a ha => set2_get ws1 .any i (i + k) a (by rw [sR1.len]; exact ha)) (by simp)
        obtain ⟨bS, dS⟩ := b1.swap (j := i + k) (ll' := swL ll1 i (i + k)) (by omega) hk4 ⟨by rw [swL_len, hL1], fun a ha => by rw [swL_get _ _ _ _ (by omega)]; exact b1.sq.2 _ (swp_lt hi2 hk4 ha)⟩ (fun r c hr hc => by unfold at2; rw [swL_get _ _ _ _ (by omega)])
        have dS := dS (by omega)
        have holdA : ∀ j, j < n → wr (wr (upd hp m (some ⟨3, [.int .i64 (i : Int)], true, 0⟩)) (bid o) (boff o + i) (ws1.getD (i + k) .any)) (bid o) (boff o + (i + k)) (ws1.getD i .any) j = h j := fun j hj => by rw [wr_other (by omega), wr_other (by omega), upd_other (by omega), hold j hj]
        obtain ⟨ws2, ll2, R2, sR2, b2, hpv, ht3⟩ : ∃ ws2 ll2 R2, Rows true n n0 (wr (wr (upd hp m (some ⟨3, [.int .i64 (i : Int)], true, 0⟩)) (bid o) (boff o + i) (ws1.getD (i + k) .any)) (bid o) (boff o + (i + k)) (ws1.getD i .any)) o ws2 ll2 ∧ Bare N i R2 last ll2 ∧ (Unit → at2 ll2 i i ≠ 0) ∧ (-turn) * det N R2 = det N (mx ll) :=
          ⟨_, _, _, sS, bS, fun _ => by unfold at2; rw [swL_get _ _ _ _ (by omega), show swp i (i + k) i = i + k by simp [swp]]; exact hk2, by rw [dS, ← ht2, Int.neg_mul_neg]⟩
        clear hv1 hq sA sR1 e1 e2 sW sW2 sS hrow1 hrow2 hbox1 bS dS x1 x2 tn hl1 hl2 hne
        generalize wr (wr (upd hp m (some ⟨3, [.int .i64 (i : Int)], true, 0⟩)) (bid o) (boff o + i) (ws1.getD (i + k) .any)) (bid o) (boff o + (i + k)) (ws1.getD i .any) = H1 at hbox holdA sR2 ⊢
        generalize hT1 : -turn = turn1 at ht3 ⊢
        have ht4 : Unit → (turn1 = 1 ∨ turn1 = -1) := fun _ => by omega
        clear ht2 ht1 hT1 hk0 hk1 hk2 hk3
        have hn3 : m + 1 ≤ n2 := by omega
        generalize n2 = n3 at hn3 ⊢
        simp (maxSteps := 2000000) -implicitDefEqProofs (disch := omega) only [xsW, xsC, xsD, xsE, fillA, reduceCtorEq, Nat.reduceAdd, Nat.reduceSub, Nat.reduceLeDiff, Nat.reduceMul, Int.reduceLT, Int.reduceLE, Int.reduceEq, Int.reduceNe, Int.reduceAdd, Int.reduceSub, Int.reduceMul, Int.reduceNeg, Int.reduceToNat,  hbox]
        have hL2 := b2.sq.1
        have hm3 : n0 ≤ m := hm0
        have h2below := sR2.out.below (by rw [sR2.slen]; omega)
        refine Sl.slo sR2.out (by intro e; rw [e] at hoS; simp [isSl] at hoS) (by omega) (by rw [sR2.slen]; omega) fun v2 hv2 hlen2 hbv => ?_
        rw [sR2.slen] at hlen2
        obtain ⟨hbv1, hbv2, _, _⟩ := hbv hoS
        have hlen3 : (slen v2 : Int) = ((N - (i + 1) : Nat) : Int) := by omega
        simp (maxSteps := 2000000) -implicitDefEqProofs (disch := omega) only [xsW, xsC, xsD, xsE, fillA, reduceCtorEq, Nat.reduceAdd, Nat.reduceSub, Nat.reduceLeDiff, Nat.reduceMul, Int.reduceLT, Int.reduceLE, Int.reduceEq, Int.reduceNe, Int.reduceAdd, Int.reduceSub, Int.reduceMul, Int.reduceNeg, Int.reduceToNat,  hv2.ln, hlen3]
        refine loop_for (N - (i + 1)) 0 (fun a p => [v, .any, .int .i64 0, o, .int .i64 last, .int .i64 turn1, .ptr m 0, .any, .any, .any, .any, .any, .any, .any, o, .int .i64 ll.length, .int .i64 i, .any, .any, .any, .any, .any, .any, .any, .any, .any, .any, .any, .any, .any, .any, .any, .any, .any, .any, .any, .any, .any, .any, .any, .any, .any, .any, .any, .any, .any, .any, .any, .any, .any, .any, v2, .int .i64 ((N - (i + 1) : Nat) : Int), .int .i64 a, .any, .any, .any, .any, .any, .any, .any, .any, .any, .any, .any, .any, .any, .any, .any, .any, .any, .any, .any, .any, .any, .any, .any, .any, .any, .any, .any, .any, .any, .any, .any, .any, .any, .any, .any, .any, .any, .any, .any, .any, .any, .any, .any, .any, .any, .any, .any, .any, .any, .any, .any, .any, .any]) (fun _ (p : AH × List (List Int)) => p.1)
          (fun a p mm => Rows true n n0 p.1 o ws2 p.2 ∧ Sq N p.2 ∧ (∀ r c, r < N → (r ≤ i ∨ i + 1 + a ≤ r) → at2 p.2 r c = at2 ll2 r c) ∧ (∀ r c, i < r → r < i + 1 + a → i ≤ c → c < N → at2 p.2 r c = bord (i + 1) R2 r c) ∧ (∀ j, (j < n ∨ n0 ≤ j) → p.1 j = H1 j) ∧ p.1 (bid o) = H1 (bid o) ∧ m + 1 ≤ mm)
          (H1, ll2) (Nat.zero_le _) ⟨sR2, b2.sq, fun _ _ _ _ => rfl, fun r c h1 h2 => by omega, fun _ _ => rfl, rfl, hn3⟩ (by simp [LeL, Le1]) (fun _ _ h => h) ?_
        rintro a ⟨hp3, ll3⟩ m3 - ha1 hm4 ⟨sR3, q3, g3, g4, g5, g6, g7⟩
        simp only at sR3 q3 g3 g4 g5 g6
        simp (maxSteps := 2000000) -implicitDefEqProofs (disch := omega) only [xsW, xsC, xsD, xsE, fillA, reduceCtorEq, Nat.reduceAdd, Nat.reduceSub, Nat.reduceLeDiff, Nat.reduceMul, Int.reduceLT, Int.reduceLE, Int.reduceEq, Int.reduceNe, Int.reduceAdd, Int.reduceSub, Int.reduceMul, Int.reduceNeg, Int.reduceToNat]
        (refine cd_dec (fun c3 => ?_) (fun c3 => ?_) <;> simp (maxSteps := 2000000) -implicitDefEqProofs (disch := omega) only [xsW, xsC, xsD, xsE, fillA, reduceCtorEq, Nat.reduceAdd, Nat.reduceSub, Nat.reduceLeDiff, Nat.reduceMul, Int.reduceLT, Int.reduceLE, Int.reduceEq, Int.reduceNe, Int.reduceAdd, Int.reduceSub, Int.reduceMul, Int.reduceNeg, Int.reduceToNat,  c3])
        · have ha2 : i + 1 + a < N := by omega
          have hv3 : Sl true n n0 hp3 1 v2 (ws2.drop (i + 1)) := by
            have := hv2.keep1 (h' := hp3) fun _ => by rw [hbv2, g6]
            rw [show ((i : Int) + 1).toNat * 1 = i + 1 by omega] at this
            exact this
          have hl3 := q3.1
          have hrow := sR3.row (i + 1 + a) (by omega)
          have hlr := q3.2 (i + 1 + a) ha2
          have hrowi := sR3.row i (by omega)
          have hlri := q3.2 i hi2
          have hsr := Sl.isReal hrow (slen_ne hrow (by omega)).2
          have hsi := Sl.isReal hrowi (slen_ne hrowi (by omega)).2
          have hown := Sl.own hrow hsr
          have hnb : Unit → bid (ws2.getD i .any) ≠ bid (ws2.getD (i + 1 + a) .any) := fun _ => sR3.rows.apart rfl _ _ (by omega) (by omega) (by omega) hsi hsr
          have hno : Unit → bid (ws2.getD (i + 1 + a) .any) ≠ bid o := fun _ => sR3.outer rfl _ (by omega) hsr
          have gd : (ws2.drop (i + 1)).getD a .any = ws2.getD (i + 1 + a) .any := by simp [List.getD]
          have ea : at2 ll2 (i + 1 + a) i = bord i R2 (i + 1 + a) i := b2.ent _ _ (by omega) ha2 (Nat.le_refl _) hi2
          have eb : (ll3.getD (i + 1 + a) []).getD i 0 = bord i R2 (i + 1 + a) i := by rw [← ea, ← g3 _ _ ha2 (by omega)]; rfl
          have hbx := g5 m (.inr hm3)
          rw [hbox] at hbx
          have hnl : a < (ws2.drop (i + 1)).length := by have h8 := sR3.len; simp; omega
          have x1 : ∀ K h' n', IA 1 v2 (.int .i64 (a : Int)) K h' n' = K (.ptr (bid v2) (boff v2 + a)) h' n' := fun K h' n' => by rw [hv3.ia (by omega) (by omega)]; simp
          have x2 : ∀ K h' n', L2 (hp3 (bid v2)) (boff v2 + a) K h' n' = K (ws2.getD (i + 1 + a) .any) h' n' := fun K h' n' => by rw [hv3.ld hnl, gd]
          simp (maxSteps := 2000000) -implicitDefEqProofs (disch := omega) only [xsW, xsC, xsD, xsE, fillA, reduceCtorEq, Nat.reduceAdd, Nat.reduceSub, Nat.reduceLeDiff, Nat.reduceMul, Int.reduceLT, Int.reduceLE, Int.reduceEq, Int.reduceNe, Int.reduceAdd, Int.reduceSub, Int.reduceMul, Int.reduceNeg, Int.reduceToNat,  x1, x2, hbx, hrow.ia, hrow.ld, eb]
          refine loop_for N i (fun c p => [v, .any, .int .i64 0, o, .int .i64 last, .int .i64 turn1, .ptr m 0, .any, .any, ws2.getD (i + 1 + a) .any, .int .i64 (bord i R2 (i + 1 + a) i), .int .i64 c, .any, .any, o, .int .i64 ll.length, .int .i64 i, .any, .any, .any, .any, .any, .any, .any, .any, .any, .any, .any, .any, .any, .any, .any, .any, .any, .any, .any, .any, .any, .any, .any, .any, .any, .any, .any, .any, .any, .any, .any, .any, .any, .any, v2, .int .i64 ((N - (i + 1) : Nat) : Int), .int .i64 a, .any, .any, .any, .any, .any, .any, .any, .any, .any, .any, .any, .any, .any, .any, .any, .any, .any, .any, .any, .any, .any, .any, .any, .any, .any, .any, .any, .any, .any, .any, .any, .any, .any, .any, .any, .any, .any, .any, .any, .any, .any, .any, .any, .any, .any, .any, .any, .any, .any, .any, .any, .any, .any]) (fun _ (p : AH × List Int) => p.1)
            (fun c p mm => Ints true n n0 p.1 (ws2.getD (i + 1 + a) .any) p.2 ∧ p.2.length = N ∧ (∀ b, b < N → p.2.getD b 0 = if i ≤ b ∧ b < c then bord (i + 1) R2 (i + 1 + a) b else at2 ll3 (i + 1 + a) b) ∧ (∀ j, j ≠ bid (ws2.getD (i + 1 + a) .any) → p.1 j = hp3 j) ∧ m + 1 ≤ mm)
            (hp3, ll3.getD (i + 1 + a) []) (Nat.le_of_lt hi2) ⟨hrow, hlr, fun b hb => by rw [if_neg (by omega)]; rfl, fun _ _ => rfl, g7⟩ (by simp [LeL, Le1]) (fun _ _ h => h) ?_
          rintro c ⟨hp4, l4⟩ m4 hc0 hc1 hm5 ⟨sR4, q4, k1, k2, k3⟩
          simp only at sR4 q4 k1 k2
          simp (maxSteps := 2000000) -implicitDefEqProofs (disch := omega) only [xsW, xsC, xsD, xsE, fillA, reduceCtorEq, Nat.reduceAdd, Nat.reduceSub, Nat.reduceLeDiff, Nat.reduceMul, Int.reduceLT, Int.reduceLE, Int.reduceEq, Int.reduceNe, Int.reduceAdd, Int.reduceSub, Int.reduceMul, Int.reduceNeg, Int.reduceToNat,  sR4.ln]
          (refine cd_dec (fun c4 => ?_) (fun c4 => ?_) <;> simp (maxSteps := 2000000) -implicitDefEqProofs (disch := omega) only [xsW, xsC, xsD, xsE, fillA, reduceCtorEq, Nat.reduceAdd, Nat.reduceSub, Nat.reduceLeDiff, Nat.reduceMul, Int.reduceLT, Int.reduceLE, Int.reduceEq, Int.reduceNe, Int.reduceAdd, Int.reduceSub, Int.reduceMul, Int.reduceNeg, Int.reduceToNat,  c4])
          · have hc2 : c < N := by omega
            obtain ⟨w1, w2, w3, w4⟩ := b2.val hN (r := i + 1 + a) (c := c) (by omega) ha2 hc0 hc2
            have z1 : l4.getD c 0 = bord i R2 (i + 1 + a) c := by
              rw [k1 c hc2, if_neg (by omega), g3 _ _ ha2 (by omega)]
              exact b2.ent _ _ (by omega) ha2 hc0 hc2
            have z2 : (ll3.getD i []).getD i 0 = bord i R2 i i := by
              have := g3 i i hi2 (by omega)
              rw [b2.ent _ _ (Nat.le_refl _) hi2 (Nat.le_refl _) hi2] at this
              exact this
            have z3 : (ll3.getD i []).getD c 0 = bord i R2 i c := by
              have := g3 i c hi2 (by omega)
              rw [b2.ent _ _ (Nat.le_refl _) hi2 hc0 hc2] at this
              exact this
            have hne := b2.ne
            have n1 := k2 m (by omega)
            rw [hbx] at n1
            have n2 := k2 (bid o) (fun e => hno () e.symm)
            have n3 := k2 (bid (ws2.getD i .any)) (hnb ())
            have e1 := fun K => Ints.st sR4 (k := c) (x := bord (i + 1) R2 (i + 1 + a) c) (n0 := n) (n := m4) (W := none') (by omega) (fun i a b => .inl a) (by omega) K
            simp (maxSteps := 2000000) -implicitDefEqProofs (disch := omega) only [xsW, xsC, xsD, xsE, fillA, reduceCtorEq, Nat.reduceAdd, Nat.reduceSub, Nat.reduceLeDiff, Nat.reduceMul, Int.reduceLT, Int.reduceLE, Int.reduceEq, Int.reduceNe, Int.reduceAdd, Int.reduceSub, Int.reduceMul, Int.reduceNeg, Int.reduceToNat,  sR4.ia, sR4.ld, sR3.ia, sR3.ld, hrowi.ia, hrowi.ld, n1, n2, n3, z1, z2, z3, w3, e1]
            refine ⟨(_, l4.set c (bord (i + 1) R2 (i + 1 + a) c)), ⟨sR4.wr (by omega) _, by simpa using q4, fun b hb => ?_, fun j hj => (wr_other hj).trans (k2 j hj), by omega⟩, by omega, by omega, (by simp [LeL, Le1]), fun _ _ h => h⟩
            rw [getD_set, k1 b hb, q4]
            by_cases e : c = b
            · subst e; rw [if_pos ⟨rfl, hc2⟩, if_pos ⟨hc0, by omega⟩]
            · rw [if_neg fun h => e h.1]
              by_cases e2 : i ≤ b ∧ b < c
              · rw [if_pos e2, if_pos ⟨e2.1, by omega⟩]
              · rw [if_neg e2, if_neg (by omega)]
          · have hc3 : c = N := by omega
            subst hc3
            have sR5 := sR3.row1 (by omega) sR4 (.inl hsr) k2
            refine ⟨(hp4, _), ⟨sR5, ⟨by simpa using hl3, fun b hb => ?_⟩, fun r c' hr hr2 => ?_, fun r c' h1 h2 h3 h4 => ?_, fun j hj => (k2 j (by omega)).trans (g5 j hj), (k2 _ (fun e => hno () e.symm)).trans g6, by omega⟩, by omega, by omega, (by simp [LeL, Le1]), fun _ _ h => h⟩
            · rw [getD_set]
              split
              · exact q4
              · exact q3.2 b hb
            · rw [← g3 r c' hr (by omega)]
              unfold at2
              rw [getD_set, if_neg (by omega)]
            · unfold at2
              rw [getD_set]
              by_cases e : i + 1 + a = r
              · subst e
                rw [if_pos ⟨rfl, by omega⟩, k1 c' h4, if_pos ⟨h3, h4⟩]
              · rw [if_neg fun h => e h.1]
                exact g4 r c' h1 (by omega) h3 h4
        · have ha3 : i + 1 + a = N := by omega
          have hl3 := q3.1
          have hrowi := sR3.row i (by omega)
          have hlri := q3.2 i hi2
          have z2 : (ll3.getD i []).getD i 0 = at2 ll2 i i := g3 i i hi2 (by omega)
          have hbx := g5 m (.inr hm3)
          rw [hbox] at hbx
          simp (maxSteps := 2000000) -implicitDefEqProofs (disch := omega) only [xsW, xsC, xsD, xsE, fillA, reduceCtorEq, Nat.reduceAdd, Nat.reduceSub, Nat.reduceLeDiff, Nat.reduceMul, Int.reduceLT, Int.reduceLE, Int.reduceEq, Int.reduceNe, Int.reduceAdd, Int.reduceSub, Int.reduceMul, Int.reduceNeg, Int.reduceToNat,  hbx, sR3.ia, sR3.ld, hrowi.ia, hrowi.ld, z2]
          refine ⟨(hp3, ws2, ll3, R2, at2 ll2 i i, turn1), ⟨sR3, b2.next hi2 (hpv ()) q3 (fun r c h1 h2 h3 h4 => g4 r c h1 (by omega) h3 h4), ht4 (), ht3, fun j hj => (g5 j (.inl hj)).trans (holdA j hj), by omega⟩, by omega, by omega, (by simp [LeL, Le1]), fun _ _ h => h⟩
  · have e : i = N := by omega
    subst e
    have hb := b1.lst
    rw [← hb] at ht2
    obtain ⟨q, hq⟩ := hl
    have := det_small hq hN
    rw [ht2]
    unfold in64
    omega
def c_impl_has : F := ⟨(.seq (.reg false [⟨some 4, .mv (.c (.bool false)), none⟩]) (.seq (.reg false [⟨some 5, .mv (.t 0), none⟩, ⟨some 6, .mv (.t 1), none⟩, ⟨some 7, .bin .shr (.t 5) (.t 6), none⟩, ⟨some 8, .bin .and (.t 7) (.c (.int .i64 1)), none⟩, ⟨some 9, .bin .eql (.t 8) (.c (.int .i64 1)), none⟩, ⟨some 4, .mv (.t 9), none⟩]) .ret)), 10, [(.t 4)]⟩
theorem k_impl_has : compF Try.prog Try.f118 = some c_impl_has := by kernel_rfl
def c_impl_part : F := ⟨(.seq (.reg false [⟨some 6, .mv (.c .nilsl), none⟩]) (.seq (.reg false [⟨some 7, .mv (.c .nilsl), none⟩]) (.seq (.seq (.reg false [⟨some 13, .mv (.t 0), none⟩, ⟨some 14, .len (.t 13), none⟩, ⟨some 15, .mv (.c (.int .i64 0)), none⟩]) (.block 0 (.loop (.seq (.reg false [⟨some 16, .bin .lss (.t 15) (.t 14), none⟩]) (.seq (.cond (.t 16) .skip (.exit 0)) (.seq (.block 1 (.seq (.reg false [⟨some 17, .mv (.t 15), none⟩, ⟨some 18, .ia 1 (.t 13) (.t 15), none⟩, ⟨some 19, .ld1 (.t 18), none⟩, ⟨some 8, .mv (.t 17), none⟩, ⟨some 9, .mv (.t 19), none⟩]) (.seq (.seq (.reg false [⟨some 20, .mv (.t 1), none⟩, ⟨some 21, .mv (.t 8), none⟩, ⟨some 22, .call (.f 118) [(.t 20), (.t 21)], none⟩, ⟨some 23, .un .not (.t 22), none⟩]) (.cond (.t 23) (.exit 1) .skip)) (.seq (.reg false [⟨some 10, .mv (.c .nilsl), none⟩]) (.seq (.seq (.reg false [⟨some 24, .mv (.t 9), none⟩, ⟨some 25, .len (.t 24), none⟩, ⟨some 26, .mv (.c (.int .i64 0)), none⟩]) (.block 2 (.loop (.seq (.reg false [⟨some 27, .bin .lss (.t 26) (.t 25), none⟩]) (.seq (.cond (.t 27) .skip (.exit 2)) (.seq (.block 3 (.seq (.reg false [⟨some 28, .mv (.t 26), none⟩, ⟨some 29, .ia 1 (.t 24) (.t 26), none⟩, ⟨some 30, .ld1 (.t 29), none⟩, ⟨some 11, .mv (.t 28), none⟩, ⟨some 12, .mv (.t 30), none⟩]) (.seq (.reg false [⟨some 31, .mv (.t 2), none⟩, ⟨some 32, .mv (.t 11), none⟩, ⟨some 33, .call (.f 118) [(.t 31), (.t 32)], none⟩]) (.cond (.t 33) (.reg false [⟨some 34, .mv (.t 10), none⟩, ⟨some 35, .mv (.t 12), none⟩, ⟨some 36, .lit 2 1 1 [(.int .i64 0)] [(0, (.t 35))], none⟩, ⟨some 37, .app 2 1 8 [(.int .i64 0)] (.t 34) (.t 36), none⟩, ⟨some 10, .mv (.t 37), none⟩]) .skip)))) (.reg false [⟨some 38, .bin .add (.t 26) (.c (.int .i64 1)), none⟩, ⟨some 26, .mv (.t 38), none⟩]))))))) (.reg false [⟨some 39, .mv (.t 7), none⟩, ⟨some 40, .mv (.t 10), none⟩, ⟨some 41, .lit 29 1 1 [.nilsl] [(0, (.t 40))], none⟩, ⟨some 42, .app 29 1 24 [.nilsl] (.t 39) (.t 41), none⟩, ⟨some 7, .mv (.t 42), none⟩])))))) (.reg false [⟨some 43, .bin .add (.t 15) (.c (.int .i64 1)), none⟩, ⟨some 15, .mv (.t 43), none⟩]))))))) (.seq (.reg false [⟨some 44, .mv (.t 7), none⟩, ⟨some 6, .mv (.t 44), none⟩]) .ret)))), 45, [(.t 6)]⟩
theorem k_impl_part : compF Try.prog Try.f72 = some c_impl_part := by kernel_rfl
def c_spec_l01Part : F := ⟨(.seq (.reg false [⟨some 4, .mv (.c .nilsl), none⟩]) (.seq (.reg false [⟨some 9, .lit 29 1 0 [.nilsl] [], none⟩, ⟨some 5, .mv (.t 9), none⟩]) (.seq (.seq (.reg false [⟨some 6, .mv (.c (.int .i64 0)), none⟩]) (.block 0 (.loop (.seq (.seq (.reg false [⟨some 10, .mv (.t 6), none⟩, ⟨some 11, .mv (.t 0), none⟩, ⟨some 12, .len (.t 11), none⟩, ⟨some 13, .bin .lss (.t 10) (.t 12), none⟩]) (.cond (.t 13) .skip (.exit 0))) (.seq (.block 1 (.seq (.seq (.reg false [⟨some 16, .mv (.t 1), none⟩, ⟨some 17, .mv (.t 6), none⟩, ⟨some 18, .cvi .u64 (.t 17), none⟩, ⟨some 19, .bin .shr (.t 16) (.t 18), none⟩, ⟨some 20, .bin .and (.t 19) (.c (.int .i64 1)), none⟩, ⟨some 21, .bin .eql (.t 20) (.c (.int .i64 0)), none⟩]) (.cond (.t 21) (.exit 1) .skip)) (.seq (.reg false [⟨some 22, .lit 2 1 0 [(.int .i64 0)] [], none⟩, ⟨some 7, .mv (.t 22), none⟩]) (.seq (.seq (.reg false [⟨some 8, .mv (.c (.int .i64 0)), none⟩]) (.block 2 (.loop (.seq (.seq (.reg false [⟨some 23, .mv (.t 8), none⟩, ⟨some 24, .mv (.t 0), none⟩, ⟨some 25, .len (.t 24), none⟩, ⟨some 26, .bin .lss (.t 23) (.t 25), none⟩]) (.cond (.t 26) .skip (.exit 2))) (.seq (.block 3 (.seq (.reg false [⟨some 29, .mv (.t 1), none⟩, ⟨some 30, .mv (.t 8), none⟩, ⟨some 31, .cvi .u64 (.t 30), none⟩, ⟨some 32, .bin .shr (.t 29) (.t 31), none⟩, ⟨some 33, .bin .and (.t 32) (.c (.int .i64 1)), none⟩, ⟨some 34, .bin .eql (.t 33) (.c (.int .i64 1)), none⟩]) (.cond (.t 34) (.reg false [⟨some 35, .mv (.t 7), none⟩, ⟨some 36, .mv (.t 0), none⟩, ⟨some 37, .mv (.t 6), none⟩, ⟨some 38, .ia 1 (.t 36) (.t 37), none⟩, ⟨some 39, .ld1 (.t 38), none⟩, ⟨some 40, .mv (.t 8), none⟩, ⟨some 41, .ia 1 (.t 39) (.t 40), none⟩, ⟨some 42, .ld1 (.t 41), none⟩, ⟨some 43, .lit 2 1 1 [(.int .i64 0)] [(0, (.t 42))], none⟩, ⟨some 44, .app 2 1 8 [(.int .i64 0)] (.t 35) (.t 43), none⟩, ⟨some 7, .mv (.t 44), none⟩]) .skip))) (.reg false [⟨some 27, .mv (.t 8), none⟩, ⟨some 28, .bin .add (.t 27) (.c (.int .i64 1)), none⟩, ⟨some 8, .mv (.t 28), none⟩])))))) (.reg false [⟨some 45, .mv (.t 5), none⟩, ⟨some 46, .mv (.t 7), none⟩, ⟨some 47, .lit 29 1 1 [.nilsl] [(0, (.t 46))], none⟩, ⟨some 48, .app 29 1 24 [.nilsl] (.t 45) (.t 47), none⟩, ⟨some 5, .mv (.t 48), none⟩]))))) (.reg false [⟨some 14, .mv (.t 6), none⟩, ⟨some 15, .bin .add (.t 14) (.c (.int .i64 1)), none⟩, ⟨some 6, .mv (.t 15), none⟩])))))) (.seq (.reg false [⟨some 49, .mv (.t 5), none⟩, ⟨some 4, .mv (.t 49), none⟩]) .ret)))), 50, [(.t 4)]⟩
theorem k_spec_l01Part : compF Try.prog Try.f115 = some c_spec_l01Part := by kernel_rfl
def c_spec_l01Ones : F := ⟨(.seq (.reg false [⟨some 2, .mv (.c (.int .i64 0)), none⟩]) (.seq (.reg false [⟨some 3, .mv (.c (.int .i64 0)), none⟩]) (.seq (.block 0 (.loop (.seq (.seq (.reg false [⟨some 4, .mv (.t 0), none⟩, ⟨some 5, .bin .gtr (.t 4) (.c (.int .i64 0)), none⟩]) (.cond (.t 5) .skip (.exit 0))) (.seq (.block 1 (.reg false [⟨some 8, .mv (.t 3), none⟩, ⟨some 9, .mv (.t 0), none⟩, ⟨some 10, .bin .rem (.t 9) (.c (.int .i64 2)), none⟩, ⟨some 11, .bin .add (.t 8) (.t 10), none⟩, ⟨some 3, .mv (.t 11), none⟩])) (.reg false [⟨some 6, .mv (.t 0), none⟩, ⟨some 7, .bin .quo (.t 6) (.c (.int .i64 2)), none⟩, ⟨some 0, .mv (.t 7), none⟩]))))) (.seq (.reg false [⟨some 12, .mv (.t 3), none⟩, ⟨some 2, .mv (.t 12), none⟩]) .ret)))), 13, [(.t 2)]⟩
theorem k_spec_l01Ones : compF Try.prog Try.f83 = some c_spec_l01Ones := by kernel_rfl
def c_impl_minor : F := ⟨(.seq (.reg false [⟨some 4, .mv (.c (.int .i64 0)), none⟩]) (.seq (.reg false [⟨some 5, .mv (.t 0), none⟩, ⟨some 6, .mv (.t 1), none⟩, ⟨some 7, .mv (.t 1), none⟩, ⟨some 8, .call (.f 72) [(.t 5), (.t 6), (.t 7)], none⟩, ⟨some 9, .call (.f 71) [(.t 8)], none⟩, ⟨some 4, .mv (.t 9), none⟩]) .ret)), 10, [(.t 4)]⟩
theorem k_impl_minor : compF Try.prog Try.f68 = some c_impl_minor := by kernel_rfl
def c_spec_l03Minor : F := ⟨(.seq (.reg false [⟨some 4, .mv (.c (.int .i64 0)), none⟩]) (.seq (.reg false [⟨some 5, .mv (.t 0), none⟩, ⟨some 6, .mv (.t 1), none⟩, ⟨some 7, .call (.f 115) [(.t 5), (.t 6)], none⟩, ⟨some 8, .call (.f 114) [(.t 7)], none⟩, ⟨some 4, .mv (.t 8), none⟩]) .ret)), 9, [(.t 4)]⟩
theorem k_spec_l03Minor : compF Try.prog Try.f69 = some c_spec_l03Minor := by kernel_rfl

def pw (n : Nat) : Nat := 2 ^ n
theorem pw_le {n : Nat} (h : n ≤ 5) : 1 ≤ pw n ∧ pw n ≤ 32 := by
  match n, h with
  | 0, _ | 1, _ | 2, _ | 3, _ | 4, _ | 5, _ => decide
theorem shl1 {n : Nat} (h : n ≤ 5) : (1 : Int) * 2 ^ (min n IntKind.i64.bits) = (pw n : Int) := by
  match n, h with
  | 0, _ | 1, _ | 2, _ | 3, _ | 4, _ | 5, _ => decide
theorem bitf (s : Int) (i : Nat) : bitv .and .i64 (s.fdiv (2 ^ (min i IntKind.i64.bits))) 1 = bitI s i := rfl
theorem impl_has (s : Int) (i : Nat) (h : AH) (n : Nat) : Q Try.prog 118 [.int .i64 s, .int .i64 i] h n (.bool (hasB s i)) := by
  refine q_intro Try.func118 k_impl_has ?_
  simp (maxSteps := 2000000) -implicitDefEqProofs (disch := omega) only [c_impl_has, bitf, xsW, xsC, xsD, xsE, fillA, reduceCtorEq, Nat.reduceAdd, Nat.reduceSub, Nat.reduceLeDiff, Nat.reduceMul, Int.reduceLT, Int.reduceLE, Int.reduceEq, Int.reduceNe, Int.reduceAdd, Int.reduceSub, Int.reduceMul, Int.reduceNeg, Int.reduceToNat]
  rfl
def prt (ll : List (List Int)) (s t : Int) (i : Nat) : List (List Int) := (places s i).map fun r => (places t ll.length).map fun k => at2 ll r k
theorem prt_t {ll : List (List Int)} {s t : Int} {i : Nat} (h : hasB s i = true) : prt ll s t (i + 1) = prt ll s t i ++ [(places t ll.length).map fun k => at2 ll i k] := by simp [prt, places_succ, h]
theorem prt_f {ll : List (List Int)} {s t : Int} {i : Nat} (h : hasB s i = false) : prt ll s t (i + 1) = prt ll s t i := by simp [prt, places_succ, h]
theorem prt_len (ll : List (List Int)) (s t : Int) (i : Nat) : (prt ll s t i).length ≤ i := by simp only [prt, List.length_map]; exact places_len s i
def prw (ll : List (List Int)) (t : Int) (i k : Nat) : List Int := (places t k).map fun k => at2 ll i k
theorem prw_t {ll : List (List Int)} {t : Int} {i k : Nat} (h : hasB t k = true) : prw ll t i (k + 1) = prw ll t i k ++ [at2 ll i k] := by simp [prw, places_succ, h]
theorem prw_f {ll : List (List Int)} {t : Int} {i k : Nat} (h : hasB t k = false) : prw ll t i (k + 1) = prw ll t i k := by simp [prw, places_succ, h]
theorem prw_len (ll : List (List Int)) (t : Int) (i k : Nat) : (prw ll t i k).length ≤ k := by simp only [prw, List.length_map]; exact places_len t k
theorem impl_part {w : Bool} {lo hi : Nat} {h : AH} {v : AV} {vs : List AV} {ll : List (List Int)} (sR : Rows w lo hi h v vs ll) (hN : ll.length ≤ 5) (hs : Sq ll.length ll) (a b : Int) (n : Nat) (hn : hi ≤ n) :
    FQ Try.prog 72 [v, .int .i64 a, .int .i64 b] h n fun v' h' n' => ∃ vs', Rows true n n' h' v' vs' (partL ll a b) := by
  refine fq_intro Try.func72 k_impl_part ?_
  simp (maxSteps := 2000000) -implicitDefEqProofs (disch := omega) only [c_impl_part, sR.ln, xsW, xsC, xsD, xsE, fillA, reduceCtorEq, Nat.reduceAdd, Nat.reduceSub, Nat.reduceLeDiff, Nat.reduceMul, Int.reduceLT, Int.reduceLE, Int.reduceEq, Int.reduceNe, Int.reduceAdd, Int.reduceSub, Int.reduceMul, Int.reduceNeg, Int.reduceToNat]
  refine loop_for ll.length 0 (fun i p => [v, .int .i64 a, .int .i64 b, .any, .any, .any, .nilsl, p.1, .any, .any, .any, .any, .any, v, .int .i64 ll.length, .int .i64 i, .any, .any, .any, .any, .any, .any, .any, .any, .any, .any, .any, .any, .any, .any, .any, .any, .any, .any, .any, .any, .any, .any, .any, .any, .any, .any, .any, .any, .any]) (fun _ (p : AV × List AV × AH) => p.2.2)
    (fun i p m => Grow n m h p.2.2 29 p.1 p.2.1 (prt ll a b i)) (.nilsl, [], h) (Nat.zero_le _) Grow.start (by simp [LeL, Le1]) (fun _ _ h => h) ?_
  rintro i ⟨out, ws, hp⟩ m - hi1 hm g
  simp only at g
  have hold := g.old
  simp (maxSteps := 2000000) -implicitDefEqProofs (disch := omega) only [xsW, xsC, xsD, xsE, fillA, reduceCtorEq, Nat.reduceAdd, Nat.reduceSub, Nat.reduceLeDiff, Nat.reduceMul, Int.reduceLT, Int.reduceLE, Int.reduceEq, Int.reduceNe, Int.reduceAdd, Int.reduceSub, Int.reduceMul, Int.reduceNeg, Int.reduceToNat]
  (refine cd_dec (fun c1 => ?_) (fun c1 => ?_) <;> simp (maxSteps := 2000000) -implicitDefEqProofs (disch := omega) only [xsW, xsC, xsD, xsE, fillA, reduceCtorEq, Nat.reduceAdd, Nat.reduceSub, Nat.reduceLeDiff, Nat.reduceMul, Int.reduceLT, Int.reduceLE, Int.reduceEq, Int.reduceNe, Int.reduceAdd, Int.reduceSub, Int.reduceMul, Int.reduceNeg, Int.reduceToNat,  c1])
  · have hi2 : i < ll.length := by omega
    have hbl := sR.out.below (by rw [sR.slen]; omega)
    have hrow := sR.row i hi2
    have hlr := hs.2 i hi2
    simp (maxSteps := 2000000) -implicitDefEqProofs (disch := omega) only [xsW, xsC, xsD, xsE, fillA, reduceCtorEq, Nat.reduceAdd, Nat.reduceSub, Nat.reduceLeDiff, Nat.reduceMul, Int.reduceLT, Int.reduceLE, Int.reduceEq, Int.reduceNe, Int.reduceAdd, Int.reduceSub, Int.reduceMul, Int.reduceNeg, Int.reduceToNat,  sR.ia, hold, sR.ld]
    refine q_use (impl_has _ _ _ _) fun n1 hn1 => ?_
    cases ha : hasB a i
    · simp (maxSteps := 2000000) -implicitDefEqProofs (disch := omega) only [xsW, xsC, xsD, xsE, fillA, reduceCtorEq, Nat.reduceAdd, Nat.reduceSub, Nat.reduceLeDiff, Nat.reduceMul, Int.reduceLT, Int.reduceLE, Int.reduceEq, Int.reduceNe, Int.reduceAdd, Int.reduceSub, Int.reduceMul, Int.reduceNeg, Int.reduceToNat]
      exact ⟨(out, ws, hp), by rw [prt_f ha]; exact ⟨by have := g.le; omega, g.old, g.acc.wide (Nat.le_refl _) hn1, g.rows.wide (Nat.le_refl _) hn1, g.apart⟩, by omega, by omega, (by simp [LeL, Le1]), fun _ _ h => h⟩
    · simp (maxSteps := 2000000) -implicitDefEqProofs (disch := omega) only [xsW, xsC, xsD, xsE, fillA, reduceCtorEq, Nat.reduceAdd, Nat.reduceSub, Nat.reduceLeDiff, Nat.reduceMul, Int.reduceLT, Int.reduceLE, Int.reduceEq, Int.reduceNe, Int.reduceAdd, Int.reduceSub, Int.reduceMul, Int.reduceNeg, Int.reduceToNat,  hrow.ln, hlr]
      refine loop_for ll.length 0 (fun k p => [v, .int .i64 a, .int .i64 b, .any, .any, .any, .nilsl, out, .int .i64 i, .any, p.1, .any, .any, v, .int .i64 ll.length, .int .i64 i, .any, .any, .any, .any, .any, .any, .any, .any, vs.getD i .any, .int .i64 ll.length, .int .i64 k, .any, .any, .any, .any, .any, .any, .any, .any, .any, .any, .any, .any, .any, .any, .any, .any, .any, .any]) (fun _ (p : AV × AH) => p.2)
        (fun k p m' => Acc m m' p.2 2 1 p.1 (ints (prw ll b i k)) ∧ m ≤ m' ∧ ∀ j, j < m → p.2 j = hp j) (.nilsl, hp) (Nat.zero_le _) ⟨Acc.nil, by omega, fun _ _ => rfl⟩ (by simp [LeL, Le1]) (fun _ _ h => h) ?_
      rintro k ⟨row, hq⟩ mB - hk1 hm2 ⟨acc, hle, hold2⟩
      simp only at acc hold2
      simp (maxSteps := 2000000) -implicitDefEqProofs (disch := omega) only [xsW, xsC, xsD, xsE, fillA, reduceCtorEq, Nat.reduceAdd, Nat.reduceSub, Nat.reduceLeDiff, Nat.reduceMul, Int.reduceLT, Int.reduceLE, Int.reduceEq, Int.reduceNe, Int.reduceAdd, Int.reduceSub, Int.reduceMul, Int.reduceNeg, Int.reduceToNat]
      (refine cd_dec (fun c2 => ?_) (fun c2 => ?_) <;> simp (maxSteps := 2000000) -implicitDefEqProofs (disch := omega) only [xsW, xsC, xsD, xsE, fillA, reduceCtorEq, Nat.reduceAdd, Nat.reduceSub, Nat.reduceLeDiff, Nat.reduceMul, Int.reduceLT, Int.reduceLE, Int.reduceEq, Int.reduceNe, Int.reduceAdd, Int.reduceSub, Int.reduceMul, Int.reduceNeg, Int.reduceToNat,  c2])
      · have hk2 : k < ll.length := by omega
        have hbr := Sl.below hrow (by rw [hrow.slen]; omega)
        simp (maxSteps := 2000000) -implicitDefEqProofs (disch := omega) only [xsW, xsC, xsD, xsE, fillA, reduceCtorEq, Nat.reduceAdd, Nat.reduceSub, Nat.reduceLeDiff, Nat.reduceMul, Int.reduceLT, Int.reduceLE, Int.reduceEq, Int.reduceNe, Int.reduceAdd, Int.reduceSub, Int.reduceMul, Int.reduceNeg, Int.reduceToNat,  hrow.ia, hold2, hold, hrow.ld]
        refine q_use (impl_has _ _ _ _) fun n2 hn2 => ?_
        cases hb : hasB b k
        · simp (maxSteps := 2000000) -implicitDefEqProofs (disch := omega) only [xsW, xsC, xsD, xsE, fillA, reduceCtorEq, Nat.reduceAdd, Nat.reduceSub, Nat.reduceLeDiff, Nat.reduceMul, Int.reduceLT, Int.reduceLE, Int.reduceEq, Int.reduceNe, Int.reduceAdd, Int.reduceSub, Int.reduceMul, Int.reduceNeg, Int.reduceToNat]
          exact ⟨(row, hq), ⟨by rw [prw_f hb]; exact acc.wide (Nat.le_refl _) hn2, by omega, hold2⟩, by omega, by omega, (by simp [LeL, Le1]), fun _ _ h => h⟩
        · simp (maxSteps := 2000000) -implicitDefEqProofs (disch := omega) only [xsW, xsC, xsD, xsE, fillA, reduceCtorEq, Nat.reduceAdd, Nat.reduceSub, Nat.reduceLeDiff, Nat.reduceMul, Int.reduceLT, Int.reduceLE, Int.reduceEq, Int.reduceNe, Int.reduceAdd, Int.reduceSub, Int.reduceMul, Int.reduceNeg, Int.reduceToNat]
          refine app_int (y := at2 ll i k) (acc.keep (fun i _ hi9 => by simp (disch := omega) only [upd_other]) |>.wide (Nat.le_refl _) (by omega)) (by omega) (by omega) ⟨rfl, _, upd_same _ _ _, by simp, by simp [cutA, at2]⟩ (by have := prw_len ll b i k; omega) fun v' h' n' q1 q2 q3 => ?_
          simp (maxSteps := 2000000) -implicitDefEqProofs (disch := omega) only [xsW, xsC, xsD, xsE, fillA, reduceCtorEq, Nat.reduceAdd, Nat.reduceSub, Nat.reduceLeDiff, Nat.reduceMul, Int.reduceLT, Int.reduceLE, Int.reduceEq, Int.reduceNe, Int.reduceAdd, Int.reduceSub, Int.reduceMul, Int.reduceNeg, Int.reduceToNat]
          exact ⟨(v', h'), ⟨by rw [prw_t hb]; exact q2, by omega, fun j hj => (q3 j hj).trans (by rw [upd_other (by omega), hold2 j hj])⟩, by omega, by omega, (by simp [LeL, Le1]), fun _ _ h => h⟩
      · have e : k = ll.length := by omega
        subst e
        have o1 := one_any acc.any
        have o2 := sto_any acc.any
        have o3 := cel_any acc.any
        simp (maxSteps := 2000000) -implicitDefEqProofs (disch := omega) only [xsW, xsC, xsD, xsE, fillA, reduceCtorEq, Nat.reduceAdd, Nat.reduceSub, Nat.reduceLeDiff, Nat.reduceMul, Int.reduceLT, Int.reduceLE, Int.reduceEq, Int.reduceNe, Int.reduceAdd, Int.reduceSub, Int.reduceMul, Int.reduceNeg, Int.reduceToNat,  o1, o2, o3]
        refine g.app (hB := upd hq mB _) (v1 := row) (l := prw ll b i ll.length) (acc.sl.keep (fun i _ hi9 => by simp (disch := omega) only [upd_other])) (fun i hi9 => by simp (disch := omega) only [upd_other, hold2]) hle (by omega) (Nat.le_refl _) ⟨rfl, _, upd_same _ _ _, by simp, by simp [cutA]⟩ (by have := prt_len ll a b i; omega) fun out' h' n' q1 q2 => ?_
        simp (maxSteps := 2000000) -implicitDefEqProofs (disch := omega) only [xsW, xsC, xsD, xsE, fillA, reduceCtorEq, Nat.reduceAdd, Nat.reduceSub, Nat.reduceLeDiff, Nat.reduceMul, Int.reduceLT, Int.reduceLE, Int.reduceEq, Int.reduceNe, Int.reduceAdd, Int.reduceSub, Int.reduceMul, Int.reduceNeg, Int.reduceToNat]
        exact ⟨(out', ws ++ [row], h'), by rw [prt_t ha]; exact q2, by omega, by omega, (by simp [LeL, Le1]), fun _ _ h => h⟩
  · intro _ h2 hh
    have e : i = ll.length := by omega
    subst e
    exact ⟨ws, g.rowsOf hh⟩
theorem spec_l01Part {w : Bool} {lo hi : Nat} {h : AH} {v : AV} {vs : List AV} {ll : List (List Int)} (sR : Rows w lo hi h v vs ll) (hN : ll.length ≤ 5) (hs : Sq ll.length ll) (a b : Int) (n : Nat) (hn : hi ≤ n) :
    FQ Try.prog 115 [v, .int .i64 a] h n fun v' h' n' => ∃ vs', Rows true n n' h' v' vs' (partL ll a a) := by
  refine fq_intro Try.func115 k_spec_l01Part ?_
  simp (maxSteps := 2000000) -implicitDefEqProofs (disch := omega) only [c_spec_l01Part, sR.ln, xsW, xsC, xsD, xsE, fillA, reduceCtorEq, Nat.reduceAdd, Nat.reduceSub, Nat.reduceLeDiff, Nat.reduceMul, Int.reduceLT, Int.reduceLE, Int.reduceEq, Int.reduceNe, Int.reduceAdd, Int.reduceSub, Int.reduceMul, Int.reduceNeg, Int.reduceToNat]
  refine loop_for ll.length 0 (fun i p => [v, .int .i64 a, .any, .any, .nilsl, p.1, .int .i64 i, .any, .any, .any, .any, .any, .any, .any, .any, .any, .any, .any, .any, .any, .any, .any, .any, .any, .any, .any, .any, .any, .any, .any, .any, .any, .any, .any, .any, .any, .any, .any, .any, .any, .any, .any, .any, .any, .any, .any, .any, .any, .any, .any]) (fun _ (p : AV × List AV × AH) => p.2.2)
    (fun i p m => Grow n m h p.2.2 29 p.1 p.2.1 (prt ll a a i)) (.sl n 0 0 0, [], _) (Nat.zero_le _) (Grow.start0 rfl) (by simp [LeL, Le1]) (fun _ _ h => h) ?_
  rintro i ⟨out, ws, hp⟩ m - hi1 hm g
  simp only at g
  have hold := g.old
  simp (maxSteps := 2000000) -implicitDefEqProofs (disch := omega) only [xsW, xsC, xsD, xsE, fillA, reduceCtorEq, Nat.reduceAdd, Nat.reduceSub, Nat.reduceLeDiff, Nat.reduceMul, Int.reduceLT, Int.reduceLE, Int.reduceEq, Int.reduceNe, Int.reduceAdd, Int.reduceSub, Int.reduceMul, Int.reduceNeg, Int.reduceToNat,  sR.ln]
  (refine cd_dec (fun c1 => ?_) (fun c1 => ?_) <;> simp (maxSteps := 2000000) -implicitDefEqProofs (disch := omega) only [xsW, xsC, xsD, xsE, fillA, reduceCtorEq, Nat.reduceAdd, Nat.reduceSub, Nat.reduceLeDiff, Nat.reduceMul, Int.reduceLT, Int.reduceLE, Int.reduceEq, Int.reduceNe, Int.reduceAdd, Int.reduceSub, Int.reduceMul, Int.reduceNeg, Int.reduceToNat,  c1])
  · have hi2 : i < ll.length := by omega
    have hbl := sR.out.below (by rw [sR.slen]; omega)
    have hrow := sR.row i hi2
    have hlr := hs.2 i hi2
    simp (maxSteps := 2000000) -implicitDefEqProofs (disch := omega) only [xsW, xsC, xsD, xsE, fillA, reduceCtorEq, Nat.reduceAdd, Nat.reduceSub, Nat.reduceLeDiff, Nat.reduceMul, Int.reduceLT, Int.reduceLE, Int.reduceEq, Int.reduceNe, Int.reduceAdd, Int.reduceSub, Int.reduceMul, Int.reduceNeg, Int.reduceToNat,  bitf]
    (refine cd_dec (fun ha => ?_) (fun ha => ?_) <;> simp (maxSteps := 2000000) -implicitDefEqProofs (disch := omega) only [xsW, xsC, xsD, xsE, fillA, reduceCtorEq, Nat.reduceAdd, Nat.reduceSub, Nat.reduceLeDiff, Nat.reduceMul, Int.reduceLT, Int.reduceLE, Int.reduceEq, Int.reduceNe, Int.reduceAdd, Int.reduceSub, Int.reduceMul, Int.reduceNeg, Int.reduceToNat,  ha])
    · exact ⟨(out, ws, hp), by rw [prt_f (hasB_f.2 ha)]; exact g, by omega, by omega, (by simp [LeL, Le1]), fun _ _ h => h⟩
    · have ha' : hasB a i = true := hasB_t.2 ((bitI_or a i).resolve_left ha)
      refine loop_for ll.length 0 (fun k p => [v, .int .i64 a, .any, .any, .nilsl, out, .int .i64 i, p.1, .int .i64 k, .any, .any, .any, .any, .any, .any, .any, .any, .any, .any, .any, .any, .any, .any, .any, .any, .any, .any, .any, .any, .any, .any, .any, .any, .any, .any, .any, .any, .any, .any, .any, .any, .any, .any, .any, .any, .any, .any, .any, .any, .any]) (fun _ (p : AV × AH) => p.2)
        (fun k p m' => Acc m m' p.2 2 1 p.1 (ints (prw ll a i k)) ∧ m ≤ m' ∧ ∀ j, j < m → p.2 j = hp j) (.sl m 0 0 0, _) (Nat.zero_le _) ⟨Acc.empty (upd_same _ _ _) rfl (Nat.le_refl _) (by omega), by omega, fun j hj => upd_other (by omega)⟩ (by simp [LeL, Le1]) (fun _ _ h => h) ?_
      rintro k ⟨row, hq⟩ mB - hk1 hm2 ⟨acc, hle, hold2⟩
      simp only at acc hold2
      simp (maxSteps := 2000000) -implicitDefEqProofs (disch := omega) only [xsW, xsC, xsD, xsE, fillA, reduceCtorEq, Nat.reduceAdd, Nat.reduceSub, Nat.reduceLeDiff, Nat.reduceMul, Int.reduceLT, Int.reduceLE, Int.reduceEq, Int.reduceNe, Int.reduceAdd, Int.reduceSub, Int.reduceMul, Int.reduceNeg, Int.reduceToNat,  sR.ln]
      (refine cd_dec (fun c2 => ?_) (fun c2 => ?_) <;> simp (maxSteps := 2000000) -implicitDefEqProofs (disch := omega) only [xsW, xsC, xsD, xsE, fillA, reduceCtorEq, Nat.reduceAdd, Nat.reduceSub, Nat.reduceLeDiff, Nat.reduceMul, Int.reduceLT, Int.reduceLE, Int.reduceEq, Int.reduceNe, Int.reduceAdd, Int.reduceSub, Int.reduceMul, Int.reduceNeg, Int.reduceToNat,  c2])
      · have hk2 : k < ll.length := by omega
        have hbr := Sl.below hrow (by rw [hrow.slen]; omega)
        simp (maxSteps := 2000000) -implicitDefEqProofs (disch := omega) only [xsW, xsC, xsD, xsE, fillA, reduceCtorEq, Nat.reduceAdd, Nat.reduceSub, Nat.reduceLeDiff, Nat.reduceMul, Int.reduceLT, Int.reduceLE, Int.reduceEq, Int.reduceNe, Int.reduceAdd, Int.reduceSub, Int.reduceMul, Int.reduceNeg, Int.reduceToNat,  bitf]
        (refine cd_dec (fun hb => ?_) (fun hb => ?_) <;> simp (maxSteps := 2000000) -implicitDefEqProofs (disch := omega) only [xsW, xsC, xsD, xsE, fillA, reduceCtorEq, Nat.reduceAdd, Nat.reduceSub, Nat.reduceLeDiff, Nat.reduceMul, Int.reduceLT, Int.reduceLE, Int.reduceEq, Int.reduceNe, Int.reduceAdd, Int.reduceSub, Int.reduceMul, Int.reduceNeg, Int.reduceToNat,  hb])
        · have hb' : hasB a k = true := hasB_t.2 hb
          simp (maxSteps := 2000000) -implicitDefEqProofs (disch := omega) only [xsW, xsC, xsD, xsE, fillA, reduceCtorEq, Nat.reduceAdd, Nat.reduceSub, Nat.reduceLeDiff, Nat.reduceMul, Int.reduceLT, Int.reduceLE, Int.reduceEq, Int.reduceNe, Int.reduceAdd, Int.reduceSub, Int.reduceMul, Int.reduceNeg, Int.reduceToNat,  hold2, hold, sR.ia, sR.ld, hrow.ia, hrow.ld]
          refine app_int (y := at2 ll i k) (acc.keep (fun i _ hi9 => by simp (disch := omega) only [upd_other]) |>.wide (Nat.le_refl _) (by omega)) (by omega) (by omega) ⟨rfl, _, upd_same _ _ _, by simp, by simp [cutA, at2]⟩ (by have := prw_len ll a i k; omega) fun v' h' n' q1 q2 q3 => ?_
          simp (maxSteps := 2000000) -implicitDefEqProofs (disch := omega) only [xsW, xsC, xsD, xsE, fillA, reduceCtorEq, Nat.reduceAdd, Nat.reduceSub, Nat.reduceLeDiff, Nat.reduceMul, Int.reduceLT, Int.reduceLE, Int.reduceEq, Int.reduceNe, Int.reduceAdd, Int.reduceSub, Int.reduceMul, Int.reduceNeg, Int.reduceToNat]
          exact ⟨(v', h'), ⟨by rw [prw_t hb']; exact q2, by omega, fun j hj => (q3 j hj).trans (by rw [upd_other (by omega), hold2 j hj])⟩, by omega, by omega, (by simp [LeL, Le1]), fun _ _ h => h⟩
        · have hb' : hasB a k = false := hasB_f.2 ((bitI_or a k).resolve_right hb)
          exact ⟨(row, hq), ⟨by rw [prw_f hb']; exact acc, by omega, hold2⟩, by omega, by omega, (by simp [LeL, Le1]), fun _ _ h => h⟩
      · have e : k = ll.length := by omega
        subst e
        have o1 := one_any acc.any
        have o2 := sto_any acc.any
        have o3 := cel_any acc.any
        simp (maxSteps := 2000000) -implicitDefEqProofs (disch := omega) only [xsW, xsC, xsD, xsE, fillA, reduceCtorEq, Nat.reduceAdd, Nat.reduceSub, Nat.reduceLeDiff, Nat.reduceMul, Int.reduceLT, Int.reduceLE, Int.reduceEq, Int.reduceNe, Int.reduceAdd, Int.reduceSub, Int.reduceMul, Int.reduceNeg, Int.reduceToNat,  o1, o2, o3]
        refine g.app (hB := upd hq mB _) (v1 := row) (l := prw ll a i ll.length) (acc.sl.keep (fun i _ hi9 => by simp (disch := omega) only [upd_other])) (fun i hi9 => by simp (disch := omega) only [upd_other, hold2]) hle (by omega) (Nat.le_refl _) ⟨rfl, _, upd_same _ _ _, by simp, by simp [cutA]⟩ (by have := prt_len ll a a i; omega) fun out' h' n' q1 q2 => ?_
        simp (maxSteps := 2000000) -implicitDefEqProofs (disch := omega) only [xsW, xsC, xsD, xsE, fillA, reduceCtorEq, Nat.reduceAdd, Nat.reduceSub, Nat.reduceLeDiff, Nat.reduceMul, Int.reduceLT, Int.reduceLE, Int.reduceEq, Int.reduceNe, Int.reduceAdd, Int.reduceSub, Int.reduceMul, Int.reduceNeg, Int.reduceToNat]
        exact ⟨(out', ws ++ [row], h'), by rw [prt_t ha']; exact q2, by omega, by omega, (by simp [LeL, Le1]), fun _ _ h => h⟩
  · have e : i = ll.length := by omega
    subst e
    (intro _ h2 hh; exact ⟨ws, g.rowsOf hh⟩)
theorem spec_l01Ones (s : Fin 32) (h : AH) (n : Nat) : Q Try.prog 83 [.int .i64 (s.val : Int)] h n (.int .i64 (popc (s.val : Int) : Int)) := by
  refine q_intro Try.func83 k_spec_l01Ones ?_
  have hpl : ∀ x, popc x ≤ 5 := fun x => places_len x 5
  simp (maxSteps := 2000000) -implicitDefEqProofs (disch := omega) only [c_spec_l01Ones, xsW, xsC, xsD, xsE, fillA, reduceCtorEq, Nat.reduceAdd, Nat.reduceSub, Nat.reduceLeDiff, Nat.reduceMul, Int.reduceLT, Int.reduceLE, Int.reduceEq, Int.reduceNe, Int.reduceAdd, Int.reduceSub, Int.reduceMul, Int.reduceNeg, Int.reduceToNat]
  refine loop_rule (α := { p : Fin 32 × Nat // popc (p.1.val : Int) + p.2 = popc (s.val : Int) }) (fun p => [.int .i64 (p.1.1.val : Int), .any, .int .i64 0, .int .i64 (p.1.2 : Int), .any, .any, .any, .any, .any, .any, .any, .any, .any]) (fun _ => h) (fun _ => n) (fun p => p.1.1.val)
    ⟨(s, 0), rfl⟩ ⟨by simp [LeL, Le1], fun _ _ h => h, Nat.le_refl _⟩ ?_
  rintro ⟨⟨x, c⟩, hx⟩
  simp only at hx
  have h1 := hpl (s.val : Int)
  have h2 := x.isLt
  simp (maxSteps := 2000000) -implicitDefEqProofs (disch := omega) only [xsW, xsC, xsD, xsE, fillA, reduceCtorEq, Nat.reduceAdd, Nat.reduceSub, Nat.reduceLeDiff, Nat.reduceMul, Int.reduceLT, Int.reduceLE, Int.reduceEq, Int.reduceNe, Int.reduceAdd, Int.reduceSub, Int.reduceMul, Int.reduceNeg, Int.reduceToNat]
  (refine cd_dec (fun c1 => ?_) (fun c1 => ?_) <;> simp (maxSteps := 2000000) -implicitDefEqProofs (disch := omega) only [xsW, xsC, xsD, xsE, fillA, reduceCtorEq, Nat.reduceAdd, Nat.reduceSub, Nat.reduceLeDiff, Nat.reduceMul, Int.reduceLT, Int.reduceLE, Int.reduceEq, Int.reduceNe, Int.reduceAdd, Int.reduceSub, Int.reduceMul, Int.reduceNeg, Int.reduceToNat,  c1])
  · have hh := pop_half x
    obtain ⟨r, hr⟩ : ∃ r : Nat, r = x.val % 2 := ⟨_, rfl⟩
    have e1 := tm2 x.val
    rw [← hr] at e1 hh
    have e2 : ((x.val : Int)).tdiv 2 = ((x.val / 2 : Nat) : Int) := by rw [Int.tdiv_eq_ediv_of_nonneg (by omega)]; omega
    have e3 : (c : Int) ≤ 5 := by omega
    have e4 : r ≤ 1 := by omega
    clear hr
    simp (maxSteps := 2000000) -implicitDefEqProofs (disch := omega) only [xsW, xsC, xsD, xsE, fillA, reduceCtorEq, Nat.reduceAdd, Nat.reduceSub, Nat.reduceLeDiff, Nat.reduceMul, Int.reduceLT, Int.reduceLE, Int.reduceEq, Int.reduceNe, Int.reduceAdd, Int.reduceSub, Int.reduceMul, Int.reduceNeg, Int.reduceToNat,  e1, e2]
    refine ⟨by unfold in64; omega, by unfold in64; omega, ?_⟩
    exact ⟨⟨(⟨x.val / 2, by omega⟩, c + r), by simp only; omega⟩, by simp only; omega, by simp [LeL, Le1], fun _ _ h => h, Nat.le_refl _⟩
  · have : (x.val : Int) = 0 := by omega
    rw [this, pop_zero] at hx
    omega
def minorOf (ll : List (List Int)) (a b : Int) : Int := det (places a ll.length).length (mx (partL ll a b))
theorem isMat_sq {ll : List (List Int)} (hm : isMat ll = true) : ll.length ≤ 5 ∧ Sq ll.length ll ∧ ∃ q, Lim q ll.length (mx ll) := by
  have h := (isMat_iff ll).1 hm
  refine ⟨h.2.1, ⟨rfl, fun k hk => (h.2.2 k hk).1⟩, 0, fun r c hr hc => ?_⟩
  have h1 := h.2.2 r hr
  have h2 := (within_iff _ _).1 h1.2 c (by omega)
  unfold mx at2
  split <;> omega
theorem impl_minor {w : Bool} {lo hi : Nat} {h : AH} {v : AV} {vs : List AV} {ll : List (List Int)} (sR : Rows w lo hi h v vs ll) (hN : ll.length ≤ 5) (hs : Sq ll.length ll) (hl : ∃ q, Lim q ll.length (mx ll)) (a : Int) (n : Nat) (hn : hi ≤ n) :
    Q Try.prog 68 [v, .int .i64 a] h n (.int .i64 (minorOf ll a a)) := by
  refine q_intro Try.func68 k_impl_minor ?_
  simp (maxSteps := 2000000) -implicitDefEqProofs (disch := omega) only [c_impl_minor, xsW, xsC, xsD, xsE, fillA, reduceCtorEq, Nat.reduceAdd, Nat.reduceSub, Nat.reduceLeDiff, Nat.reduceMul, Int.reduceLT, Int.reduceLE, Int.reduceEq, Int.reduceNe, Int.reduceAdd, Int.reduceSub, Int.reduceMul, Int.reduceNeg, Int.reduceToNat]
  refine fq_use (impl_part sR hN hs a a n hn) fun v1 h1 n1 hn1 hs1 ⟨vs1, hv1⟩ => ?_
  simp (maxSteps := 2000000) -implicitDefEqProofs (disch := omega) only [xsW, xsC, xsD, xsE, fillA, reduceCtorEq, Nat.reduceAdd, Nat.reduceSub, Nat.reduceLeDiff, Nat.reduceMul, Int.reduceLT, Int.reduceLE, Int.reduceEq, Int.reduceNe, Int.reduceAdd, Int.reduceSub, Int.reduceMul, Int.reduceNeg, Int.reduceToNat]
  refine q_use (impl_determinant _ hv1 (by have := places_len a ll.length; omega) (partL_sq ll a a rfl) (by obtain ⟨q, hq⟩ := hl; exact partL_lim ll a a rfl hq) n1 (Nat.le_refl _)) fun n2 hn2 => ?_
  simp (maxSteps := 2000000) -implicitDefEqProofs (disch := omega) only [xsW, xsC, xsD, xsE, fillA, reduceCtorEq, Nat.reduceAdd, Nat.reduceSub, Nat.reduceLeDiff, Nat.reduceMul, Int.reduceLT, Int.reduceLE, Int.reduceEq, Int.reduceNe, Int.reduceAdd, Int.reduceSub, Int.reduceMul, Int.reduceNeg, Int.reduceToNat]
  rfl
theorem spec_l03Minor {w : Bool} {lo hi : Nat} {h : AH} {v : AV} {vs : List AV} {ll : List (List Int)} (sR : Rows w lo hi h v vs ll) (hN : ll.length ≤ 5) (hs : Sq ll.length ll) (hl : ∃ q, Lim q ll.length (mx ll)) (a : Int) (n : Nat) (hn : hi ≤ n) :
    Q Try.prog 69 [v, .int .i64 a] h n (.int .i64 (minorOf ll a a)) := by
  refine q_intro Try.func69 k_spec_l03Minor ?_
  simp (maxSteps := 2000000) -implicitDefEqProofs (disch := omega) only [c_spec_l03Minor, xsW, xsC, xsD, xsE, fillA, reduceCtorEq, Nat.reduceAdd, Nat.reduceSub, Nat.reduceLeDiff, Nat.reduceMul, Int.reduceLT, Int.reduceLE, Int.reduceEq, Int.reduceNe, Int.reduceAdd, Int.reduceSub, Int.reduceMul, Int.reduceNeg, Int.reduceToNat]
  refine fq_use (spec_l01Part sR hN hs a a n hn) fun v1 h1 n1 hn1 hs1 ⟨vs1, hv1⟩ => ?_
  simp (maxSteps := 2000000) -implicitDefEqProofs (disch := omega) only [xsW, xsC, xsD, xsE, fillA, reduceCtorEq, Nat.reduceAdd, Nat.reduceSub, Nat.reduceLeDiff, Nat.reduceMul, Int.reduceLT, Int.reduceLE, Int.reduceEq, Int.reduceNe, Int.reduceAdd, Int.reduceSub, Int.reduceMul, Int.reduceNeg, Int.reduceToNat]
  refine q_use (spec_l01Det _ hv1 (by have := places_len a ll.length; omega) (partL_sq ll a a rfl) (by obtain ⟨q, hq⟩ := hl; exact partL_lim ll a a rfl hq) n1 (Nat.le_refl _)) fun n2 hn2 => ?_
  simp (maxSteps := 2000000) -implicitDefEqProofs (disch := omega) only [xsW, xsC, xsD, xsE, fillA, reduceCtorEq, Nat.reduceAdd, Nat.reduceSub, Nat.reduceLeDiff, Nat.reduceMul, Int.reduceLT, Int.reduceLE, Int.reduceEq, Int.reduceNe, Int.reduceAdd, Int.reduceSub, Int.reduceMul, Int.reduceNeg, Int.reduceToNat]
  rfl
def c_impl_minors : F := ⟨(.seq (.reg false [⟨some 2, .mv (.c .nilsl), none⟩]) (.seq (.reg false [⟨some 5, .mv (.t 0), none⟩, ⟨some 6, .len (.t 5), none⟩, ⟨some 7, .bin .shl (.c (.int .i64 1)) (.t 6), none⟩, ⟨some 8, .mks 2 1 [(.int .i64 0)] (.t 7) (.t 7), none⟩, ⟨some 3, .mv (.t 8), none⟩]) (.seq (.seq (.reg false [⟨some 9, .mv (.t 3), none⟩, ⟨some 10, .len (.t 9), none⟩, ⟨some 11, .mv (.c (.int .i64 0)), none⟩]) (.block 0 (.loop (.seq (.reg false [⟨some 12, .bin .lss (.t 11) (.t 10), none⟩]) (.seq (.cond (.t 12) .skip (.exit 0)) (.seq (.block 1 (.seq (.reg false [⟨some 13, .mv (.t 11), none⟩, ⟨some 4, .mv (.t 13), none⟩]) (.reg false [⟨some 14, .mv (.t 3), none⟩, ⟨some 15, .mv (.t 4), none⟩, ⟨some 16, .mv (.t 0), none⟩, ⟨some 17, .mv (.t 4), none⟩, ⟨some 18, .call (.f 68) [(.t 16), (.t 17)], none⟩, ⟨some 19, .ia 1 (.t 14) (.t 15), none⟩, ⟨none, .st 1 (.t 19) (.t 18), none⟩]))) (.reg false [⟨some 20, .bin .add (.t 11) (.c (.int .i64 1)), none⟩, ⟨some 11, .mv (.t 20), none⟩]))))))) (.seq (.reg false [⟨some 21, .mv (.t 3), none⟩, ⟨some 2, .mv (.t 21), none⟩]) .ret)))), 22, [(.t 2)]⟩
theorem k_impl_minors : compF Try.prog Try.f73 = some c_impl_minors := by kernel_rfl
def c_spec_l03Minors : F := ⟨(.seq (.reg false [⟨some 2, .mv (.c .nilsl), none⟩]) (.seq (.reg false [⟨some 5, .lit 2 1 0 [(.int .i64 0)] [], none⟩, ⟨some 3, .mv (.t 5), none⟩]) (.seq (.seq (.reg false [⟨some 4, .mv (.c (.int .i64 0)), none⟩]) (.block 0 (.loop (.seq (.seq (.reg false [⟨some 6, .mv (.t 4), none⟩, ⟨some 7, .mv (.t 0), none⟩, ⟨some 8, .len (.t 7), none⟩, ⟨some 9, .cvi .u64 (.t 8), none⟩, ⟨some 10, .bin .shl (.c (.int .i64 1)) (.t 9), none⟩, ⟨some 11, .bin .lss (.t 6) (.t 10), none⟩]) (.cond (.t 11) .skip (.exit 0))) (.seq (.block 1 (.reg false [⟨some 14, .mv (.t 3), none⟩, ⟨some 15, .mv (.t 0), none⟩, ⟨some 16, .mv (.t 4), none⟩, ⟨some 17, .call (.f 69) [(.t 15), (.t 16)], none⟩, ⟨some 18, .lit 2 1 1 [(.int .i64 0)] [(0, (.t 17))], none⟩, ⟨some 19, .app 2 1 8 [(.int .i64 0)] (.t 14) (.t 18), none⟩, ⟨some 3, .mv (.t 19), none⟩])) (.reg false [⟨some 12, .mv (.t 4), none⟩, ⟨some 13, .bin .add (.t 12) (.c (.int .i64 1)), none⟩, ⟨some 4, .mv (.t 13), none⟩])))))) (.seq (.reg false [⟨some 20, .mv (.t 3), none⟩, ⟨some 2, .mv (.t 20), none⟩]) .ret)))), 21, [(.t 2)]⟩
theorem k_spec_l03Minors : compF Try.prog Try.f89 = some c_spec_l03Minors := by kernel_rfl
def c_impl_MinorsOf : F := ⟨(.seq (.reg false [⟨some 2, .mv (.c .nilsl), none⟩, ⟨some 3, .mv (.c (.int .i64 0)), none⟩]) (.seq (.seq (.reg false [⟨some 4, .mv (.t 0), none⟩, ⟨some 5, .call (.f 47) [(.t 4)], none⟩, ⟨some 6, .un .not (.t 5), none⟩]) (.cond (.t 6) (.seq (.reg false [⟨some 2, .mv (.c .nilsl), none⟩, ⟨some 3, .mv (.c (.int .i64 1)), none⟩]) .ret) .skip)) (.seq (.reg false [⟨some 7, .mv (.t 0), none⟩, ⟨some 8, .call (.f 73) [(.t 7)], none⟩, ⟨some 2, .mv (.t 8), none⟩, ⟨some 3, .mv (.c (.int .i64 0)), none⟩]) .ret))), 9, [(.t 2), (.t 3)]⟩
theorem k_impl_MinorsOf : compF Try.prog Try.f45 = some c_impl_MinorsOf := by kernel_rfl
def c_spec_MinorsOf : F := ⟨(.seq (.reg false [⟨some 2, .mv (.c .nilsl), none⟩, ⟨some 3, .mv (.c (.int .i64 0)), none⟩]) (.seq (.seq (.reg false [⟨some 5, .mv (.t 0), none⟩, ⟨some 6, .call (.f 62) [(.t 5), (.c .nilsl)], none⟩, ⟨some 4, .mv (.t 6), none⟩]) (.seq (.reg false [⟨some 7, .mv (.t 4), none⟩, ⟨some 8, .bin .neq (.t 7) (.c (.int .i64 0)), none⟩]) (.cond (.t 8) (.seq (.reg false [⟨some 9, .mv (.t 4), none⟩, ⟨some 2, .mv (.c .nilsl), none⟩, ⟨some 3, .mv (.t 9), none⟩]) .ret) .skip))) (.seq (.reg false [⟨some 10, .mv (.t 0), none⟩, ⟨some 11, .call (.f 89) [(.t 10)], none⟩, ⟨some 2, .mv (.t 11), none⟩, ⟨some 3, .mv (.c (.int .i64 0)), none⟩]) .ret))), 12, [(.t 2), (.t 3)]⟩
theorem k_spec_MinorsOf : compF Try.prog Try.f46 = some c_spec_MinorsOf := by kernel_rfl
theorem pop_places_all : ∀ n : Fin 6, ∀ s : Fin 32, s.val < pw n.val → (places (s.val : Int) n.val).length = popc (s.val : Int) := by decide +kernel
theorem pop_places {n : Nat} (hn : n ≤ 5) (s : Fin 32) (h : s.val < pw n) : (places (s.val : Int) n).length = popc (s.val : Int) := pop_places_all ⟨n, by omega⟩ s h
section
variable {w : Bool} {lo hi : Nat} {h : AH} {v : AV} {vs : List AV} {ll : List (List Int)}
def minorsL (ll : List (List Int)) : List Int := rowOf (pw ll.length) fun s => minorOf ll (s : Int) (s : Int)
theorem minorsL_len (ll : List (List Int)) : (minorsL ll).length = pw ll.length := rowOf_len _ _
theorem impl_minors (sR : Rows w lo hi h v vs ll) (hN : ll.length ≤ 5) (hs : Sq ll.length ll) (hl : ∃ q, Lim q ll.length (mx ll)) (n : Nat) (hn : hi ≤ n) :
    FQ Try.prog 73 [v] h n fun v' h' n' => Ints true n n' h' v' (minorsL ll) := by
  refine fq_intro Try.func73 k_impl_minors ?_
  have hp := pw_le hN
  simp (maxSteps := 2000000) -implicitDefEqProofs (disch := omega) only [c_impl_minors, sR.ln, shl1, xsW, xsC, xsD, xsE, fillA, reduceCtorEq, Nat.reduceAdd, Nat.reduceSub, Nat.reduceLeDiff, Nat.reduceMul, Int.reduceLT, Int.reduceLE, Int.reduceEq, Int.reduceNe, Int.reduceAdd, Int.reduceSub, Int.reduceMul, Int.reduceNeg, Int.reduceToNat]
  refine loop_for (pw ll.length) 0 (fun k (_ : Unit) => [v, .any, .nilsl, .sl n 0 (pw ll.length) (pw ll.length), .any, .any, .any, .any, .any, .sl n 0 (pw ll.length) (pw ll.length), .int .i64 (pw ll.length), .int .i64 k, .any, .any, .any, .any, .any, .any, .any, .any, .any, .any]) (fun k _ => upd h n (some ⟨2, (ints (minorsL ll)).take k ++ List.replicate ((minorsL ll).length - k) (.int .i64 0), true, 0⟩))
    (fun _ _ _ => True) () (Nat.zero_le _) trivial (by simp [LeL, Le1]) (by simp [minorsL_len]) ?_
  rintro k - n1 - hk hn1 -
  simp (maxSteps := 2000000) -implicitDefEqProofs (disch := omega) only [xsW, xsC, xsD, xsE, fillA, reduceCtorEq, Nat.reduceAdd, Nat.reduceSub, Nat.reduceLeDiff, Nat.reduceMul, Int.reduceLT, Int.reduceLE, Int.reduceEq, Int.reduceNe, Int.reduceAdd, Int.reduceSub, Int.reduceMul, Int.reduceNeg, Int.reduceToNat]
  (refine cd_dec (fun c1 => ?_) (fun c1 => ?_) <;> simp (maxSteps := 2000000) -implicitDefEqProofs (disch := omega) only [xsW, xsC, xsD, xsE, fillA, reduceCtorEq, Nat.reduceAdd, Nat.reduceSub, Nat.reduceLeDiff, Nat.reduceMul, Int.reduceLT, Int.reduceLE, Int.reduceEq, Int.reduceNe, Int.reduceAdd, Int.reduceSub, Int.reduceMul, Int.reduceNeg, Int.reduceToNat,  c1])
  · have hk2 : k < pw ll.length := by omega
    refine q_use (impl_minor (sR.keep (fun i _ hi9 => by simp (disch := omega) only [upd_other])) hN hs hl _ n1 (by omega)) fun n2 hn2 => ?_
    have e : minorOf ll (k : Int) (k : Int) = (minorsL ll).getD k 0 := by rw [minorsL, rowOf_get hk2]
    rw [e]
    have hml := minorsL_len ll
    simp (maxSteps := 2000000) -implicitDefEqProofs (disch := omega) only [xsW, xsC, xsD, xsE, fillA, reduceCtorEq, Nat.reduceAdd, Nat.reduceSub, Nat.reduceLeDiff, Nat.reduceMul, Int.reduceLT, Int.reduceLE, Int.reduceEq, Int.reduceNe, Int.reduceAdd, Int.reduceSub, Int.reduceMul, Int.reduceNeg, Int.reduceToNat,  fill_ints]
    exact ⟨by omega, (), by omega, by omega, (by simp [LeL, Le1])⟩
  · have e : k = pw ll.length := by omega
    subst e
    intro _ h2 hh
    refine Sl.of_sl (ty := 2) (op := 0) ?_ (by simp [ints, minorsL_len]) (Nat.le_refl _) (Nat.le_refl _) (by omega)
    rw [hh n (Nat.le_refl _) (by omega), upd_same]
    simp [minorsL_len, List.take_of_length_le, ints]
theorem spec_l03Minors (sR : Rows w lo hi h v vs ll) (hN : ll.length ≤ 5) (hs : Sq ll.length ll) (hl : ∃ q, Lim q ll.length (mx ll)) (n : Nat) (hn : hi ≤ n) :
    FQ Try.prog 89 [v] h n fun v' h' n' => Ints true n n' h' v' (minorsL ll) := by
  refine fq_intro Try.func89 k_spec_l03Minors ?_
  have hp := pw_le hN
  simp (maxSteps := 2000000) -implicitDefEqProofs (disch := omega) only [c_spec_l03Minors, xsW, xsC, xsD, xsE, fillA, reduceCtorEq, Nat.reduceAdd, Nat.reduceSub, Nat.reduceLeDiff, Nat.reduceMul, Int.reduceLT, Int.reduceLE, Int.reduceEq, Int.reduceNe, Int.reduceAdd, Int.reduceSub, Int.reduceMul, Int.reduceNeg, Int.reduceToNat]
  refine loop_for (pw ll.length) 0 (fun k p => [v, .any, .nilsl, p.1, .int .i64 k, .any, .any, .any, .any, .any, .any, .any, .any, .any, .any, .any, .any, .any, .any, .any, .any]) (fun _ (p : AV × AH) => p.2)
    (fun k p m => Acc n m p.2 2 1 p.1 (ints (rowOf k fun s => minorOf ll (s : Int) (s : Int))) ∧ n ≤ m ∧ ∀ j, j < n → p.2 j = h j) (.sl n 0 0 0, _) (Nat.zero_le _) ⟨Acc.empty (upd_same _ _ _) rfl (Nat.le_refl _) (by omega), by omega, fun j hj => upd_other (by omega)⟩ (by simp [LeL, Le1]) (fun _ _ h => h) ?_
  rintro k ⟨out, hp'⟩ m - hk hm ⟨acc, hle, hold⟩
  simp only at acc hold
  simp (maxSteps := 2000000) -implicitDefEqProofs (disch := omega) only [xsW, xsC, xsD, xsE, fillA, reduceCtorEq, Nat.reduceAdd, Nat.reduceSub, Nat.reduceLeDiff, Nat.reduceMul, Int.reduceLT, Int.reduceLE, Int.reduceEq, Int.reduceNe, Int.reduceAdd, Int.reduceSub, Int.reduceMul, Int.reduceNeg, Int.reduceToNat,  sR.ln, shl1]
  (refine cd_dec (fun c1 => ?_) (fun c1 => ?_) <;> simp (maxSteps := 2000000) -implicitDefEqProofs (disch := omega) only [xsW, xsC, xsD, xsE, fillA, reduceCtorEq, Nat.reduceAdd, Nat.reduceSub, Nat.reduceLeDiff, Nat.reduceMul, Int.reduceLT, Int.reduceLE, Int.reduceEq, Int.reduceNe, Int.reduceAdd, Int.reduceSub, Int.reduceMul, Int.reduceNeg, Int.reduceToNat,  c1])
  · refine q_use (spec_l03Minor (sR.keep (fun i _ hi9 => by simp (disch := omega) only [upd_other, hold])) hN hs hl _ m (by omega)) fun n2 hn2 => ?_
    simp (maxSteps := 2000000) -implicitDefEqProofs (disch := omega) only [xsW, xsC, xsD, xsE, fillA, reduceCtorEq, Nat.reduceAdd, Nat.reduceSub, Nat.reduceLeDiff, Nat.reduceMul, Int.reduceLT, Int.reduceLE, Int.reduceEq, Int.reduceNe, Int.reduceAdd, Int.reduceSub, Int.reduceMul, Int.reduceNeg, Int.reduceToNat]
    refine app_int (y := minorOf ll (k : Int) (k : Int)) (acc.keep (fun i _ hi9 => by simp (disch := omega) only [upd_other]) |>.wide (Nat.le_refl _) (by omega)) (by omega) (by omega) ⟨rfl, _, upd_same _ _ _, by simp, by simp [cutA]⟩ (by rw [rowOf_len]; omega) fun v' h' n' q1 q2 q3 => ?_
    simp (maxSteps := 2000000) -implicitDefEqProofs (disch := omega) only [xsW, xsC, xsD, xsE, fillA, reduceCtorEq, Nat.reduceAdd, Nat.reduceSub, Nat.reduceLeDiff, Nat.reduceMul, Int.reduceLT, Int.reduceLE, Int.reduceEq, Int.reduceNe, Int.reduceAdd, Int.reduceSub, Int.reduceMul, Int.reduceNeg, Int.reduceToNat]
    exact ⟨(v', h'), ⟨by rw [rowOf_succ]; exact q2, by omega, fun j hj => (q3 j hj).trans (by rw [upd_other (by omega), hold j hj])⟩, by omega, by omega, (by simp [LeL, Le1]), fun _ _ h => h⟩
  · have e : k = pw ll.length := by omega
    subst e
    intro _ h2 hh
    exact (acc.keep fun i a b => hh i a b).sl
def minorsV (ll : List (List Int)) : List Int × Int := if isMat ll = true then (minorsL ll, 0) else ([], 1)
theorem impl_MinorsOf (sR : Rows w lo hi h v vs ll) (hl : ll.length ≤ 1048576) (hll : ∀ l ∈ ll, l.length ≤ 1048576) (n : Nat) (hn : hi ≤ n) :
    FQ Try.prog 45 [v] h n fun x h' n' => ∃ v', x = .tup [v', .int .i64 (minorsV ll).2] ∧ Ints true n n' h' v' (minorsV ll).1 := by
  refine fq_intro Try.func45 k_impl_MinorsOf ?_
  simp (maxSteps := 2000000) -implicitDefEqProofs (disch := omega) only [c_impl_MinorsOf, xsW, xsC, xsD, xsE, fillA, reduceCtorEq, Nat.reduceAdd, Nat.reduceSub, Nat.reduceLeDiff, Nat.reduceMul, Int.reduceLT, Int.reduceLE, Int.reduceEq, Int.reduceNe, Int.reduceAdd, Int.reduceSub, Int.reduceMul, Int.reduceNeg, Int.reduceToNat]
  refine q_use (impl_IsMatrix sR hl hll _ hn) fun n1 hn1 => ?_
  unfold minorsV
  cases hm : isMat ll
  · simp (maxSteps := 2000000) -implicitDefEqProofs (disch := omega) only [xsW, xsC, xsD, xsE, fillA, reduceCtorEq, Nat.reduceAdd, Nat.reduceSub, Nat.reduceLeDiff, Nat.reduceMul, Int.reduceLT, Int.reduceLE, Int.reduceEq, Int.reduceNe, Int.reduceAdd, Int.reduceSub, Int.reduceMul, Int.reduceNeg, Int.reduceToNat]
    intro _ h2 _
    exact ⟨.nilsl, rfl, Sl.nil⟩
  · obtain ⟨hN, hs, hlim⟩ := isMat_sq hm
    simp (maxSteps := 2000000) -implicitDefEqProofs (disch := omega) only [xsW, xsC, xsD, xsE, fillA, reduceCtorEq, Nat.reduceAdd, Nat.reduceSub, Nat.reduceLeDiff, Nat.reduceMul, Int.reduceLT, Int.reduceLE, Int.reduceEq, Int.reduceNe, Int.reduceAdd, Int.reduceSub, Int.reduceMul, Int.reduceNeg, Int.reduceToNat]
    refine fq_use (impl_minors sR hN hs hlim n1 (by omega)) fun v1 h1 n2 hn2 hs1 hv1 => ?_
    simp (maxSteps := 2000000) -implicitDefEqProofs (disch := omega) only [xsW, xsC, xsD, xsE, fillA, reduceCtorEq, Nat.reduceAdd, Nat.reduceSub, Nat.reduceLeDiff, Nat.reduceMul, Int.reduceLT, Int.reduceLE, Int.reduceEq, Int.reduceNe, Int.reduceAdd, Int.reduceSub, Int.reduceMul, Int.reduceNeg, Int.reduceToNat]
    intro _ h2 hh
    exact ⟨v1, rfl, (hv1.keep fun i a b => hh i (by omega) b).wide (by omega) (Nat.le_refl _)⟩
theorem spec_MinorsOf (sR : Rows w lo hi h v vs ll) (hl : ll.length ≤ 1048576) (hll : ∀ l ∈ ll, l.length ≤ 1048576) (n : Nat) (hn : hi ≤ n) :
    FQ Try.prog 46 [v] h n fun x h' n' => ∃ v', x = .tup [v', .int .i64 (minorsV ll).2] ∧ Ints true n n' h' v' (minorsV ll).1 := by
  refine fq_intro Try.func46 k_spec_MinorsOf ?_
  simp (maxSteps := 2000000) -implicitDefEqProofs (disch := omega) only [c_spec_MinorsOf, xsW, xsC, xsD, xsE, fillA, reduceCtorEq, Nat.reduceAdd, Nat.reduceSub, Nat.reduceLeDiff, Nat.reduceMul, Int.reduceLT, Int.reduceLE, Int.reduceEq, Int.reduceNe, Int.reduceAdd, Int.reduceSub, Int.reduceMul, Int.reduceNeg, Int.reduceToNat]
  refine q_use (spec_l03Set0 sR hl _) fun n1 hn1 => ?_
  unfold minorsV
  cases hm : isMat ll
  · simp (maxSteps := 2000000) -implicitDefEqProofs (disch := omega) only [xsW, xsC, xsD, xsE, fillA, reduceCtorEq, Nat.reduceAdd, Nat.reduceSub, Nat.reduceLeDiff, Nat.reduceMul, Int.reduceLT, Int.reduceLE, Int.reduceEq, Int.reduceNe, Int.reduceAdd, Int.reduceSub, Int.reduceMul, Int.reduceNeg, Int.reduceToNat]
    intro _ h2 _
    exact ⟨.nilsl, rfl, Sl.nil⟩
  · obtain ⟨hN, hs, hlim⟩ := isMat_sq hm
    simp (maxSteps := 2000000) -implicitDefEqProofs (disch := omega) only [xsW, xsC, xsD, xsE, fillA, reduceCtorEq, Nat.reduceAdd, Nat.reduceSub, Nat.reduceLeDiff, Nat.reduceMul, Int.reduceLT, Int.reduceLE, Int.reduceEq, Int.reduceNe, Int.reduceAdd, Int.reduceSub, Int.reduceMul, Int.reduceNeg, Int.reduceToNat]
    refine fq_use (spec_l03Minors sR hN hs hlim n1 (by omega)) fun v1 h1 n2 hn2 hs1 hv1 => ?_
    simp (maxSteps := 2000000) -implicitDefEqProofs (disch := omega) only [xsW, xsC, xsD, xsE, fillA, reduceCtorEq, Nat.reduceAdd, Nat.reduceSub, Nat.reduceLeDiff, Nat.reduceMul, Int.reduceLT, Int.reduceLE, Int.reduceEq, Int.reduceNe, Int.reduceAdd, Int.reduceSub, Int.reduceMul, Int.reduceNeg, Int.reduceToNat]
    intro _ h2 hh
    exact ⟨v1, rfl, (hv1.keep fun i a b => hh i (by omega) b).wide (by omega) (Nat.le_refl _)⟩
end

def minL : List Int → Int
  | [] => 0
  | x :: l => l.foldl min x
theorem minL_app {l : List Int} (h : l ≠ []) (x : Int) : minL (l ++ [x]) = min (minL l) x := by
  cases l with
  | nil => exact absurd rfl h
  | cons a l => simp [minL, List.foldl_append]
theorem take_app (l : List Int) {k : Nat} (h : k < l.length) : l.take (k + 1) = l.take k ++ [l.getD k 0] := by
  rw [List.take_add_one]; simp [List.getD, h]
theorem minL_take {l : List Int} {k : Nat} (h0 : 0 < k) (h : k < l.length) : minL (l.take (k + 1)) = min (minL (l.take k)) (l.getD k 0) := by
  rw [take_app l h, minL_app]
  intro e
  have := congrArg List.length e
  rw [List.length_take, List.length_nil] at this; omega
theorem minL_le {l : List Int} {x : Int} (h : x ∈ l) : minL l ≤ x := by
  cases l with
  | nil => simp at h
  | cons a l =>
    simp only [minL]
    have key : ∀ (m : List Int) (a : Int), m.foldl min a ≤ a ∧ ∀ x ∈ m, m.foldl min a ≤ x := by
      intro m
      induction m with
      | nil => intro a; simp
      | cons b m ih =>
        intro a
        have h1 := ih (min a b)
        simp only [List.foldl_cons]
        refine ⟨by omega, fun x hx => ?_⟩
        rcases List.mem_cons.1 hx with rfl | hx
        · omega
        · exact h1.2 x hx
    rcases List.mem_cons.1 h with rfl | h
    · exact (key l _).1
    · exact (key l a).2 x h
theorem minL_mem {l : List Int} (h : l ≠ []) : minL l ∈ l := by
  cases l with
  | nil => exact absurd rfl h
  | cons a l =>
    simp only [minL]
    have key : ∀ (m : List Int) (a : Int), m.foldl min a = a ∨ m.foldl min a ∈ m := by
      intro m
      induction m with
      | nil => intro a; simp
      | cons b m ih =>
        intro a
        simp only [List.foldl_cons, List.mem_cons]
        rcases ih (min a b) with e | e
        · rw [e]; omega
        · exact .inr (.inr e)
    rcases key l a with e | e
    · rw [e]; exact List.mem_cons_self
    · exact List.mem_cons_of_mem _ e
theorem minL_ge {l : List Int} (hl : l ≠ []) {b : Int} : b ≤ minL l ↔ ∀ x ∈ l, b ≤ x := by
  constructor
  · intro h x hx
    have := minL_le hx; omega
  · intro h
    exact h _ (minL_mem hl)
def allF (n : Nat) (F : Nat → Nat → Bool) : Bool := (List.range n).all fun i => (List.range n).all fun k => F i k
theorem allF_t {n : Nat} {F : Nat → Nat → Bool} (h : ∀ i k, i < n → k < n → F i k = true) : allF n F = true := by
  simp only [allF, List.all_eq_true, List.mem_range]
  exact fun i hi k hk => h i k hi hk
theorem allF_f {n : Nat} {F : Nat → Nat → Bool} {i k : Nat} (hi : i < n) (hk : k < n) (h : F i k = false) : allF n F = false := by
  cases e : allF n F with
  | false => rfl
  | true =>
    simp only [allF, List.all_eq_true, List.mem_range] at e
    rw [e i hi k hk] at h; cases h
theorem allF_iff {n : Nat} {F : Nat → Nat → Bool} : allF n F = true ↔ ∀ i k, i < n → k < n → F i k = true := by
  simp only [allF, List.all_eq_true, List.mem_range]
  exact ⟨fun h i k hi hk => h i hi k hk, fun h i hi k hk => h i k hi hk⟩
def wo (r : List (List Int)) (i k m : Nat) : List (List Int) := rowsOf m fun p => cutRow (r.getD (sk i p) []) k
theorem wo_sq {n i k : Nat} {r : List (List Int)} (hs : Sq (n + 1) r) (hk : k < n + 1) : Sq n (wo r i k n) := by
  refine ⟨rowsOf_len _ _, fun j hj => ?_⟩
  have h1 := hs.2 (sk i j) (sk_lt hj)
  rw [wo, rowsOf_get hj, cutRow_len _ _ (by omega), h1]; omega
theorem wo_at {n i k : Nat} {r : List (List Int)} (hs : Sq (n + 1) r) (hk : k < n + 1) {a c : Nat} (ha : a < n) (hc : c < n) : mx (wo r i k n) a c = mi (mx r) i k a c := by
  have h1 := hs.2 (sk i a) (sk_lt ha)
  simp only [mx, at2, mi, wo]
  rw [rowsOf_get ha, cutRow_get _ _ _ (by omega) (by omega)]
theorem wo_lim {n i k : Nat} {r : List (List Int)} (hs : Sq (n + 1) r) (hk : k < n + 1) (hl : ∃ q, Lim q (n + 1) (mx r)) : ∃ q, Lim q n (mx (wo r i k n)) := by
  obtain ⟨q, hq⟩ := hl
  obtain ⟨q', h'⟩ := hq.sub (m := n) (sk i) (sk k) (fun a ha => sk_lt ha) (fun a ha => sk_lt ha) (fun a b _ _ e => by unfold sk at e; grind)
  exact ⟨q', fun a c ha hc => by rw [wo_at hs hk ha hc]; exact h' a c ha hc⟩
theorem ext_getD {α : Type} {l m : List α} {d : α} (h : l.length = m.length) (hg : ∀ i, i < l.length → l.getD i d = m.getD i d) : l = m := by
  refine List.ext_getElem h fun i h1 h2 => ?_
  have := hg i h1
  simpa [List.getD, h1, h2] using this
theorem places_cut_all : ∀ n : Fin 5, ∀ i : Fin 5, i.val < n.val + 1 → places (bitv .andNot .i64 ((pw (n.val + 1) : Int) - 1) (pw i.val : Int)) (n.val + 1) = (List.range n.val).map (sk i.val) := by decide +kernel
theorem places_cut {n i : Nat} (hn : n ≤ 4) (hi : i < n + 1) : places (bitv .andNot .i64 ((pw (n + 1) : Int) - 1) (pw i : Int)) (n + 1) = (List.range n).map (sk i) := places_cut_all ⟨n, by omega⟩ ⟨i, by omega⟩ hi
theorem getD_range_map {α : Type} {n a : Nat} {f : Nat → α} {d : α} (h : a < n) : ((List.range n).map f).getD a d = f a := by simp [List.getD, h]
theorem part_wo {n i k : Nat} {r : List (List Int)} (hn : n ≤ 4) (hs : Sq (n + 1) r) (hi : i < n + 1) (hk : k < n + 1) :
    partL r (bitv .andNot .i64 ((pw (n + 1) : Int) - 1) (pw i : Int)) (bitv .andNot .i64 ((pw (n + 1) : Int) - 1) (pw k : Int)) = wo r i k n := by
  rw [partL, hs.1, places_cut hn hi, places_cut hn hk, wo, rowsOf, List.map_map]
  refine List.map_congr_left fun p hp => ?_
  have hp : p < n := by simpa using hp
  have h1 := hs.2 (sk i p) (sk_lt hp)
  have hc := cutRow_len (r.getD (sk i p) []) k (by omega)
  show ((List.range n).map (sk k)).map (fun c => at2 r (sk i p) c) = _
  rw [List.map_map]
  refine ext_getD (d := 0) (by rw [hc, h1]; simp) fun j hj => ?_
  have hj : j < n := by simpa using hj
  rw [getD_range_map hj, cutRow_get _ _ _ (by omega) (by omega)]
  rfl
def cof (n : Nat) (A : Mx) (i k : Nat) : Int := if (i + k) % 2 = 1 then -det (n - 1) (mi A i k) else det (n - 1) (mi A i k)
theorem mi_lim {n i k : Nat} {A : Mx} (hl : ∃ q, Lim q n A) (hi : i < n) (hk : k < n) : ∃ q, Lim q (n - 1) (mi A i k) := by
  obtain ⟨q, hq⟩ := hl
  obtain ⟨m, rfl⟩ : ∃ m, n = m + 1 := ⟨n - 1, by omega⟩
  exact hq.sub (m := m) (sk i) (sk k) (fun a ha => sk_lt ha) (fun a ha => sk_lt ha) (fun a b _ _ e => by unfold sk at e; grind)
theorem cof_b {n i k : Nat} {A : Mx} (hn : n ≤ 5) (hl : ∃ q, Lim q n A) (hi : i < n) (hk : k < n) : -60000000000 ≤ det (n - 1) (mi A i k) ∧ det (n - 1) (mi A i k) ≤ 60000000000 := by
  obtain ⟨q, hq⟩ := mi_lim hl hi hk
  exact det_small hq (by omega)
def cofR (n : Nat) (A : Mx) : Nat → List Int
  | 0 => []
  | i + 1 => cofR n A i ++ rowOf n (cof n A i)
def cofP (n : Nat) (A : Mx) (i k : Nat) : List Int := cofR n A i ++ rowOf k (cof n A i)
theorem cofP_zero (n : Nat) (A : Mx) (i : Nat) : cofP n A i 0 = cofR n A i := by simp [cofP, rowOf]
theorem cofP_succ (n : Nat) (A : Mx) (i k : Nat) : cofP n A i (k + 1) = cofP n A i k ++ [cof n A i k] := by simp [cofP, rowOf_succ]
theorem cofP_full (n : Nat) (A : Mx) (i : Nat) : cofP n A i n = cofR n A (i + 1) := rfl
theorem cofR_len (n : Nat) (A : Mx) (i : Nat) : (cofR n A i).length = i * n := by
  induction i with
  | zero => simp [cofR]
  | succ i ih => rw [cofR, List.length_append, ih, rowOf_len, Nat.add_mul, Nat.one_mul]
theorem cofP_len (n : Nat) (A : Mx) (i k : Nat) : (cofP n A i k).length = i * n + k := by rw [cofP, List.length_append, cofR_len, rowOf_len]
theorem cofR_mem {n : Nat} {A : Mx} {m : Nat} {x : Int} : x ∈ cofR n A m ↔ ∃ i k, i < m ∧ k < n ∧ x = cof n A i k := by
  induction m with
  | zero => simp [cofR]
  | succ m ih =>
    rw [cofR, List.mem_append, ih]
    simp only [rowOf, List.mem_map, List.mem_range]
    constructor
    · rintro (⟨i, k, h1, h2, h3⟩ | ⟨k, h1, h2⟩)
      · exact ⟨i, k, by omega, h2, h3⟩
      · exact ⟨m, k, by omega, h1, h2.symm⟩
    · rintro ⟨i, k, h1, h2, h3⟩
      by_cases e : i = m
      · subst e; exact .inr ⟨k, h2, h3.symm⟩
      · exact .inl ⟨i, k, by omega, h2, h3⟩
def runL (l : List Int) : Int × Bool := if l = [] then (0, true) else (minL l, false)
theorem runL_app (l : List Int) (x : Int) : runL (l ++ [x]) = (if (runL l).2 = true ∨ x < (runL l).1 then x else (runL l).1, false) := by
  unfold runL
  rw [if_neg (by simp)]
  by_cases h : l = []
  · subst h; simp [minL]
  · rw [if_neg h, minL_app h]
    simp only [Bool.false_eq_true, false_or, Prod.mk.injEq, and_true]
    split <;> omega
def badS (ll : List (List Int)) (b : Int) (s : Nat) : Bool :=
  decide (minorOf ll (s : Int) (s : Int) < b) && decide (b ≤ minL (cofR (places (s : Int) ll.length).length (mx (partL ll (s : Int) (s : Int))) (places (s : Int) ll.length).length))
def copB (ll : List (List Int)) (b : Int) : Bool := (List.range (pw ll.length)).all fun s => decide (s = 0) || !badS ll b s
theorem copB_t {ll : List (List Int)} {b : Int} (h : ∀ s, 1 ≤ s → s < pw ll.length → badS ll b s = false) : copB ll b = true := by
  simp only [copB, List.all_eq_true, List.mem_range, Bool.or_eq_true, decide_eq_true_eq, Bool.not_eq_true']
  exact fun s hs => (Nat.eq_zero_or_pos s).imp id fun h0 => h s h0 hs
theorem copB_f {ll : List (List Int)} {b : Int} {s : Nat} (h1 : 1 ≤ s) (h2 : s < pw ll.length) (h : badS ll b s = true) : copB ll b = false := by
  cases e : copB ll b with
  | false => rfl
  | true =>
    simp only [copB, List.all_eq_true, List.mem_range, Bool.or_eq_true, decide_eq_true_eq, Bool.not_eq_true'] at e
    rcases e s h2 with h0 | h0
    · omega
    · rw [h0] at h; cases h
theorem pop_pos_all : ∀ n : Fin 6, ∀ s : Fin 32, s.val < pw n.val → 1 ≤ s.val → 1 ≤ (places (s.val : Int) n.val).length := by decide +kernel
theorem pop_pos {n s : Nat} (hn : n ≤ 5) (hs : s < pw n) (h1 : 1 ≤ s) : 1 ≤ (places (s : Int) n).length := by
  have := pw_le hn
  exact pop_pos_all ⟨n, by omega⟩ ⟨s, by omega⟩ hs h1
def othV (ll : List (List Int)) (i : Nat) : Int := sumTo ll.length fun k => if k = i then 0 else ((at2 ll i k).natAbs : Int)
theorem oth_sum {n i : Nat} {f : Nat → Int} (hi : i < n) : (sumTo n fun k => if k = i then 0 else f k) = -f i + sumTo n f := by
  have h : sumTo n f = sumTo n fun k => (if k = i then 0 else f k) + (if k = i then f k else 0) := sumTo_congr fun k _ => by split <;> omega
  have h2 := sumTo_add (n := n) (f := fun k => if k = i then 0 else f k) (g := fun k => if k = i then f k else 0)
  have h3 := sumTo_one (n := n) (c := i) (f := fun k => if k = i then f k else 0) hi fun k _ hk => if_neg hk
  simp only [if_true] at h3
  omega
def domB (ll : List (List Int)) : Bool := (List.range ll.length).all fun i => decide (othV ll i < (at2 ll i i).natAbs)
theorem domB_t {ll : List (List Int)} (h : ∀ i, i < ll.length → othV ll i < (at2 ll i i).natAbs) : domB ll = true := by
  simp only [domB, List.all_eq_true, List.mem_range, decide_eq_true_eq]; exact h
theorem domB_f {ll : List (List Int)} {i : Nat} (hi : i < ll.length) (h : (at2 ll i i).natAbs ≤ othV ll i) : domB ll = false := by
  cases e : domB ll with
  | false => rfl
  | true =>
    simp only [domB, List.all_eq_true, List.mem_range, decide_eq_true_eq] at e
    have := e i hi; omega
theorem oth_b {ll : List (List Int)} (hm : isMat ll = true) {i k : Nat} (hi : i < ll.length) (hk : k ≤ ll.length) : 0 ≤ sumTo k (fun k => ((at2 ll i k).natAbs : Int)) ∧ sumTo k (fun k => ((at2 ll i k).natAbs : Int)) ≤ k * 20 := by
  induction k with
  | zero => simp [sumTo]
  | succ k ih =>
    have := ih (by omega)
    have := isMat_at hm hi (k := k) (by omega)
    rw [sumTo]; omega
theorem oth_b2 {ll : List (List Int)} (hm : isMat ll = true) {i k : Nat} (hi : i < ll.length) (hk : k ≤ ll.length) : 0 ≤ sumTo k (fun k => if k = i then 0 else ((at2 ll i k).natAbs : Int)) ∧ sumTo k (fun k => if k = i then 0 else ((at2 ll i k).natAbs : Int)) ≤ k * 20 := by
  induction k with
  | zero => simp [sumTo]
  | succ k ih =>
    have := ih (by omega)
    have := isMat_at hm hi (k := k) (by omega)
    rw [sumTo]; split <;> omega
def zB (ll : List (List Int)) : Bool := allF ll.length fun i k => decide (i = k) || decide (at2 ll i k ≤ 0)
def upB (ll : List (List Int)) : Bool := allF ll.length fun i k => decide (k ≤ i) || decide (at2 ll i k = 0)
def loB (ll : List (List Int)) : Bool := allF ll.length fun i k => decide (i ≤ k) || decide (at2 ll i k = 0)
def sameB (ll : List (List Int)) : Bool := allF ll.length fun i k => decide (at2 ll i k = at2 ll k i)
def pB (ll : List (List Int)) (b : Int) : Bool := decide (b ≤ minL (minorsL ll))
def kindB (ll : List (List Int)) (kind : Int) : Bool :=
  if kind = 0 then pB ll 1 else if kind = 1 then pB ll 0 else if kind = 2 then zB ll else if kind = 3 then zB ll && pB ll 1 else if kind = 4 then pB (cmpF2 ll) 1
  else if kind = 5 then pB (symF ll) 1 else if kind = 6 then pB (symF ll) 0 else if kind = 7 then copB (symF ll) 0 else if kind = 8 then copB (symF ll) 1
  else if kind = 9 then sameB ll else if kind = 10 then domB ll else upB ll || loB ll
theorem rowsOf_at {n : Nat} {F : Nat → Nat → Int} {i k : Nat} (hi : i < n) (hk : k < n) : at2 (rowsOf n fun i => rowOf n (F i)) i k = F i k := by
  rw [at2, rowsOf_get hi, rowOf_get hk]
theorem zB_cmp (ll : List (List Int)) : zB (cmpF2 ll) = true := by
  refine allF_t fun i k hi hk => ?_
  rw [cmpF2, rowsOf_len] at hi hk
  rw [cmpF2, rowsOf_at hi hk]
  unfold cmp2
  by_cases h : i = k
  · simp [h]
  · rw [if_neg h, Bool.or_eq_true]
    exact .inr (decide_eq_true (by omega))
theorem rowsOf_sq (n : Nat) (F : Nat → Nat → Int) : Sq n (rowsOf n fun i => rowOf n (F i)) := ⟨rowsOf_len _ _, fun k hk => by rw [rowsOf_get hk, rowOf_len]⟩
theorem rowsOf_lim {n : Nat} {F : Nat → Nat → Int} (h : ∀ i k, i < n → k < n → -40 ≤ F i k ∧ F i k ≤ 40) : ∃ q, Lim q n (mx (rowsOf n fun i => rowOf n (F i))) :=
  ⟨n, fun r c hr hc => by rw [mx, rowsOf_at hr hc]; have := h r c hr hc; split <;> omega⟩
theorem symF_facts {ll : List (List Int)} (hm : isMat ll = true) : (symF ll).length = ll.length ∧ Sq ll.length (symF ll) ∧ ∃ q, Lim q ll.length (mx (symF ll)) :=
  ⟨rowsOf_len _ _, rowsOf_sq _ _, rowsOf_lim fun i k hi hk => by have := isMat_at hm hi hk; have := isMat_at hm hk hi; omega⟩
theorem cmpF_facts {ll : List (List Int)} (hm : isMat ll = true) : (cmpF2 ll).length = ll.length ∧ Sq ll.length (cmpF2 ll) ∧ ∃ q, Lim q ll.length (mx (cmpF2 ll)) :=
  ⟨rowsOf_len _ _, rowsOf_sq _ _, rowsOf_lim fun i k hi hk => by have := isMat_at hm hi hk; unfold cmp2; split <;> omega⟩
end Go.Proofs.Ytkpibnhddhdooaa.L
