/- Contracts: what the statement on sets compares with; what it tells. -/
import Derived.Test.YtkpibnhddhdooadGreatB8
set_option linter.unusedSimpArgs false
set_option linter.unusedVariables false
namespace Go.Proofs.YtkpibnhddhdooadGreat.L
open Go
def c_laws_big : F := ⟨(.seq (.reg false [⟨some 2, .mv (.c (.bool false)), none⟩]) (.seq (.reg false [⟨some 3, .mv (.t 0), none⟩, ⟨some 4, .len (.t 3), none⟩, ⟨some 5, .bin .gtr (.t 4) (.c (.int .i64 4096)), none⟩, ⟨some 2, .mv (.t 5), none⟩]) .ret)), 6, [(.t 2)]⟩
theorem k_laws_big : compF Tryz.prog Tryz.f14 = some c_laws_big := by kernel_rfl
def c_laws_fracs9 : F := ⟨(.seq (.reg false [⟨some 4, .mv (.c (.bool false)), none⟩]) (.seq (.seq (.reg false [⟨some 6, .mv (.t 0), none⟩, ⟨some 7, .len (.t 6), none⟩, ⟨some 8, .mv (.t 1), none⟩, ⟨some 9, .len (.t 8), none⟩, ⟨some 10, .bin .neq (.t 7) (.t 9), none⟩]) (.cond (.t 10) (.seq (.reg false [⟨some 4, .mv (.c (.bool false)), none⟩]) .ret) .skip)) (.seq (.seq (.reg false [⟨some 5, .mv (.c (.int .i64 0)), none⟩]) (.block 0 (.loop (.seq (.seq (.reg false [⟨some 11, .mv (.t 5), none⟩, ⟨some 12, .mv (.t 0), none⟩, ⟨some 13, .len (.t 12), none⟩, ⟨some 14, .bin .lss (.t 11) (.t 13), none⟩]) (.cond (.t 14) .skip (.exit 0))) (.seq (.block 1 (.seq (.reg true [⟨some 17, .mv (.t 0), none⟩, ⟨some 18, .mv (.t 5), none⟩, ⟨some 19, .ia 2 (.t 17) (.t 18), none⟩, ⟨some 20, .ld 2 (.t 19), none⟩, ⟨some 21, .mv (.t 1), none⟩, ⟨some 22, .mv (.t 5), none⟩, ⟨some 23, .ia 2 (.t 21) (.t 22), none⟩, ⟨some 24, .ld 2 (.t 23), none⟩, ⟨some 25, .feq true (.t 20) (.t 24), none⟩]) (.cond (.t 25) (.seq (.reg false [⟨some 4, .mv (.c (.bool false)), none⟩]) .ret) .skip))) (.reg false [⟨some 15, .mv (.t 5), none⟩, ⟨some 16, .bin .add (.t 15) (.c (.int .i64 1)), none⟩, ⟨some 5, .mv (.t 16), none⟩])))))) (.seq (.reg false [⟨some 4, .mv (.c (.bool true)), none⟩]) .ret)))), 26, [(.t 4)]⟩
theorem k_laws_fracs9 : compF Tryz.prog Tryz.f21 = some c_laws_fracs9 := by kernel_rfl

theorem laws_big {lo hi : Nat} {h : AH} {v : AV} {code : List Int} (s : Sl false lo hi h 1 v (bytesA code)) (n : Nat) : Q Tryz.prog 14 [v] h n (.bool (decide (4096 < code.length))) := by
  refine q_intro Tryz.func14 k_laws_big ?_
  have hsl : slen v = code.length := by have := s.len; rw [bytesA_len] at this; omega
  simp (maxSteps := 2000000) -implicitDefEqProofs (disch := omega) only [c_laws_big, s.ln, hsl, xsW, xsC, xsD, xsE, fillA, reduceCtorEq, Nat.reduceAdd, Nat.reduceSub, Nat.reduceLeDiff, Nat.reduceMul, Int.reduceLT, Int.reduceLE, Int.reduceEq, Int.reduceNe, Int.reduceAdd, Int.reduceSub, Int.reduceMul, Int.reduceNeg, Int.reduceToNat]
  rw [show decide ((code.length : Int) > 4096) = decide (4096 < code.length) from decide_eq_decide.2 (by omega)]
theorem laws_fracs9 {w w' : Bool} {lo hi lo' hi' : Nat} {h : AH} {v v' : AV} {l l' : List (Int × Int)} (s : Fracs w lo hi h v l) (s' : Fracs w' lo' hi' h v' l') (hl : l.length ≤ 1048576) (n : Nat) :
    Q Tryz.prog 21 [v, v'] h n (.bool (decide (l = l'))) := by
  refine q_intro Tryz.func21 k_laws_fracs9 ?_
  simp (maxSteps := 2000000) -implicitDefEqProofs (disch := omega) only [c_laws_fracs9, s.ln, s'.ln, xsW, xsC, xsD, xsE, fillA, reduceCtorEq, Nat.reduceAdd, Nat.reduceSub, Nat.reduceLeDiff, Nat.reduceMul, Int.reduceLT, Int.reduceLE, Int.reduceEq, Int.reduceNe, Int.reduceAdd, Int.reduceSub, Int.reduceMul, Int.reduceNeg, Int.reduceToNat]
  (refine cd_dec (fun h1 => ?_) (fun h1 => ?_) <;> simp (maxSteps := 2000000) -implicitDefEqProofs (disch := omega) only [xsW, xsC, xsD, xsE, fillA, reduceCtorEq, Nat.reduceAdd, Nat.reduceSub, Nat.reduceLeDiff, Nat.reduceMul, Int.reduceLT, Int.reduceLE, Int.reduceEq, Int.reduceNe, Int.reduceAdd, Int.reduceSub, Int.reduceMul, Int.reduceNeg, Int.reduceToNat,  h1])
  · rw [decide_eq_false fun e => h1 (by rw [e])]
  refine loop_for l.length 0 (fun k (_ : Unit) => [v, v', .any, .any, .bool false, .int .i64 k, .any, .any, .any, .any, .any, .any, .any, .any, .any, .any, .any, .any, .any, .any, .any, .any, .any, .any, .any, .any]) (fun k _ => h)
    (fun k _ _ => ∀ j, j < k → l.getD j (0, 0) = l'.getD j (0, 0)) () (Nat.zero_le _) (fun j hj => absurd hj (Nat.not_lt_zero _)) (by simp [LeL, Le1]) (fun _ _ h => h) ?_
  rintro k - n1 - hk hn1 he
  simp (maxSteps := 2000000) -implicitDefEqProofs (disch := omega) only [xsW, xsC, xsD, xsE, fillA, reduceCtorEq, Nat.reduceAdd, Nat.reduceSub, Nat.reduceLeDiff, Nat.reduceMul, Int.reduceLT, Int.reduceLE, Int.reduceEq, Int.reduceNe, Int.reduceAdd, Int.reduceSub, Int.reduceMul, Int.reduceNeg, Int.reduceToNat,  s.ln, s'.ln]
  (refine cd_dec (fun h2 => ?_) (fun h2 => ?_) <;> simp (maxSteps := 2000000) -implicitDefEqProofs (disch := omega) only [xsW, xsC, xsD, xsE, fillA, reduceCtorEq, Nat.reduceAdd, Nat.reduceSub, Nat.reduceLeDiff, Nat.reduceMul, Int.reduceLT, Int.reduceLE, Int.reduceEq, Int.reduceNe, Int.reduceAdd, Int.reduceSub, Int.reduceMul, Int.reduceNeg, Int.reduceToNat,  h2])
  · have hk' : k < l.length := by omega
    have hk2 : k < l'.length := by omega
    simp (maxSteps := 2000000) -implicitDefEqProofs (disch := omega) only [xsW, xsC, xsD, xsE, fillA, reduceCtorEq, Nat.reduceAdd, Nat.reduceSub, Nat.reduceLeDiff, Nat.reduceMul, Int.reduceLT, Int.reduceLE, Int.reduceEq, Int.reduceNe, Int.reduceAdd, Int.reduceSub, Int.reduceMul, Int.reduceNeg, Int.reduceToNat,  s.ia, s.ld, s'.ia, s'.ld]
    rw [w_feq]
    simp (maxSteps := 2000000) -implicitDefEqProofs (disch := omega) only [xsW, xsC, xsD, xsE, fillA, reduceCtorEq, Nat.reduceAdd, Nat.reduceSub, Nat.reduceLeDiff, Nat.reduceMul, Int.reduceLT, Int.reduceLE, Int.reduceEq, Int.reduceNe, Int.reduceAdd, Int.reduceSub, Int.reduceMul, Int.reduceNeg, Int.reduceToNat,  frA, fe_n]
    rw [show (!(decide ((l.getD k (0, 0)).1 = (l'.getD k (0, 0)).1) && decide ((l.getD k (0, 0)).2 = (l'.getD k (0, 0)).2))) = decide (¬ ((l.getD k (0, 0)).1 = (l'.getD k (0, 0)).1 ∧ (l.getD k (0, 0)).2 = (l'.getD k (0, 0)).2)) by simp [Bool.eq_iff_iff]]
    (refine cd_dec (fun h3 => ?_) (fun h3 => ?_) <;> simp (maxSteps := 2000000) -implicitDefEqProofs (disch := omega) only [xsW, xsC, xsD, xsE, fillA, reduceCtorEq, Nat.reduceAdd, Nat.reduceSub, Nat.reduceLeDiff, Nat.reduceMul, Int.reduceLT, Int.reduceLE, Int.reduceEq, Int.reduceNe, Int.reduceAdd, Int.reduceSub, Int.reduceMul, Int.reduceNeg, Int.reduceToNat,  h3])
    · rw [decide_eq_false fun e => h3 (by rw [e]; exact ⟨rfl, rfl⟩)]
    · exact ⟨(), fun j hj => (Nat.lt_succ_iff_lt_or_eq.1 hj).elim (he j) (fun e => by rw [e]; exact Prod.ext (by omega) (by omega)), by omega, by omega, (by simp [LeL, Le1])⟩
  · rw [decide_eq_true (getD_ext (d := (0, 0)) (by omega) fun j hj => he j (by omega))]
theorem laws_fracs9_eq {w w' : Bool} {lo hi lo' hi' : Nat} {h : AH} {v v' : AV} {l : List (Int × Int)} (s : Fracs w lo hi h v l) (s' : Fracs w' lo' hi' h v' l) (hl : l.length ≤ 1048576) (n : Nat) :
    Q Tryz.prog 21 [v, v'] h n (.bool true) := by
  have q := laws_fracs9 s s' hl n
  rwa [decide_eq_true rfl] at q
def c_spec_DrawSolutionsOf : F := ⟨(.seq (.reg false [⟨some 2, .alloc 30 [.nilsl, .nilsl], none⟩]) (.seq (.reg false [⟨some 3, .mv (.t 0), none⟩, ⟨some 4, .call (.f 45) [(.t 3)], none⟩, ⟨some 5, .call (.f 44) [(.t 4)], none⟩, ⟨none, .st 2 (.t 2) (.t 5), none⟩]) .ret)), 6, [(.ca 2 2)]⟩
theorem k_spec_DrawSolutionsOf : compF Tryz.prog Tryz.f15 = some c_spec_DrawSolutionsOf := by kernel_rfl
def c_spec_l02Z : F := ⟨(.seq (.reg false [⟨some 2, .alloc 30 [.nilsl, .nilsl], none⟩, ⟨some 3, .mv (.c .nilsl), none⟩]) (.seq (.reg false [⟨some 11, .mv (.t 0), none⟩, ⟨some 12, .call (.f 45) [(.t 11)], none⟩, ⟨some 4, .mv (.t 12), none⟩]) (.seq (.reg false [⟨some 14, .mv (.t 0), none⟩, ⟨some 15, .call (.f 87) [(.t 14)], none⟩, ⟨some 13, .mv (.t 15), none⟩, ⟨some 16, .ext (.t 13) 0, none⟩, ⟨some 17, .ext (.t 13) 1, none⟩, ⟨some 5, .alloc 30 [.nilsl, .nilsl], none⟩, ⟨none, .st 2 (.t 5) (.t 16), none⟩, ⟨some 6, .mv (.t 17), none⟩]) (.seq (.seq (.reg false [⟨some 19, .ld 2 (.t 5), none⟩, ⟨some 20, .mv (.t 6), none⟩, ⟨some 21, .call (.f 88) [(.t 19), (.t 20)], none⟩, ⟨some 18, .mv (.t 21), none⟩, ⟨some 22, .ext (.t 18) 0, none⟩, ⟨some 23, .ext (.t 18) 1, none⟩, ⟨some 7, .mv (.t 22), none⟩, ⟨some 8, .mv (.t 23), none⟩]) (.seq (.reg false [⟨some 24, .mv (.t 8), none⟩, ⟨some 25, .bin .eql (.t 24) (.c (.int .i64 0)), none⟩, ⟨some 26, .mv (.t 25), none⟩, ⟨some 27, .mv (.t 4), some (26, true)⟩, ⟨some 28, .call (.f 89) [(.t 27), (.c (.int .i64 3))], some (26, true)⟩, ⟨some 29, .bin .gtr (.t 28) (.c (.int .i64 0)), some (26, true)⟩, ⟨some 30, .pick (.t 26) (.t 29) (.c (.bool false)), none⟩]) (.cond (.t 30) (.seq (.seq (.reg false [⟨some 31, .mv (.t 4), none⟩, ⟨some 32, .call (.f 89) [(.t 31), (.c (.int .i64 3))], none⟩, ⟨some 33, .bin .eql (.t 32) (.c (.int .i64 0)), none⟩]) (.cond (.t 33) (.reg false [⟨some 34, .mv (.t 7), none⟩, ⟨some 35, .mv (.t 4), none⟩, ⟨some 36, .mv (.t 7), none⟩, ⟨some 37, .len (.t 36), none⟩, ⟨some 38, .call (.f 89) [(.t 35), (.t 37)], none⟩, ⟨some 39, .mv (.t 4), none⟩, ⟨some 40, .call (.f 89) [(.t 39), (.c (.int .i64 9))], none⟩, ⟨some 41, .mv (.t 4), none⟩, ⟨some 42, .call (.f 89) [(.t 41), (.c (.int .i64 3))], none⟩, ⟨some 43, .bin .add (.c (.int .i64 1)) (.t 42), none⟩, ⟨some 44, .call (.f 65) [(.t 40), (.t 43)], none⟩, ⟨some 45, .ia 2 (.t 34) (.t 38), none⟩, ⟨none, .st 2 (.t 45) (.t 44), none⟩]) .skip)) (.seq (.reg false [⟨some 46, .ld 2 (.t 5), none⟩, ⟨some 47, .mv (.t 7), none⟩, ⟨none, .st 2 (.t 2) (.t 46), none⟩, ⟨some 3, .mv (.t 47), none⟩]) .ret)) .skip))) (.seq (.reg false [⟨some 48, .lit 49 2 0 [(.int .i64 0), (.int .i64 0)] [], none⟩, ⟨some 9, .mv (.t 48), none⟩]) (.seq (.seq (.reg false [⟨some 10, .mv (.c (.int .i64 0)), none⟩]) (.block 0 (.loop (.seq (.seq (.seq (.reg true [⟨some 49, .mv (.t 10), none⟩, ⟨some 50, .fa 1 (.t 5), none⟩, ⟨some 51, .ld1 (.t 50), none⟩, ⟨some 52, .len (.t 51), none⟩, ⟨some 53, .mv (.t 4), none⟩, ⟨some 54, .callp (.f 89) [(.t 53), (.c (.int .i64 24))], none⟩, ⟨some 55, .bin .quo (.t 54) (.c (.int .i64 23)), none⟩, ⟨some 56, .bin .add (.t 52) (.t 55), none⟩, ⟨some 57, .bin .lss (.t 49) (.t 56), none⟩]) (.chk [((.t 53), (.t 50))])) (.cond (.t 57) .skip (.exit 0))) (.seq (.block 1 (.reg false [⟨some 60, .mv (.t 9), none⟩, ⟨some 61, .mv (.t 4), none⟩, ⟨some 62, .call (.f 90) [(.t 61), (.c (.int .i64 9))], none⟩, ⟨some 63, .mv (.t 4), none⟩, ⟨some 64, .call (.f 89) [(.t 63), (.c (.int .i64 4))], none⟩, ⟨some 65, .bin .add (.c (.int .i64 1)) (.t 64), none⟩, ⟨some 66, .call (.f 65) [(.t 62), (.t 65)], none⟩, ⟨some 67, .lit 49 2 1 [(.int .i64 0), (.int .i64 0)] [(0, (.t 66))], none⟩, ⟨some 68, .app 49 2 16 [(.int .i64 0), (.int .i64 0)] (.t 60) (.t 67), none⟩, ⟨some 9, .mv (.t 68), none⟩])) (.reg false [⟨some 58, .mv (.t 10), none⟩, ⟨some 59, .bin .add (.t 58) (.c (.int .i64 1)), none⟩, ⟨some 10, .mv (.t 59), none⟩])))))) (.seq (.reg false [⟨some 69, .ld 2 (.t 5), none⟩, ⟨some 70, .mv (.t 9), none⟩, ⟨none, .st 2 (.t 2) (.t 69), none⟩, ⟨some 3, .mv (.t 70), none⟩]) .ret))))))), 71, [(.ca 2 2), (.t 3)]⟩
theorem k_spec_l02Z : compF Tryz.prog Tryz.f52 = some c_spec_l02Z := by kernel_rfl
def c_spec_DrawGapOf : F := ⟨(.seq (.reg false [⟨some 2, .alloc 30 [.nilsl, .nilsl], none⟩, ⟨some 3, .mv (.c .nilsl), none⟩]) (.seq (.reg false [⟨some 4, .mv (.t 0), none⟩, ⟨some 5, .call (.f 52) [(.t 4)], none⟩, ⟨some 6, .ext (.t 5) 0, none⟩, ⟨some 7, .ext (.t 5) 1, none⟩, ⟨none, .st 2 (.t 2) (.t 6), none⟩, ⟨some 3, .mv (.t 7), none⟩]) .ret)), 8, [(.ca 2 2), (.t 3)]⟩
theorem k_spec_DrawGapOf : compF Tryz.prog Tryz.f22 = some c_spec_DrawGapOf := by kernel_rfl

section
variable {hi : Nat} {h : AH} {v : AV} {code : List Int}
theorem spec_DrawSolutionsOf (s : Sl false 0 hi h 1 v (bytesA code)) (hl : code.length ≤ 4096) (hc : ∀ x ∈ code, 0 ≤ x ∧ x ≤ 255) (n : Nat) (hn : hi ≤ n) :
    FQ Tryz.prog 15 [v] h n fun x h' n' => ∃ v' u' vs' ll q, x = .agg [v', u'] ∧ Prob false n n' h' v' u' vs' ll q ∧ FewP ll q := by
  refine fq_intro Tryz.func15 k_spec_DrawSolutionsOf ?_
  simp (maxSteps := 2000000) -implicitDefEqProofs (disch := omega) only [c_spec_DrawSolutionsOf, xsW, xsC, xsD, xsE, fillA, reduceCtorEq, Nat.reduceAdd, Nat.reduceSub, Nat.reduceLeDiff, Nat.reduceMul, Int.reduceLT, Int.reduceLE, Int.reduceEq, Int.reduceNe, Int.reduceAdd, Int.reduceSub, Int.reduceMul, Int.reduceNeg, Int.reduceToNat]
  refine from_use (s.keep (fun i _ hi9 => by simp (disch := omega) only [upd_other])) hl hc (by omega) fun h1 n1 hn1 hs1 r1 => ?_
  have c1 : h1 n = some ⟨30, [.nilsl, .nilsl], true, 0⟩ := by rw [hs1 n (by omega), upd_same]
  simp (maxSteps := 2000000) -implicitDefEqProofs (disch := omega) only [xsW, xsC, xsD, xsE, fillA, reduceCtorEq, Nat.reduceAdd, Nat.reduceSub, Nat.reduceLeDiff, Nat.reduceMul, Int.reduceLT, Int.reduceLE, Int.reduceEq, Int.reduceNe, Int.reduceAdd, Int.reduceSub, Int.reduceMul, Int.reduceNeg, Int.reduceToNat]
  refine mq_use (spec_l01Spoil r1 (by omega) n1 hn1) (fun i a c => .inl (by omega)) fun x2 h2 n2 hn2 ⟨v2, u2, vs2, ll, q, e2, s2, f2, r2, o2⟩ => ?_
  subst e2
  have w1 := one_any (Sl.any s2.M.out)
  have w2 := one_any (Sl.any s2.Q)
  have w3 := sto_any (Sl.any s2.Q)
  have c2 := (o2 n (by omega) (by omega)).trans c1
  simp (maxSteps := 2000000) -implicitDefEqProofs (disch := omega) only [xsW, xsC, xsD, xsE, fillA, reduceCtorEq, Nat.reduceAdd, Nat.reduceSub, Nat.reduceLeDiff, Nat.reduceMul, Int.reduceLT, Int.reduceLE, Int.reduceEq, Int.reduceNe, Int.reduceAdd, Int.reduceSub, Int.reduceMul, Int.reduceNeg, Int.reduceToNat,  c2, w1, w2, w3]
  intro _ h9 hh
  exact ⟨v2, u2, vs2, ll, q, ⟨rfl, rfl⟩, (s2.keep fun i a c => by rw [hh i (by omega) (by omega), upd_other (by omega)]).wide (by omega) (by omega), f2⟩
theorem solV_len (ll : List (List Int)) (q : List Int) (a : Int) : (solV ll q a).1.length ≤ 5 ∧ ((solV ll q a).2 = 0 → 1 ≤ (solV ll q a).1.length) := by
  unfold solV
  split
  · rename_i hc
    have hm := (isMat_iff ll).1 (isProb_facts (codeP_zero.1 hc).1).1
    split
    · split
      · simp only [onlyF_len, ptF_len]; exact ⟨hm.2.1, fun _ => hm.1⟩
      · exact ⟨by simp, fun h => by cases h⟩
    · exact ⟨by simp, fun h => by cases h⟩
  · rename_i hc
    exact ⟨by simp, fun h => absurd h hc⟩
set_option maxRecDepth 100000 in
set_option maxHeartbeats 4000000 in
theorem spec_l02Z (s : Sl false 0 hi h 1 v (bytesA code)) (hl : code.length ≤ 4096) (hc : ∀ x ∈ code, 0 ≤ x ∧ x ≤ 255) (n : Nat) (hn : hi ≤ n) :
    FQ Tryz.prog 52 [v] h n fun x h' n' => ∃ v' u' vs' ll q z f, x = .tup [.agg [v', u'], z] ∧ Prob false n n' h' v' u' vs' ll q ∧ FewP ll q ∧ Fracs true n n' h' z f ∧ f.length ≤ 7 := by
  refine fq_intro Tryz.func52 k_spec_l02Z ?_
  simp (maxSteps := 2000000) -implicitDefEqProofs (disch := omega) only [c_spec_l02Z, xsW, xsC, xsD, xsE, fillA, reduceCtorEq, Nat.reduceAdd, Nat.reduceSub, Nat.reduceLeDiff, Nat.reduceMul, Int.reduceLT, Int.reduceLE, Int.reduceEq, Int.reduceNe, Int.reduceAdd, Int.reduceSub, Int.reduceMul, Int.reduceNeg, Int.reduceToNat]
  refine from_use (s.keep (fun i _ hi9 => by simp (disch := omega) only [upd_other])) hl hc (by omega) fun h1 n1 hn1 hs1 r1 => ?_
  have c1 : h1 n = some ⟨30, [.nilsl, .nilsl], true, 0⟩ := by rw [hs1 n (by omega), upd_same]
  have sc := s.keep (h' := h1) fun i _ b => by rw [hs1 i (by omega), upd_other (by omega)]
  simp (maxSteps := 2000000) -implicitDefEqProofs (disch := omega) only [xsW, xsC, xsD, xsE, fillA, reduceCtorEq, Nat.reduceAdd, Nat.reduceSub, Nat.reduceLeDiff, Nat.reduceMul, Int.reduceLT, Int.reduceLE, Int.reduceEq, Int.reduceNe, Int.reduceAdd, Int.reduceSub, Int.reduceMul, Int.reduceNeg, Int.reduceToNat]
  refine fq_use (spec_l02With sc hl hc n1 (by omega)) fun x2 h2 n2 hn2 hs2 ⟨v2, u2, vs2, ll, q, a, e2, s2, f2, wa⟩ => ?_
  subst e2
  obtain ⟨b1, b2, b3⟩ := f2.big
  have w1 := one_any (Sl.any s2.M.out)
  have w2 := one_any (Sl.any s2.Q)
  have w3 := sto_any (Sl.any s2.Q)
  have c2 := (hs2 n (by omega)).trans c1
  have r2 : Rnd hi (n + 1) h2 := r1.keep (hs2 _ (by omega)) fun j hj => hs2 j (by omega)
  have h3a : ∀ j, j < n2 → (upd h2 n2 (some ⟨30, [v2, u2], true, 0⟩)) j = h2 j := fun j hj => upd_other (by omega)
  have h3c : (upd h2 n2 (some ⟨30, [v2, u2], true, 0⟩)) n2 = some ⟨30, [v2, u2], true, 0⟩ := upd_same _ _ _
  simp (maxSteps := 2000000) -implicitDefEqProofs (disch := omega) only [xsW, xsC, xsD, xsE, fillA, reduceCtorEq, Nat.reduceAdd, Nat.reduceSub, Nat.reduceLeDiff, Nat.reduceMul, Int.reduceLT, Int.reduceLE, Int.reduceEq, Int.reduceNe, Int.reduceAdd, Int.reduceSub, Int.reduceMul, Int.reduceNeg, Int.reduceToNat,  w1, w2, w3]
  generalize (upd h2 n2 (some ⟨30, [v2, u2], true, 0⟩)) = h3 at h3a h3c ⊢
  have s3 := s2.keep (h' := h3) fun j a c => h3a j c
  have r3 : Rnd hi (n + 1) h3 := r2.keep (h3a _ (by omega)) fun j hj => h3a j (by omega)
  refine fq_use (spec_SolutionOfSet s3 b1 b2 b3 a _ (by omega)) fun x4 h4 n4 hn4 hs4 ⟨v4, e4, z4⟩ => ?_
  subst e4
  obtain ⟨g1, g2⟩ := solV_len ll q a
  have s4 := s3.keep (h' := h4) fun j a c => hs4 j (by omega)
  have r4 : Rnd hi (n + 1) h4 := r3.keep (hs4 _ (by omega)) fun j hj => hs4 j (by omega)
  have c4 : h4 n2 = some ⟨30, [v2, u2], true, 0⟩ := (hs4 _ (by omega)).trans h3c
  have d4 : h4 n = some ⟨30, [.nilsl, .nilsl], true, 0⟩ := by rw [hs4 n (by omega), h3a n (by omega), c2]
  generalize (solV ll q a).1 = f at z4 g1 g2
  generalize (solV ll q a).2 = sc at g2
  simp (maxSteps := 2000000) -implicitDefEqProofs (disch := omega) only [xsW, xsC, xsD, xsE, fillA, reduceCtorEq, Nat.reduceAdd, Nat.reduceSub, Nat.reduceLeDiff, Nat.reduceMul, Int.reduceLT, Int.reduceLE, Int.reduceEq, Int.reduceNe, Int.reduceAdd, Int.reduceSub, Int.reduceMul, Int.reduceNeg, Int.reduceToNat]
  refine gd_dec (fun k1 => ?_) (fun k1 => ?_) <;> simp (maxSteps := 2000000) -implicitDefEqProofs (disch := omega) only [xsW, xsC, xsD, xsE, fillA, reduceCtorEq, Nat.reduceAdd, Nat.reduceSub, Nat.reduceLeDiff, Nat.reduceMul, Int.reduceLT, Int.reduceLE, Int.reduceEq, Int.reduceNe, Int.reduceAdd, Int.reduceSub, Int.reduceMul, Int.reduceNeg, Int.reduceToNat,  k1]
  refine mq_use (spec_l01Next r4 (by omega) 3 n4 (by omega)) (fun i a c => .inl (by omega)) fun x6 h5 n5 hn5 ⟨en, ⟨y6, hy, _, _, _⟩, r5, sm5⟩ => ?_
  subst en; subst hy
  have s5 := s4.keep (h' := h5) fun j a c => sm5 j (by omega)
  have z5 := z4.keep (h' := h5) fun j a c => sm5 j (by omega)
  have c5 := (sm5 n2 (by omega)).trans c4
  have d5 := (sm5 n (by omega)).trans d4
  have hl1 := g2 k1
  simp (maxSteps := 2000000) -implicitDefEqProofs (disch := omega) only [xsW, xsC, xsD, xsE, fillA, reduceCtorEq, Nat.reduceAdd, Nat.reduceSub, Nat.reduceLeDiff, Nat.reduceMul, Int.reduceLT, Int.reduceLE, Int.reduceEq, Int.reduceNe, Int.reduceAdd, Int.reduceSub, Int.reduceMul, Int.reduceNeg, Int.reduceToNat]
  refine cd_dec (fun k2 => ?_) (fun k2 => ?_) <;> simp (maxSteps := 2000000) -implicitDefEqProofs (disch := omega) only [xsW, xsC, xsD, xsE, fillA, reduceCtorEq, Nat.reduceAdd, Nat.reduceSub, Nat.reduceLeDiff, Nat.reduceMul, Int.reduceLT, Int.reduceLE, Int.reduceEq, Int.reduceNe, Int.reduceAdd, Int.reduceSub, Int.reduceMul, Int.reduceNeg, Int.reduceToNat,  k2]
  · refine mq_use (spec_l01Next r5 (by omega) 3 n5 (by omega)) (fun i a c => .inl (by omega)) fun x7 h6 n6 hn6 ⟨en, ⟨y7, hy, _, _, _⟩, r6, sm6⟩ => ?_
    subst en; subst hy
    have s6 := s5.keep (h' := h6) fun j a c => sm6 j (by omega)
    have z6 := z5.keep (h' := h6) fun j a c => sm6 j (by omega)
    have c6 := (sm6 n2 (by omega)).trans c5
    have d6 := (sm6 n (by omega)).trans d5
    simp (maxSteps := 2000000) -implicitDefEqProofs (disch := omega) only [xsW, xsC, xsD, xsE, fillA, reduceCtorEq, Nat.reduceAdd, Nat.reduceSub, Nat.reduceLeDiff, Nat.reduceMul, Int.reduceLT, Int.reduceLE, Int.reduceEq, Int.reduceNe, Int.reduceAdd, Int.reduceSub, Int.reduceMul, Int.reduceNeg, Int.reduceToNat]
    (refine cd_dec (fun k3 => ?_) (fun k3 => ?_) <;> simp (maxSteps := 2000000) -implicitDefEqProofs (disch := omega) only [xsW, xsC, xsD, xsE, fillA, reduceCtorEq, Nat.reduceAdd, Nat.reduceSub, Nat.reduceLeDiff, Nat.reduceMul, Int.reduceLT, Int.reduceLE, Int.reduceEq, Int.reduceNe, Int.reduceAdd, Int.reduceSub, Int.reduceMul, Int.reduceNeg, Int.reduceToNat,  k3])
    · simp (maxSteps := 2000000) -implicitDefEqProofs (disch := omega) only [xsW, xsC, xsD, xsE, fillA, reduceCtorEq, Nat.reduceAdd, Nat.reduceSub, Nat.reduceLeDiff, Nat.reduceMul, Int.reduceLT, Int.reduceLE, Int.reduceEq, Int.reduceNe, Int.reduceAdd, Int.reduceSub, Int.reduceMul, Int.reduceNeg, Int.reduceToNat,  z6.ln]
      refine mq_use (spec_l01Next r6 (by omega) f.length n6 (by omega)) (fun i a c => .inl (by omega)) fun x8 h7 n7 hn7 ⟨en, ⟨y8, hy, y80, y81, _⟩, r7, sm7⟩ => ?_
      subst en; subst hy
      replace y81 := y81 (by omega)
      obtain ⟨m, rfl⟩ : ∃ m : Nat, y8 = m := ⟨y8.toNat, by omega⟩
      simp (maxSteps := 2000000) -implicitDefEqProofs (disch := omega) only [xsW, xsC, xsD, xsE, fillA, reduceCtorEq, Nat.reduceAdd, Nat.reduceSub, Nat.reduceLeDiff, Nat.reduceMul, Int.reduceLT, Int.reduceLE, Int.reduceEq, Int.reduceNe, Int.reduceAdd, Int.reduceSub, Int.reduceMul, Int.reduceNeg, Int.reduceToNat]
      refine mq_use (spec_l01Next r7 (by omega) 9 n7 (by omega)) (fun i a c => .inl (by omega)) fun x9 h8 n8 hn8 ⟨en, ⟨y9, hy, y90, y91, _⟩, r8, sm8⟩ => ?_
      subst en; subst hy
      replace y91 := y91 (by omega)
      simp (maxSteps := 2000000) -implicitDefEqProofs (disch := omega) only [xsW, xsC, xsD, xsE, fillA, reduceCtorEq, Nat.reduceAdd, Nat.reduceSub, Nat.reduceLeDiff, Nat.reduceMul, Int.reduceLT, Int.reduceLE, Int.reduceEq, Int.reduceNe, Int.reduceAdd, Int.reduceSub, Int.reduceMul, Int.reduceNeg, Int.reduceToNat]
      refine mq_use (spec_l01Next r8 (by omega) 3 n8 (by omega)) (fun i a c => .inl (by omega)) fun x10 h9 n9 hn9 ⟨en, ⟨y10, hy, y100, y101, _⟩, r9, sm9⟩ => ?_
      subst en; subst hy
      replace y101 := y101 (by omega)
      simp (maxSteps := 2000000) -implicitDefEqProofs (disch := omega) only [xsW, xsC, xsD, xsE, fillA, reduceCtorEq, Nat.reduceAdd, Nat.reduceSub, Nat.reduceLeDiff, Nat.reduceMul, Int.reduceLT, Int.reduceLE, Int.reduceEq, Int.reduceNe, Int.reduceAdd, Int.reduceSub, Int.reduceMul, Int.reduceNeg, Int.reduceToNat]
      refine q_use (spec_l01Frac y9 (1 + y10) (by unfold in64; omega) (by unfold in64; omega) (by omega) _ _) fun n10 hn10 => ?_
      have hk9 : ∀ j, j ≠ n + 1 → h9 j = h6 j := fun j hj => by rw [sm9 j hj, sm8 j hj, sm7 j hj]
      have s9 := s6.keep (h' := h9) fun j a c => hk9 j (by omega)
      have z9 := z6.keep (h' := h9) fun j a c => hk9 j (by omega)
      have c9 := (hk9 n2 (by omega)).trans c6
      have d9 := (hk9 n (by omega)).trans d6
      have hbz := z9.below (by intro e; rw [e] at y81; simp at y81; omega)
      have e1 := fun K => Fracs.st2 z9 (k := m) (x := (red y9 (1 + y10)).1) (y := (red y9 (1 + y10)).2) (n0 := n) (n := n10) (W := none') (by omega) (fun i a b => .inl (by omega)) (by omega) K
      have cc : wr2 h9 (bid v4) (boff v4 + m * 2) [.int .i64 (red y9 (1 + y10)).1, .int .i64 (red y9 (1 + y10)).2] n2 = some ⟨30, [v2, u2], true, 0⟩ := by rw [wr2_other (by omega), c9]
      have cd' : wr2 h9 (bid v4) (boff v4 + m * 2) [.int .i64 (red y9 (1 + y10)).1, .int .i64 (red y9 (1 + y10)).2] n = some ⟨30, [.nilsl, .nilsl], true, 0⟩ := by rw [wr2_other (by omega), d9]
      simp (maxSteps := 2000000) -implicitDefEqProofs (disch := omega) only [xsW, xsC, xsD, xsE, fillA, reduceCtorEq, Nat.reduceAdd, Nat.reduceSub, Nat.reduceLeDiff, Nat.reduceMul, Int.reduceLT, Int.reduceLE, Int.reduceEq, Int.reduceNe, Int.reduceAdd, Int.reduceSub, Int.reduceMul, Int.reduceNeg, Int.reduceToNat,  fr, z9.ia, e1, cc, cd', w1, w2, w3]
      have z10 := z9.wr2 (k := m) (by omega) (red y9 (1 + y10)).1 (red y9 (1 + y10)).2
      intro _ hf hh
      exact ⟨v2, u2, vs2, ll, q, v4, _, ⟨⟨rfl, rfl⟩, rfl⟩, (s9.keep fun i a c => by rw [hh i (by omega) (by omega), upd_other (by omega), wr2_other (by omega)]).wide (by omega) (by omega), f2, (z10.keep fun i a c => by rw [hh i (by omega) (by omega), upd_other (by omega)]).wide (by omega) (by omega), by rw [List.length_set]; omega⟩
    · simp (maxSteps := 2000000) -implicitDefEqProofs (disch := omega) only [xsW, xsC, xsD, xsE, fillA, reduceCtorEq, Nat.reduceAdd, Nat.reduceSub, Nat.reduceLeDiff, Nat.reduceMul, Int.reduceLT, Int.reduceLE, Int.reduceEq, Int.reduceNe, Int.reduceAdd, Int.reduceSub, Int.reduceMul, Int.reduceNeg, Int.reduceToNat,  c6, d6, w1, w2, w3]
      intro _ hf hh
      exact ⟨v2, u2, vs2, ll, q, v4, f, ⟨⟨rfl, rfl⟩, rfl⟩, (s6.keep fun i a c => by rw [hh i (by omega) (by omega), upd_other (by omega)]).wide (by omega) (by omega), f2, (z6.keep fun i a c => by rw [hh i (by omega) (by omega), upd_other (by omega)]).wide (by omega) (by omega), by omega⟩
  rotate_left
  obtain ⟨h5, rfl⟩ : ∃ m, m = h4 := ⟨h4, rfl⟩
  obtain ⟨n5, rfl⟩ : ∃ m, m = n4 := ⟨n4, rfl⟩
  have s5 := s4
  have r5 := r4
  have c5 := c4
  have d5 := d4
  all_goals
    refine loop_for (q.length + 1) 0 (fun k p => [v, .any, .ptr n 0, .nilsl, .ptr (n + 1) 0, .ptr n2 0, .any, .any, .any, p.1, .int .i64 k, .any, .any, .any, .any, .any, .any, .any, .any, .any, .any, .any, .any, .any, .any, .any, .any, .any, .any, .any, .any, .any, .any, .any, .any, .any, .any, .any, .any, .any, .any, .any, .any, .any, .any, .any, .any, .any, .any, .any, .any, .any, .any, .any, .any, .any, .any, .any, .any, .any, .any, .any, .any, .any, .any, .any, .any, .any, .any, .any, .any]) (fun k (p : AV × List (Int × Int) × AH) => p.2.2)
      (fun k p m => Acc n5 m p.2.2 49 2 p.1 (fracs p.2.1) ∧ p.2.1.length = k ∧ Rnd hi (n + 1) p.2.2 ∧ ∀ j, j < n5 → j ≠ n + 1 → p.2.2 j = h5 j) (.sl n5 0 0 0, [], _) (Nat.zero_le _)
      ⟨Acc.empty (upd_same _ _ _) rfl (Nat.le_refl _) (by omega), rfl, r5.keep (upd_other (by omega)) fun j hj => upd_other (by omega), fun j hj hne => upd_other (by omega)⟩ (by simp [LeL, Le1]) (fun _ _ h => h) ?_
    rintro k ⟨zz, g, hq⟩ m - hk hm ⟨a1, a2, a3, a4⟩
    simp only at a1 a2 a3 a4
    have cq := (a4 n2 (by omega) (by omega)).trans c5
    have dq := (a4 n (by omega) (by omega)).trans d5
    have sq := s5.keep (h' := hq) fun j a c => a4 j (by omega) (by omega)
    obtain ⟨bl, hbl, hbw'⟩ := a3.blk
    simp (maxSteps := 2000000) -implicitDefEqProofs (disch := omega) only [xsW, xsC, xsD, xsE, fillA, reduceCtorEq, Nat.reduceAdd, Nat.reduceSub, Nat.reduceLeDiff, Nat.reduceMul, Int.reduceLT, Int.reduceLE, Int.reduceEq, Int.reduceNe, Int.reduceAdd, Int.reduceSub, Int.reduceMul, Int.reduceNeg, Int.reduceToNat,  cq, sq.Q.ln]
    refine mqp_use (spec_l01Next a3 (by omega) 24 m (by omega)) hbl hbw' (by omega) (.inl (by omega)) (fun v' h' n' hR => ⟨hR.1, hR.2.2.2⟩) fun x7 h7 ⟨_, ⟨y7, hy, y70, y71, _⟩, r7, sm7⟩ => ?_
    subst hy
    replace y71 := y71 (by omega)
    have hdv : 0 ≤ y7.tdiv 23 ∧ y7.tdiv 23 ≤ 1 := by
      have h1 : y7.tdiv 23 = y7 / 23 := Int.tdiv_eq_ediv_of_nonneg y70
      omega
    have hf2 := f2.2
    have b7 := a1.keep (h' := h7) fun j a c => sm7 j (by omega)
    have s7 := sq.keep (h' := h7) fun j a c => sm7 j (by omega)
    have c7 := (sm7 n2 (by omega)).trans cq
    have d7 := (sm7 n (by omega)).trans dq
    simp (maxSteps := 2000000) -implicitDefEqProofs (disch := omega) only [xsW, xsC, xsD, xsE, fillA, reduceCtorEq, Nat.reduceAdd, Nat.reduceSub, Nat.reduceLeDiff, Nat.reduceMul, Int.reduceLT, Int.reduceLE, Int.reduceEq, Int.reduceNe, Int.reduceAdd, Int.reduceSub, Int.reduceMul, Int.reduceNeg, Int.reduceToNat]
    refine ⟨by omega, ?_⟩
    (refine cd_dec (fun k8 => ?_) (fun k8 => ?_) <;> simp (maxSteps := 2000000) -implicitDefEqProofs (disch := omega) only [xsW, xsC, xsD, xsE, fillA, reduceCtorEq, Nat.reduceAdd, Nat.reduceSub, Nat.reduceLeDiff, Nat.reduceMul, Int.reduceLT, Int.reduceLE, Int.reduceEq, Int.reduceNe, Int.reduceAdd, Int.reduceSub, Int.reduceMul, Int.reduceNeg, Int.reduceToNat,  k8])
    · refine mq_use (spec_l01DrawPart r7 (by omega) 9 (by omega) (by omega) m (by omega)) (fun i a c => .inl (by omega)) fun x8 h8 n8 hn8 ⟨en, ⟨y8, hy, y80, y81⟩, r8, sm8⟩ => ?_
      subst en; subst hy
      simp (maxSteps := 2000000) -implicitDefEqProofs (disch := omega) only [xsW, xsC, xsD, xsE, fillA, reduceCtorEq, Nat.reduceAdd, Nat.reduceSub, Nat.reduceLeDiff, Nat.reduceMul, Int.reduceLT, Int.reduceLE, Int.reduceEq, Int.reduceNe, Int.reduceAdd, Int.reduceSub, Int.reduceMul, Int.reduceNeg, Int.reduceToNat]
      refine mq_use (spec_l01Next r8 (by omega) 4 n8 (by omega)) (fun i a c => .inl (by omega)) fun x9 h9 n9 hn9 ⟨en, ⟨y9, hy, y90, y91, _⟩, r9, sm9⟩ => ?_
      subst en; subst hy
      replace y91 := y91 (by omega)
      simp (maxSteps := 2000000) -implicitDefEqProofs (disch := omega) only [xsW, xsC, xsD, xsE, fillA, reduceCtorEq, Nat.reduceAdd, Nat.reduceSub, Nat.reduceLeDiff, Nat.reduceMul, Int.reduceLT, Int.reduceLE, Int.reduceEq, Int.reduceNe, Int.reduceAdd, Int.reduceSub, Int.reduceMul, Int.reduceNeg, Int.reduceToNat]
      refine q_use (spec_l01Frac y8 (1 + y9) (by unfold in64; omega) (by unfold in64; omega) (by omega) _ _) fun n10 hn10 => ?_
      have b9 := b7.keep (h' := h9) fun j a c => by rw [sm9 j (by omega), sm8 j (by omega)]
      simp (maxSteps := 2000000) -implicitDefEqProofs (disch := omega) only [xsW, xsC, xsD, xsE, fillA, reduceCtorEq, Nat.reduceAdd, Nat.reduceSub, Nat.reduceLeDiff, Nat.reduceMul, Int.reduceLT, Int.reduceLE, Int.reduceEq, Int.reduceNe, Int.reduceAdd, Int.reduceSub, Int.reduceMul, Int.reduceNeg, Int.reduceToNat,  fr]
      refine app_frac (p := red y8 (1 + y9)) (b9.keep (fun i _ hi9 => by simp (disch := omega) only [upd_other]) |>.wide (Nat.le_refl _) (by omega)) (by omega) (by omega) ⟨rfl, _, upd_same _ _ _, by simp, by simp [cutA]⟩ (by omega) fun v' h' n' p1 p2 p3 => ?_
      simp (maxSteps := 2000000) -implicitDefEqProofs (disch := omega) only [xsW, xsC, xsD, xsE, fillA, reduceCtorEq, Nat.reduceAdd, Nat.reduceSub, Nat.reduceLeDiff, Nat.reduceMul, Int.reduceLT, Int.reduceLE, Int.reduceEq, Int.reduceNe, Int.reduceAdd, Int.reduceSub, Int.reduceMul, Int.reduceNeg, Int.reduceToNat]
      exact ⟨(v', g ++ [red y8 (1 + y9)], h'), ⟨p2, by simp [a2], r9.keep (show h' (n + 1) = h9 (n + 1) by rw [p3 _ (by omega), upd_other (by omega)]) fun j hj => (show h' j = h9 j by rw [p3 j (by omega), upd_other (by omega)]), fun j hj hne => by
        show h' j = h5 j
        rw [p3 j (by omega), upd_other (by omega), sm9 j (by omega), sm8 j (by omega), sm7 j (by omega), a4 j hj hne]⟩, by omega, by omega, (by simp [LeL, Le1]), fun _ _ h => h⟩
    · simp (maxSteps := 2000000) -implicitDefEqProofs (disch := omega) only [xsW, xsC, xsD, xsE, fillA, reduceCtorEq, Nat.reduceAdd, Nat.reduceSub, Nat.reduceLeDiff, Nat.reduceMul, Int.reduceLT, Int.reduceLE, Int.reduceEq, Int.reduceNe, Int.reduceAdd, Int.reduceSub, Int.reduceMul, Int.reduceNeg, Int.reduceToNat,  c7, d7, w1, w2, w3]
      intro _ hf hh
      have hzf : Fracs true n5 m h7 zz g := b7.sl
      exact ⟨v2, u2, vs2, ll, q, zz, g, ⟨⟨rfl, rfl⟩, rfl⟩, (s7.keep fun i a c => by rw [hh i (by omega) (by omega), upd_other (by omega)]).wide (by omega) (by omega), f2, (hzf.keep fun i a c => by rw [hh i (by omega) (by omega), upd_other (by omega)]).wide (by omega) (by omega), by omega⟩
theorem spec_DrawGapOf (s : Sl false 0 hi h 1 v (bytesA code)) (hl : code.length ≤ 4096) (hc : ∀ x ∈ code, 0 ≤ x ∧ x ≤ 255) (n : Nat) (hn : hi ≤ n) :
    FQ Tryz.prog 22 [v] h n fun x h' n' => ∃ v' u' vs' ll q z f, x = .tup [.agg [v', u'], z] ∧ Prob false n n' h' v' u' vs' ll q ∧ FewP ll q ∧ Fracs true n n' h' z f ∧ f.length ≤ 7 := by
  refine fq_intro Tryz.func22 k_spec_DrawGapOf ?_
  simp (maxSteps := 2000000) -implicitDefEqProofs (disch := omega) only [c_spec_DrawGapOf, xsW, xsC, xsD, xsE, fillA, reduceCtorEq, Nat.reduceAdd, Nat.reduceSub, Nat.reduceLeDiff, Nat.reduceMul, Int.reduceLT, Int.reduceLE, Int.reduceEq, Int.reduceNe, Int.reduceAdd, Int.reduceSub, Int.reduceMul, Int.reduceNeg, Int.reduceToNat]
  refine fq_use (spec_l02Z (s.keep (fun i _ hi9 => by simp (disch := omega) only [upd_other])) hl hc (n + 1) (by omega)) fun x1 h1 n1 hn1 hs1 ⟨v1, u1, vs1, ll, q, z, f, e1, s1, f1, z1, l1'⟩ => ?_
  subst e1
  have w1 := one_any (Sl.any s1.M.out)
  have w2 := one_any (Sl.any s1.Q)
  have w3 := sto_any (Sl.any s1.Q)
  have c1 : h1 n = some ⟨30, [.nilsl, .nilsl], true, 0⟩ := by rw [hs1 n (by omega), upd_same]
  simp (maxSteps := 2000000) -implicitDefEqProofs (disch := omega) only [xsW, xsC, xsD, xsE, fillA, reduceCtorEq, Nat.reduceAdd, Nat.reduceSub, Nat.reduceLeDiff, Nat.reduceMul, Int.reduceLT, Int.reduceLE, Int.reduceEq, Int.reduceNe, Int.reduceAdd, Int.reduceSub, Int.reduceMul, Int.reduceNeg, Int.reduceToNat,  c1, w1, w2, w3]
  intro _ h9 hh
  exact ⟨v1, u1, vs1, ll, q, z, f, ⟨⟨rfl, rfl⟩, rfl⟩, (s1.keep fun i a c => by rw [hh i (by omega) (by omega), upd_other (by omega)]).wide (by omega) (by omega), f1, (z1.keep fun i a c => by rw [hh i (by omega) (by omega), upd_other (by omega)]).wide (by omega) (by omega), l1'⟩
end

theorem red_num_sign {x d : Int} (hd : 0 < d) : (0 ≤ (red x d).1 ↔ 0 ≤ x) ∧ ((red x d).1 = 0 ↔ x = 0) := by
  have h := red_cross (a := x) (b := d) (by omega)
  have h2 : 1 ≤ (red x d).2 := (red_low (x := x) (show d ≠ 0 by omega)).1
  generalize (red x d).1 = a at h ⊢
  generalize (red x d).2 = b at h h2
  constructor
  · constructor
    · intro ha
      have h3 := Int.mul_nonneg ha (show 0 ≤ d by omega)
      rw [h] at h3
      by_cases hx : 0 ≤ x
      · exact hx
      · have := Int.mul_neg_of_neg_of_pos (show x < 0 by omega) (show 0 < b by omega); omega
    · intro hx
      have h3 := Int.mul_nonneg hx (show 0 ≤ b by omega)
      rw [← h] at h3
      by_cases ha : 0 ≤ a
      · exact ha
      · have := Int.mul_neg_of_neg_of_pos (show a < 0 by omega) (show 0 < d by omega); omega
  · constructor
    · intro ha
      rw [ha, Int.zero_mul] at h
      rcases Int.mul_eq_zero.1 h.symm with h | h <;> omega
    · intro hx
      rw [hx, Int.zero_mul] at h
      rcases Int.mul_eq_zero.1 h with h | h <;> omega
theorem cmnX_sign {f : List (Int × Int)} (hf : allFr f = true) {k : Nat} (hk : k < f.length) : 0 ≤ cmnX f k ↔ 0 ≤ (f.getD k (0, 0)).1 := by
  have h := cmnX_eq hf hk
  have h1 := (allFr_get hf hk).2
  have h2 := dkF_pos hf f.length (Nat.le_refl _)
  have hD : 1 ≤ cmnD f := h2
  generalize cmnX f k = x at h ⊢
  generalize (f.getD k (0, 0)).1 = a at h ⊢
  generalize (f.getD k (0, 0)).2 = b at h h1
  generalize cmnD f = D at h hD
  constructor
  · intro hx
    have h3 := Int.mul_nonneg hx (show 0 ≤ b by omega)
    rw [h] at h3
    by_cases ha : 0 ≤ a
    · exact ha
    · have := Int.mul_neg_of_neg_of_pos (show a < 0 by omega) (show 0 < D by omega); omega
  · intro ha
    have h3 := Int.mul_nonneg ha (show 0 ≤ D by omega)
    rw [← h] at h3
    by_cases hx : 0 ≤ x
    · exact hx
    · have := Int.mul_neg_of_neg_of_pos (show x < 0 by omega) (show 0 < b by omega); omega
theorem sum_nn {n : Nat} {f : Nat → Int} (h : ∀ i, i < n → 0 ≤ f i) : 0 ≤ sumTo n f ∧ (sumTo n f = 0 → ∀ i, i < n → f i = 0) := by
  induction n with
  | zero => exact ⟨by simp [sumTo], fun _ i hi => by omega⟩
  | succ n ih =>
    obtain ⟨h1, h2⟩ := ih fun i hi => h i (by omega)
    have h3 := h n (by omega)
    rw [sumTo]
    refine ⟨by omega, fun e i hi => ?_⟩
    by_cases hn : i = n
    · subst hn; omega
    · exact h2 (by omega) i (by omega)
theorem gap_zero {ll : List (List Int)} {q : List Int} {f : List (Int × Int)} (h : (gapV ll q f).2 = 0) : frcV ll q f = 0 ∧ (gapV ll q f).1 = gapR ll q f := by
  unfold gapV at h ⊢
  split
  · rename_i h1; rw [if_pos h1] at h
    split
    · rename_i h2; rw [if_pos h2] at h
      split
      · exact ⟨h1, rfl⟩
      · rename_i h3; rw [if_neg h3] at h; cases h
    · rename_i h2; rw [if_neg h2] at h; cases h
  · rename_i h1; rw [if_neg h1] at h; exact absurd h h1
theorem alw_zero {ll : List (List Int)} {q : List Int} {f : List (Int × Int)} (h : (alwV ll q f).2 = 0) : cmnB f = true ∧ (alwV ll q f).1 = !(f ++ remF ll q f).any ngT := by
  unfold alwV at h ⊢
  split
  · rename_i h0
    rw [if_pos h0] at h
    unfold remV at h0 ⊢
    split at h0
    · rename_i h1; rw [if_pos h1]
      split at h0
      · rename_i h2; rw [if_pos h2]
        split at h0
        · rename_i h3; rw [if_pos h3]; exact ⟨h2, rfl⟩
        · cases h0
      · cases h0
    · rename_i h1; exact absurd h0 h1
  · rename_i h0; rw [if_neg h0] at h; exact absurd h h0
theorem allowed_iff {ll : List (List Int)} {q : List Int} {f : List (Int × Int)} (hz : frcV ll q f = 0) :
    (!(f ++ remF ll q f).any ngT) = true ↔ ∀ k, k < ll.length → 0 ≤ (cmnN f).getD k 0 ∧ 0 ≤ (remL ll q (cmnN f) (cmnD f)).getD k 0 := by
  obtain ⟨hp, ha, hl⟩ := frcV_zero hz
  have hD : 0 < cmnD f := by have := dkF_pos ha f.length (Nat.le_refl _); unfold cmnD; omega
  have e1 : ∀ k, k < ll.length → (cmnN f).getD k 0 = cmnX f k := fun k hk => by rw [cmnN, rowOf_get (by omega)]
  have e2 : ∀ k, k < ll.length → ((remF ll q f).getD k (0, 0)) = red ((remL ll q (cmnN f) (cmnD f)).getD k 0) (cmnD f) := fun k hk => getD_map _ _ _ 0 _ (by rw [remL_len]; exact hk)
  simp only [Bool.not_eq_true', List.any_eq_false, List.mem_append]
  constructor
  · intro h k hk
    have h1 := h (f.getD k (0, 0)) (.inl (getD_mem (by omega)))
    have h2 := h ((remF ll q f).getD k (0, 0)) (.inr (getD_mem (by rw [remF_len]; exact hk)))
    simp only [ngT, decide_eq_true_eq, Int.not_lt] at h1 h2
    rw [e1 k hk, cmnX_sign ha (by omega)]
    rw [e2 k hk] at h2
    exact ⟨h1, (red_num_sign hD).1.1 h2⟩
  · intro h p hp'
    simp only [ngT, decide_eq_true_eq, Int.not_lt]
    rcases hp' with hp' | hp'
    · obtain ⟨k, hk, rfl⟩ := List.mem_iff_getElem.1 hp'
      have h1 := (h k (by omega)).1
      rw [e1 k (by omega), cmnX_sign ha hk] at h1
      simpa [List.getD, hk] using h1
    · obtain ⟨k, hk, rfl⟩ := List.mem_iff_getElem.1 hp'
      have hkl : k < ll.length := by rw [remF_len] at hk; exact hk
      have h1 := (h k hkl).2
      rw [← (red_num_sign hD).1, ← e2 k hkl] at h1
      simpa [List.getD, hk] using h1
theorem gap_said {ll : List (List Int)} {q : List Int} {f : List (Int × Int)} (h1 : (gapV ll q f).2 = 0) (h2 : (alwV ll q f).2 = 0) :
    (isSolV ll q f).2 = 0 ∧ ((isSolV ll q f).1 = true ↔ (alwV ll q f).1 = true ∧ (gapV ll q f).1.1 = 0) ∧ ((alwV ll q f).1 = true → 0 ≤ (gapV ll q f).1.1) := by
  obtain ⟨hz, hg⟩ := gap_zero h1
  obtain ⟨hB, hA⟩ := alw_zero h2
  obtain ⟨hp, ha, hl⟩ := frcV_zero hz
  have hD : 0 < cmnD f := by have := dkF_pos ha f.length (Nat.le_refl _); unfold cmnD; omega
  have hDD : 0 < cmnD f * cmnD f := Int.mul_pos hD hD
  obtain ⟨r1, r2⟩ := red_num_sign (x := gapS ll q f) hDD
  have hal := allowed_iff hz
  rw [← hA] at hal
  have hs : isSolV ll q f = (solvB (remL ll q (cmnN f) (cmnD f)) (cmnN f), 0) := by unfold isSolV; rw [if_pos hz, if_pos hB]
  have hg1 : (gapV ll q f).1.1 = (red (gapS ll q f) (cmnD f * cmnD f)).1 := by rw [hg]; rfl
  rw [hs, hg1]
  have hpos : (alwV ll q f).1 = true → ∀ i, i < ll.length → 0 ≤ gapT ll q f i := fun h i hi => by
    have := hal.1 h i hi
    exact Int.mul_nonneg this.1 this.2
  refine ⟨rfl, ?_, fun h => r1.2 (sum_nn (hpos h)).1⟩
  simp only
  rw [r2, solvB_iff, remL_len]
  constructor
  · intro h
    have hok : ∀ k, k < ll.length → 0 ≤ (remL ll q (cmnN f) (cmnD f)).getD k 0 ∧ 0 ≤ (cmnN f).getD k 0 ∧ ((remL ll q (cmnN f) (cmnD f)).getD k 0 = 0 ∨ (cmnN f).getD k 0 = 0) := fun k hk => by
      have := h k hk
      simpa only [okYX, decide_eq_true_eq] using this
    refine ⟨hal.2 fun k hk => ⟨(hok k hk).2.1, (hok k hk).1⟩, sumTo_zero' fun i hi => ?_⟩
    rcases (hok i hi).2.2 with e | e
    · rw [gapT, e, Int.mul_zero]
    · rw [gapT, e, Int.zero_mul]
  · rintro ⟨h3, h4⟩ k hk
    have h5 := hal.1 h3 k hk
    have h6 := (sum_nn (hpos h3)).2 h4 k hk
    simp only [okYX, decide_eq_true_eq]
    refine ⟨h5.2, h5.1, ?_⟩
    rcases Int.mul_eq_zero.1 h6 with h | h
    · exact .inr h
    · exact .inl h
theorem sols_zero {ll : List (List Int)} {q : List Int} : ((solsV ll q).2 = 0 ∧ isProb ll q = true) ∨ ((solsV ll q).2 ≠ 0 ∧ (solsV ll q).1 = []) := by
  unfold solsV
  split
  · rename_i h; exact .inl ⟨rfl, h⟩
  · exact .inr ⟨by decide, rfl⟩
theorem each_said {ll : List (List Int)} {q : List Int} (hp : isProb ll q = true) {x : FrL} (hx : x ∈ (solsV ll q).1) :
    x.length = q.length ∧ ((isSolV ll q x).2 = 3 ∨ (isSolV ll q x).2 = 0 ∧ (isSolV ll q x).1 = true) := by
  unfold solsV at hx
  rw [if_pos hp] at hx
  obtain ⟨s, hs, h2, rfl⟩ := ((solsK_facts hp _).2.2 x).1 hx
  have hz := zF_good hp (setP_d h2)
  have hq := (isProb_facts hp).2.1
  have hfr : frcV ll q (zF ll q s) = 0 := by unfold frcV; rw [if_pos ⟨hp, good_all hz⟩, if_pos hz.1]
  refine ⟨by rw [hz.1, hq], ?_⟩
  unfold isSolV
  rw [if_pos hfr]
  by_cases hc : cmnB (zF ll q s) = true
  · rw [if_pos hc]; exact .inr ⟨rfl, feas_solves hp h2⟩
  · rw [if_neg hc]; exact .inl rfl
theorem lstF_mem {N : Nat} {zs : List FrL} : ∀ m i, i + m = zs.length → (lstF N zs i m).2 = 0 → ∃ k, k < zs.length ∧ zs.getD k [] = (lstF N zs i m).1
  | 0, i, _, h => by simp [lstF] at h
  | m + 1, i, hi, h => by
    rw [lstF] at h ⊢
    split
    · exact ⟨i, by omega, rfl⟩
    · rename_i h1; rw [if_neg h1] at h
      exact lstF_mem m (i + 1) (by omega) h
theorem least_said {ll : List (List Int)} {q : List Int} (h : (leastV ll q).2 = 0) : ∃ k, k < (solsV ll q).1.length ∧ (solsV ll q).1.getD k [] = (leastV ll q).1 := by
  unfold leastV at h ⊢
  unfold solsV
  split
  · rename_i hp; rw [if_pos hp] at h
    exact lstF_mem _ _ (Nat.zero_add _) h
  · rename_i hp; rw [if_neg hp] at h; cases h
def c_laws_solutions9 : F := ⟨(.seq (.reg false [⟨some 4, .mv (.c (.bool false)), none⟩]) (.seq (.seq (.reg false [⟨some 6, .mv (.t 0), none⟩, ⟨some 7, .len (.t 6), none⟩, ⟨some 8, .mv (.t 1), none⟩, ⟨some 9, .len (.t 8), none⟩, ⟨some 10, .bin .neq (.t 7) (.t 9), none⟩]) (.cond (.t 10) (.seq (.reg false [⟨some 4, .mv (.c (.bool false)), none⟩]) .ret) .skip)) (.seq (.seq (.reg false [⟨some 5, .mv (.c (.int .i64 0)), none⟩]) (.block 0 (.loop (.seq (.seq (.reg false [⟨some 11, .mv (.t 5), none⟩, ⟨some 12, .mv (.t 0), none⟩, ⟨some 13, .len (.t 12), none⟩, ⟨some 14, .bin .lss (.t 11) (.t 13), none⟩]) (.cond (.t 14) .skip (.exit 0))) (.seq (.block 1 (.seq (.reg true [⟨some 17, .mv (.t 0), none⟩, ⟨some 18, .mv (.t 5), none⟩, ⟨some 19, .ia 1 (.t 17) (.t 18), none⟩, ⟨some 20, .ld1 (.t 19), none⟩, ⟨some 21, .mv (.t 1), none⟩, ⟨some 22, .mv (.t 5), none⟩, ⟨some 23, .ia 1 (.t 21) (.t 22), none⟩, ⟨some 24, .ld1 (.t 23), none⟩, ⟨some 25, .call (.f 21) [(.t 20), (.t 24)], none⟩, ⟨some 26, .un .not (.t 25), none⟩]) (.cond (.t 26) (.seq (.reg false [⟨some 4, .mv (.c (.bool false)), none⟩]) .ret) .skip))) (.reg false [⟨some 15, .mv (.t 5), none⟩, ⟨some 16, .bin .add (.t 15) (.c (.int .i64 1)), none⟩, ⟨some 5, .mv (.t 16), none⟩])))))) (.seq (.reg false [⟨some 4, .mv (.c (.bool true)), none⟩]) .ret)))), 27, [(.t 4)]⟩
theorem k_laws_solutions9 : compF Tryz.prog Tryz.f18 = some c_laws_solutions9 := by kernel_rfl
def c_laws_FnAllSolutions : F := ⟨(.seq (.reg false [⟨some 2, .mv (.c (.bool false)), none⟩]) (.seq (.seq (.reg false [⟨some 32, .mv (.t 0), none⟩, ⟨some 33, .call (.f 14) [(.t 32)], none⟩]) (.cond (.t 33) (.seq (.reg false [⟨some 2, .mv (.c (.bool true)), none⟩]) .ret) .skip)) (.seq (.reg false [⟨some 34, .mv (.t 0), none⟩, ⟨some 35, .call (.f 15) [(.t 34)], none⟩, ⟨some 3, .alloc 30 [.nilsl, .nilsl], none⟩, ⟨none, .st 2 (.t 3) (.t 35), none⟩]) (.seq (.reg false [⟨some 37, .ld 2 (.t 3), none⟩, ⟨some 38, .call (.f 16) [(.t 37)], none⟩, ⟨some 36, .mv (.t 38), none⟩, ⟨some 39, .ext (.t 36) 0, none⟩, ⟨some 40, .ext (.t 36) 1, none⟩, ⟨some 4, .mv (.t 39), none⟩, ⟨some 5, .mv (.t 40), none⟩]) (.seq (.seq (.reg false [⟨some 42, .ld 2 (.t 3), none⟩, ⟨some 43, .call (.f 17) [(.t 42)], none⟩, ⟨some 41, .mv (.t 43), none⟩, ⟨some 44, .ext (.t 41) 0, none⟩, ⟨some 45, .ext (.t 41) 1, none⟩, ⟨some 6, .mv (.t 44), none⟩, ⟨some 7, .mv (.t 45), none⟩]) (.seq (.reg false [⟨some 46, .mv (.t 5), none⟩, ⟨some 47, .mv (.t 7), none⟩, ⟨some 48, .bin .neq (.t 46) (.t 47), none⟩, ⟨some 49, .mv (.t 48), none⟩, ⟨some 50, .mv (.t 4), some (49, false)⟩, ⟨some 51, .mv (.t 6), some (49, false)⟩, ⟨some 52, .call (.f 18) [(.t 50), (.t 51)], some (49, false)⟩, ⟨some 53, .un .not (.t 52), some (49, false)⟩, ⟨some 54, .pick (.t 49) (.c (.bool true)) (.t 53), none⟩]) (.cond (.t 54) (.seq (.reg false [⟨some 2, .mv (.c (.bool false)), none⟩]) .ret) .skip))) (.seq (.reg false [⟨some 56, .ld 2 (.t 3), none⟩, ⟨some 57, .call (.f 19) [(.t 56)], none⟩, ⟨some 55, .mv (.t 57), none⟩, ⟨some 58, .ext (.t 55) 0, none⟩, ⟨some 59, .ext (.t 55) 1, none⟩, ⟨some 8, .mv (.t 58), none⟩, ⟨some 9, .mv (.t 59), none⟩]) (.seq (.seq (.reg false [⟨some 61, .ld 2 (.t 3), none⟩, ⟨some 62, .call (.f 20) [(.t 61)], none⟩, ⟨some 60, .mv (.t 62), none⟩, ⟨some 63, .ext (.t 60) 0, none⟩, ⟨some 64, .ext (.t 60) 1, none⟩, ⟨some 10, .mv (.t 63), none⟩, ⟨some 11, .mv (.t 64), none⟩]) (.seq (.reg false [⟨some 65, .mv (.t 9), none⟩, ⟨some 66, .mv (.t 11), none⟩, ⟨some 67, .bin .neq (.t 65) (.t 66), none⟩, ⟨some 68, .mv (.t 67), none⟩, ⟨some 69, .mv (.t 8), some (68, false)⟩, ⟨some 70, .mv (.t 10), some (68, false)⟩, ⟨some 71, .bin .neq (.t 69) (.t 70), some (68, false)⟩, ⟨some 72, .pick (.t 68) (.c (.bool true)) (.t 71), none⟩]) (.cond (.t 72) (.seq (.reg false [⟨some 2, .mv (.c (.bool false)), none⟩]) .ret) .skip))) (.seq (.reg false [⟨some 74, .ld 2 (.t 3), none⟩, ⟨some 75, .call (.f 8) [(.t 74)], none⟩, ⟨some 73, .mv (.t 75), none⟩, ⟨some 76, .ext (.t 73) 0, none⟩, ⟨some 77, .ext (.t 73) 1, none⟩, ⟨some 12, .mv (.t 76), none⟩, ⟨some 13, .mv (.t 77), none⟩]) (.seq (.seq (.reg false [⟨some 79, .ld 2 (.t 3), none⟩, ⟨some 80, .call (.f 6) [(.t 79)], none⟩, ⟨some 78, .mv (.t 80), none⟩, ⟨some 81, .ext (.t 78) 0, none⟩, ⟨some 82, .ext (.t 78) 1, none⟩, ⟨some 14, .mv (.t 81), none⟩, ⟨some 15, .mv (.t 82), none⟩]) (.seq (.reg false [⟨some 83, .mv (.t 13), none⟩, ⟨some 84, .mv (.t 15), none⟩, ⟨some 85, .bin .neq (.t 83) (.t 84), none⟩, ⟨some 86, .mv (.t 85), none⟩, ⟨some 87, .mv (.t 12), some (86, false)⟩, ⟨some 88, .mv (.t 14), some (86, false)⟩, ⟨some 89, .call (.f 21) [(.t 87), (.t 88)], some (86, false)⟩, ⟨some 90, .un .not (.t 89), some (86, false)⟩, ⟨some 91, .pick (.t 86) (.c (.bool true)) (.t 90), none⟩]) (.cond (.t 91) (.seq (.reg false [⟨some 2, .mv (.c (.bool false)), none⟩]) .ret) .skip))) (.seq (.reg false [⟨some 93, .mv (.t 0), none⟩, ⟨some 94, .call (.f 22) [(.t 93)], none⟩, ⟨some 92, .mv (.t 94), none⟩, ⟨some 95, .ext (.t 92) 0, none⟩, ⟨some 96, .ext (.t 92) 1, none⟩, ⟨some 16, .alloc 30 [.nilsl, .nilsl], none⟩, ⟨none, .st 2 (.t 16) (.t 95), none⟩, ⟨some 17, .mv (.t 96), none⟩]) (.seq (.reg false [⟨some 98, .ld 2 (.t 16), none⟩, ⟨some 99, .mv (.t 17), none⟩, ⟨some 100, .call (.f 23) [(.t 98), (.t 99)], none⟩, ⟨some 97, .mv (.t 100), none⟩, ⟨some 101, .ext (.t 97) 0, none⟩, ⟨some 102, .ext (.t 97) 1, none⟩, ⟨some 18, .alloc 49 [(.int .i64 0), (.int .i64 0)], none⟩, ⟨none, .st 2 (.t 18) (.t 101), none⟩, ⟨some 19, .mv (.t 102), none⟩]) (.seq (.seq (.reg false [⟨some 104, .ld 2 (.t 16), none⟩, ⟨some 105, .mv (.t 17), none⟩, ⟨some 106, .call (.f 24) [(.t 104), (.t 105)], none⟩, ⟨some 103, .mv (.t 106), none⟩, ⟨some 107, .ext (.t 103) 0, none⟩, ⟨some 108, .ext (.t 103) 1, none⟩, ⟨some 20, .alloc 49 [(.int .i64 0), (.int .i64 0)], none⟩, ⟨none, .st 2 (.t 20) (.t 107), none⟩, ⟨some 21, .mv (.t 108), none⟩]) (.seq (.reg false [⟨some 109, .mv (.t 19), none⟩, ⟨some 110, .mv (.t 21), none⟩, ⟨some 111, .bin .neq (.t 109) (.t 110), none⟩, ⟨some 112, .mv (.t 111), none⟩, ⟨some 113, .ld 2 (.t 18), some (112, false)⟩, ⟨some 114, .ld 2 (.t 20), some (112, false)⟩, ⟨some 115, .feq true (.t 113) (.t 114), some (112, false)⟩, ⟨some 116, .pick (.t 112) (.c (.bool true)) (.t 115), none⟩]) (.cond (.t 116) (.seq (.reg false [⟨some 2, .mv (.c (.bool false)), none⟩]) .ret) .skip))) (.seq (.reg false [⟨some 118, .ld 2 (.t 16), none⟩, ⟨some 119, .mv (.t 17), none⟩, ⟨some 120, .call (.f 25) [(.t 118), (.t 119)], none⟩, ⟨some 117, .mv (.t 120), none⟩, ⟨some 121, .ext (.t 117) 0, none⟩, ⟨some 122, .ext (.t 117) 1, none⟩, ⟨some 22, .mv (.t 121), none⟩, ⟨some 23, .mv (.t 122), none⟩]) (.seq (.seq (.reg false [⟨some 124, .ld 2 (.t 16), none⟩, ⟨some 125, .mv (.t 17), none⟩, ⟨some 126, .call (.f 26) [(.t 124), (.t 125)], none⟩, ⟨some 123, .mv (.t 126), none⟩, ⟨some 127, .ext (.t 123) 0, none⟩, ⟨some 128, .ext (.t 123) 1, none⟩, ⟨some 24, .mv (.t 127), none⟩, ⟨some 25, .mv (.t 128), none⟩]) (.seq (.reg false [⟨some 129, .mv (.t 23), none⟩, ⟨some 130, .mv (.t 25), none⟩, ⟨some 131, .bin .neq (.t 129) (.t 130), none⟩, ⟨some 132, .mv (.t 131), none⟩, ⟨some 133, .mv (.t 22), some (132, false)⟩, ⟨some 134, .mv (.t 24), some (132, false)⟩, ⟨some 135, .beq true (.t 133) (.t 134), some (132, false)⟩, ⟨some 136, .pick (.t 132) (.c (.bool true)) (.t 135), none⟩]) (.cond (.t 136) (.seq (.reg false [⟨some 2, .mv (.c (.bool false)), none⟩]) .ret) .skip))) (.seq (.seq (.reg false [⟨some 137, .mv (.t 19), none⟩, ⟨some 138, .bin .eql (.t 137) (.c (.int .i64 0)), none⟩, ⟨some 139, .mv (.t 138), none⟩, ⟨some 140, .mv (.t 23), some (139, true)⟩, ⟨some 141, .bin .eql (.t 140) (.c (.int .i64 0)), some (139, true)⟩, ⟨some 142, .pick (.t 139) (.t 141) (.c (.bool false)), none⟩]) (.cond (.t 142) (.seq (.reg false [⟨some 144, .ld 2 (.t 16), none⟩, ⟨some 145, .mv (.t 17), none⟩, ⟨some 146, .call (.f 27) [(.t 144), (.t 145)], none⟩, ⟨some 143, .mv (.t 146), none⟩, ⟨some 147, .ext (.t 143) 0, none⟩, ⟨some 148, .ext (.t 143) 1, none⟩, ⟨some 26, .mv (.t 147), none⟩, ⟨some 27, .mv (.t 148), none⟩]) (.seq (.reg false [⟨some 149, .mv (.t 27), none⟩, ⟨some 150, .bin .neq (.t 149) (.c (.int .i64 0)), none⟩, ⟨some 151, .mv (.t 150), none⟩, ⟨some 152, .mv (.t 26), some (151, false)⟩, ⟨some 153, .mv (.t 22), some (151, false)⟩, ⟨some 154, .mv (.t 153), some (151, false)⟩, ⟨some 155, .fa 0 (.t 18), some (154, true)⟩, ⟨some 156, .ld1 (.t 155), some (154, true)⟩, ⟨some 157, .bin .eql (.t 156) (.c (.int .i64 0)), some (154, true)⟩, ⟨some 158, .pick (.t 154) (.t 157) (.c (.bool false)), some (151, false)⟩, ⟨some 159, .beq true (.t 152) (.t 158), some (151, false)⟩, ⟨some 160, .pick (.t 151) (.c (.bool true)) (.t 159), none⟩, ⟨some 161, .mv (.t 160), none⟩, ⟨some 162, .mv (.t 22), some (161, false)⟩, ⟨some 163, .mv (.t 162), some (161, false)⟩, ⟨some 164, .fa 0 (.t 18), some (163, true)⟩, ⟨some 165, .ld1 (.t 164), some (163, true)⟩, ⟨some 166, .bin .lss (.t 165) (.c (.int .i64 0)), some (163, true)⟩, ⟨some 167, .pick (.t 163) (.t 166) (.c (.bool false)), some (161, false)⟩, ⟨some 168, .pick (.t 161) (.c (.bool true)) (.t 167), none⟩]) (.cond (.t 168) (.seq (.reg false [⟨some 2, .mv (.c (.bool false)), none⟩]) .ret) .skip))) .skip)) (.seq (.seq (.reg false [⟨some 169, .mv (.t 5), none⟩, ⟨some 170, .bin .neq (.t 169) (.c (.int .i64 0)), none⟩]) (.cond (.t 170) (.seq (.reg false [⟨some 171, .mv (.t 4), none⟩, ⟨some 172, .len (.t 171), none⟩, ⟨some 173, .bin .eql (.t 172) (.c (.int .i64 0)), none⟩, ⟨some 2, .mv (.t 173), none⟩]) .ret) .skip)) (.seq (.seq (.reg false [⟨some 174, .mv (.t 9), none⟩, ⟨some 175, .bin .neq (.t 174) (.c (.int .i64 0)), none⟩, ⟨some 176, .mv (.t 175), none⟩, ⟨some 177, .mv (.t 8), some (176, false)⟩, ⟨some 178, .mv (.t 4), some (176, false)⟩, ⟨some 179, .len (.t 178), some (176, false)⟩, ⟨some 180, .bin .neq (.t 177) (.t 179), some (176, false)⟩, ⟨some 181, .pick (.t 176) (.c (.bool true)) (.t 180), none⟩]) (.cond (.t 181) (.seq (.reg false [⟨some 2, .mv (.c (.bool false)), none⟩]) .ret) .skip)) (.seq (.reg false [⟨some 28, .mv (.c (.bool false)), none⟩]) (.seq (.seq (.reg false [⟨some 29, .mv (.c (.int .i64 0)), none⟩]) (.block 0 (.loop (.seq (.seq (.reg false [⟨some 182, .mv (.t 29), none⟩, ⟨some 183, .mv (.t 4), none⟩, ⟨some 184, .len (.t 183), none⟩, ⟨some 185, .bin .lss (.t 182) (.t 184), none⟩]) (.cond (.t 185) .skip (.exit 0))) (.seq (.block 1 (.seq (.reg true [⟨some 189, .ld 2 (.t 3), none⟩, ⟨some 190, .mv (.t 4), none⟩, ⟨some 191, .mv (.t 29), none⟩, ⟨some 192, .ia 1 (.t 190) (.t 191), none⟩, ⟨some 193, .ld1 (.t 192), none⟩, ⟨some 194, .call (.f 27) [(.t 189), (.t 193)], none⟩, ⟨some 188, .mv (.t 194), none⟩, ⟨some 195, .ext (.t 188) 0, none⟩, ⟨some 196, .ext (.t 188) 1, none⟩, ⟨some 30, .mv (.t 195), none⟩, ⟨some 31, .mv (.t 196), none⟩]) (.seq (.seq (.reg true [⟨some 197, .mv (.t 31), none⟩, ⟨some 198, .bin .neq (.t 197) (.c (.int .i64 3)), none⟩, ⟨some 199, .mv (.t 198), none⟩, ⟨some 200, .mv (.t 31), some (199, true)⟩, ⟨some 201, .bin .neq (.t 200) (.c (.int .i64 0)), some (199, true)⟩, ⟨some 202, .mv (.t 201), some (199, true)⟩, ⟨some 203, .mv (.t 30), some (202, false)⟩, ⟨some 204, .un .not (.t 203), some (202, false)⟩, ⟨some 205, .pick (.t 202) (.c (.bool true)) (.t 204), some (199, true)⟩, ⟨some 206, .pick (.t 199) (.t 205) (.c (.bool false)), none⟩, ⟨some 207, .mv (.t 206), none⟩, ⟨some 208, .mv (.t 4), some (207, false)⟩, ⟨some 209, .mv (.t 29), some (207, false)⟩, ⟨some 210, .ia 1 (.t 208) (.t 209), some (207, false)⟩, ⟨some 211, .ld1 (.t 210), some (207, false)⟩, ⟨some 212, .len (.t 211), some (207, false)⟩, ⟨some 213, .fa 1 (.t 3), some (207, false)⟩, ⟨some 214, .ld1 (.t 213), some (207, false)⟩, ⟨some 215, .len (.t 214), some (207, false)⟩, ⟨some 216, .bin .neq (.t 212) (.t 215), some (207, false)⟩, ⟨some 217, .pick (.t 207) (.c (.bool true)) (.t 216), none⟩]) (.cond (.t 217) (.seq (.reg false [⟨some 2, .mv (.c (.bool false)), none⟩]) .ret) .skip)) (.reg false [⟨some 218, .mv (.t 28), none⟩, ⟨some 219, .mv (.t 218), none⟩, ⟨some 220, .mv (.t 4), some (219, false)⟩, ⟨some 221, .mv (.t 29), some (219, false)⟩, ⟨some 222, .ia 1 (.t 220) (.t 221), some (219, false)⟩, ⟨some 223, .ld1 (.t 222), some (219, false)⟩, ⟨some 224, .mv (.t 12), some (219, false)⟩, ⟨some 225, .call (.f 21) [(.t 223), (.t 224)], some (219, false)⟩, ⟨some 226, .pick (.t 219) (.c (.bool true)) (.t 225), none⟩, ⟨some 28, .mv (.t 226), none⟩])))) (.reg false [⟨some 186, .mv (.t 29), none⟩, ⟨some 187, .bin .add (.t 186) (.c (.int .i64 1)), none⟩, ⟨some 29, .mv (.t 187), none⟩])))))) (.seq (.reg false [⟨some 227, .mv (.t 13), none⟩, ⟨some 228, .bin .neq (.t 227) (.c (.int .i64 0)), none⟩, ⟨some 229, .mv (.t 228), none⟩, ⟨some 230, .mv (.t 28), some (229, false)⟩, ⟨some 231, .pick (.t 229) (.c (.bool true)) (.t 230), none⟩, ⟨some 2, .mv (.t 231), none⟩]) .ret)))))))))))))))))))), 232, [(.t 2)]⟩
theorem k_laws_FnAllSolutions : compF Tryz.prog Tryz.f4 = some c_laws_FnAllSolutions := by kernel_rfl

theorem fe_same {K : AV → AH → Nat → Prop} {h : AH} {n : Nat} {a b : Int} : FEh true (.agg [.int .i64 a, .int .i64 b]) (.agg [.int .i64 a, .int .i64 b]) K h n = K (.bool false) h n := by simp [fe_n]
theorem laws_solutions9 {w w' : Bool} {lo hi lo' hi' : Nat} {h : AH} {v v' : AV} {vs vs' : List AV} {ll : List FrL} (s : Fows w lo hi h v vs ll) (s' : Fows w' lo' hi' h v' vs' ll) (hl : ll.length ≤ 1048576 ∧ ∀ l ∈ ll, l.length ≤ 1048576) (n : Nat) :
    Q Tryz.prog 18 [v, v'] h n (.bool true) := by
  refine q_intro Tryz.func18 k_laws_solutions9 ?_
  have hb := hl.1
  simp (maxSteps := 2000000) -implicitDefEqProofs (disch := omega) only [c_laws_solutions9, s.ln, s'.ln, xsW, xsC, xsD, xsE, fillA, reduceCtorEq, Nat.reduceAdd, Nat.reduceSub, Nat.reduceLeDiff, Nat.reduceMul, Int.reduceLT, Int.reduceLE, Int.reduceEq, Int.reduceNe, Int.reduceAdd, Int.reduceSub, Int.reduceMul, Int.reduceNeg, Int.reduceToNat]
  refine loop_for ll.length 0 (fun k (_ : Unit) => [v, v', .any, .any, .bool false, .int .i64 k, .any, .any, .any, .any, .any, .any, .any, .any, .any, .any, .any, .any, .any, .any, .any, .any, .any, .any, .any, .any, .any]) (fun k _ => h)
    (fun k _ _ => True) () (Nat.zero_le _) trivial (by simp [LeL, Le1]) (fun _ _ h => h) ?_
  rintro k - n1 - hk hn1 -
  simp (maxSteps := 2000000) -implicitDefEqProofs (disch := omega) only [xsW, xsC, xsD, xsE, fillA, reduceCtorEq, Nat.reduceAdd, Nat.reduceSub, Nat.reduceLeDiff, Nat.reduceMul, Int.reduceLT, Int.reduceLE, Int.reduceEq, Int.reduceNe, Int.reduceAdd, Int.reduceSub, Int.reduceMul, Int.reduceNeg, Int.reduceToNat,  s.ln, s'.ln]
  (refine cd_dec (fun h2 => ?_) (fun h2 => ?_) <;> simp (maxSteps := 2000000) -implicitDefEqProofs (disch := omega) only [xsW, xsC, xsD, xsE, fillA, reduceCtorEq, Nat.reduceAdd, Nat.reduceSub, Nat.reduceLeDiff, Nat.reduceMul, Int.reduceLT, Int.reduceLE, Int.reduceEq, Int.reduceNe, Int.reduceAdd, Int.reduceSub, Int.reduceMul, Int.reduceNeg, Int.reduceToNat,  h2])
  · have hk' : k < ll.length := by omega
    simp (maxSteps := 2000000) -implicitDefEqProofs (disch := omega) only [xsW, xsC, xsD, xsE, fillA, reduceCtorEq, Nat.reduceAdd, Nat.reduceSub, Nat.reduceLeDiff, Nat.reduceMul, Int.reduceLT, Int.reduceLE, Int.reduceEq, Int.reduceNe, Int.reduceAdd, Int.reduceSub, Int.reduceMul, Int.reduceNeg, Int.reduceToNat,  s.ia, s.ld, s'.ia, s'.ld]
    refine q_use (laws_fracs9_eq (s.row k hk') (s'.row k hk') (hl.2 _ (getD_mem hk')) _) fun n2 hn2 => ?_
    simp (maxSteps := 2000000) -implicitDefEqProofs (disch := omega) only [xsW, xsC, xsD, xsE, fillA, reduceCtorEq, Nat.reduceAdd, Nat.reduceSub, Nat.reduceLeDiff, Nat.reduceMul, Int.reduceLT, Int.reduceLE, Int.reduceEq, Int.reduceNe, Int.reduceAdd, Int.reduceSub, Int.reduceMul, Int.reduceNeg, Int.reduceToNat]
    exact ⟨(), by omega, by omega, (by simp [LeL, Le1])⟩
set_option maxRecDepth 100000 in
set_option maxHeartbeats 8000000 in
theorem laws_FnAllSolutions {hi : Nat} {h : AH} {v : AV} {code : List Int} (s : Sl false 0 hi h 1 v (bytesA code)) (hc : ∀ x ∈ code, 0 ≤ x ∧ x ≤ 255) (n : Nat) (hn : hi ≤ n) :
    Q Tryz.prog 4 [v] h n (.bool true) := by
  refine q_intro Tryz.func4 k_laws_FnAllSolutions ?_
  simp (maxSteps := 2000000) -implicitDefEqProofs (disch := omega) only [c_laws_FnAllSolutions, xsW, xsC, xsD, xsE, fillA, reduceCtorEq, Nat.reduceAdd, Nat.reduceSub, Nat.reduceLeDiff, Nat.reduceMul, Int.reduceLT, Int.reduceLE, Int.reduceEq, Int.reduceNe, Int.reduceAdd, Int.reduceSub, Int.reduceMul, Int.reduceNeg, Int.reduceToNat]
  refine q_use (laws_big s n) fun n1 hn1 => ?_
  by_cases hb : 4096 < code.length
  · rw [decide_eq_true hb]
    simp (maxSteps := 2000000) -implicitDefEqProofs (disch := omega) only [xsW, xsC, xsD, xsE, fillA, reduceCtorEq, Nat.reduceAdd, Nat.reduceSub, Nat.reduceLeDiff, Nat.reduceMul, Int.reduceLT, Int.reduceLE, Int.reduceEq, Int.reduceNe, Int.reduceAdd, Int.reduceSub, Int.reduceMul, Int.reduceNeg, Int.reduceToNat]
  rw [decide_eq_false hb]
  have hb' : code.length ≤ 4096 := by omega
  simp (maxSteps := 2000000) -implicitDefEqProofs (disch := omega) only [xsW, xsC, xsD, xsE, fillA, reduceCtorEq, Nat.reduceAdd, Nat.reduceSub, Nat.reduceLeDiff, Nat.reduceMul, Int.reduceLT, Int.reduceLE, Int.reduceEq, Int.reduceNe, Int.reduceAdd, Int.reduceSub, Int.reduceMul, Int.reduceNeg, Int.reduceToNat]
  refine fq_use (spec_DrawSolutionsOf s hb' hc n1 (by omega)) fun x2 h2 c hn2 hs2 ⟨v2, u2, vs2, ll, q, e2, s2, f2⟩ => ?_
  subst e2
  obtain ⟨b1, b2, b3⟩ := f2.big
  have w1 := one_any (Sl.any s2.M.out)
  have w2 := one_any (Sl.any s2.Q)
  have w3 := sto_any (Sl.any s2.Q)
  have sc := s.keep (h' := h2) fun i _ b => hs2 i (by omega)
  have h3a : ∀ j, j < c → (upd h2 c (some ⟨30, [v2, u2], true, 0⟩)) j = h2 j := fun j hj => upd_other (by omega)
  have h3c : (upd h2 c (some ⟨30, [v2, u2], true, 0⟩)) c = some ⟨30, [v2, u2], true, 0⟩ := upd_same _ _ _
  simp (maxSteps := 2000000) -implicitDefEqProofs (disch := omega) only [xsW, xsC, xsD, xsE, fillA, reduceCtorEq, Nat.reduceAdd, Nat.reduceSub, Nat.reduceLeDiff, Nat.reduceMul, Int.reduceLT, Int.reduceLE, Int.reduceEq, Int.reduceNe, Int.reduceAdd, Int.reduceSub, Int.reduceMul, Int.reduceNeg, Int.reduceToNat,  w1, w2, w3]
  generalize (upd h2 c (some ⟨30, [v2, u2], true, 0⟩)) = h3 at h3a h3c ⊢
  have s3 := s2.keep (h' := h3) fun j a b => h3a j b
  replace sc := sc.keep (h' := h3) fun j a b => h3a j (by omega)
  clear s2 hs2 h3a
  refine fq_use (impl_SolutionsOf s3 b1 b2 b3 _ (by omega)) fun x4 h4 n4 hn4 hs4 ⟨v4, vs4, e4, z4⟩ => ?_
  subst e4
  have s4 := s3.keep (h' := h4) fun j a b => hs4 j (by omega)
  have c4 := (hs4 c (by omega)).trans h3c
  simp (maxSteps := 2000000) -implicitDefEqProofs (disch := omega) only [xsW, xsC, xsD, xsE, fillA, reduceCtorEq, Nat.reduceAdd, Nat.reduceSub, Nat.reduceLeDiff, Nat.reduceMul, Int.reduceLT, Int.reduceLE, Int.reduceEq, Int.reduceNe, Int.reduceAdd, Int.reduceSub, Int.reduceMul, Int.reduceNeg, Int.reduceToNat,  c4]
  refine fq_use (spec_SolutionsOf s4 b1 b2 b3 n4 (by omega)) fun x5 h5 n5 hn5 hs5 ⟨v5, vs5, e5, z5⟩ => ?_
  subst e5
  have s5 := s4.keep (h' := h5) fun j a b => hs5 j (by omega)
  have z4' := z4.keep (h' := h5) fun j a b => hs5 j (by omega)
  have c5 := (hs5 c (by omega)).trans c4
  replace sc := sc.keep (h' := h5) fun j a b => by rw [hs5 j (by omega), hs4 j (by omega)]
  have hsm := solsV_small ll q
  simp (maxSteps := 2000000) -implicitDefEqProofs (disch := omega) only [xsW, xsC, xsD, xsE, fillA, reduceCtorEq, Nat.reduceAdd, Nat.reduceSub, Nat.reduceLeDiff, Nat.reduceMul, Int.reduceLT, Int.reduceLE, Int.reduceEq, Int.reduceNe, Int.reduceAdd, Int.reduceSub, Int.reduceMul, Int.reduceNeg, Int.reduceToNat]
  refine q_use (laws_solutions9 z4' z5 hsm n5) fun n6 hn6 => ?_
  simp (maxSteps := 2000000) -implicitDefEqProofs (disch := omega) only [xsW, xsC, xsD, xsE, fillA, reduceCtorEq, Nat.reduceAdd, Nat.reduceSub, Nat.reduceLeDiff, Nat.reduceMul, Int.reduceLT, Int.reduceLE, Int.reduceEq, Int.reduceNe, Int.reduceAdd, Int.reduceSub, Int.reduceMul, Int.reduceNeg, Int.reduceToNat,  c5]
  refine q_use (impl_CountSolutions s5 b1 b2 b3 n6 (by omega)) fun n7 hn7 => ?_
  simp (maxSteps := 2000000) -implicitDefEqProofs (disch := omega) only [xsW, xsC, xsD, xsE, fillA, reduceCtorEq, Nat.reduceAdd, Nat.reduceSub, Nat.reduceLeDiff, Nat.reduceMul, Int.reduceLT, Int.reduceLE, Int.reduceEq, Int.reduceNe, Int.reduceAdd, Int.reduceSub, Int.reduceMul, Int.reduceNeg, Int.reduceToNat,  c5]
  refine q_use (spec_CountSolutions s5 b1 b2 b3 n7 (by omega)) fun n8 hn8 => ?_
  simp (maxSteps := 2000000) -implicitDefEqProofs (disch := omega) only [xsW, xsC, xsD, xsE, fillA, reduceCtorEq, Nat.reduceAdd, Nat.reduceSub, Nat.reduceLeDiff, Nat.reduceMul, Int.reduceLT, Int.reduceLE, Int.reduceEq, Int.reduceNe, Int.reduceAdd, Int.reduceSub, Int.reduceMul, Int.reduceNeg, Int.reduceToNat,  c5]
  refine fq_use (impl_LeastSolution s5 b1 b2 b3 n8 (by omega)) fun x9 h9 n9 hn9 hs9 ⟨v9, e9, z9⟩ => ?_
  subst e9
  have s9 := s5.keep (h' := h9) fun j a b => hs9 j (by omega)
  have z4'' := z4'.keep (h' := h9) fun j a b => hs9 j (by omega)
  have c9 := (hs9 c (by omega)).trans c5
  simp (maxSteps := 2000000) -implicitDefEqProofs (disch := omega) only [xsW, xsC, xsD, xsE, fillA, reduceCtorEq, Nat.reduceAdd, Nat.reduceSub, Nat.reduceLeDiff, Nat.reduceMul, Int.reduceLT, Int.reduceLE, Int.reduceEq, Int.reduceNe, Int.reduceAdd, Int.reduceSub, Int.reduceMul, Int.reduceNeg, Int.reduceToNat,  c9]
  refine fq_use (spec_LeastSolution s9 b1 b2 b3 n9 (by omega)) fun x10 h10 n10 hn10 hs10 ⟨v10, e10, z10⟩ => ?_
  subst e10
  have s10 := s9.keep (h' := h10) fun j a b => hs10 j (by omega)
  have Z4 := z4''.keep (h' := h10) fun j a b => hs10 j (by omega)
  have Z9 := z9.keep (h' := h10) fun j a b => hs10 j (by omega)
  have c10 := (hs10 c (by omega)).trans c9
  replace sc := sc.keep (h' := h10) fun j a b => by rw [hs10 j (by omega), hs9 j (by omega)]
  clear z4 z5 z4' z4'' z9 s3 s4 s5 s9 c4 c5 c9 h3c hs4 hs5 hs9 hs10
  simp (maxSteps := 2000000) -implicitDefEqProofs (disch := omega) only [xsW, xsC, xsD, xsE, fillA, reduceCtorEq, Nat.reduceAdd, Nat.reduceSub, Nat.reduceLeDiff, Nat.reduceMul, Int.reduceLT, Int.reduceLE, Int.reduceEq, Int.reduceNe, Int.reduceAdd, Int.reduceSub, Int.reduceMul, Int.reduceNeg, Int.reduceToNat]
  refine q_use (laws_fracs9_eq Z9 z10 (leastV_small ll q) n10) fun n11 hn11 => ?_
  simp (maxSteps := 2000000) -implicitDefEqProofs (disch := omega) only [xsW, xsC, xsD, xsE, fillA, reduceCtorEq, Nat.reduceAdd, Nat.reduceSub, Nat.reduceLeDiff, Nat.reduceMul, Int.reduceLT, Int.reduceLE, Int.reduceEq, Int.reduceNe, Int.reduceAdd, Int.reduceSub, Int.reduceMul, Int.reduceNeg, Int.reduceToNat]
  refine fq_use (spec_DrawGapOf sc hb' hc n11 (by omega)) fun x12 h12 e hn12 hs12 ⟨v12, u12, vs12, gl, gq, zz, f, e12, s12, f12, z12, l12⟩ => ?_
  subst e12
  obtain ⟨d1, d2, d3⟩ := f12.big
  have y1 := one_any (Sl.any s12.M.out)
  have y2 := one_any (Sl.any s12.Q)
  have y3 := sto_any (Sl.any s12.Q)
  have hf : f.length ≤ 1048576 := by omega
  simp (maxSteps := 2000000) -implicitDefEqProofs (disch := omega) only [xsW, xsC, xsD, xsE, fillA, reduceCtorEq, Nat.reduceAdd, Nat.reduceSub, Nat.reduceLeDiff, Nat.reduceMul, Int.reduceLT, Int.reduceLE, Int.reduceEq, Int.reduceNe, Int.reduceAdd, Int.reduceSub, Int.reduceMul, Int.reduceNeg, Int.reduceToNat,  y1, y2, y3]
  have h13a : ∀ j, j < e → (upd h12 e (some ⟨30, [v12, u12], true, 0⟩)) j = h12 j := fun j hj => upd_other (by omega)
  have h13c : (upd h12 e (some ⟨30, [v12, u12], true, 0⟩)) e = some ⟨30, [v12, u12], true, 0⟩ := upd_same _ _ _
  generalize (upd h12 e (some ⟨30, [v12, u12], true, 0⟩)) = h13 at h13a h13c ⊢
  have t13 := s12.keep (h' := h13) fun j a b => h13a j b
  have zf := z12.keep (h' := h13) fun j a b => h13a j b
  have s13 := s10.keep (h' := h13) fun j a b => by rw [h13a j (by omega), hs12 j (by omega)]
  have Z4b := Z4.keep (h' := h13) fun j a b => by rw [h13a j (by omega), hs12 j (by omega)]
  have Z9b := Z9.keep (h' := h13) fun j a b => by rw [h13a j (by omega), hs12 j (by omega)]
  have c13 : h13 c = some ⟨30, [v2, u2], true, 0⟩ := by rw [h13a c (by omega), hs12 c (by omega), c10]
  clear s12 z12 Z4 Z9 c10 s10 z10 h13a hs12
  refine q_use (impl_GapOf t13 d1 d2 d3 zf hf _ (by omega) (by omega)) fun n14 hn14 => ?_
  obtain ⟨gn, hgn⟩ : ∃ x, x = (gapV gl gq f).1.1 := ⟨_, rfl⟩
  obtain ⟨gd, hgd⟩ : ∃ x, x = (gapV gl gq f).1.2 := ⟨_, rfl⟩
  rw [← hgn, ← hgd]
  have h15a : ∀ j, j < n14 → (upd h13 n14 (some ⟨49, [.int .i64 gn, .int .i64 gd], true, 0⟩)) j = h13 j := fun j hj => upd_other (by omega)
  have h15c : (upd h13 n14 (some ⟨49, [.int .i64 gn, .int .i64 gd], true, 0⟩)) n14 = some ⟨49, [.int .i64 gn, .int .i64 gd], true, 0⟩ := upd_same _ _ _
  have h15e : (upd h13 n14 (some ⟨49, [.int .i64 gn, .int .i64 gd], true, 0⟩)) e = some ⟨30, [v12, u12], true, 0⟩ := by rw [upd_other (by omega), h13c]
  simp (maxSteps := 2000000) -implicitDefEqProofs (disch := omega) only [xsW, xsC, xsD, xsE, fillA, reduceCtorEq, Nat.reduceAdd, Nat.reduceSub, Nat.reduceLeDiff, Nat.reduceMul, Int.reduceLT, Int.reduceLE, Int.reduceEq, Int.reduceNe, Int.reduceAdd, Int.reduceSub, Int.reduceMul, Int.reduceNeg, Int.reduceToNat,  fr, h13c, h15e]
  generalize (upd h13 n14 (some ⟨49, [.int .i64 gn, .int .i64 gd], true, 0⟩)) = h15 at h15a h15c h15e ⊢
  have t15 := t13.keep (h' := h15) fun j a b => h15a j (by omega)
  have zf15 := zf.keep (h' := h15) fun j a b => h15a j (by omega)
  refine q_use (spec_GapOf t15 d1 d2 d3 zf15 hf _ (by omega) (by omega)) fun n16 hn16 => ?_
  rw [← hgn, ← hgd]
  have h17a : ∀ j, j < n16 → (upd h15 n16 (some ⟨49, [.int .i64 gn, .int .i64 gd], true, 0⟩)) j = h15 j := fun j hj => upd_other (by omega)
  have h17c : (upd h15 n16 (some ⟨49, [.int .i64 gn, .int .i64 gd], true, 0⟩)) n14 = some ⟨49, [.int .i64 gn, .int .i64 gd], true, 0⟩ := by rw [upd_other (by omega), h15c]
  have h17d : (upd h15 n16 (some ⟨49, [.int .i64 gn, .int .i64 gd], true, 0⟩)) n16 = some ⟨49, [.int .i64 gn, .int .i64 gd], true, 0⟩ := upd_same _ _ _
  have h17e : (upd h15 n16 (some ⟨49, [.int .i64 gn, .int .i64 gd], true, 0⟩)) e = some ⟨30, [v12, u12], true, 0⟩ := by rw [upd_other (by omega), h15e]
  simp (maxSteps := 2000000) -implicitDefEqProofs (disch := omega) only [xsW, xsC, xsD, xsE, fillA, reduceCtorEq, Nat.reduceAdd, Nat.reduceSub, Nat.reduceLeDiff, Nat.reduceMul, Int.reduceLT, Int.reduceLE, Int.reduceEq, Int.reduceNe, Int.reduceAdd, Int.reduceSub, Int.reduceMul, Int.reduceNeg, Int.reduceToNat,  fr, h15c, h15e, h17c, h17d, h17e, w_feq, fe_same]
  generalize (upd h15 n16 (some ⟨49, [.int .i64 gn, .int .i64 gd], true, 0⟩)) = h17 at h17a h17c h17d h17e ⊢
  have t17 := t15.keep (h' := h17) fun j a b => h17a j (by omega)
  have zf17 := zf15.keep (h' := h17) fun j a b => h17a j (by omega)
  have s17 := s13.keep (h' := h17) fun j a b => by rw [h17a j (by omega), h15a j (by omega)]
  have Z4 := Z4b.keep (h' := h17) fun j a b => by rw [h17a j (by omega), h15a j (by omega)]
  have Z9 := Z9b.keep (h' := h17) fun j a b => by rw [h17a j (by omega), h15a j (by omega)]
  have c17 : h17 c = some ⟨30, [v2, u2], true, 0⟩ := by rw [h17a c (by omega), h15a c (by omega), c13]
  clear t13 t15 zf zf15 s13 Z4b Z9b c13 h13c h15a h15c h15e h17a
  refine q_use (impl_IsAllowed t17 d1 d2 d3 zf17 hf _ (by omega) (by omega)) fun n18 hn18 => ?_
  simp (maxSteps := 2000000) -implicitDefEqProofs (disch := omega) only [xsW, xsC, xsD, xsE, fillA, reduceCtorEq, Nat.reduceAdd, Nat.reduceSub, Nat.reduceLeDiff, Nat.reduceMul, Int.reduceLT, Int.reduceLE, Int.reduceEq, Int.reduceNe, Int.reduceAdd, Int.reduceSub, Int.reduceMul, Int.reduceNeg, Int.reduceToNat,  h17e]
  refine q_use (spec_IsAllowed t17 d1 d2 d3 zf17 hf n18 (by omega) (by omega)) fun n19 hn19 => ?_
  obtain ⟨al, hal⟩ : ∃ x, x = (alwV gl gq f).1 := ⟨_, rfl⟩
  rw [← hal]
  simp (maxSteps := 2000000) -implicitDefEqProofs (disch := omega) only [xsW, xsC, xsD, xsE, fillA, reduceCtorEq, Nat.reduceAdd, Nat.reduceSub, Nat.reduceLeDiff, Nat.reduceMul, Int.reduceLT, Int.reduceLE, Int.reduceEq, Int.reduceNe, Int.reduceAdd, Int.reduceSub, Int.reduceMul, Int.reduceNeg, Int.reduceToNat]
  refine gd_dec (fun k1 => ?_) (fun k1 => ?_) <;> simp (maxSteps := 2000000) -implicitDefEqProofs (disch := omega) only [xsW, xsC, xsD, xsE, fillA, reduceCtorEq, Nat.reduceAdd, Nat.reduceSub, Nat.reduceLeDiff, Nat.reduceMul, Int.reduceLT, Int.reduceLE, Int.reduceEq, Int.reduceNe, Int.reduceAdd, Int.reduceSub, Int.reduceMul, Int.reduceNeg, Int.reduceToNat,  k1]
  refine cd_dec (fun k2 => ?_) (fun k2 => ?_) <;> simp (maxSteps := 2000000) -implicitDefEqProofs (disch := omega) only [xsW, xsC, xsD, xsE, fillA, reduceCtorEq, Nat.reduceAdd, Nat.reduceSub, Nat.reduceLeDiff, Nat.reduceMul, Int.reduceLT, Int.reduceLE, Int.reduceEq, Int.reduceNe, Int.reduceAdd, Int.reduceSub, Int.reduceMul, Int.reduceNeg, Int.reduceToNat,  k2]
  obtain ⟨g1, g2, g3⟩ := gap_said k1 k2
  rw [← hgn] at g2 g3
  rw [← hal] at g2 g3
  have qs := impl_IsSolution t17 d1 d2 d3 zf17 hf n19 (by omega) (by omega)
  rw [g1] at qs
  simp (maxSteps := 2000000) -implicitDefEqProofs (disch := omega) only [xsW, xsC, xsD, xsE, fillA, reduceCtorEq, Nat.reduceAdd, Nat.reduceSub, Nat.reduceLeDiff, Nat.reduceMul, Int.reduceLT, Int.reduceLE, Int.reduceEq, Int.reduceNe, Int.reduceAdd, Int.reduceSub, Int.reduceMul, Int.reduceNeg, Int.reduceToNat,  h17e]
  refine q_use qs fun n20 hn20 => ?_
  obtain ⟨gg, hgg⟩ : ∃ x, x = (isSolV gl gq f).1 := ⟨_, rfl⟩
  rw [← hgg] at g2
  rw [← hgg]
  have cs : (al = false ∧ gg = false) ∨ (al = true ∧ gn = 0 ∧ gg = true) ∨ (al = true ∧ 0 < gn ∧ gg = false) := by
    cases al
    · refine .inl ⟨rfl, ?_⟩
      cases gg
      · rfl
      · exact absurd (g2.1 rfl).1 (by simp)
    · have h0 := g3 rfl
      by_cases e0 : gn = 0
      · exact .inr (.inl ⟨rfl, e0, g2.2 ⟨rfl, e0⟩⟩)
      · refine .inr (.inr ⟨rfl, by omega, ?_⟩)
        cases gg
        · rfl
        · exact absurd (g2.1 rfl).2 e0
  clear hgg hal hgn g2 g3 hgd
  rcases cs with ⟨rfl, rfl⟩ | ⟨rfl, rfl, rfl⟩ | ⟨rfl, k3, rfl⟩
  simp (maxSteps := 2000000) -implicitDefEqProofs (disch := omega) only [xsW, xsC, xsD, xsE, fillA, reduceCtorEq, Nat.reduceAdd, Nat.reduceSub, Nat.reduceLeDiff, Nat.reduceMul, Int.reduceLT, Int.reduceLE, Int.reduceEq, Int.reduceNe, Int.reduceAdd, Int.reduceSub, Int.reduceMul, Int.reduceNeg, Int.reduceToNat,  h17c, h17d]
  rotate_left
  simp (maxSteps := 2000000) -implicitDefEqProofs (disch := omega) only [xsW, xsC, xsD, xsE, fillA, reduceCtorEq, Nat.reduceAdd, Nat.reduceSub, Nat.reduceLeDiff, Nat.reduceMul, Int.reduceLT, Int.reduceLE, Int.reduceEq, Int.reduceNe, Int.reduceAdd, Int.reduceSub, Int.reduceMul, Int.reduceNeg, Int.reduceToNat,  h17c, h17d]
  rotate_left
  have k3' : decide (gn = 0) = false := decide_eq_false (by omega)
  simp (maxSteps := 2000000) -implicitDefEqProofs (disch := omega) only [xsW, xsC, xsD, xsE, fillA, reduceCtorEq, Nat.reduceAdd, Nat.reduceSub, Nat.reduceLeDiff, Nat.reduceMul, Int.reduceLT, Int.reduceLE, Int.reduceEq, Int.reduceNe, Int.reduceAdd, Int.reduceSub, Int.reduceMul, Int.reduceNeg, Int.reduceToNat,  h17c, h17d, k3']
  all_goals
    refine cd_dec (fun k5 => ?_) (fun k5 => ?_)
    · rcases sols_zero (ll := ll) (q := q) with ⟨e, _⟩ | ⟨_, e⟩
      · exact absurd e k5
      · have hz := Z4.ln
        rw [e] at hz
        simp only [List.length_nil] at hz
        simp (maxSteps := 2000000) -implicitDefEqProofs (disch := omega) only [xsW, xsC, xsD, xsE, fillA, reduceCtorEq, Nat.reduceAdd, Nat.reduceSub, Nat.reduceLeDiff, Nat.reduceMul, Int.reduceLT, Int.reduceLE, Int.reduceEq, Int.reduceNe, Int.reduceAdd, Int.reduceSub, Int.reduceMul, Int.reduceNeg, Int.reduceToNat,  hz]
        first
          | done
          | rfl
    · have k6 : (solsV ll q).2 = 0 := Decidable.not_not.1 k5
      obtain ⟨_, hp⟩ : (solsV ll q).2 = 0 ∧ isProb ll q = true := by
        rcases sols_zero (ll := ll) (q := q) with h | ⟨h, _⟩
        · exact h
        · exact absurd k6 h
      have e1 : (cntS ll q).2 = 0 := k6
      have e2 : (cntS ll q).1 = (solsV ll q).1.length := rfl
      have hsl := hsm.1
      simp (maxSteps := 2000000) -implicitDefEqProofs (disch := omega) only [xsW, xsC, xsD, xsE, fillA, reduceCtorEq, Nat.reduceAdd, Nat.reduceSub, Nat.reduceLeDiff, Nat.reduceMul, Int.reduceLT, Int.reduceLE, Int.reduceEq, Int.reduceNe, Int.reduceAdd, Int.reduceSub, Int.reduceMul, Int.reduceNeg, Int.reduceToNat,  e1, e2, Z4.ln]
      refine loop_for (solsV ll q).1.length 0 (fun k (p : Bool) => [.any, .any, .bool false, .ptr c 0, v4, .any, .any, .any, .any, .any, .any, .any, v9, .int .i64 (leastV ll q).2, .any, .any, .any, .any, .any, .any, .any, .any, .any, .any, .any, .any, .any, .any, .bool p, .int .i64 k, .any, .any, .any, .any, .any, .any, .any, .any, .any, .any, .any, .any, .any, .any, .any, .any, .any, .any, .any, .any, .any, .any, .any, .any, .any, .any, .any, .any, .any, .any, .any, .any, .any, .any, .any, .any, .any, .any, .any, .any, .any, .any, .any, .any, .any, .any, .any, .any, .any, .any, .any, .any, .any, .any, .any, .any, .any, .any, .any, .any, .any, .any, .any, .any, .any, .any, .any, .any, .any, .any, .any, .any, .any, .any, .any, .any, .any, .any, .any, .any, .any, .any, .any, .any, .any, .any, .any, .any, .any, .any, .any, .any, .any, .any, .any, .any, .any, .any, .any, .any, .any, .any, .any, .any, .any, .any, .any, .any, .any, .any, .any, .any, .any, .any, .any, .any, .any, .any, .any, .any, .any, .any, .any, .any, .any, .any, .any, .any, .any, .any, .any, .any, .any, .any, .any, .any, .any, .any, .any, .any, .any, .any, .any, .any, .any, .any, .any, .any, .any, .any, .any, .any, .any, .any, .any, .any, .any, .any, .any, .any, .any, .any, .any, .any, .any, .any, .any, .any, .any, .any, .any, .any, .any, .any, .any, .any, .any, .any, .any, .any, .any, .any, .any, .any, .any, .any, .any, .any, .any, .any, .any, .any, .any, .any, .any, .any, .any, .any, .any, .any, .any, .any]) (fun k _ => h17)
        (fun k p _ => p = true ↔ ∃ j, j < k ∧ (solsV ll q).1.getD j [] = (leastV ll q).1) false (Nat.zero_le _) (by simp) (by simp [LeL, Le1]) (fun _ _ h => h) ?_
      rintro k p m - hk hm hI
      simp (maxSteps := 2000000) -implicitDefEqProofs (disch := omega) only [xsW, xsC, xsD, xsE, fillA, reduceCtorEq, Nat.reduceAdd, Nat.reduceSub, Nat.reduceLeDiff, Nat.reduceMul, Int.reduceLT, Int.reduceLE, Int.reduceEq, Int.reduceNe, Int.reduceAdd, Int.reduceSub, Int.reduceMul, Int.reduceNeg, Int.reduceToNat,  Z4.ln]
      refine cd_dec (fun k7 => ?_) (fun k7 => ?_) <;> simp (maxSteps := 2000000) -implicitDefEqProofs (disch := omega) only [xsW, xsC, xsD, xsE, fillA, reduceCtorEq, Nat.reduceAdd, Nat.reduceSub, Nat.reduceLeDiff, Nat.reduceMul, Int.reduceLT, Int.reduceLE, Int.reduceEq, Int.reduceNe, Int.reduceAdd, Int.reduceSub, Int.reduceMul, Int.reduceNeg, Int.reduceToNat,  k7]
      · have hk' : k < (solsV ll q).1.length := by omega
        have hx := getD_mem (d := []) hk'
        obtain ⟨x1, x2⟩ := each_said hp hx
        have hrow := Z4.row k hk'
        have hbv := Z4.out.below (by rw [Z4.slen]; omega)
        have hxl : ((solsV ll q).1.getD k []).length ≤ 1048576 := hsm.2 _ hx
        have x1' : (((solsV ll q).1.getD k []).length : Int) = q.length := by omega
        have qs := impl_IsSolution s17 b1 b2 b3 hrow hxl m (by omega) (by omega)
        have qf := laws_fracs9 hrow Z9 hxl
        rcases x2 with x3 | ⟨x3, x4⟩
        · rw [x3] at qs
          simp (maxSteps := 2000000) -implicitDefEqProofs (disch := omega) only [xsW, xsC, xsD, xsE, fillA, reduceCtorEq, Nat.reduceAdd, Nat.reduceSub, Nat.reduceLeDiff, Nat.reduceMul, Int.reduceLT, Int.reduceLE, Int.reduceEq, Int.reduceNe, Int.reduceAdd, Int.reduceSub, Int.reduceMul, Int.reduceNeg, Int.reduceToNat,  c17, Z4.ia, Z4.ld]
          refine q_use qs fun m2 hm2 => ?_
          simp (maxSteps := 2000000) -implicitDefEqProofs (disch := omega) only [xsW, xsC, xsD, xsE, fillA, reduceCtorEq, Nat.reduceAdd, Nat.reduceSub, Nat.reduceLeDiff, Nat.reduceMul, Int.reduceLT, Int.reduceLE, Int.reduceEq, Int.reduceNe, Int.reduceAdd, Int.reduceSub, Int.reduceMul, Int.reduceNeg, Int.reduceToNat,  c17, Z4.ia, Z4.ld, hrow.ln, s17.Q.ln, x1']
          cases p
          · simp (maxSteps := 2000000) -implicitDefEqProofs (disch := omega) only [xsW, xsC, xsD, xsE, fillA, reduceCtorEq, Nat.reduceAdd, Nat.reduceSub, Nat.reduceLeDiff, Nat.reduceMul, Int.reduceLT, Int.reduceLE, Int.reduceEq, Int.reduceNe, Int.reduceAdd, Int.reduceSub, Int.reduceMul, Int.reduceNeg, Int.reduceToNat,  Z4.ia, Z4.ld]
            refine q_use (qf _) fun m3 hm3 => ?_
            simp (maxSteps := 2000000) -implicitDefEqProofs (disch := omega) only [xsW, xsC, xsD, xsE, fillA, reduceCtorEq, Nat.reduceAdd, Nat.reduceSub, Nat.reduceLeDiff, Nat.reduceMul, Int.reduceLT, Int.reduceLE, Int.reduceEq, Int.reduceNe, Int.reduceAdd, Int.reduceSub, Int.reduceMul, Int.reduceNeg, Int.reduceToNat]
            refine ⟨decide ((solsV ll q).1.getD k [] = (leastV ll q).1), ?_, by omega, by omega, (by simp [LeL, Le1])⟩
            rw [decide_eq_true_eq]
            refine ⟨fun h => ⟨k, by omega, h⟩, fun ⟨j, hj, h⟩ => ?_⟩
            by_cases ej : j = k
            · subst ej; exact h
            · exact absurd (hI.2 ⟨j, by omega, h⟩) (by simp)
          · simp (maxSteps := 2000000) -implicitDefEqProofs (disch := omega) only [xsW, xsC, xsD, xsE, fillA, reduceCtorEq, Nat.reduceAdd, Nat.reduceSub, Nat.reduceLeDiff, Nat.reduceMul, Int.reduceLT, Int.reduceLE, Int.reduceEq, Int.reduceNe, Int.reduceAdd, Int.reduceSub, Int.reduceMul, Int.reduceNeg, Int.reduceToNat]
            obtain ⟨j, hj, h⟩ := hI.1 rfl
            exact ⟨true, ⟨fun _ => ⟨j, by omega, h⟩, fun _ => rfl⟩, by omega, by omega, (by simp [LeL, Le1])⟩
        · rw [x3, x4] at qs
          simp (maxSteps := 2000000) -implicitDefEqProofs (disch := omega) only [xsW, xsC, xsD, xsE, fillA, reduceCtorEq, Nat.reduceAdd, Nat.reduceSub, Nat.reduceLeDiff, Nat.reduceMul, Int.reduceLT, Int.reduceLE, Int.reduceEq, Int.reduceNe, Int.reduceAdd, Int.reduceSub, Int.reduceMul, Int.reduceNeg, Int.reduceToNat,  c17, Z4.ia, Z4.ld]
          refine q_use qs fun m2 hm2 => ?_
          simp (maxSteps := 2000000) -implicitDefEqProofs (disch := omega) only [xsW, xsC, xsD, xsE, fillA, reduceCtorEq, Nat.reduceAdd, Nat.reduceSub, Nat.reduceLeDiff, Nat.reduceMul, Int.reduceLT, Int.reduceLE, Int.reduceEq, Int.reduceNe, Int.reduceAdd, Int.reduceSub, Int.reduceMul, Int.reduceNeg, Int.reduceToNat,  c17, Z4.ia, Z4.ld, hrow.ln, s17.Q.ln, x1']
          cases p
          · simp (maxSteps := 2000000) -implicitDefEqProofs (disch := omega) only [xsW, xsC, xsD, xsE, fillA, reduceCtorEq, Nat.reduceAdd, Nat.reduceSub, Nat.reduceLeDiff, Nat.reduceMul, Int.reduceLT, Int.reduceLE, Int.reduceEq, Int.reduceNe, Int.reduceAdd, Int.reduceSub, Int.reduceMul, Int.reduceNeg, Int.reduceToNat,  Z4.ia, Z4.ld]
            refine q_use (qf _) fun m3 hm3 => ?_
            simp (maxSteps := 2000000) -implicitDefEqProofs (disch := omega) only [xsW, xsC, xsD, xsE, fillA, reduceCtorEq, Nat.reduceAdd, Nat.reduceSub, Nat.reduceLeDiff, Nat.reduceMul, Int.reduceLT, Int.reduceLE, Int.reduceEq, Int.reduceNe, Int.reduceAdd, Int.reduceSub, Int.reduceMul, Int.reduceNeg, Int.reduceToNat]
            refine ⟨decide ((solsV ll q).1.getD k [] = (leastV ll q).1), ?_, by omega, by omega, (by simp [LeL, Le1])⟩
            rw [decide_eq_true_eq]
            refine ⟨fun h => ⟨k, by omega, h⟩, fun ⟨j, hj, h⟩ => ?_⟩
            by_cases ej : j = k
            · subst ej; exact h
            · exact absurd (hI.2 ⟨j, by omega, h⟩) (by simp)
          · simp (maxSteps := 2000000) -implicitDefEqProofs (disch := omega) only [xsW, xsC, xsD, xsE, fillA, reduceCtorEq, Nat.reduceAdd, Nat.reduceSub, Nat.reduceLeDiff, Nat.reduceMul, Int.reduceLT, Int.reduceLE, Int.reduceEq, Int.reduceNe, Int.reduceAdd, Int.reduceSub, Int.reduceMul, Int.reduceNeg, Int.reduceToNat]
            obtain ⟨j, hj, h⟩ := hI.1 rfl
            exact ⟨true, ⟨fun _ => ⟨j, by omega, h⟩, fun _ => rfl⟩, by omega, by omega, (by simp [LeL, Le1])⟩
      · refine gd_dec (fun k8 => ?_) (fun k8 => ?_) <;> simp (maxSteps := 2000000) -implicitDefEqProofs (disch := omega) only [xsW, xsC, xsD, xsE, fillA, reduceCtorEq, Nat.reduceAdd, Nat.reduceSub, Nat.reduceLeDiff, Nat.reduceMul, Int.reduceLT, Int.reduceLE, Int.reduceEq, Int.reduceNe, Int.reduceAdd, Int.reduceSub, Int.reduceMul, Int.reduceNeg, Int.reduceToNat,  k8]
        obtain ⟨j, hj, h⟩ := least_said (Decidable.not_not.1 k8)
        have hp' := hI.2 ⟨j, by omega, h⟩
        subst hp'
        simp (maxSteps := 2000000) -implicitDefEqProofs (disch := omega) only [xsW, xsC, xsD, xsE, fillA, reduceCtorEq, Nat.reduceAdd, Nat.reduceSub, Nat.reduceLeDiff, Nat.reduceMul, Int.reduceLT, Int.reduceLE, Int.reduceEq, Int.reduceNe, Int.reduceAdd, Int.reduceSub, Int.reduceMul, Int.reduceNeg, Int.reduceToNat]
end Go.Proofs.YtkpibnhddhdooadGreat.L
