/- Contracts: a problem read from text by the program. -/
import Derived.Test.YtkpibnhddhdooacDoorB3
set_option linter.unusedSimpArgs false
set_option linter.unusedVariables false
namespace Go.Proofs.YtkpibnhddhdooacDoor.L
open Go Go.Proofs
def c_impl_readWholes : F := ⟨(.seq (.reg false [⟨some 2, .mv (.c .nilsl), none⟩, ⟨some 3, .mv (.c (.bool false)), none⟩]) (.seq (.reg false [⟨some 4, .mv (.c .nilsl), none⟩]) (.seq (.seq (.reg false [⟨some 9, .mv (.t 0), none⟩, ⟨(some 10), (.call (.f 68) [(.t 9), (.c (.str ⟨#[44]⟩))]), none⟩, ⟨some 11, .len (.t 10), none⟩, ⟨some 12, .mv (.c (.int .i64 0)), none⟩]) (.block 0 (.loop (.seq (.reg false [⟨some 13, .bin .lss (.t 12) (.t 11), none⟩]) (.seq (.cond (.t 13) .skip (.exit 0)) (.seq (.block 1 (.seq (.reg false [⟨some 14, .ia 1 (.t 10) (.t 12), none⟩, ⟨some 15, .ld1 (.t 14), none⟩, ⟨some 6, .mv (.t 15), none⟩]) (.seq (.reg false [⟨some 17, .mv (.t 6), none⟩, ⟨some 18, .call (.f 90) [(.t 17)], none⟩, ⟨some 16, .mv (.t 18), none⟩, ⟨some 19, .ext (.t 16) 0, none⟩, ⟨some 20, .ext (.t 16) 1, none⟩, ⟨some 7, .mv (.t 19), none⟩, ⟨some 8, .mv (.t 20), none⟩]) (.seq (.seq (.reg false [⟨some 21, .mv (.t 8), none⟩, ⟨some 22, .un .not (.t 21), none⟩]) (.cond (.t 22) (.seq (.reg false [⟨some 2, .mv (.c .nilsl), none⟩, ⟨some 3, .mv (.c (.bool false)), none⟩]) .ret) .skip)) (.reg false [⟨some 23, .mv (.t 4), none⟩, ⟨some 24, .mv (.t 7), none⟩, ⟨some 25, .lit 2 1 1 [(.int .i64 0)] [(0, (.t 24))], none⟩, ⟨some 26, .app 2 1 8 [(.int .i64 0)] (.t 23) (.t 25), none⟩, ⟨some 4, .mv (.t 26), none⟩]))))) (.reg false [⟨some 27, .bin .add (.t 12) (.c (.int .i64 1)), none⟩, ⟨some 12, .mv (.t 27), none⟩]))))))) (.seq (.reg false [⟨some 28, .mv (.t 4), none⟩, ⟨some 2, .mv (.t 28), none⟩, ⟨some 3, .mv (.c (.bool true)), none⟩]) .ret)))), 29, [(.t 2), (.t 3)]⟩
theorem k_impl_readWholes : compF Tryd.prog Tryd.f69 = some c_impl_readWholes := by kernel_rfl
def c_impl_ParseProblem : F := ⟨(.seq (.reg false [⟨some 2, .alloc 50 [.nilsl, .nilsl], none⟩, ⟨some 3, .mv (.c (.int .i64 0)), none⟩]) (.seq (.reg false [⟨some 15, .mv (.t 0), none⟩, ⟨(some 16), (.call (.f 67) [(.t 15), (.c (.str ⟨#[47]⟩))]), none⟩, ⟨some 14, .mv (.t 16), none⟩, ⟨some 17, .ext (.t 14) 0, none⟩, ⟨some 18, .ext (.t 14) 1, none⟩, ⟨some 19, .ext (.t 14) 2, none⟩, ⟨some 4, .mv (.t 17), none⟩, ⟨some 5, .mv (.t 18), none⟩, ⟨some 6, .mv (.t 19), none⟩]) (.seq (.seq (.reg false [⟨some 20, .mv (.t 6), none⟩, ⟨some 21, .un .not (.t 20), none⟩]) (.cond (.t 21) (.seq (.reg false [⟨some 22, .build [.nilsl, .nilsl] [], none⟩, ⟨none, .st 2 (.t 2) (.t 22), none⟩, ⟨some 3, .mv (.c (.int .i64 6)), none⟩]) .ret) .skip)) (.seq (.reg false [⟨some 7, .alloc 50 [.nilsl, .nilsl], none⟩]) (.seq (.seq (.reg false [⟨some 23, .mv (.t 4), none⟩, ⟨(some 24), (.call (.f 68) [(.t 23), (.c (.str ⟨#[59]⟩))]), none⟩, ⟨some 25, .len (.t 24), none⟩, ⟨some 26, .mv (.c (.int .i64 0)), none⟩]) (.block 0 (.loop (.seq (.reg false [⟨some 27, .bin .lss (.t 26) (.t 25), none⟩]) (.seq (.cond (.t 27) .skip (.exit 0)) (.seq (.block 1 (.seq (.reg false [⟨some 28, .ia 1 (.t 24) (.t 26), none⟩, ⟨some 29, .ld1 (.t 28), none⟩, ⟨some 9, .mv (.t 29), none⟩]) (.seq (.reg false [⟨some 31, .mv (.t 9), none⟩, ⟨some 32, .call (.f 69) [(.t 31)], none⟩, ⟨some 30, .mv (.t 32), none⟩, ⟨some 33, .ext (.t 30) 0, none⟩, ⟨some 34, .ext (.t 30) 1, none⟩, ⟨some 10, .mv (.t 33), none⟩, ⟨some 11, .mv (.t 34), none⟩]) (.seq (.seq (.reg false [⟨some 35, .mv (.t 11), none⟩, ⟨some 36, .un .not (.t 35), none⟩]) (.cond (.t 36) (.seq (.reg false [⟨some 37, .build [.nilsl, .nilsl] [], none⟩, ⟨none, .st 2 (.t 2) (.t 37), none⟩, ⟨some 3, .mv (.c (.int .i64 6)), none⟩]) .ret) .skip)) (.reg false [⟨some 38, .fa 0 (.t 7), none⟩, ⟨some 39, .ld1 (.t 38), none⟩, ⟨some 40, .mv (.t 10), none⟩, ⟨some 41, .lit 45 1 1 [.nilsl] [(0, (.t 40))], none⟩, ⟨some 42, .app 45 1 24 [.nilsl] (.t 39) (.t 41), none⟩, ⟨some 43, .fa 0 (.t 7), none⟩, ⟨none, .st 1 (.t 43) (.t 42), none⟩]))))) (.reg false [⟨some 44, .bin .add (.t 26) (.c (.int .i64 1)), none⟩, ⟨some 26, .mv (.t 44), none⟩]))))))) (.seq (.reg false [⟨some 46, .mv (.t 5), none⟩, ⟨some 47, .call (.f 69) [(.t 46)], none⟩, ⟨some 45, .mv (.t 47), none⟩, ⟨some 48, .ext (.t 45) 0, none⟩, ⟨some 49, .ext (.t 45) 1, none⟩, ⟨some 12, .mv (.t 48), none⟩, ⟨some 13, .mv (.t 49), none⟩]) (.seq (.reg false [⟨some 50, .mv (.t 12), none⟩, ⟨some 51, .fa 1 (.t 7), none⟩, ⟨none, .st 1 (.t 51) (.t 50), none⟩]) (.seq (.seq (.reg false [⟨some 52, .mv (.t 13), none⟩, ⟨some 53, .un .not (.t 52), none⟩, ⟨some 54, .mv (.t 53), none⟩, ⟨some 55, .ld 2 (.t 7), some (54, false)⟩, ⟨some 56, .call (.f 61) [(.t 55)], some (54, false)⟩, ⟨some 57, .un .not (.t 56), some (54, false)⟩, ⟨some 58, .pick (.t 54) (.c (.bool true)) (.t 57), none⟩]) (.cond (.t 58) (.seq (.reg false [⟨some 59, .build [.nilsl, .nilsl] [], none⟩, ⟨none, .st 2 (.t 2) (.t 59), none⟩, ⟨some 3, .mv (.c (.int .i64 6)), none⟩]) .ret) .skip)) (.seq (.reg false [⟨some 60, .ld 2 (.t 7), none⟩, ⟨none, .st 2 (.t 2) (.t 60), none⟩, ⟨some 3, .mv (.c (.int .i64 0)), none⟩]) .ret))))))))), 61, [(.ca 2 2), (.t 3)]⟩
theorem k_impl_ParseProblem : compF Tryd.prog Tryd.f32 = some c_impl_ParseProblem := by kernel_rfl

set_option maxHeartbeats 1000000 in
theorem impl_readWholes {h : AH} (t : Tabs h) (s : List UInt8) (hs : s.length ≤ 1048576) (n : Nat) (h4 : 4 ≤ n) : FQ Tryd.prog 69 [.str (bs s)] h n fun x h' n' =>
    (∃ l v, listR readW s = some l ∧ x = .tup [v, .bool true] ∧ Ints true n n' h' v l ∧ l.length ≤ s.length + 1) ∨ (listR readW s = none ∧ x = .tup [.nilsl, .bool false]) := by
  refine fq_intro Tryd.func69 k_impl_readWholes ?_
  simp (maxSteps := 2000000) -implicitDefEqProofs (disch := omega) only [c_impl_readWholes, xsW, xsC, xsD, xsE, fillA, reduceCtorEq, Nat.reduceAdd, Nat.reduceSub, Nat.reduceLeDiff, Nat.reduceMul, Int.reduceLT, Int.reduceLE, Int.reduceEq, Int.reduceNe, Int.reduceAdd, Int.reduceSub, Int.reduceMul, Int.reduceNeg, Int.reduceToNat]
  refine fq_use (lib_Split t 44 s (by omega) _) fun v1 h1 n1 hn1 hs1 ⟨en1, ev1, eh1⟩ => ?_
  subst en1
  obtain ⟨hlen, hpc⟩ := splitL_len 44 _ s (Nat.le_refl _)
  obtain ⟨ps, hps⟩ : ∃ ps, ps = splitL 44 s := ⟨_, rfl⟩
  have hR : listR readW s = allR readW ps := by rw [hps]; rfl
  rw [hR]
  rw [← hps] at ev1 eh1 hlen hpc
  have s1 : Sl true n (n + 1) h1 1 v1 (strs ps) := by
    rw [ev1]
    exact Sl.of_sl (by rw [eh1]; exact upd_same _ _ _) (by rw [strs_len]; simp) (Nat.le_refl _) (Nat.le_refl _) (by omega)
  have hsl : slen v1 = ps.length := by have := s1.len; rw [strs_len] at this; omega
  have t1 : Tabs h1 := t.keep fun i hi => hs1 i (by omega)
  clear ev1 eh1
  simp (maxSteps := 2000000) -implicitDefEqProofs (disch := omega) only [xsW, xsC, xsD, xsE, fillA, reduceCtorEq, Nat.reduceAdd, Nat.reduceSub, Nat.reduceLeDiff, Nat.reduceMul, Int.reduceLT, Int.reduceLE, Int.reduceEq, Int.reduceNe, Int.reduceAdd, Int.reduceSub, Int.reduceMul, Int.reduceNeg, Int.reduceToNat,  s1.ln, hsl]
  refine loop_for ps.length 0 (fun k p => [.str (bs s), .any, .nilsl, .bool false, p.1, .any, .any, .any, .any, .any, v1, .int .i64 ps.length, .int .i64 k, .any, .any, .any, .any, .any, .any, .any, .any, .any, .any, .any, .any, .any, .any, .any, .any]) (fun k (p : AV × List Int × AH) => p.2.2)
    (fun k p m => Acc (n + 1) m p.2.2 2 1 p.1 (ints p.2.1) ∧ allR readW (ps.take k) = some p.2.1 ∧ n + 1 ≤ m ∧ ∀ j, j < n + 1 → p.2.2 j = h1 j) (.nilsl, [], _) (Nat.zero_le _)
    ⟨Acc.nil, rfl, by omega, fun j hj => rfl⟩ (by simp [LeL, Le1]) (fun _ _ h => h) ?_
  rintro k ⟨v, l, hp⟩ m - hk hm ⟨a, al, hnm, old⟩
  simp only at a al hnm old
  have s2 := s1.keep (h' := hp) fun j _ hj => old j hj
  have ll := (allR_mem al).2.2
  rw [List.length_take] at ll
  simp (maxSteps := 2000000) -implicitDefEqProofs (disch := omega) only [xsW, xsC, xsD, xsE, fillA, reduceCtorEq, Nat.reduceAdd, Nat.reduceSub, Nat.reduceLeDiff, Nat.reduceMul, Int.reduceLT, Int.reduceLE, Int.reduceEq, Int.reduceNe, Int.reduceAdd, Int.reduceSub, Int.reduceMul, Int.reduceNeg, Int.reduceToNat]
  (refine cd_dec (fun c1 => ?_) (fun c1 => ?_) <;> simp (maxSteps := 2000000) -implicitDefEqProofs (disch := omega) only [xsW, xsC, xsD, xsE, fillA, reduceCtorEq, Nat.reduceAdd, Nat.reduceSub, Nat.reduceLeDiff, Nat.reduceMul, Int.reduceLT, Int.reduceLE, Int.reduceEq, Int.reduceNe, Int.reduceAdd, Int.reduceSub, Int.reduceMul, Int.reduceNeg, Int.reduceToNat,  c1])
  · have hk2 : k < ps.length := by omega
    have hld := fun (K : AV → AH → Nat → Prop) (h' : AH) (n : Nat) => s2.ld (k := k) (by rw [strs_len]; exact hk2) K h' n
    rw [strs_get ps k hk2] at hld
    have hm2 : ps.getD k [] ∈ ps := getD_mem hk2
    have hw := hpc _ hm2
    have etk : ps.take (k + 1) = ps.take k ++ [ps.getD k []] := take_succ_getD (d := []) hk2
    simp (maxSteps := 2000000) -implicitDefEqProofs (disch := omega) only [xsW, xsC, xsD, xsE, fillA, reduceCtorEq, Nat.reduceAdd, Nat.reduceSub, Nat.reduceLeDiff, Nat.reduceMul, Int.reduceLT, Int.reduceLE, Int.reduceEq, Int.reduceNe, Int.reduceAdd, Int.reduceSub, Int.reduceMul, Int.reduceNeg, Int.reduceToNat,  s2.ia, hsl, hld]
    obtain ⟨z, hz, hzy, hq⟩ := impl_readWhole (h := hp) (t1.keep fun i hi => old i (by omega)) (ps.getD k []) (by omega) m
    refine q_use hq fun n2 hn2 => ?_
    cases hb : readW (ps.getD k []) with
    | none =>
      simp only [Option.isSome]
      simp (maxSteps := 2000000) -implicitDefEqProofs (disch := omega) only [xsW, xsC, xsD, xsE, fillA, reduceCtorEq, Nat.reduceAdd, Nat.reduceSub, Nat.reduceLeDiff, Nat.reduceMul, Int.reduceLT, Int.reduceLE, Int.reduceEq, Int.reduceNe, Int.reduceAdd, Int.reduceSub, Int.reduceMul, Int.reduceNeg, Int.reduceToNat]
      exact fun _ _ _ => .inr (allR_none hm2 hb)
    | some y =>
      have ez := hzy y hb
      subst ez
      simp only [Option.isSome]
      simp (maxSteps := 2000000) -implicitDefEqProofs (disch := omega) only [xsW, xsC, xsD, xsE, fillA, reduceCtorEq, Nat.reduceAdd, Nat.reduceSub, Nat.reduceLeDiff, Nat.reduceMul, Int.reduceLT, Int.reduceLE, Int.reduceEq, Int.reduceNe, Int.reduceAdd, Int.reduceSub, Int.reduceMul, Int.reduceNeg, Int.reduceToNat]
      refine app_int (y := z) ((a.keep (fun i _ hi9 => by simp (disch := omega) only [upd_other])).wide (Nat.le_refl _) (by omega)) (by omega) (by omega) ⟨rfl, _, upd_same _ _ _, by simp, by simp [cutA]⟩ (by omega) fun v' h' n' q1 q2 q3 => ?_
      simp (maxSteps := 2000000) -implicitDefEqProofs (disch := omega) only [xsW, xsC, xsD, xsE, fillA, reduceCtorEq, Nat.reduceAdd, Nat.reduceSub, Nat.reduceLeDiff, Nat.reduceMul, Int.reduceLT, Int.reduceLE, Int.reduceEq, Int.reduceNe, Int.reduceAdd, Int.reduceSub, Int.reduceMul, Int.reduceNeg, Int.reduceToNat]
      exact ⟨(v', l ++ [z], h'), ⟨q2, by show allR readW (ps.take (k + 1)) = _; rw [etk]; exact allR_snoc al hb, by omega, fun j hj => (q3 j hj).trans ((upd_other (by omega)).trans (old j hj))⟩, by omega, by omega, (by simp [LeL, Le1]), fun _ _ h => h⟩
  · have e : k = ps.length := by omega
    subst e
    rw [List.take_length] at al
    intro _ h2 hh
    exact .inl ⟨l, v, al, rfl, (a.sl.keep fun j q1 q2 => hh j (by omega) q2).wide (by omega) (Nat.le_refl _), by omega⟩
theorem implP_some {ok : List (List Int) → List Int → Bool} {t a b : List UInt8} (h : cutL 47 t = some (a, b)) : implP ok t = bothR ok (rowsR readW a) (listR readW b) := by unfold implP; rw [h]
theorem implP_none {ok : List (List Int) → List Int → Bool} {t : List UInt8} (h : cutL 47 t = none) : implP ok t = none := by unfold implP; rw [h]
set_option maxHeartbeats 2000000 in
theorem impl_ParseProblem {h : AH} (t : Tabs h) (s : List UInt8) (hs : s.length ≤ 1048576) (n : Nat) (h4 : 4 ≤ n) : FQ Tryd.prog 32 [.str (bs s)] h n fun x h' n' =>
    (∃ m q v u vs, implP isProb s = some (m, q) ∧ x = .tup [.agg [v, u], .int .i64 0] ∧ Prob true n n' h' v u vs m q) ∨ (implP isProb s = none ∧ x = .tup [.agg [.nilsl, .nilsl], .int .i64 6]) := by
  refine fq_intro Tryd.func32 k_impl_ParseProblem ?_
  simp (maxSteps := 2000000) -implicitDefEqProofs (disch := omega) only [c_impl_ParseProblem, xsW, xsC, xsD, xsE, fillA, reduceCtorEq, Nat.reduceAdd, Nat.reduceSub, Nat.reduceLeDiff, Nat.reduceMul, Int.reduceLT, Int.reduceLE, Int.reduceEq, Int.reduceNe, Int.reduceAdd, Int.reduceSub, Int.reduceMul, Int.reduceNeg, Int.reduceToNat]
  have t0 : Tabs (upd h n (some ⟨50, [.nilsl, .nilsl], true, 0⟩)) := t.keep fun i hi => upd_other (by omega)
  refine q_use (lib_Cut t0 s [47] (by omega) _) fun n1 hn1 => ?_
  rw [lib_cutL]
  rcases cut_split 47 s with ⟨hcut, _, _⟩ | ⟨a, b, hcut, _, hab⟩
  · rw [hcut, implP_none hcut]
    simp only
    simp (maxSteps := 2000000) -implicitDefEqProofs (disch := omega) only [xsW, xsC, xsD, xsE, fillA, reduceCtorEq, Nat.reduceAdd, Nat.reduceSub, Nat.reduceLeDiff, Nat.reduceMul, Int.reduceLT, Int.reduceLE, Int.reduceEq, Int.reduceNe, Int.reduceAdd, Int.reduceSub, Int.reduceMul, Int.reduceNeg, Int.reduceToNat]
  rw [hcut, implP_some hcut]
  simp only
  have hl2 : s.length = a.length + b.length + 1 := by rw [hab]; simp; omega
  simp (maxSteps := 2000000) -implicitDefEqProofs (disch := omega) only [xsW, xsC, xsD, xsE, fillA, reduceCtorEq, Nat.reduceAdd, Nat.reduceSub, Nat.reduceLeDiff, Nat.reduceMul, Int.reduceLT, Int.reduceLE, Int.reduceEq, Int.reduceNe, Int.reduceAdd, Int.reduceSub, Int.reduceMul, Int.reduceNeg, Int.reduceToNat]
  have t1 : Tabs (upd (upd h n (some ⟨50, [.nilsl, .nilsl], true, 0⟩)) n1 (some ⟨50, [.nilsl, .nilsl], true, 0⟩)) := t0.keep fun i hi => upd_other (by omega)
  refine fq_use (lib_Split t1 59 a (by omega) _) fun v2 h2 n2 hn2 hs2 ⟨en2, ev2, eh2⟩ => ?_
  subst en2
  obtain ⟨hlen, hpc⟩ := splitL_len 59 _ a (Nat.le_refl _)
  obtain ⟨ps, hps⟩ : ∃ ps, ps = splitL 59 a := ⟨_, rfl⟩
  have hR : rowsR readW a = allR (listR readW) ps := by rw [hps]; rfl
  rw [hR]
  rw [← hps] at ev2 eh2 hlen hpc
  have s2 : Sl true (n1 + 1) (n1 + 1 + 1) h2 1 v2 (strs ps) := by
    rw [ev2]
    exact Sl.of_sl (by rw [eh2]; exact upd_same _ _ _) (by rw [strs_len]; simp) (Nat.le_refl _) (Nat.le_refl _) (by omega)
  have hsl : slen v2 = ps.length := by have := s2.len; rw [strs_len] at this; omega
  have t2 : Tabs h2 := t1.keep fun i hi => hs2 i (by omega)
  have eP : h2 n1 = some ⟨50, [.nilsl, .nilsl], true, 0⟩ := by rw [hs2 n1 (by omega), upd_same]
  have eR : h2 n = some ⟨50, [.nilsl, .nilsl], true, 0⟩ := by rw [hs2 n (by omega), upd_other (by omega), upd_same]
  clear ev2 eh2
  simp (maxSteps := 2000000) -implicitDefEqProofs (disch := omega) only [xsW, xsC, xsD, xsE, fillA, reduceCtorEq, Nat.reduceAdd, Nat.reduceSub, Nat.reduceLeDiff, Nat.reduceMul, Int.reduceLT, Int.reduceLE, Int.reduceEq, Int.reduceNe, Int.reduceAdd, Int.reduceSub, Int.reduceMul, Int.reduceNeg, Int.reduceToNat,  s2.ln, hsl]
  refine loop_for ps.length 0 (fun k p => [.str (bs s), .any, .ptr n 0, .int .i64 0, .str (bs a), .str (bs b), .bool true, .ptr n1 0, .any, .any, .any, .any, .any, .any, .any, .any, .any, .any, .any, .any, .any, .any, .any, .any, v2, .int .i64 ps.length, .int .i64 k, .any, .any, .any, .any, .any, .any, .any, .any, .any, .any, .any, .any, .any, .any, .any, .any, .any, .any, .any, .any, .any, .any, .any, .any, .any, .any, .any, .any, .any, .any, .any, .any, .any, .any]) (fun k (p : AV × List AV × List (List Int) × AH) => p.2.2.2)
    (fun k p m => p.2.2.2 n1 = some ⟨50, [p.1, .nilsl], true, 0⟩ ∧ (∀ j, j < n1 + 1 + 1 → j ≠ n1 → p.2.2.2 j = h2 j) ∧ Grow (n1 + 1 + 1) m p.2.2.2 p.2.2.2 45 p.1 p.2.1 p.2.2.1 ∧ p.2.2.1.length = k ∧ (∀ l ∈ p.2.2.1, l.length ≤ 1048576) ∧
      allR (listR readW) (ps.take k) = some p.2.2.1) (.nilsl, [], [], _) (Nat.zero_le _)
    ⟨eP, fun j _ _ => rfl, Grow.start, rfl, by simp, rfl⟩ (by simp [LeL, Le1]) (fun _ _ h => h) ?_
  rintro k ⟨out, ws, ll, hp⟩ m - hk hm ⟨pP, old, g, hll, hbd, hal⟩
  simp only at pP old g hll hbd hal
  have hnm := g.le
  have s4 := s2.keep (h' := hp) fun j q1 hj => old j hj (by omega)
  have ehp : hp n = some ⟨50, [.nilsl, .nilsl], true, 0⟩ := by rw [old n (by omega) (by omega), eR]
  have t4 : Tabs hp := t2.keep fun i hi => old i (by omega) (by omega)
  simp (maxSteps := 2000000) -implicitDefEqProofs (disch := omega) only [xsW, xsC, xsD, xsE, fillA, reduceCtorEq, Nat.reduceAdd, Nat.reduceSub, Nat.reduceLeDiff, Nat.reduceMul, Int.reduceLT, Int.reduceLE, Int.reduceEq, Int.reduceNe, Int.reduceAdd, Int.reduceSub, Int.reduceMul, Int.reduceNeg, Int.reduceToNat]
  (refine cd_dec (fun c2 => ?_) (fun c2 => ?_) <;> simp (maxSteps := 2000000) -implicitDefEqProofs (disch := omega) only [xsW, xsC, xsD, xsE, fillA, reduceCtorEq, Nat.reduceAdd, Nat.reduceSub, Nat.reduceLeDiff, Nat.reduceMul, Int.reduceLT, Int.reduceLE, Int.reduceEq, Int.reduceNe, Int.reduceAdd, Int.reduceSub, Int.reduceMul, Int.reduceNeg, Int.reduceToNat,  c2])
  · have hk2 : k < ps.length := by omega
    have hld := fun (K : AV → AH → Nat → Prop) (h' : AH) (n : Nat) => s4.ld (k := k) (by rw [strs_len]; exact hk2) K h' n
    rw [strs_get ps k hk2] at hld
    have hm2 : ps.getD k [] ∈ ps := getD_mem hk2
    have hw := hpc _ hm2
    have etk : ps.take (k + 1) = ps.take k ++ [ps.getD k []] := take_succ_getD (d := []) hk2
    simp (maxSteps := 2000000) -implicitDefEqProofs (disch := omega) only [xsW, xsC, xsD, xsE, fillA, reduceCtorEq, Nat.reduceAdd, Nat.reduceSub, Nat.reduceLeDiff, Nat.reduceMul, Int.reduceLT, Int.reduceLE, Int.reduceEq, Int.reduceNe, Int.reduceAdd, Int.reduceSub, Int.reduceMul, Int.reduceNeg, Int.reduceToNat,  s4.ia, hsl, hld]
    refine fq_use (impl_readWholes t4 (ps.getD k []) (by omega) _ (by omega)) fun x5 h5 n5 hn5 hs5 hx5 => ?_
    have ehp5 := (hs5 n (by omega)).trans ehp
    rcases hx5 with ⟨l5, v5, gl, rfl, s5, hl5⟩ | ⟨gl, rfl⟩
    · have pP5 := (hs5 n1 (by omega)).trans pP
      have o4 := one_any (Sl.any s5)
      have o5 := sto_any (Sl.any s5)
      have o6 := cel_any (Sl.any s5)
      have hbd2 : ∀ l ∈ ll ++ [l5], l.length ≤ 1048576 := fun l hl => by
        rw [List.mem_append, List.mem_singleton] at hl
        rcases hl with hl | rfl
        · exact hbd l hl
        · omega
      simp (maxSteps := 2000000) -implicitDefEqProofs (disch := omega) only [xsW, xsC, xsD, xsE, fillA, reduceCtorEq, Nat.reduceAdd, Nat.reduceSub, Nat.reduceLeDiff, Nat.reduceMul, Int.reduceLT, Int.reduceLE, Int.reduceEq, Int.reduceNe, Int.reduceAdd, Int.reduceSub, Int.reduceMul, Int.reduceNeg, Int.reduceToNat,  pP5, o4, o5, o6]
      refine g.app (hB := upd h5 n5 (some ⟨45, [v5], true, 0⟩)) (m1 := n5) (l := l5) (s5.keep (fun i _ hi9 => by simp (disch := omega) only [upd_other])) (fun i hi => by rw [upd_other (by omega), hs5 i hi]) (by omega) (by omega) (by omega) ⟨rfl, _, upd_same _ _ _, by simp, by simp [cutA]⟩ (by omega) fun out' h' n' q1 q2 => ?_
      have qold := q2.old
      have pP6 : h' n1 = some ⟨50, [out, .nilsl], true, 0⟩ := by rw [qold _ (by omega), pP]
      have o7 := one_any q2.acc.any
      have o8 := sto_any q2.acc.any
      have o9 := cel_any q2.acc.any
      simp (maxSteps := 2000000) -implicitDefEqProofs (disch := omega) only [xsW, xsC, xsD, xsE, fillA, reduceCtorEq, Nat.reduceAdd, Nat.reduceSub, Nat.reduceLeDiff, Nat.reduceMul, Int.reduceLT, Int.reduceLE, Int.reduceEq, Int.reduceNe, Int.reduceAdd, Int.reduceSub, Int.reduceMul, Int.reduceNeg, Int.reduceToNat,  pP6, o7, o8, o9]
      exact ⟨(out', ws ++ [v5], ll ++ [l5], upd h' n1 (some ⟨50, [out', .nilsl], true, 0⟩)), ⟨upd_same _ _ _, fun j hj hne => (upd_other hne).trans ((qold j (by omega)).trans (old j hj hne)), q2.re2 fun i a b => upd_other (by omega), by simp [hll], hbd2, by rw [etk]; exact allR_snoc hal gl⟩, by omega, by omega, (by simp [LeL, Le1]), fun _ _ h => h⟩
    · simp (maxSteps := 2000000) -implicitDefEqProofs (disch := omega) only [xsW, xsC, xsD, xsE, fillA, reduceCtorEq, Nat.reduceAdd, Nat.reduceSub, Nat.reduceLeDiff, Nat.reduceMul, Int.reduceLT, Int.reduceLE, Int.reduceEq, Int.reduceNe, Int.reduceAdd, Int.reduceSub, Int.reduceMul, Int.reduceNeg, Int.reduceToNat,  ehp5]
      exact fun _ _ _ => .inr (by rw [allR_none hm2 gl]; rfl)
  · have e : k = ps.length := by omega
    subst e
    rw [List.take_length] at hal
    refine fq_use (impl_readWholes t4 b (by omega) _ (by omega)) fun x5 h5 n5 hn5 hs5 hx5 => ?_
    have ehp5 := (hs5 n (by omega)).trans ehp
    have pP5 := (hs5 n1 (by omega)).trans pP
    have hgv := one_any g.acc.any
    have hgs := sto_any g.acc.any
    have hgc := cel_any g.acc.any
    rcases hx5 with ⟨q, vq, gq, rfl, sq, hql⟩ | ⟨gq, rfl⟩
    · have o4 := one_any (Sl.any sq)
      have o5 := sto_any (Sl.any sq)
      have o6 := cel_any (Sl.any sq)
      have P : Prob true (n1 + 1 + 1) n5 h5 out vq ws ll q := ⟨((g.rowsOf fun _ _ _ => rfl).keep fun i _ hi => hs5 i hi).wide (Nat.le_refl _) hn5, sq.wide (by omega) (Nat.le_refl _), fun _ h0 => by
        have b2 := Sl.own sq h0
        refine ⟨fun h1 => ?_, fun k hk h1 => ?_⟩
        · have b1 := g.acc.own h1
          omega
        · have b1 := Sl.own (g.rows.row k hk) h1
          omega⟩
      simp (maxSteps := 2000000) -implicitDefEqProofs (disch := omega) only [xsW, xsC, xsD, xsE, fillA, reduceCtorEq, Nat.reduceAdd, Nat.reduceSub, Nat.reduceLeDiff, Nat.reduceMul, Int.reduceLT, Int.reduceLE, Int.reduceEq, Int.reduceNe, Int.reduceAdd, Int.reduceSub, Int.reduceMul, Int.reduceNeg, Int.reduceToNat,  pP5, o4, o5, o6, hgv, hgs, hgc]
      refine q_use (impl_IsProblem (P.keep (fun i _ hi9 => by simp (disch := omega) only [upd_other])) (by omega) hbd (by omega) _ (by omega)) fun n6 hn6 => ?_
      rw [hal, gq]
      cases hf : isProb ll q
      · simp (maxSteps := 2000000) -implicitDefEqProofs (disch := omega) only [xsW, xsC, xsD, xsE, fillA, reduceCtorEq, Nat.reduceAdd, Nat.reduceSub, Nat.reduceLeDiff, Nat.reduceMul, Int.reduceLT, Int.reduceLE, Int.reduceEq, Int.reduceNe, Int.reduceAdd, Int.reduceSub, Int.reduceMul, Int.reduceNeg, Int.reduceToNat,  ehp5]
        exact fun _ _ _ => .inr (by simp [bothR, hf])
      · simp (maxSteps := 2000000) -implicitDefEqProofs (disch := omega) only [xsW, xsC, xsD, xsE, fillA, reduceCtorEq, Nat.reduceAdd, Nat.reduceSub, Nat.reduceLeDiff, Nat.reduceMul, Int.reduceLT, Int.reduceLE, Int.reduceEq, Int.reduceNe, Int.reduceAdd, Int.reduceSub, Int.reduceMul, Int.reduceNeg, Int.reduceToNat,  ehp5, pP5, hgv, o4]
        intro _ h9 hh
        exact .inl ⟨ll, q, out, vq, ws, by simp [bothR, hf], ⟨rfl, rfl⟩, (P.keep fun i a b => by rw [hh i (by omega) (by omega), upd_other (by omega), upd_other (by omega)]).wide (by omega) (by omega)⟩
    · simp (maxSteps := 2000000) -implicitDefEqProofs (disch := omega) only [xsW, xsC, xsD, xsE, fillA, reduceCtorEq, Nat.reduceAdd, Nat.reduceSub, Nat.reduceLeDiff, Nat.reduceMul, Int.reduceLT, Int.reduceLE, Int.reduceEq, Int.reduceNe, Int.reduceAdd, Int.reduceSub, Int.reduceMul, Int.reduceNeg, Int.reduceToNat,  pP5, ehp5, hgv, hgs, hgc]
      exact fun _ _ _ => .inr (by rw [hal, gq]; rfl)
end Go.Proofs.YtkpibnhddhdooacDoor.L
namespace Go.Proofs.YtkpibnhddhdooacDoor.L
open Go Go.Proofs
def c_laws_markProblem : F := ⟨(.seq (.reg false [⟨some 2, .box 50 (.t 0), none⟩, ⟨some 4, .mv (.c (.int .i64 0)), none⟩]) (.seq (.reg false [⟨some 5, .fa 0 (.t 2), none⟩, ⟨some 6, .ld1 (.t 5), none⟩, ⟨some 7, .mv (.t 1), none⟩, ⟨some 8, .call (.f 70) [(.t 6), (.t 7)], none⟩, ⟨some 1, .mv (.t 8), none⟩]) (.seq (.reg false [⟨some 9, .fa 1 (.t 2), none⟩, ⟨some 10, .ld1 (.t 9), none⟩, ⟨some 11, .mv (.t 1), none⟩, ⟨some 12, .call (.f 71) [(.t 10), (.t 11)], none⟩, ⟨some 1, .mv (.t 12), none⟩]) (.seq (.reg false [⟨some 13, .mv (.t 1), none⟩, ⟨some 4, .mv (.t 13), none⟩]) .ret)))), 14, [(.t 4)]⟩
theorem k_laws_markProblem : compF Tryd.prog Tryd.f33 = some c_laws_markProblem := by kernel_rfl
def c_laws_heldProblem : F := ⟨(.seq (.reg false [⟨some 2, .box 50 (.t 0), none⟩, ⟨some 4, .mv (.c (.int .i64 0)), none⟩]) (.seq (.reg false [⟨some 5, .fa 0 (.t 2), none⟩, ⟨some 6, .ld1 (.t 5), none⟩, ⟨some 7, .mv (.t 1), none⟩, ⟨some 8, .call (.f 72) [(.t 6), (.t 7)], none⟩, ⟨some 1, .mv (.t 8), none⟩]) (.seq (.seq (.reg false [⟨some 9, .mv (.t 1), none⟩, ⟨some 10, .bin .lss (.t 9) (.c (.int .i64 0)), none⟩]) (.cond (.t 10) (.seq (.reg false [⟨some 4, .mv (.c (.int .i64 (-1))), none⟩]) .ret) .skip)) (.seq (.reg false [⟨some 11, .fa 1 (.t 2), none⟩, ⟨some 12, .ld1 (.t 11), none⟩, ⟨some 13, .mv (.t 1), none⟩, ⟨some 14, .call (.f 73) [(.t 12), (.t 13)], none⟩, ⟨some 1, .mv (.t 14), none⟩]) (.seq (.seq (.reg false [⟨some 15, .mv (.t 1), none⟩, ⟨some 16, .bin .lss (.t 15) (.c (.int .i64 0)), none⟩]) (.cond (.t 16) (.seq (.reg false [⟨some 4, .mv (.c (.int .i64 (-1))), none⟩]) .ret) .skip)) (.seq (.reg false [⟨some 17, .mv (.t 1), none⟩, ⟨some 4, .mv (.t 17), none⟩]) .ret)))))), 18, [(.t 4)]⟩
theorem k_laws_heldProblem : compF Tryd.prog Tryd.f34 = some c_laws_heldProblem := by kernel_rfl
def c_laws_FnExactParseProblem : F := ⟨(.seq (.reg false [⟨some 2, .mv (.c (.bool false)), none⟩]) (.seq (.seq (.reg false [⟨some 11, .mv (.t 0), none⟩, ⟨some 12, .lens (.t 11), none⟩, ⟨some 13, .bin .gtr (.t 12) (.c (.int .i64 1048576)), none⟩]) (.cond (.t 13) (.seq (.reg false [⟨some 2, .mv (.c (.bool true)), none⟩]) .ret) .skip)) (.seq (.reg false [⟨some 15, .mv (.t 0), none⟩, ⟨some 16, .call (.f 31) [(.t 15)], none⟩, ⟨some 14, .mv (.t 16), none⟩, ⟨some 17, .ext (.t 14) 0, none⟩, ⟨some 18, .ext (.t 14) 1, none⟩, ⟨some 3, .alloc 50 [.nilsl, .nilsl], none⟩, ⟨none, .st 2 (.t 3) (.t 17), none⟩, ⟨some 4, .mv (.t 18), none⟩]) (.seq (.reg false [⟨some 20, .mv (.t 0), none⟩, ⟨some 21, .call (.f 32) [(.t 20)], none⟩, ⟨some 19, .mv (.t 21), none⟩, ⟨some 22, .ext (.t 19) 0, none⟩, ⟨some 23, .ext (.t 19) 1, none⟩, ⟨some 5, .alloc 50 [.nilsl, .nilsl], none⟩, ⟨none, .st 2 (.t 5) (.t 22), none⟩, ⟨some 6, .mv (.t 23), none⟩]) (.seq (.seq (.reg false [⟨some 24, .ld 2 (.t 5), none⟩, ⟨some 25, .ld 2 (.t 3), none⟩, ⟨some 26, .call (.f 30) [(.t 24), (.t 25)], none⟩, ⟨some 27, .un .not (.t 26), none⟩, ⟨some 28, .mv (.t 27), none⟩, ⟨some 29, .mv (.t 6), some (28, false)⟩, ⟨some 30, .mv (.t 4), some (28, false)⟩, ⟨some 31, .bin .neq (.t 29) (.t 30), some (28, false)⟩, ⟨some 32, .pick (.t 28) (.c (.bool true)) (.t 31), none⟩]) (.cond (.t 32) (.seq (.reg false [⟨some 2, .mv (.c (.bool false)), none⟩]) .ret) .skip)) (.seq (.reg false [⟨some 7, .mv (.c (.int .i64 1)), none⟩]) (.seq (.reg false [⟨some 33, .ld 2 (.t 5), none⟩, ⟨some 34, .mv (.t 7), none⟩, ⟨some 35, .call (.f 33) [(.t 33), (.t 34)], none⟩, ⟨some 7, .mv (.t 35), none⟩]) (.seq (.reg false [⟨some 8, .mv (.c (.int .i64 1)), none⟩]) (.seq (.reg false [⟨some 36, .ld 2 (.t 5), none⟩, ⟨some 37, .mv (.t 8), none⟩, ⟨some 38, .call (.f 34) [(.t 36), (.t 37)], none⟩, ⟨some 8, .mv (.t 38), none⟩]) (.seq (.seq (.reg false [⟨some 39, .mv (.t 8), none⟩, ⟨some 40, .bin .lss (.t 39) (.c (.int .i64 0)), none⟩]) (.cond (.t 40) (.seq (.reg false [⟨some 2, .mv (.c (.bool false)), none⟩]) .ret) .skip)) (.seq (.seq (.reg false [⟨some 41, .mv (.t 8), none⟩, ⟨some 42, .mv (.t 7), none⟩, ⟨some 43, .bin .neq (.t 41) (.t 42), none⟩]) (.cond (.t 43) (.seq (.reg false [⟨some 2, .mv (.c (.bool false)), none⟩]) .ret) .skip)) (.seq (.reg false [⟨some 45, .mv (.t 0), none⟩, ⟨some 46, .call (.f 32) [(.t 45)], none⟩, ⟨some 44, .mv (.t 46), none⟩, ⟨some 47, .ext (.t 44) 0, none⟩, ⟨some 48, .ext (.t 44) 1, none⟩, ⟨some 9, .alloc 50 [.nilsl, .nilsl], none⟩, ⟨none, .st 2 (.t 9) (.t 47), none⟩, ⟨some 10, .mv (.t 48), none⟩]) (.seq (.seq (.reg false [⟨some 49, .ld 2 (.t 9), none⟩, ⟨some 50, .ld 2 (.t 3), none⟩, ⟨some 51, .call (.f 30) [(.t 49), (.t 50)], none⟩, ⟨some 52, .un .not (.t 51), none⟩, ⟨some 53, .mv (.t 52), none⟩, ⟨some 54, .mv (.t 10), some (53, false)⟩, ⟨some 55, .mv (.t 4), some (53, false)⟩, ⟨some 56, .bin .neq (.t 54) (.t 55), some (53, false)⟩, ⟨some 57, .pick (.t 53) (.c (.bool true)) (.t 56), none⟩]) (.cond (.t 57) (.seq (.reg false [⟨some 2, .mv (.c (.bool false)), none⟩]) .ret) .skip)) (.seq (.reg false [⟨some 8, .mv (.c (.int .i64 1)), none⟩]) (.seq (.reg false [⟨some 58, .ld 2 (.t 5), none⟩, ⟨some 59, .mv (.t 8), none⟩, ⟨some 60, .call (.f 34) [(.t 58), (.t 59)], none⟩, ⟨some 8, .mv (.t 60), none⟩]) (.seq (.seq (.reg false [⟨some 61, .mv (.t 8), none⟩, ⟨some 62, .bin .lss (.t 61) (.c (.int .i64 0)), none⟩]) (.cond (.t 62) (.seq (.reg false [⟨some 2, .mv (.c (.bool false)), none⟩]) .ret) .skip)) (.seq (.seq (.reg false [⟨some 63, .mv (.t 8), none⟩, ⟨some 64, .mv (.t 7), none⟩, ⟨some 65, .bin .neq (.t 63) (.t 64), none⟩]) (.cond (.t 65) (.seq (.reg false [⟨some 2, .mv (.c (.bool false)), none⟩]) .ret) .skip)) (.seq (.reg false [⟨some 2, .mv (.c (.bool true)), none⟩]) .ret)))))))))))))))))), 66, [(.t 2)]⟩
theorem k_laws_FnExactParseProblem : compF Tryd.prog Tryd.f6 = some c_laws_FnExactParseProblem := by kernel_rfl

theorem laws_markInt64SS3 {lo hi : Nat} {h : AH} {v : AV} {vs : List AV} {ll : List (List Int)} (s : Rows true lo hi h v vs ll) (k : Int) (h0 : 0 ≤ k) (hb : k + tot ll ≤ 4611686018427387904) (hl : ll.length ≤ 1048576) (n : Nat) (hn : hi ≤ n) :
    MQ Tryd.prog 70 [v, .int .i64 k] h n lo hi fun x h' n' => x = .int .i64 (k + tot ll) ∧ Rows true lo hi h' v vs (markLL k ll) ∧ (∀ i, (∀ j, j < ll.length → isSl (vs.getD j .any) = true → i ≠ bid (vs.getD j .any)) → h' i = h i) := by
  refine mq_intro Tryd.func70 k_laws_markInt64SS ?_
  simp (maxSteps := 2000000) -implicitDefEqProofs (disch := omega) only [c_laws_markInt64SS, xsW, xsC, xsD, xsE, fillA, reduceCtorEq, Nat.reduceAdd, Nat.reduceSub, Nat.reduceLeDiff, Nat.reduceMul, Int.reduceLT, Int.reduceLE, Int.reduceEq, Int.reduceNe, Int.reduceAdd, Int.reduceSub, Int.reduceMul, Int.reduceNeg, Int.reduceToNat]
  refine loop_for ll.length 0 (fun j _ => [v, .int .i64 (k + tot (ll.take j)), .any, .any, .int .i64 0, .int .i64 j, .any, .any, .any, .any, .any, .any, .any, .any, .any, .any, .any, .any, .any]) (fun _ hp => hp)
    (fun j hp m => Rows true lo hi hp v vs (markLL k (ll.take j) ++ ll.drop j) ∧ (∀ i, (∀ j, j < ll.length → isSl (vs.getD j .any) = true → i ≠ bid (vs.getD j .any)) → hp i = h i)) h (Nat.zero_le _) ⟨by simpa [markLL] using s, fun _ _ => rfl⟩ (by simp [LeL, Le1, tot]) (fun _ _ h => h) ?_
  rintro j hp m - hj hm ⟨g1, g2⟩
  have hlen : (markLL k (ll.take j) ++ ll.drop j).length = ll.length := by simp [markLL_len]; omega
  simp (maxSteps := 2000000) -implicitDefEqProofs (disch := omega) only [xsW, xsC, xsD, xsE, fillA, reduceCtorEq, Nat.reduceAdd, Nat.reduceSub, Nat.reduceLeDiff, Nat.reduceMul, Int.reduceLT, Int.reduceLE, Int.reduceEq, Int.reduceNe, Int.reduceAdd, Int.reduceSub, Int.reduceMul, Int.reduceNeg, Int.reduceToNat,  g1.ln, hlen]
  (refine cd_dec (fun c1 => ?_) (fun c1 => ?_) <;> simp (maxSteps := 2000000) -implicitDefEqProofs (disch := omega) only [xsW, xsC, xsD, xsE, fillA, reduceCtorEq, Nat.reduceAdd, Nat.reduceSub, Nat.reduceLeDiff, Nat.reduceMul, Int.reduceLT, Int.reduceLE, Int.reduceEq, Int.reduceNe, Int.reduceAdd, Int.reduceSub, Int.reduceMul, Int.reduceNeg, Int.reduceToNat,  c1])
  · have hj' : j < ll.length := by omega
    have hr := g1.row j (by omega)
    have e : (markLL k (ll.take j) ++ ll.drop j).getD j [] = ll.getD j [] := by
      have h1 : (markLL k (ll.take j)).length = j := by rw [markLL_len]; simp; omega
      simp [List.getD, List.getElem?_append_right, h1]
    rw [e] at hr
    have t1 := tot_take ll (j + 1)
    rw [take_succ_getD (d := []) hj', tot_snoc] at t1
    simp (maxSteps := 2000000) -implicitDefEqProofs (disch := omega) only [xsW, xsC, xsD, xsE, fillA, reduceCtorEq, Nat.reduceAdd, Nat.reduceSub, Nat.reduceLeDiff, Nat.reduceMul, Int.reduceLT, Int.reduceLE, Int.reduceEq, Int.reduceNe, Int.reduceAdd, Int.reduceSub, Int.reduceMul, Int.reduceNeg, Int.reduceToNat,  g1.ia, hlen, g1.ld]
    refine mq_use (laws_markInt64S hr (k + tot (ll.take j)) (by omega) (by omega) m (by omega)) (fun i a b => .inr ⟨a, b⟩) fun x h' n' q0 ⟨q1, q2, q3, q4⟩ => ?_
    subst q1
    simp (maxSteps := 2000000) -implicitDefEqProofs (disch := omega) only [xsW, xsC, xsD, xsE, fillA, reduceCtorEq, Nat.reduceAdd, Nat.reduceSub, Nat.reduceLeDiff, Nat.reduceMul, Int.reduceLT, Int.reduceLE, Int.reduceEq, Int.reduceNe, Int.reduceAdd, Int.reduceSub, Int.reduceMul, Int.reduceNeg, Int.reduceToNat]
    have hne : isSl (vs.getD j .any) = true ∨ h' = hp := by
      by_cases e0 : vs.getD j .any = .nilsl
      · right
        apply q4
        have := hr.slen
        rw [e0] at this
        exact List.eq_nil_of_length_eq_zero this.symm
      · exact .inl (Sl.isReal hr e0)
    have g3 := g1.row1 (by omega) q2 hne q3
    rw [markLL_step k ll j hj'] at g3
    refine ⟨h', ⟨g3, fun i h1 => ?_⟩, by omega, by omega, ?_, fun _ _ h => h⟩
    · rcases hne with hne | rfl
      · rw [q3 i (h1 j hj' hne), g2 i h1]
      · exact g2 i h1
    · rw [take_succ_getD (d := []) hj', tot_snoc]
      simp [LeL, Le1]
      omega
  · rw [List.take_of_length_le (by omega), List.drop_eq_nil_of_le (by omega), List.append_nil] at g1
    rw [List.take_of_length_le (by omega)]
    exact ⟨rfl, g1, g2⟩
theorem laws_markProblem3 {lo hi : Nat} {h : AH} {v u : AV} {vs : List AV} {ll : List (List Int)} {q : List Int} (s : Prob true lo hi h v u vs ll q) (k : Int) (h0 : 0 ≤ k) (hb : k + tot ll + q.length ≤ 4611686018427387904) (hl : ll.length ≤ 1048576) (n : Nat) (hn : hi ≤ n) :
    MQ Tryd.prog 33 [.agg [v, u], .int .i64 k] h n lo hi fun x h' n' => x = .int .i64 (k + tot ll + q.length) ∧ Prob true lo hi h' v u vs (markLL k ll) (markL (k + tot ll) q.length) ∧ (∀ i, i < n → (i < lo ∨ hi ≤ i) → h' i = h i) := by
  refine mq_intro Tryd.func33 k_laws_markProblem ?_
  have o1 := one_any (Sl.any s.M.out)
  have o2 := one_any (Sl.any s.Q)
  simp (maxSteps := 2000000) -implicitDefEqProofs (disch := omega) only [c_laws_markProblem, o1, o2, xsW, xsC, xsD, xsE, fillA, reduceCtorEq, Nat.reduceAdd, Nat.reduceSub, Nat.reduceLeDiff, Nat.reduceMul, Int.reduceLT, Int.reduceLE, Int.reduceEq, Int.reduceNe, Int.reduceAdd, Int.reduceSub, Int.reduceMul, Int.reduceNeg, Int.reduceToNat]
  have sM := s.M.keep (h' := upd h n (some ⟨50, [v, u], true, 0⟩)) (fun i _ hi9 => by simp (disch := omega) only [upd_other])
  have sQ := s.Q.keep (h' := upd h n (some ⟨50, [v, u], true, 0⟩)) (fun i _ hi9 => by simp (disch := omega) only [upd_other])
  refine mq_use (laws_markInt64SS3 sM k h0 (by omega) hl _ (by omega)) (fun i a b => .inr ⟨a, b⟩) fun x1 h1 n1 hn1 ⟨he1, hm1, hs1⟩ => ?_
  subst he1
  have far : ∀ i, (i < lo ∨ hi ≤ i) → h1 i = upd h n (some ⟨50, [v, u], true, 0⟩) i := fun i hi' => hs1 i fun j hj hsl e => by
    have := Sl.own (sM.row j hj) hsl
    omega
  have hbox : h1 n = some ⟨50, [v, u], true, 0⟩ := by rw [far n (by omega), upd_same]
  simp (maxSteps := 2000000) -implicitDefEqProofs (disch := omega) only [xsW, xsC, xsD, xsE, fillA, reduceCtorEq, Nat.reduceAdd, Nat.reduceSub, Nat.reduceLeDiff, Nat.reduceMul, Int.reduceLT, Int.reduceLE, Int.reduceEq, Int.reduceNe, Int.reduceAdd, Int.reduceSub, Int.reduceMul, Int.reduceNeg, Int.reduceToNat,  hbox]
  have sQ1 : Ints true lo hi h1 u q := Sl.keep1 sQ fun hsl => hs1 _ fun j hj h2 => fun e => (s.apart rfl hsl).2 j hj h2 e.symm
  refine mq_use (laws_markInt64S sQ1 _ (by omega) (by omega) n1 (by omega)) (fun i a b => .inr ⟨a, b⟩) fun x2 h2 n2 hn2 ⟨he2, hm2, hs2, hs3⟩ => ?_
  subst he2
  simp (maxSteps := 2000000) -implicitDefEqProofs (disch := omega) only [xsW, xsC, xsD, xsE, fillA, reduceCtorEq, Nat.reduceAdd, Nat.reduceSub, Nat.reduceLeDiff, Nat.reduceMul, Int.reduceLT, Int.reduceLE, Int.reduceEq, Int.reduceNe, Int.reduceAdd, Int.reduceSub, Int.reduceMul, Int.reduceNeg, Int.reduceToNat]
  have kept : ∀ i, (isSl u = true → i ≠ bid u) → h2 i = h1 i := fun i hi' => by
    by_cases hsl : isSl u = true
    · exact hs2 i (hi' hsl)
    · have e0 : q = [] := by
        by_cases e0 : u = .nilsl
        · have := sQ1.slen
          rw [e0] at this
          exact List.eq_nil_of_length_eq_zero this.symm
        · exact absurd (Sl.isReal sQ1 e0) hsl
      rw [hs3 e0]
  have hll : (markLL k ll).length = ll.length := markLL_len k ll
  refine ⟨⟨⟨hm1.out.keep1 fun hv => kept _ fun hu e => (s.apart rfl hu).1 hv e.symm, hm1.rows.keep1 fun j hj hr => kept _ fun hu e => (s.apart rfl hu).2 j (by omega) hr e, hm1.outer⟩, hm2, fun _ hu => ⟨(s.apart rfl hu).1, fun j hj hr => (s.apart rfl hu).2 j (by omega) hr⟩⟩, fun i h3 h4 => ?_⟩
  rw [kept i fun hu e => by have := Sl.own sQ1 hu; omega, far i h4, upd_other (by omega)]
theorem laws_heldProblem {w : Bool} {lo hi : Nat} {h : AH} {v u : AV} {vs : List AV} {ll : List (List Int)} {m : Nat} {k : Int} (s : Prob w lo hi h v u vs (markLL k ll) (markL (k + tot ll) m)) (h0 : 0 ≤ k) (hb : k + tot ll + m ≤ 4611686018427387904) (hl : ll.length ≤ 1048576) (n : Nat) (hn : hi ≤ n) :
    Q Tryd.prog 34 [.agg [v, u], .int .i64 k] h n (.int .i64 (k + tot ll + m)) := by
  refine q_intro Tryd.func34 k_laws_heldProblem ?_
  have o1 := one_any (Sl.any s.M.out)
  have o2 := one_any (Sl.any s.Q)
  simp (maxSteps := 2000000) -implicitDefEqProofs (disch := omega) only [c_laws_heldProblem, o1, o2, xsW, xsC, xsD, xsE, fillA, reduceCtorEq, Nat.reduceAdd, Nat.reduceSub, Nat.reduceLeDiff, Nat.reduceMul, Int.reduceLT, Int.reduceLE, Int.reduceEq, Int.reduceNe, Int.reduceAdd, Int.reduceSub, Int.reduceMul, Int.reduceNeg, Int.reduceToNat]
  refine q_use (laws_heldInt64SS (s.M.keep (fun i _ hi9 => by simp (disch := omega) only [upd_other])) h0 (by omega) hl _) fun n1 hn1 => ?_
  simp (maxSteps := 2000000) -implicitDefEqProofs (disch := omega) only [xsW, xsC, xsD, xsE, fillA, reduceCtorEq, Nat.reduceAdd, Nat.reduceSub, Nat.reduceLeDiff, Nat.reduceMul, Int.reduceLT, Int.reduceLE, Int.reduceEq, Int.reduceNe, Int.reduceAdd, Int.reduceSub, Int.reduceMul, Int.reduceNeg, Int.reduceToNat]
  refine q_use (laws_heldInt64S (s.Q.keep (fun i _ hi9 => by simp (disch := omega) only [upd_other])) (by omega) (by omega) _) fun n2 hn2 => ?_
  simp (maxSteps := 2000000) -implicitDefEqProofs (disch := omega) only [xsW, xsC, xsD, xsE, fillA, reduceCtorEq, Nat.reduceAdd, Nat.reduceSub, Nat.reduceLeDiff, Nat.reduceMul, Int.reduceLT, Int.reduceLE, Int.reduceEq, Int.reduceNe, Int.reduceAdd, Int.reduceSub, Int.reduceMul, Int.reduceNeg, Int.reduceToNat]
def probV (r : Option (List (List Int) × List Int)) : List (List Int) × List Int × Int := match r with
  | some p => (p.1, p.2, 0)
  | none => ([], [], 6)
theorem probV_uni {r : Option (List (List Int) × List Int)} {x : AV} {h' : AH} {n n' : Nat} (hx : (∃ m q v u vs, r = some (m, q) ∧ x = .tup [.agg [v, u], .int .i64 0] ∧ Prob true n n' h' v u vs m q) ∨ (r = none ∧ x = .tup [.agg [.nilsl, .nilsl], .int .i64 6])) :
    ∃ v u vs, x = .tup [.agg [v, u], .int .i64 (probV r).2.2] ∧ Prob true n n' h' v u vs (probV r).1 (probV r).2.1 := by
  rcases hx with ⟨m, q, v, u, vs, rfl, rfl, hp⟩ | ⟨rfl, rfl⟩
  · exact ⟨v, u, vs, rfl, hp⟩
  · exact ⟨.nilsl, .nilsl, [], rfl, ⟨Sl.nil, RowsV.nil, fun _ k hk => absurd hk (Nat.not_lt_zero _)⟩, Sl.nil, fun _ h => by simp [isSl] at h⟩
theorem isProb_mild (m : List (List Int)) (q : List Int) (h : isProb m q = true) : (∀ r ∈ m, Mild r) ∧ Mild q := by
  obtain ⟨_, _, h3, h4⟩ := isProb_small h
  exact ⟨fun r hr x hx => by have := (h3 r hr).2 x hx; omega, fun x hx => by have := h4.2 x hx; omega⟩
theorem tot_le {m : List (List Int)} (h : ∀ r ∈ m, r.length ≤ 5) : tot m ≤ m.length * 5 := by
  induction m with
  | nil => simp [tot]
  | cons r m ih =>
    have h1 := h r (by simp)
    have h2 := ih fun x hx => h x (by simp [hx])
    simp only [tot, List.length_cons, Nat.add_mul, Nat.one_mul]
    omega
theorem specP_small {s : List UInt8} : (probV (specP isProb s)).1.length ≤ 5 ∧ (∀ r ∈ (probV (specP isProb s)).1, r.length ≤ 5) ∧ (probV (specP isProb s)).2.1.length ≤ 5 := by
  rcases hs : specP isProb s with _ | p
  · exact ⟨by simp [probV], by simp [probV], by simp [probV]⟩
  · have h : isProb p.1 p.2 = true := by
      unfold specP at hs
      split at hs
      · exact (bothR_some.1 hs).2.2
      · cases hs
    obtain ⟨_, h2, h3, h4⟩ := isProb_small h
    exact ⟨h2, fun r hr => (h3 r hr).1, h4.1⟩
set_option maxRecDepth 100000 in
set_option maxHeartbeats 4000000 in
theorem laws_ParseProblem {h : AH} (t : Tabs h) (s : List UInt8) (n : Nat) (h4 : 4 ≤ n) : Q Tryd.prog 6 [.str (bs s)] h n (.bool true) := by
  refine q_intro Tryd.func6 k_laws_FnExactParseProblem ?_
  simp (maxSteps := 2000000) -implicitDefEqProofs (disch := omega) only [c_laws_FnExactParseProblem, bs_size, xsW, xsC, xsD, xsE, fillA, reduceCtorEq, Nat.reduceAdd, Nat.reduceSub, Nat.reduceLeDiff, Nat.reduceMul, Int.reduceLT, Int.reduceLE, Int.reduceEq, Int.reduceNe, Int.reduceAdd, Int.reduceSub, Int.reduceMul, Int.reduceNeg, Int.reduceToNat]
  (refine cd_dec (fun c1 => ?_) (fun c1 => ?_) <;> simp (maxSteps := 2000000) -implicitDefEqProofs (disch := omega) only [xsW, xsC, xsD, xsE, fillA, reduceCtorEq, Nat.reduceAdd, Nat.reduceSub, Nat.reduceLeDiff, Nat.reduceMul, Int.reduceLT, Int.reduceLE, Int.reduceEq, Int.reduceNe, Int.reduceAdd, Int.reduceSub, Int.reduceMul, Int.reduceNeg, Int.reduceToNat,  c1])
  have hs : s.length ≤ 1048576 := by omega
  obtain ⟨b1, b2, b3⟩ := specP_small (s := s)
  have same := parse_same isProb_mild s
  obtain ⟨ll, hll⟩ : ∃ ll, ll = (probV (specP isProb s)).1 := ⟨_, rfl⟩
  obtain ⟨q, hq⟩ : ∃ q, q = (probV (specP isProb s)).2.1 := ⟨_, rfl⟩
  obtain ⟨e, he⟩ : ∃ e, e = (probV (specP isProb s)).2.2 := ⟨_, rfl⟩
  refine fq_use (spec_ParseProblem s hs _ _) fun x1 h1 n1 hn1 hs1 hx1 => ?_
  obtain ⟨v1, u1, vs1, rfl, P1⟩ := probV_uni hx1
  rw [← hll, ← hq] at P1
  rw [← he]
  rw [← hll] at b1 b2
  rw [← hq] at b3
  have hb : ll.length ≤ 1048576 := by omega
  have hbb : ∀ l ∈ ll, l.length ≤ 1048576 := fun l hl => by have := b2 l hl; omega
  have hbq : q.length ≤ 1048576 := by omega
  have htot := tot_le b2
  have t1 : Tabs h1 := t.keep fun i hi => hs1 i (by omega)
  have o1 := one_any (Sl.any P1.M.out)
  have o2 := one_any (Sl.any P1.Q)
  simp (maxSteps := 2000000) -implicitDefEqProofs (disch := omega) only [xsW, xsC, xsD, xsE, fillA, reduceCtorEq, Nat.reduceAdd, Nat.reduceSub, Nat.reduceLeDiff, Nat.reduceMul, Int.reduceLT, Int.reduceLE, Int.reduceEq, Int.reduceNe, Int.reduceAdd, Int.reduceSub, Int.reduceMul, Int.reduceNeg, Int.reduceToNat,  o1, o2]
  refine fq_use (impl_ParseProblem (t1.keep fun i hi => upd_other (by omega)) s hs _ (by omega)) fun x2 h2 n2 hn2 hs2 hx2 => ?_
  obtain ⟨v2, u2, vs2, rfl, P2⟩ := probV_uni hx2
  rw [← same, ← hll, ← hq] at P2
  rw [← same, ← he]
  have o3 := one_any (Sl.any P2.M.out)
  have o4 := one_any (Sl.any P2.Q)
  have w2 : h2 n1 = some ⟨50, [v1, u1], true, 0⟩ := by rw [hs2 n1 (by omega), upd_same]
  have P1b : Prob true n n1 h2 v1 u1 vs1 ll q := P1.keep fun i a b => by rw [hs2 i (by omega), upd_other (by omega)]
  have t2 : Tabs h2 := t1.keep fun i hi => by rw [hs2 i (by omega), upd_other (by omega)]
  simp (maxSteps := 2000000) -implicitDefEqProofs (disch := omega) only [xsW, xsC, xsD, xsE, fillA, reduceCtorEq, Nat.reduceAdd, Nat.reduceSub, Nat.reduceLeDiff, Nat.reduceMul, Int.reduceLT, Int.reduceLE, Int.reduceEq, Int.reduceNe, Int.reduceAdd, Int.reduceSub, Int.reduceMul, Int.reduceNeg, Int.reduceToNat,  o3, o4, w2]
  refine q_use (laws_eqProblem (P2.keep (fun i _ hi9 => by simp (disch := omega) only [upd_other])) (P1b.keep (fun i _ hi9 => by simp (disch := omega) only [upd_other])) hb hbb hbq _ (by omega) (by omega)) fun n3 hn3 => ?_
  rw [decide_eq_true (⟨rfl, rfl⟩ : ll = ll ∧ q = q)]
  simp (maxSteps := 2000000) -implicitDefEqProofs (disch := omega) only [xsW, xsC, xsD, xsE, fillA, reduceCtorEq, Nat.reduceAdd, Nat.reduceSub, Nat.reduceLeDiff, Nat.reduceMul, Int.reduceLT, Int.reduceLE, Int.reduceEq, Int.reduceNe, Int.reduceAdd, Int.reduceSub, Int.reduceMul, Int.reduceNeg, Int.reduceToNat,  o3, o4]
  refine mq_use (laws_markProblem3 (P2.keep (h' := upd h2 n2 (some ⟨50, [v2, u2], true, 0⟩)) (fun i _ hi9 => by simp (disch := omega) only [upd_other])) 1 (by omega) (by omega) hb _ (by omega)) (fun i a b => .inl (by omega)) fun x3 h3 n4 hn4 ⟨e3, P3, f3⟩ => ?_
  subst e3
  have w3 : h3 n1 = some ⟨50, [v1, u1], true, 0⟩ := by rw [f3 n1 (by omega) (.inl (by omega)), upd_other (by omega), w2]
  have g3 : h3 n2 = some ⟨50, [v2, u2], true, 0⟩ := by rw [f3 n2 (by omega) (.inr (by omega)), upd_same]
  have P1c : Prob true n n1 h3 v1 u1 vs1 ll q := P1b.keep fun i a b => by rw [f3 i (by omega) (.inl (by omega)), upd_other (by omega)]
  have t3 : Tabs h3 := t2.keep fun i hi => by rw [f3 i (by omega) (.inl (by omega)), upd_other (by omega)]
  simp (maxSteps := 2000000) -implicitDefEqProofs (disch := omega) only [xsW, xsC, xsD, xsE, fillA, reduceCtorEq, Nat.reduceAdd, Nat.reduceSub, Nat.reduceLeDiff, Nat.reduceMul, Int.reduceLT, Int.reduceLE, Int.reduceEq, Int.reduceNe, Int.reduceAdd, Int.reduceSub, Int.reduceMul, Int.reduceNeg, Int.reduceToNat,  g3, o3, o4]
  refine q_use (laws_heldProblem P3 (by omega) (by omega) hb _ (by omega)) fun n5 hn5 => ?_
  simp (maxSteps := 2000000) -implicitDefEqProofs (disch := omega) only [xsW, xsC, xsD, xsE, fillA, reduceCtorEq, Nat.reduceAdd, Nat.reduceSub, Nat.reduceLeDiff, Nat.reduceMul, Int.reduceLT, Int.reduceLE, Int.reduceEq, Int.reduceNe, Int.reduceAdd, Int.reduceSub, Int.reduceMul, Int.reduceNeg, Int.reduceToNat]
  refine fq_use (impl_ParseProblem t3 s hs _ (by omega)) fun x6 h6 n6 hn6 hs6 hx6 => ?_
  obtain ⟨v6, u6, vs6, rfl, P6⟩ := probV_uni hx6
  rw [← same, ← hll, ← hq] at P6
  rw [← same, ← he]
  have o5 := one_any (Sl.any P6.M.out)
  have o6 := one_any (Sl.any P6.Q)
  have w6 := (hs6 n1 (by omega)).trans w3
  have g6 := (hs6 n2 (by omega)).trans g3
  have P1d : Prob true n n1 h6 v1 u1 vs1 ll q := P1c.keep fun i a b => hs6 i (by omega)
  have P3d := P3.keep (h' := h6) fun i a b => hs6 i (by omega)
  simp (maxSteps := 2000000) -implicitDefEqProofs (disch := omega) only [xsW, xsC, xsD, xsE, fillA, reduceCtorEq, Nat.reduceAdd, Nat.reduceSub, Nat.reduceLeDiff, Nat.reduceMul, Int.reduceLT, Int.reduceLE, Int.reduceEq, Int.reduceNe, Int.reduceAdd, Int.reduceSub, Int.reduceMul, Int.reduceNeg, Int.reduceToNat,  o5, o6, w6]
  refine q_use (laws_eqProblem (P6.keep (fun i _ hi9 => by simp (disch := omega) only [upd_other])) (P1d.keep (fun i _ hi9 => by simp (disch := omega) only [upd_other])) hb hbb hbq _ (by omega) (by omega)) fun n7 hn7 => ?_
  rw [decide_eq_true (⟨rfl, rfl⟩ : ll = ll ∧ q = q)]
  simp (maxSteps := 2000000) -implicitDefEqProofs (disch := omega) only [xsW, xsC, xsD, xsE, fillA, reduceCtorEq, Nat.reduceAdd, Nat.reduceSub, Nat.reduceLeDiff, Nat.reduceMul, Int.reduceLT, Int.reduceLE, Int.reduceEq, Int.reduceNe, Int.reduceAdd, Int.reduceSub, Int.reduceMul, Int.reduceNeg, Int.reduceToNat,  g6, o3, o4]
  refine q_use (laws_heldProblem (P3d.keep (fun i _ hi9 => by simp (disch := omega) only [upd_other])) (by omega) (by omega) hb _ (by omega)) fun n8 hn8 => ?_
  simp (maxSteps := 2000000) -implicitDefEqProofs (disch := omega) only [xsW, xsC, xsD, xsE, fillA, reduceCtorEq, Nat.reduceAdd, Nat.reduceSub, Nat.reduceLeDiff, Nat.reduceMul, Int.reduceLT, Int.reduceLE, Int.reduceEq, Int.reduceNe, Int.reduceAdd, Int.reduceSub, Int.reduceMul, Int.reduceNeg, Int.reduceToNat]
  trace_state
end Go.Proofs.YtkpibnhddhdooacDoor.L
