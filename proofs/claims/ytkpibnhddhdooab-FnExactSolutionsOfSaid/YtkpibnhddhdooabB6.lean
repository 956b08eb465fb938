/- Contracts: the program's solutions, in order. -/
import Derived.Test.YtkpibnhddhdooabB5
import Derived.Shelf.SlSortCmp.NoneTotal
namespace Go.Proofs.Ytkpibnhddhdooab.L
open Go Go.Proofs
set_option linter.unusedSimpArgs false
set_option linter.unusedVariables false
def c_impl_SolutionsOf : F := ⟨(.seq (.reg false [⟨(some 1), (.box 31 (.t 0)), none⟩, ⟨(some 2), (.mv (.c .nilsl)), none⟩, ⟨(some 3), (.mv (.c (.int .i64 0))), none⟩]) (.seq (.reg false [⟨(some 12), (.ld 2 (.t 1)), none⟩, ⟨(some 13), (.call (.f 31) [(.t 12)]), none⟩, ⟨(some 11), (.mv (.t 13)), none⟩, ⟨(some 14), (.ext (.t 11) 0), none⟩, ⟨(some 15), (.ext (.t 11) 1), none⟩, ⟨(some 4), (.mv (.t 14)), none⟩, ⟨(some 5), (.mv (.t 15)), none⟩]) (.seq (.seq (.reg false [⟨(some 16), (.mv (.t 5)), none⟩, ⟨(some 17), (.bin .neq (.t 16) (.c (.int .i64 0))), none⟩]) (.cond (.t 17) (.seq (.reg false [⟨(some 18), (.mv (.t 5)), none⟩, ⟨(some 2), (.mv (.c .nilsl)), none⟩, ⟨(some 3), (.mv (.t 18)), none⟩]) .ret) .skip)) (.seq (.reg false [⟨(some 6), (.mv (.c .nilsl)), none⟩]) (.seq (.seq (.reg false [⟨(some 19), (.mv (.t 4)), none⟩, ⟨(some 20), (.len (.t 19)), none⟩, ⟨(some 21), (.mv (.c (.int .i64 0))), none⟩]) (.block 0 (.loop (.seq (.reg false [⟨(some 22), (.bin .lss (.t 21) (.t 20)), none⟩]) (.seq (.cond (.t 22) .skip (.exit 0)) (.seq (.block 1 (.seq (.reg false [⟨(some 23), (.ia 1 (.t 19) (.t 21)), none⟩, ⟨(some 24), (.ld1 (.t 23)), none⟩, ⟨(some 8), (.mv (.t 24)), none⟩]) (.seq (.reg false [⟨(some 26), (.ld 2 (.t 1)), none⟩, ⟨(some 27), (.mv (.t 8)), none⟩, ⟨(some 28), (.call (.f 25) [(.t 26), (.t 27)]), none⟩, ⟨(some 25), (.mv (.t 28)), none⟩, ⟨(some 29), (.ext (.t 25) 0), none⟩, ⟨(some 30), (.ext (.t 25) 1), none⟩, ⟨(some 9), (.mv (.t 29)), none⟩, ⟨(some 10), (.mv (.t 30)), none⟩]) (.seq (.seq (.reg false [⟨(some 31), (.mv (.t 10)), none⟩, ⟨(some 32), (.bin .neq (.t 31) (.c (.int .i64 0))), none⟩]) (.cond (.t 32) (.seq (.reg false [⟨(some 33), (.mv (.t 10)), none⟩, ⟨(some 2), (.mv (.c .nilsl)), none⟩, ⟨(some 3), (.mv (.t 33)), none⟩]) .ret) .skip)) (.reg false [⟨(some 34), (.mv (.t 6)), none⟩, ⟨(some 35), (.mv (.t 9)), none⟩, ⟨(some 36), (.lit 33 1 1 [.nilsl] [(0, (.t 35))]), none⟩, ⟨(some 37), (.app 33 1 24 [.nilsl] (.t 34) (.t 36)), none⟩, ⟨(some 6), (.mv (.t 37)), none⟩]))))) (.reg false [⟨(some 38), (.bin .add (.t 21) (.c (.int .i64 1))), none⟩, ⟨(some 21), (.mv (.t 38)), none⟩]))))))) (.seq (.reg false [⟨(some 39), (.mv (.t 6)), none⟩, ⟨(some 40), (.call (.f 56) [(.t 39), (.f 57)]), none⟩]) (.seq (.reg false [⟨(some 41), (.mv (.t 6)), none⟩, ⟨(some 42), (.call (.f 58) [(.t 41), (.f 59)]), none⟩, ⟨(some 2), (.mv (.t 42)), none⟩, ⟨(some 3), (.mv (.c (.int .i64 0))), none⟩]) .ret))))))), 43, [(.t 2), (.t 3)]⟩
theorem k_impl_SolutionsOf : compF Try.prog Try.f16 = some c_impl_SolutionsOf := by kernel_rfl
theorem sort_nil {h : AH} {n g : Nat} (hf : okFn Try.prog 56 = true) : Q Try.prog 56 [.nilsl, .fn g []] h n (.tup []) := by
  refine ⟨n, hf, Nat.le_refl _, fun ρ w vs' hs ha hfresh => ?_⟩
  simp only [IsL] at ha
  obtain ⟨v1, _, rfl, hv, v2, _, rfl, hf2, rfl⟩ := ha
  simp only [Is] at hv hf2
  subst hv
  refine Calls.mono (AnyF.slices_SortFunc_none (P := Try.prog) (ρ := Try.sortL_ren) { Try.sortL with } none 0 v2 w) ?_
  rintro e w' ⟨rfl, rfl⟩
  exact ⟨.tuple #[], ρ, rfl, by simp [Is, IsL], hs, Cx.refl ρ w' none' n n fun i h1 h2 => by omega⟩
theorem compact_nil {h : AH} {n g : Nat} : Q Try.prog 58 [.nilsl, .fn g []] h n .nilsl := by
  refine q_intro Try.func58 k_slices_CompactFunc_SSimpl_Frac_Simpl_Frac ?_
  simp (maxSteps := 2000000) -implicitDefEqProofs (disch := omega) only [c_slices_CompactFunc_SSimpl_Frac_Simpl_Frac, xsW, xsC, if_true, if_false, ite_true, ite_false, forall_const, ne_eq, beq_self_eq_true, bne_self_eq_false, imp_self, true_implies, false_implies, implies_true, evP, evE, ev, setD, Nat.reduceAdd, Nat.reduceSub, reduceCtorEq, fillA, cutA, Nat.reduceLeDiff, Nat.reduceMul, Int.reduceLT, Int.reduceLE, Int.reduceEq, Int.reduceNe, Int.reduceAdd, Int.reduceSub, Int.reduceMul, Int.reduceNeg, Int.reduceToNat]
/-- The order of lists is one by which a sort may go. -/
theorem swo_lists {N : Nat} {zs : List FrL} (hg : ∀ z ∈ zs, GoodF N z) (h0 : 0 < zs.length) : Sort.SWO (ltOf fun x y => cmpL (zs.getD (ixm zs.length x) []) (zs.getD (ixm zs.length y) [])) := by
  have gj : ∀ x, GoodF N (zs.getD (ixm zs.length x) []) := fun x => hg _ (getD_mem (by unfold ixm; split <;> omega))
  have key : ∀ x y, ltOf (fun x y => cmpL (zs.getD (ixm zs.length x) []) (zs.getD (ixm zs.length y) [])) x y = true ↔ ltL (zs.getD (ixm zs.length x) []) (zs.getD (ixm zs.length y) []) := fun x y => by
    rw [ltOf, decide_eq_true_eq]; rfl
  have keyf : ∀ x y, ltOf (fun x y => cmpL (zs.getD (ixm zs.length x) []) (zs.getD (ixm zs.length y) [])) x y = false ↔ ¬ ltL (zs.getD (ixm zs.length x) []) (zs.getD (ixm zs.length y) []) := fun x y => by
    rw [ltOf, decide_eq_false_iff_not]; rfl
  refine ⟨fun x => (keyf x x).2 (ltL_irr (gj x)), fun x y z h1 h2 => (key x z).2 (ltL_trans N (gj x) (gj y) (gj z) ((key x y).1 h1) ((key y z).1 h2)), fun x y z h1 h2 => (keyf x z).2 fun h3 => ?_⟩
  rcases ltL_not (gj y) (gj x) ((keyf x y).1 h1) with a | a
  · rcases ltL_not (gj z) (gj y) ((keyf y z).1 h2) with b | b
    · exact ltL_irr (gj x) (ltL_trans N (gj x) (gj z) (gj x) h3 (ltL_trans N (gj z) (gj y) (gj x) b a))
    · rw [b] at h3; exact ltL_asy (gj y) (gj x) a h3
  · rw [← a] at h3; exact (keyf y z).1 h2 h3
theorem solV_feas {ll : List (List Int)} {q : List Int} (hp : isProb ll q = true) {s : Nat} (hs : s < pw ll.length) (hf : setP ll q feasT s = true) : solV ll q (s : Int) = (zF ll q s, 0) := by
  have hc : codeP ll q (s : Int) = 0 := codeP_zero.2 ⟨hp, decide_eq_true (by omega)⟩
  have ha : allFr (onlyF (ptF ll q (s : Int)) (s : Int)) = true := good_all (zF_good hp (setP_d hf))
  unfold solV
  rw [if_pos hc, Int.toNat_natCast, if_pos hf, if_pos ha]
  rfl
def solsV (ll : List (List Int)) (q : List Int) : List FrL × Int := if isProb ll q = true then (solsK ll q (pw ll.length), 0) else ([], 1)
theorem fracs_low {n : Nat} (l : FrL) : ∀ c ∈ fracs l, lowC n c = true := fun c hc => by
  simp only [fracs, List.mem_flatten, List.mem_map] at hc
  obtain ⟨_, ⟨p, _, rfl⟩, hc⟩ := hc
  simp only [List.mem_cons, List.not_mem_nil, or_false] at hc
  rcases hc with rfl | rfl <;> rfl
theorem low_sl {lo hi n es : Nat} {h : AH} {v : AV} {cs : List AV} (s : Sl true lo hi h es v cs) (hn : hi ≤ n) : lowC n v = true := by
  rcases s.shape with rfl | ⟨hw, _⟩ | ⟨h1, h2, h3, _⟩
  · rfl
  · cases hw
  · cases v <;> simp only [isSl, Bool.false_eq_true] at h1
    all_goals
      simp only [bid] at h3
      simp only [lowC, decide_eq_true_eq]
      omega
section
variable {w : Bool} {lo hi : Nat} {h : AH} {v u : AV} {vs : List AV} {ll : List (List Int)} {q : List Int}
theorem impl_SolutionsOf (s : Prob w lo hi h v u vs ll q) (hl : ll.length ≤ 1048576) (hll : ∀ l ∈ ll, l.length ≤ 1048576) (hq : q.length ≤ 1048576) (n : Nat) (hn : hi ≤ n) :
    FQ Try.prog 16 [.agg [v, u]] h n fun x h' n' => ∃ v' vs', x = .tup [v', .int .i64 (solsV ll q).2] ∧ Fows true n n' h' v' vs' (solsV ll q).1 := by
  refine fq_intro Try.func16 k_impl_SolutionsOf ?_
  have o1 := one_any (Sl.any s.M.out)
  have o2 := one_any (Sl.any s.Q)
  simp (maxSteps := 2000000) -implicitDefEqProofs (disch := omega) only [c_impl_SolutionsOf, o1, o2, xsW, xsC, if_true, if_false, ite_true, ite_false, forall_const, ne_eq, beq_self_eq_true, bne_self_eq_false, imp_self, true_implies, false_implies, implies_true, evP, evE, ev, setD, Nat.reduceAdd, Nat.reduceSub, reduceCtorEq, fillA, cutA, Nat.reduceLeDiff, Nat.reduceMul, Int.reduceLT, Int.reduceLE, Int.reduceEq, Int.reduceNe, Int.reduceAdd, Int.reduceSub, Int.reduceMul, Int.reduceNeg, Int.reduceToNat]
  refine fq_use (impl_FeasibleSets (s.keep (fun i _ hi9 => by simp (disch := omega) only [upd_other])) hl hll hq _ (by omega)) fun x1 h1 n1 hn1 hs1 ⟨v1, hx1, hv1⟩ => ?_
  subst hx1
  unfold solsV
  have hsv : setsV ll q feasT = if isProb ll q = true then (selL (setP ll q feasT) (pw ll.length), 0) else ([], 1) := rfl
  cases hp : isProb ll q
  · rw [hsv, hp]
    simp (maxSteps := 2000000) -implicitDefEqProofs (disch := omega) only [xsW, xsC, if_true, if_false, ite_true, ite_false, forall_const, ne_eq, beq_self_eq_true, bne_self_eq_false, imp_self, true_implies, false_implies, implies_true, evP, evE, ev, setD, Nat.reduceAdd, Nat.reduceSub, reduceCtorEq, fillA, cutA, Nat.reduceLeDiff, Nat.reduceMul, Int.reduceLT, Int.reduceLE, Int.reduceEq, Int.reduceNe, Int.reduceAdd, Int.reduceSub, Int.reduceMul, Int.reduceNeg, Int.reduceToNat]
    intro _ h2 hh
    exact ⟨.nilsl, [], rfl, Sl.nil, FowsV.nil, fun _ k hk => absurd hk (Nat.not_lt_zero _)⟩
  · rw [hsv, hp] at hv1 ⊢
    simp only [if_true] at hv1 ⊢
    obtain ⟨hm, hql, _⟩ := isProb_facts hp
    have hN := ((isMat_iff ll).1 hm).2.1
    have hpw := pw_le hN
    obtain ⟨F, hF⟩ : ∃ F, F = (List.range (pw ll.length)).filter (setP ll q feasT) := ⟨_, rfl⟩
    have hFl : F.length ≤ pw ll.length := by rw [hF]; have := List.length_filter_le (setP ll q feasT) (List.range (pw ll.length)); simpa using this
    have hFm : ∀ j, j < F.length → F.getD j 0 < pw ll.length ∧ setP ll q feasT (F.getD j 0) = true := fun j hj => by
      have : F.getD j 0 ∈ F := getD_mem hj
      rw [hF, List.mem_filter, List.mem_range, ← hF] at this
      exact this
    have hsel : selL (setP ll q feasT) (pw ll.length) = F.map fun i : Nat => (i : Int) := by rw [hF]; rfl
    rw [hsel] at hv1
    obtain ⟨zs, hzs⟩ : ∃ zs, zs = F.map (zF ll q) := ⟨_, rfl⟩
    have hzl : zs.length = F.length := by rw [hzs]; simp
    have hzg : ∀ z ∈ zs, GoodF ll.length z := fun z hz => by
      have e : zs = zsL ll q (pw ll.length) := by rw [hzs, hF]; rfl
      exact zsL_good hp z (by rw [← e]; exact hz)
    have hbox1 : h1 n = some ⟨31, [v, u], true, 0⟩ := by rw [hs1 n (by omega), upd_same]
    have hLl : (F.map fun i : Nat => (i : Int)).length = F.length := by simp
    have hLg : ∀ j, j < F.length → (F.map fun i : Nat => (i : Int)).getD j 0 = ((F.getD j 0 : Nat) : Int) := fun j hj => by simp [List.getD, hj]
    have hZg : ∀ j, j < F.length → zs.getD j [] = zF ll q (F.getD j 0) := fun j hj => by rw [hzs]; simp [List.getD, hj]
    simp (maxSteps := 2000000) -implicitDefEqProofs (disch := omega) only [xsW, xsC, if_true, if_false, ite_true, ite_false, forall_const, ne_eq, beq_self_eq_true, bne_self_eq_false, imp_self, true_implies, false_implies, implies_true, evP, evE, ev, setD, Nat.reduceAdd, Nat.reduceSub, reduceCtorEq, fillA, cutA, Nat.reduceLeDiff, Nat.reduceMul, Int.reduceLT, Int.reduceLE, Int.reduceEq, Int.reduceNe, Int.reduceAdd, Int.reduceSub, Int.reduceMul, Int.reduceNeg, Int.reduceToNat,  hv1.ln, hLl]
    refine loop_for F.length 0 (fun k p => [.any, .ptr n 0, .nilsl, .int .i64 0, .any, .any, p.1, .any, .any, .any, .any, .any, .any, .any, .any, .any, .any, .any, .any, v1, .int .i64 F.length, .int .i64 k, .any, .any, .any, .any, .any, .any, .any, .any, .any, .any, .any, .any, .any, .any, .any, .any, .any, .any, .any, .any, .any]) (fun _ (p : AV × List AV × AH) => p.2.2)
      (fun k p m => GrowF n1 m h1 p.2.2 33 p.1 p.2.1 (zs.take k) ∧ (k = 0 → p.1 = .nilsl)) (.nilsl, [], h1) (Nat.zero_le _) ⟨GrowF.start, fun _ => rfl⟩ (by simp [LeL, Le1]) (fun _ _ h => h) ?_
    rintro k ⟨out, ws, hp'⟩ m - hk hm1 ⟨g, hnil⟩
    simp only at g hnil
    have hold := g.old
    have hle := g.le
    simp (maxSteps := 2000000) -implicitDefEqProofs (disch := omega) only [xsW, xsC, if_true, if_false, ite_true, ite_false, forall_const, ne_eq, beq_self_eq_true, bne_self_eq_false, imp_self, true_implies, false_implies, implies_true, evP, evE, ev, setD, Nat.reduceAdd, Nat.reduceSub, reduceCtorEq, fillA, cutA, Nat.reduceLeDiff, Nat.reduceMul, Int.reduceLT, Int.reduceLE, Int.reduceEq, Int.reduceNe, Int.reduceAdd, Int.reduceSub, Int.reduceMul, Int.reduceNeg, Int.reduceToNat]
    (refine cd_dec (fun c1 => ?_) (fun c1 => ?_) <;> simp (maxSteps := 2000000) -implicitDefEqProofs (disch := omega) only [xsW, xsC, if_true, if_false, ite_true, ite_false, forall_const, ne_eq, beq_self_eq_true, bne_self_eq_false, imp_self, true_implies, false_implies, implies_true, evP, evE, ev, setD, Nat.reduceAdd, Nat.reduceSub, reduceCtorEq, fillA, cutA, Nat.reduceLeDiff, Nat.reduceMul, Int.reduceLT, Int.reduceLE, Int.reduceEq, Int.reduceNe, Int.reduceAdd, Int.reduceSub, Int.reduceMul, Int.reduceNeg, Int.reduceToNat,  c1])
    · have hk2 : k < F.length := by omega
      obtain ⟨f1, f2⟩ := hFm k hk2
      have hsv2 := solV_feas hp f1 f2
      have hv1' := hv1.keep (h' := hp') (fun i _ hi9 => by simp (disch := omega) only [upd_other, hold])
      have hbox2 : hp' n = some ⟨31, [v, u], true, 0⟩ := by rw [hold n (by omega), hbox1]
      have hLk := hLg k hk2
      simp (maxSteps := 2000000) -implicitDefEqProofs (disch := omega) only [xsW, xsC, if_true, if_false, ite_true, ite_false, forall_const, ne_eq, beq_self_eq_true, bne_self_eq_false, imp_self, true_implies, false_implies, implies_true, evP, evE, ev, setD, Nat.reduceAdd, Nat.reduceSub, reduceCtorEq, fillA, cutA, Nat.reduceLeDiff, Nat.reduceMul, Int.reduceLT, Int.reduceLE, Int.reduceEq, Int.reduceNe, Int.reduceAdd, Int.reduceSub, Int.reduceMul, Int.reduceNeg, Int.reduceToNat,  hv1'.ia, hv1'.ld, hLl, hLk, hbox2]
      refine fq_use (impl_SolutionOfSet ((s.keep (h' := h1) (fun i _ hi9 => by simp (disch := omega) only [upd_other, hs1])).keep (h' := hp') (fun i _ hi9 => by simp (disch := omega) only [upd_other, hold])) hl hll hq _ _ (by omega)) fun x3 h3 n3 hn3 hs3 ⟨v3, hx3, hv3⟩ => ?_
      subst hx3
      rw [hsv2] at hv3 ⊢
      have x1 := one_any (Sl.any hv3)
      have x2 := sto_any (Sl.any hv3)
      have x3 := cel_any (Sl.any hv3)
      simp (maxSteps := 2000000) -implicitDefEqProofs (disch := omega) only [xsW, xsC, if_true, if_false, ite_true, ite_false, forall_const, ne_eq, beq_self_eq_true, bne_self_eq_false, imp_self, true_implies, false_implies, implies_true, evP, evE, ev, setD, Nat.reduceAdd, Nat.reduceSub, reduceCtorEq, fillA, cutA, Nat.reduceLeDiff, Nat.reduceMul, Int.reduceLT, Int.reduceLE, Int.reduceEq, Int.reduceNe, Int.reduceAdd, Int.reduceSub, Int.reduceMul, Int.reduceNeg, Int.reduceToNat,  x1, x2, x3]
      refine g.app (hB := upd h3 n3 _) (v1 := v3) (l := zF ll q (F.getD k 0)) (hv3.keep (fun i _ hi9 => by simp (disch := omega) only [upd_other])) (fun i hi9 => by simp (disch := omega) only [upd_other, hs3]) hn3 (by omega) (by omega) ⟨rfl, _, upd_same _ _ _, by simp, by simp [cutA]⟩ (by rw [List.length_take]; omega) fun out' h' n' q1 q2 => ?_
      simp (maxSteps := 2000000) -implicitDefEqProofs (disch := omega) only [xsW, xsC, if_true, if_false, ite_true, ite_false, forall_const, ne_eq, beq_self_eq_true, bne_self_eq_false, imp_self, true_implies, false_implies, implies_true, evP, evE, ev, setD, Nat.reduceAdd, Nat.reduceSub, reduceCtorEq, fillA, cutA, Nat.reduceLeDiff, Nat.reduceMul, Int.reduceLT, Int.reduceLE, Int.reduceEq, Int.reduceNe, Int.reduceAdd, Int.reduceSub, Int.reduceMul, Int.reduceNeg, Int.reduceToNat]
      exact ⟨(out', ws ++ [v3], h'), by rw [take_succ_getD (d := []) (by omega), hZg k hk2]; exact q2, by omega, by omega, (by simp [LeL, Le1]), fun _ _ h => h⟩
    · have e : k = F.length := by omega
      subst e
      rw [List.take_of_length_le (by omega)] at g
      have okS : okFn Try.prog 56 = true := by kernel_rfl
      have okG : okFn Try.prog 57 = true := by kernel_rfl
      by_cases h0 : F.length = 0
      · have := hnil h0
        subst this
        refine q_use (sort_nil okS) fun n4 hn4 => ?_
        simp (maxSteps := 2000000) -implicitDefEqProofs (disch := omega) only [xsW, xsC, if_true, if_false, ite_true, ite_false, forall_const, ne_eq, beq_self_eq_true, bne_self_eq_false, imp_self, true_implies, false_implies, implies_true, evP, evE, ev, setD, Nat.reduceAdd, Nat.reduceSub, reduceCtorEq, fillA, cutA, Nat.reduceLeDiff, Nat.reduceMul, Int.reduceLT, Int.reduceLE, Int.reduceEq, Int.reduceNe, Int.reduceAdd, Int.reduceSub, Int.reduceMul, Int.reduceNeg, Int.reduceToNat]
        refine q_use compact_nil fun n5 hn5 => ?_
        simp (maxSteps := 2000000) -implicitDefEqProofs (disch := omega) only [xsW, xsC, if_true, if_false, ite_true, ite_false, forall_const, ne_eq, beq_self_eq_true, bne_self_eq_false, imp_self, true_implies, false_implies, implies_true, evP, evE, ev, setD, Nat.reduceAdd, Nat.reduceSub, reduceCtorEq, fillA, cutA, Nat.reduceLeDiff, Nat.reduceMul, Int.reduceLT, Int.reduceLE, Int.reduceEq, Int.reduceNe, Int.reduceAdd, Int.reduceSub, Int.reduceMul, Int.reduceNeg, Int.reduceToNat]
        intro _ h2 hh
        have hF0 : F = [] := List.eq_nil_of_length_eq_zero h0
        have e : solsK ll q (pw ll.length) = [] := by
          refine List.eq_nil_iff_forall_not_mem.2 fun x hx => ?_
          obtain ⟨t, t1, t2, t3⟩ := ((solsK_facts hp _).2.2 x).1 hx
          have : t ∈ F := by rw [hF, List.mem_filter, List.mem_range]; exact ⟨t1, t2⟩
          rw [hF0] at this; simp at this
        exact ⟨.nilsl, [], rfl, Sl.nil, by rw [e]; exact FowsV.nil, fun _ k hk => by rw [e] at hk; exact absurd hk (Nat.not_lt_zero _)⟩
      · have hwl := g.rows.len
        have hal := g.acc.len
        obtain ⟨i, rfl, hi1, hi2, hbi⟩ : ∃ i, out = .so i ws.length ∧ n1 ≤ i ∧ i < m ∧ hp' i = some ⟨33, ws, true, 1⟩ := by
          rcases g.acc.shape with e | ⟨i, b, e, _⟩ | ⟨i, mm, e, a1, a2, a3⟩
          · rw [e] at hal; simp only [slen, Nat.zero_mul] at hal; omega
          · rw [e] at hal; simp only [slen, Nat.zero_mul] at hal; omega
          · rw [e] at hal
            simp only [slen, Nat.mul_one] at hal
            exact ⟨i, by rw [e, hal], a1, a2, a3⟩
        have hapart : ∀ j, j < zs.length → isSl (ws.getD j .any) = true → bid (ws.getD j .any) ≠ i := fun j hj hs => g.apart j hj hs rfl
        have hzj : ∀ j, j < zs.length → GoodF ll.length (zs.getD j []) := fun j hj => hzg _ (getD_mem hj)
        refine mq_use (sort_bridge (P := Try.prog) (ρT := Try.sortL_ren) (lo := n1) (hi := m) (cf := fun x y => cmpL (zs.getD x []) (zs.getD y [])) Try.sortL okG okS hbi hi1 hi2 (Nat.le_refl _) (by omega) (by omega) (fun a ha => ?_) (by rw [hwl]; exact swo_lists hzg (by omega)) (fun x y hx hy h' hh' => ?_)) (fun i a b => .inl (by omega)) fun x4 h4 n4 hn4 ⟨hx4, js, hjp, hjs, hh4⟩ => ?_
        · obtain ⟨j, hj, rfl⟩ := List.mem_iff_getElem.1 ha
          have := low_sl (n := m) (g.rows.row j (by omega)) (Nat.le_refl _)
          simpa [List.getD, hj] using this
        · have hfr : ∀ x, x < ws.length → Fracs true n1 m h' (ws.getD x .any) (zs.getD x []) := fun x hx => by
            have hr := g.rows.row x (by omega)
            exact Sl.lowB hr (fracs_low _) fun hs => hh' _ (Sl.own hr hs).2 (hapart x (by omega) hs)
          exact impl_compareLists (hfr x hx) (hfr y hy) (hzj x (by omega)) (hzj y (by omega)) hN _ (Nat.le_refl _) (Nat.le_refl _)
        · subst hx4
          obtain ⟨us, hus⟩ : ∃ us, us = js.map fun j => ws.getD j .any := ⟨_, rfl⟩
          obtain ⟨zs', hzs'⟩ : ∃ zs', zs' = js.map fun j => zs.getD j [] := ⟨_, rfl⟩
          rw [← hus] at hh4
          have hjl : js.length = ws.length := by rw [hjp.length_eq]; simp
          have hul : us.length = ws.length := by rw [hus, List.length_map, hjl]
          have hzl' : zs'.length = zs.length := by rw [hzs', List.length_map, hjl, hwl]
          have hjlt : ∀ j ∈ js, j < zs.length := fun j hj => by
            have := hjp.mem_iff.1 hj
            rw [List.mem_range] at this; omega
          have hjn : js.Nodup := hjp.nodup_iff.2 List.nodup_range
          have hug : ∀ k, k < js.length → us.getD k .any = ws.getD (js.getD k 0) .any ∧ zs'.getD k [] = zs.getD (js.getD k 0) [] := fun k hk => by rw [hus, hzs']; simp [List.getD, hk]
          have hrows4 : FowsV true n1 m h4 us zs' := by
            rw [hus, hzs']
            refine FowsV.pick (g.rows.keep1 fun j hj hs => ?_) hjn hjlt
            rw [hh4, upd_other (hapart j hj hs)]
          have hb4 : h4 i = some ⟨33, us, true, 1⟩ := by rw [hh4, upd_same]
          have hmem : ∀ x, x ∈ zs' ↔ x ∈ zsL ll q (pw ll.length) := fun x => by
            have e : zs = zsL ll q (pw ll.length) := by rw [hzs, hF]; rfl
            rw [← e, hzs', List.mem_map]
            constructor
            · rintro ⟨j, hj, rfl⟩; exact getD_mem (hjlt j hj)
            · intro hx
              obtain ⟨j, hj, rfl⟩ := List.mem_iff_getElem.1 hx
              exact ⟨j, hjp.mem_iff.2 (List.mem_range.2 (by omega)), by simp [List.getD, hj]⟩
          have hsorted : ddL zs' = solsK ll q (pw ll.length) := sorted_sols hp hmem fun a b hab hb => by
            rw [(hug a (by omega)).2, (hug b (by omega)).2]
            exact hjs a b hab (by omega)
          have hzg' : ∀ z ∈ zs', GoodF ll.length z := fun z hz => by rw [hzs', List.mem_map] at hz; obtain ⟨j, hj, rfl⟩ := hz; exact hzj j (hjlt j hj)
          have hapart' : ∀ j, j < zs'.length → isSl (us.getD j .any) = true → bid (us.getD j .any) ≠ i := fun j hj hs => by
            have hj2 : j < js.length := by omega
            rw [(hug j hj2).1] at hs ⊢
            exact hapart _ (hjlt _ (getD_mem hj2)) hs
          have e : AV.so i ws.length = AV.so i us.length := by rw [hul]
          rw [e]
          simp (maxSteps := 2000000) -implicitDefEqProofs (disch := omega) only [xsW, xsC, if_true, if_false, ite_true, ite_false, forall_const, ne_eq, beq_self_eq_true, bne_self_eq_false, imp_self, true_implies, false_implies, implies_true, evP, evE, ev, setD, Nat.reduceAdd, Nat.reduceSub, reduceCtorEq, fillA, cutA, Nat.reduceLeDiff, Nat.reduceMul, Int.reduceLT, Int.reduceLE, Int.reduceEq, Int.reduceNe, Int.reduceAdd, Int.reduceSub, Int.reduceMul, Int.reduceNeg, Int.reduceToNat]
          refine mq_use (slices_CompactFunc (lo := n1) (hi := m) (n := n4) hb4 hi1 hi2 hn4 hrows4 hapart' hzg' hN (by omega)) (fun i a b => .inl (by omega)) fun x5 h5 n5 hn5 ⟨hx5, hs5, hv5⟩ => ?_
          subst hx5
          simp (maxSteps := 2000000) -implicitDefEqProofs (disch := omega) only [xsW, xsC, if_true, if_false, ite_true, ite_false, forall_const, ne_eq, beq_self_eq_true, bne_self_eq_false, imp_self, true_implies, false_implies, implies_true, evP, evE, ev, setD, Nat.reduceAdd, Nat.reduceSub, reduceCtorEq, fillA, cutA, Nat.reduceLeDiff, Nat.reduceMul, Int.reduceLT, Int.reduceLE, Int.reduceEq, Int.reduceNe, Int.reduceAdd, Int.reduceSub, Int.reduceMul, Int.reduceNeg, Int.reduceToNat]
          intro _ h2 hh
          have hdn := ddI_nodup zs' us.length
          have hdlt : ∀ j ∈ ddI zs' us.length, j < zs'.length := fun j hj => by have := ddI_lt hj; omega
          have hrows5 := (hrows4.keep1 (h' := h5) fun j hj hs => hs5 _ (by have := Sl.own (hrows4.row j hj) hs; omega) (hapart' j hj hs)).pick hdn hdlt
          have e2 : (ddI zs' us.length).map (fun j => zs'.getD j []) = solsK ll q (pw ll.length) := by rw [← hsorted, ddL, hul, hwl, hzl']
          rw [e2] at hrows5
          refine ⟨.so i (ddI zs' us.length).length, _, rfl, (hv5.keep (h' := h2) fun j a b => hh j (by omega) (by omega)).wide (by omega) (by omega), (hrows5.keep (h' := h2) fun j a b => hh j (by omega) (by omega)).wide (by omega) (by omega), fun _ j hj hs => ?_⟩
          have hdj : j < (ddI zs' us.length).length := by rw [← e2, List.length_map] at hj; exact hj
          have e3 : ((ddI zs' us.length).map fun j => us.getD j .any).getD j .any = us.getD ((ddI zs' us.length).getD j 0) .any := by simp [List.getD, hdj]
          rw [e3] at hs ⊢
          exact hapart' _ (hdlt _ (getD_mem hdj)) hs
end
end Go.Proofs.Ytkpibnhddhdooab.L
/- Contracts: solutions told and counted. -/
namespace Go.Proofs.Ytkpibnhddhdooab.L
open Go
set_option linter.unusedSimpArgs false
set_option linter.unusedVariables false
def c_spec_SolutionsOf : F := ⟨(.seq (.reg false [⟨(some 1), (.box 31 (.t 0)), none⟩, ⟨(some 2), (.mv (.c .nilsl)), none⟩, ⟨(some 3), (.mv (.c (.int .i64 0))), none⟩]) (.seq (.seq (.reg false [⟨(some 8), (.ld 2 (.t 1)), none⟩, ⟨(some 9), (.call (.f 53) [(.t 8)]), none⟩, ⟨(some 10), (.un .not (.t 9)), none⟩]) (.cond (.t 10) (.seq (.reg false [⟨(some 2), (.mv (.c .nilsl)), none⟩, ⟨(some 3), (.mv (.c (.int .i64 1))), none⟩]) .ret) .skip)) (.seq (.reg false [⟨(some 11), (.ld 2 (.t 1)), none⟩, ⟨(some 12), (.call (.f 54) [(.t 11)]), none⟩, ⟨(some 4), (.mv (.t 12)), none⟩]) (.seq (.seq (.reg false [⟨(some 5), (.mv (.c (.int .i64 0))), none⟩]) (.block 0 (.loop (.seq (.seq (.reg false [⟨(some 13), (.mv (.t 5)), none⟩, ⟨(some 14), (.mv (.t 4)), none⟩, ⟨(some 15), (.len (.t 14)), none⟩, ⟨(some 16), (.bin .lss (.t 13) (.t 15)), none⟩]) (.cond (.t 16) .skip (.exit 0))) (.seq (.block 1 (.seq (.reg false [⟨(some 20), (.mv (.t 4)), none⟩, ⟨(some 21), (.mv (.t 5)), none⟩, ⟨(some 22), (.ia 1 (.t 20) (.t 21)), none⟩, ⟨(some 23), (.ld1 (.t 22)), none⟩, ⟨(some 24), (.call (.f 55) [(.t 23)]), none⟩, ⟨(some 19), (.mv (.t 24)), none⟩, ⟨(some 25), (.ext (.t 19) 0), none⟩, ⟨(some 26), (.ext (.t 19) 1), none⟩, ⟨(some 6), (.mv (.t 25)), none⟩, ⟨(some 7), (.mv (.t 26)), none⟩]) (.seq (.reg false [⟨(some 27), (.mv (.t 7)), none⟩, ⟨(some 28), (.bin .neq (.t 27) (.c (.int .i64 0))), none⟩]) (.cond (.t 28) (.seq (.reg false [⟨(some 29), (.mv (.t 7)), none⟩, ⟨(some 2), (.mv (.c .nilsl)), none⟩, ⟨(some 3), (.mv (.t 29)), none⟩]) .ret) .skip)))) (.reg false [⟨(some 17), (.mv (.t 5)), none⟩, ⟨(some 18), (.bin .add (.t 17) (.c (.int .i64 1))), none⟩, ⟨(some 5), (.mv (.t 18)), none⟩])))))) (.seq (.reg false [⟨(some 30), (.mv (.t 4)), none⟩, ⟨(some 2), (.mv (.t 30)), none⟩, ⟨(some 3), (.mv (.c (.int .i64 0))), none⟩]) .ret))))), 31, [(.t 2), (.t 3)]⟩
theorem k_spec_SolutionsOf : compF Try.prog Try.f15 = some c_spec_SolutionsOf := by kernel_rfl
def c_spec_CountSolutions : F := ⟨(.seq (.reg false [⟨(some 1), (.box 31 (.t 0)), none⟩, ⟨(some 2), (.mv (.c (.int .i64 0))), none⟩, ⟨(some 3), (.mv (.c (.int .i64 0))), none⟩]) (.seq (.seq (.reg false [⟨(some 4), (.ld 2 (.t 1)), none⟩, ⟨(some 5), (.call (.f 53) [(.t 4)]), none⟩, ⟨(some 6), (.un .not (.t 5)), none⟩]) (.cond (.t 6) (.seq (.reg false [⟨(some 2), (.mv (.c (.int .i64 0))), none⟩, ⟨(some 3), (.mv (.c (.int .i64 1))), none⟩]) .ret) .skip)) (.seq (.reg false [⟨(some 7), (.ld 2 (.t 1)), none⟩, ⟨(some 8), (.call (.f 54) [(.t 7)]), none⟩, ⟨(some 9), (.len (.t 8)), none⟩, ⟨(some 2), (.mv (.t 9)), none⟩, ⟨(some 3), (.mv (.c (.int .i64 0))), none⟩]) .ret))), 10, [(.t 2), (.t 3)]⟩
theorem k_spec_CountSolutions : compF Try.prog Try.f21 = some c_spec_CountSolutions := by kernel_rfl
def c_impl_CountSolutions : F := ⟨(.seq (.reg false [⟨(some 1), (.box 31 (.t 0)), none⟩, ⟨(some 2), (.mv (.c (.int .i64 0))), none⟩, ⟨(some 3), (.mv (.c (.int .i64 0))), none⟩]) (.seq (.reg false [⟨(some 7), (.ld 2 (.t 1)), none⟩, ⟨(some 8), (.call (.f 16) [(.t 7)]), none⟩, ⟨(some 6), (.mv (.t 8)), none⟩, ⟨(some 9), (.ext (.t 6) 0), none⟩, ⟨(some 10), (.ext (.t 6) 1), none⟩, ⟨(some 4), (.mv (.t 9)), none⟩, ⟨(some 5), (.mv (.t 10)), none⟩]) (.seq (.reg false [⟨(some 11), (.mv (.t 4)), none⟩, ⟨(some 12), (.len (.t 11)), none⟩, ⟨(some 13), (.mv (.t 5)), none⟩, ⟨(some 2), (.mv (.t 12)), none⟩, ⟨(some 3), (.mv (.t 13)), none⟩]) .ret))), 14, [(.t 2), (.t 3)]⟩
theorem k_impl_CountSolutions : compF Try.prog Try.f22 = some c_impl_CountSolutions := by kernel_rfl
def c_laws_FnExactCountSolutions : F := ⟨(.seq (.reg false [⟨(some 1), (.box 25 (.t 0)), none⟩, ⟨(some 2), (.mv (.c (.bool false))), none⟩]) (.seq (.reg false [⟨(some 3), (.mv (.c (.int .i64 1048576))), none⟩]) (.seq (.reg false [⟨(some 9), (.ld 2 (.t 1)), none⟩, ⟨(some 10), (.mv (.t 3)), none⟩, ⟨(some 11), (.call (.f 7) [(.t 9), (.t 10)]), none⟩, ⟨(some 3), (.mv (.t 11)), none⟩]) (.seq (.seq (.reg false [⟨(some 12), (.mv (.t 3)), none⟩, ⟨(some 13), (.bin .lss (.t 12) (.c (.int .i64 0))), none⟩]) (.cond (.t 13) (.seq (.reg false [⟨(some 2), (.mv (.c (.bool true))), none⟩]) .ret) .skip)) (.seq (.reg false [⟨(some 15), (.ld 2 (.t 1)), none⟩, ⟨(some 16), (.call (.f 10) [(.t 15)]), none⟩, ⟨(some 17), (.call (.f 21) [(.t 16)]), none⟩, ⟨(some 14), (.mv (.t 17)), none⟩, ⟨(some 18), (.ext (.t 14) 0), none⟩, ⟨(some 19), (.ext (.t 14) 1), none⟩, ⟨(some 4), (.mv (.t 18)), none⟩, ⟨(some 5), (.mv (.t 19)), none⟩]) (.seq (.reg false [⟨(some 20), (.ld 2 (.t 1)), none⟩, ⟨(some 21), (.call (.f 10) [(.t 20)]), none⟩, ⟨(some 6), (.alloc 31 [.nilsl, .nilsl]), none⟩, ⟨none, (.st 2 (.t 6) (.t 21)), none⟩]) (.seq (.reg false [⟨(some 23), (.ld 2 (.t 6)), none⟩, ⟨(some 24), (.call (.f 22) [(.t 23)]), none⟩, ⟨(some 22), (.mv (.t 24)), none⟩, ⟨(some 25), (.ext (.t 22) 0), none⟩, ⟨(some 26), (.ext (.t 22) 1), none⟩, ⟨(some 7), (.mv (.t 25)), none⟩, ⟨(some 8), (.mv (.t 26)), none⟩]) (.seq (.seq (.reg false [⟨(some 27), (.mv (.t 7)), none⟩, ⟨(some 28), (.mv (.t 4)), none⟩, ⟨(some 29), (.bin .neq (.t 27) (.t 28)), none⟩, ⟨(some 30), (.mv (.t 29)), none⟩, ⟨(some 31), (.mv (.t 8)), (some (30, false))⟩, ⟨(some 32), (.mv (.t 5)), (some (30, false))⟩, ⟨(some 33), (.bin .neq (.t 31) (.t 32)), (some (30, false))⟩, ⟨(some 34), (.pick (.t 30) (.c (.bool true)) (.t 33)), none⟩]) (.cond (.t 34) (.seq (.reg false [⟨(some 2), (.mv (.c (.bool false))), none⟩]) .ret) .skip)) (.seq (.seq (.reg true [⟨(some 35), (.ld 2 (.t 6)), none⟩, ⟨(some 36), (.ld 2 (.t 1)), none⟩, ⟨(some 37), (.call (.f 10) [(.t 36)]), none⟩, ⟨(some 38), (.call (.f 13) [(.t 35), (.t 37)]), none⟩, ⟨(some 39), (.un .not (.t 38)), none⟩]) (.cond (.t 39) (.seq (.reg false [⟨(some 2), (.mv (.c (.bool false))), none⟩]) .ret) .skip)) (.seq (.reg false [⟨(some 2), (.mv (.c (.bool true))), none⟩]) .ret)))))))))), 40, [(.t 2)]⟩
theorem k_laws_FnExactCountSolutions : compF Try.prog Try.f5 = some c_laws_FnExactCountSolutions := by kernel_rfl
section
variable {w : Bool} {lo hi : Nat} {h : AH} {v u : AV} {vs : List AV} {ll : List (List Int)} {q : List Int}
theorem spec_SolutionsOf (s : Prob w lo hi h v u vs ll q) (hl : ll.length ≤ 1048576) (hll : ∀ l ∈ ll, l.length ≤ 1048576) (hq : q.length ≤ 1048576) (n : Nat) (hn : hi ≤ n) :
    FQ Try.prog 15 [.agg [v, u]] h n fun x h' n' => ∃ v' vs', x = .tup [v', .int .i64 (solsV ll q).2] ∧ Fows true n n' h' v' vs' (solsV ll q).1 := by
  refine fq_intro Try.func15 k_spec_SolutionsOf ?_
  have o1 := one_any (Sl.any s.M.out)
  have o2 := one_any (Sl.any s.Q)
  simp (maxSteps := 2000000) -implicitDefEqProofs (disch := omega) only [c_spec_SolutionsOf, o1, o2, xsW, xsC, if_true, if_false, ite_true, ite_false, forall_const, ne_eq, beq_self_eq_true, bne_self_eq_false, imp_self, true_implies, false_implies, implies_true, evP, evE, ev, setD, Nat.reduceAdd, Nat.reduceSub, reduceCtorEq, fillA, cutA, Nat.reduceLeDiff, Nat.reduceMul, Int.reduceLT, Int.reduceLE, Int.reduceEq, Int.reduceNe, Int.reduceAdd, Int.reduceSub, Int.reduceMul, Int.reduceNeg, Int.reduceToNat]
  refine q_use (spec_l01Is (s.keep (fun i _ hi9 => by simp (disch := omega) only [upd_other])) hl hll hq _ (by omega)) fun n1 hn1 => ?_
  unfold solsV
  cases hp : isProb ll q
  · simp (maxSteps := 2000000) -implicitDefEqProofs (disch := omega) only [xsW, xsC, if_true, if_false, ite_true, ite_false, forall_const, ne_eq, beq_self_eq_true, bne_self_eq_false, imp_self, true_implies, false_implies, implies_true, evP, evE, ev, setD, Nat.reduceAdd, Nat.reduceSub, reduceCtorEq, fillA, cutA, Nat.reduceLeDiff, Nat.reduceMul, Int.reduceLT, Int.reduceLE, Int.reduceEq, Int.reduceNe, Int.reduceAdd, Int.reduceSub, Int.reduceMul, Int.reduceNeg, Int.reduceToNat]
    intro _ h2 hh
    exact ⟨.nilsl, [], rfl, Sl.nil, FowsV.nil, fun _ k hk => absurd hk (Nat.not_lt_zero _)⟩
  · have hN := ((isMat_iff ll).1 (isProb_facts hp).1).2.1
    have hpw := pw_le hN
    simp (maxSteps := 2000000) -implicitDefEqProofs (disch := omega) only [xsW, xsC, if_true, if_false, ite_true, ite_false, forall_const, ne_eq, beq_self_eq_true, bne_self_eq_false, imp_self, true_implies, false_implies, implies_true, evP, evE, ev, setD, Nat.reduceAdd, Nat.reduceSub, reduceCtorEq, fillA, cutA, Nat.reduceLeDiff, Nat.reduceMul, Int.reduceLT, Int.reduceLE, Int.reduceEq, Int.reduceNe, Int.reduceAdd, Int.reduceSub, Int.reduceMul, Int.reduceNeg, Int.reduceToNat]
    refine fq_use (spec_l02All (s.keep (fun i _ hi9 => by simp (disch := omega) only [upd_other])) hp n1 (by omega)) fun v1 h1 n2 hn2 hs1 ⟨vs1, hv1⟩ => ?_
    have hg := (solsK_facts hp (pw ll.length)).1
    have hsl := solsK_len ll q (pw ll.length)
    generalize solsK ll q (pw ll.length) = zs at hv1 hg hsl ⊢
    simp (maxSteps := 2000000) -implicitDefEqProofs (disch := omega) only [xsW, xsC, if_true, if_false, ite_true, ite_false, forall_const, ne_eq, beq_self_eq_true, bne_self_eq_false, imp_self, true_implies, false_implies, implies_true, evP, evE, ev, setD, Nat.reduceAdd, Nat.reduceSub, reduceCtorEq, fillA, cutA, Nat.reduceLeDiff, Nat.reduceMul, Int.reduceLT, Int.reduceLE, Int.reduceEq, Int.reduceNe, Int.reduceAdd, Int.reduceSub, Int.reduceMul, Int.reduceNeg, Int.reduceToNat]
    refine loop_for zs.length 0 (fun k (_ : Unit) => [.any, .ptr n 0, .nilsl, .int .i64 0, v1, .int .i64 k, .any, .any, .any, .any, .any, .any, .any, .any, .any, .any, .any, .any, .any, .any, .any, .any, .any, .any, .any, .any, .any, .any, .any, .any, .any]) (fun _ _ => h1) (fun _ _ _ => True) () (Nat.zero_le _) trivial (by simp [LeL, Le1]) (fun _ _ h => h) ?_
    rintro k - m hk0 hk hm -
    simp (maxSteps := 2000000) -implicitDefEqProofs (disch := omega) only [xsW, xsC, if_true, if_false, ite_true, ite_false, forall_const, ne_eq, beq_self_eq_true, bne_self_eq_false, imp_self, true_implies, false_implies, implies_true, evP, evE, ev, setD, Nat.reduceAdd, Nat.reduceSub, reduceCtorEq, fillA, cutA, Nat.reduceLeDiff, Nat.reduceMul, Int.reduceLT, Int.reduceLE, Int.reduceEq, Int.reduceNe, Int.reduceAdd, Int.reduceSub, Int.reduceMul, Int.reduceNeg, Int.reduceToNat,  hv1.ln]
    (refine cd_dec (fun c1 => ?_) (fun c1 => ?_) <;> simp (maxSteps := 2000000) -implicitDefEqProofs (disch := omega) only [xsW, xsC, if_true, if_false, ite_true, ite_false, forall_const, ne_eq, beq_self_eq_true, bne_self_eq_false, imp_self, true_implies, false_implies, implies_true, evP, evE, ev, setD, Nat.reduceAdd, Nat.reduceSub, reduceCtorEq, fillA, cutA, Nat.reduceLeDiff, Nat.reduceMul, Int.reduceLT, Int.reduceLE, Int.reduceEq, Int.reduceNe, Int.reduceAdd, Int.reduceSub, Int.reduceMul, Int.reduceNeg, Int.reduceToNat,  c1])
    · have hk2 : k < zs.length := by omega
      have hzk : GoodF ll.length (zs.getD k []) := hg _ (getD_mem hk2)
      simp (maxSteps := 2000000) -implicitDefEqProofs (disch := omega) only [xsW, xsC, if_true, if_false, ite_true, ite_false, forall_const, ne_eq, beq_self_eq_true, bne_self_eq_false, imp_self, true_implies, false_implies, implies_true, evP, evE, ev, setD, Nat.reduceAdd, Nat.reduceSub, reduceCtorEq, fillA, cutA, Nat.reduceLeDiff, Nat.reduceMul, Int.reduceLT, Int.reduceLE, Int.reduceEq, Int.reduceNe, Int.reduceAdd, Int.reduceSub, Int.reduceMul, Int.reduceNeg, Int.reduceToNat,  hv1.ia, hv1.ld]
      refine q_use (spec_l02Told (hv1.row k hk2) (by rw [hzk.1]; omega) (fun j hj => by
        have := fr1_b (hzk.at (k := j) (by rw [← hzk.1]; exact hj))
        exact ⟨this.1, this.2.2.2.2, by unfold in64; omega, by unfold in64; omega⟩) _) fun n3 hn3 => ?_
      rw [if_pos (good_all hzk)]
      simp (maxSteps := 2000000) -implicitDefEqProofs (disch := omega) only [xsW, xsC, if_true, if_false, ite_true, ite_false, forall_const, ne_eq, beq_self_eq_true, bne_self_eq_false, imp_self, true_implies, false_implies, implies_true, evP, evE, ev, setD, Nat.reduceAdd, Nat.reduceSub, reduceCtorEq, fillA, cutA, Nat.reduceLeDiff, Nat.reduceMul, Int.reduceLT, Int.reduceLE, Int.reduceEq, Int.reduceNe, Int.reduceAdd, Int.reduceSub, Int.reduceMul, Int.reduceNeg, Int.reduceToNat]
      exact ⟨(), by omega, by omega, (by simp [LeL, Le1])⟩
    · have e : k = zs.length := by omega
      subst e
      intro _ h2 hh
      exact ⟨v1, vs1, rfl, (hv1.keep fun i a b => hh i (by omega) (by omega)).wide (by omega) (by omega)⟩
def cntS (ll : List (List Int)) (q : List Int) : Int × Int := ((solsV ll q).1.length, (solsV ll q).2)
theorem solsV_len (ll : List (List Int)) (q : List Int) : (solsV ll q).1.length ≤ 32 := by
  unfold solsV
  split
  · rename_i hp
    have := pw_le ((isMat_iff ll).1 (isProb_facts hp).1).2.1
    have := solsK_len ll q (pw ll.length)
    simp only; omega
  · simp
theorem impl_CountSolutions (s : Prob w lo hi h v u vs ll q) (hl : ll.length ≤ 1048576) (hll : ∀ l ∈ ll, l.length ≤ 1048576) (hq : q.length ≤ 1048576) (n : Nat) (hn : hi ≤ n) :
    Q Try.prog 22 [.agg [v, u]] h n (.tup [.int .i64 (cntS ll q).1, .int .i64 (cntS ll q).2]) := by
  refine q_intro Try.func22 k_impl_CountSolutions ?_
  have o1 := one_any (Sl.any s.M.out)
  have o2 := one_any (Sl.any s.Q)
  have hs := solsV_len ll q
  unfold cntS
  simp (maxSteps := 2000000) -implicitDefEqProofs (disch := omega) only [c_impl_CountSolutions, o1, o2, xsW, xsC, if_true, if_false, ite_true, ite_false, forall_const, ne_eq, beq_self_eq_true, bne_self_eq_false, imp_self, true_implies, false_implies, implies_true, evP, evE, ev, setD, Nat.reduceAdd, Nat.reduceSub, reduceCtorEq, fillA, cutA, Nat.reduceLeDiff, Nat.reduceMul, Int.reduceLT, Int.reduceLE, Int.reduceEq, Int.reduceNe, Int.reduceAdd, Int.reduceSub, Int.reduceMul, Int.reduceNeg, Int.reduceToNat]
  refine fq_use (impl_SolutionsOf (s.keep (fun i _ hi9 => by simp (disch := omega) only [upd_other])) hl hll hq _ (by omega)) fun x1 h1 n1 hn1 hs1 ⟨v1, vs1, hx1, hv1⟩ => ?_
  subst hx1
  simp (maxSteps := 2000000) -implicitDefEqProofs (disch := omega) only [xsW, xsC, if_true, if_false, ite_true, ite_false, forall_const, ne_eq, beq_self_eq_true, bne_self_eq_false, imp_self, true_implies, false_implies, implies_true, evP, evE, ev, setD, Nat.reduceAdd, Nat.reduceSub, reduceCtorEq, fillA, cutA, Nat.reduceLeDiff, Nat.reduceMul, Int.reduceLT, Int.reduceLE, Int.reduceEq, Int.reduceNe, Int.reduceAdd, Int.reduceSub, Int.reduceMul, Int.reduceNeg, Int.reduceToNat,  hv1.ln]
theorem spec_CountSolutions (s : Prob w lo hi h v u vs ll q) (hl : ll.length ≤ 1048576) (hll : ∀ l ∈ ll, l.length ≤ 1048576) (hq : q.length ≤ 1048576) (n : Nat) (hn : hi ≤ n) :
    Q Try.prog 21 [.agg [v, u]] h n (.tup [.int .i64 (cntS ll q).1, .int .i64 (cntS ll q).2]) := by
  refine q_intro Try.func21 k_spec_CountSolutions ?_
  have o1 := one_any (Sl.any s.M.out)
  have o2 := one_any (Sl.any s.Q)
  unfold cntS solsV
  simp (maxSteps := 2000000) -implicitDefEqProofs (disch := omega) only [c_spec_CountSolutions, o1, o2, xsW, xsC, if_true, if_false, ite_true, ite_false, forall_const, ne_eq, beq_self_eq_true, bne_self_eq_false, imp_self, true_implies, false_implies, implies_true, evP, evE, ev, setD, Nat.reduceAdd, Nat.reduceSub, reduceCtorEq, fillA, cutA, Nat.reduceLeDiff, Nat.reduceMul, Int.reduceLT, Int.reduceLE, Int.reduceEq, Int.reduceNe, Int.reduceAdd, Int.reduceSub, Int.reduceMul, Int.reduceNeg, Int.reduceToNat]
  refine q_use (spec_l01Is (s.keep (fun i _ hi9 => by simp (disch := omega) only [upd_other])) hl hll hq _ (by omega)) fun n1 hn1 => ?_
  cases hp : isProb ll q
  · simp (maxSteps := 2000000) -implicitDefEqProofs (disch := omega) only [xsW, xsC, if_true, if_false, ite_true, ite_false, forall_const, ne_eq, beq_self_eq_true, bne_self_eq_false, imp_self, true_implies, false_implies, implies_true, evP, evE, ev, setD, Nat.reduceAdd, Nat.reduceSub, reduceCtorEq, fillA, cutA, Nat.reduceLeDiff, Nat.reduceMul, Int.reduceLT, Int.reduceLE, Int.reduceEq, Int.reduceNe, Int.reduceAdd, Int.reduceSub, Int.reduceMul, Int.reduceNeg, Int.reduceToNat]
    rfl
  · have hpw := pw_le ((isMat_iff ll).1 (isProb_facts hp).1).2.1
    have hsl := solsK_len ll q (pw ll.length)
    simp (maxSteps := 2000000) -implicitDefEqProofs (disch := omega) only [xsW, xsC, if_true, if_false, ite_true, ite_false, forall_const, ne_eq, beq_self_eq_true, bne_self_eq_false, imp_self, true_implies, false_implies, implies_true, evP, evE, ev, setD, Nat.reduceAdd, Nat.reduceSub, reduceCtorEq, fillA, cutA, Nat.reduceLeDiff, Nat.reduceMul, Int.reduceLT, Int.reduceLE, Int.reduceEq, Int.reduceNe, Int.reduceAdd, Int.reduceSub, Int.reduceMul, Int.reduceNeg, Int.reduceToNat]
    refine fq_use (spec_l02All (s.keep (fun i _ hi9 => by simp (disch := omega) only [upd_other])) hp n1 (by omega)) fun v1 h1 n2 hn2 hs1 ⟨vs1, hv1⟩ => ?_
    simp (maxSteps := 2000000) -implicitDefEqProofs (disch := omega) only [xsW, xsC, if_true, if_false, ite_true, ite_false, forall_const, ne_eq, beq_self_eq_true, bne_self_eq_false, imp_self, true_implies, false_implies, implies_true, evP, evE, ev, setD, Nat.reduceAdd, Nat.reduceSub, reduceCtorEq, fillA, cutA, Nat.reduceLeDiff, Nat.reduceMul, Int.reduceLT, Int.reduceLE, Int.reduceEq, Int.reduceNe, Int.reduceAdd, Int.reduceSub, Int.reduceMul, Int.reduceNeg, Int.reduceToNat,  hv1.ln]
end
set_option maxHeartbeats 2000000 in
theorem laws_CountSolutions {h : AH} {w_p : Bool} {lo_p hi_p : Nat} {v_p u_p : AV} {vs_p : List AV} {p : List (List Int)} {q_p : List Int} (s_p : Prob w_p lo_p hi_p h v_p u_p vs_p p q_p) (hl_p : p.length ≤ 9223372036854775807) (hll_p : ∀ l ∈ p, l.length ≤ 9223372036854775807) (hlq_p : q_p.length ≤ 9223372036854775807) (n : Nat) (hn_p : hi_p ≤ n) :
    Q Try.prog 5 [.agg [v_p, u_p]] h n (.bool true) := by
  refine q_intro Try.func5 k_laws_FnExactCountSolutions ?_
  have o1 := one_any (Sl.any s_p.M.out)
  have oq1 := sto_any (Sl.any s_p.M.out)
  have oc1 := cel_any (Sl.any s_p.M.out)
  have o2 := one_any (Sl.any s_p.Q)
  have oq2 := sto_any (Sl.any s_p.Q)
  have oc2 := cel_any (Sl.any s_p.Q)
  simp (maxSteps := 2000000) -implicitDefEqProofs (disch := omega) only [c_laws_FnExactCountSolutions, o1, oq1, oc1, o2, oq2, oc2, xsW, xsC, if_true, if_false, ite_true, ite_false, forall_const, ne_eq, beq_self_eq_true, bne_self_eq_false, imp_self, true_implies, false_implies, implies_true, evP, evE, ev, setD, Nat.reduceAdd, Nat.reduceSub, reduceCtorEq, fillA, cutA, Nat.reduceLeDiff, Nat.reduceMul, Int.reduceLT, Int.reduceLE, Int.reduceEq, Int.reduceNe, Int.reduceAdd, Int.reduceSub, Int.reduceMul, Int.reduceNeg, Int.reduceToNat]
  refine q_use_ex (laws_szProblem (s_p.keep (fun i _ hi9 => by simp (disch := omega) only [upd_other])) hl_p hll_p hlq_p 1048576 (by omega) (by omega) _ (by omega)) fun rz3 n3 hn3 ⟨hr3a, hr3b, hr3c⟩ => ?_
  simp (maxSteps := 2000000) -implicitDefEqProofs (disch := omega) only [xsW, xsC, if_true, if_false, ite_true, ite_false, forall_const, ne_eq, beq_self_eq_true, bne_self_eq_false, imp_self, true_implies, false_implies, implies_true, evP, evE, ev, setD, Nat.reduceAdd, Nat.reduceSub, reduceCtorEq, fillA, cutA, Nat.reduceLeDiff, Nat.reduceMul, Int.reduceLT, Int.reduceLE, Int.reduceEq, Int.reduceNe, Int.reduceAdd, Int.reduceSub, Int.reduceMul, Int.reduceNeg, Int.reduceToNat,  o1, oq1, oc1, o2, oq2, oc2]
  (refine cd_dec (fun cz3 => ?_) (fun cz3 => ?_) <;> simp (maxSteps := 2000000) -implicitDefEqProofs (disch := omega) only [xsW, xsC, if_true, if_false, ite_true, ite_false, forall_const, ne_eq, beq_self_eq_true, bne_self_eq_false, imp_self, true_implies, false_implies, implies_true, evP, evE, ev, setD, Nat.reduceAdd, Nat.reduceSub, reduceCtorEq, fillA, cutA, Nat.reduceLeDiff, Nat.reduceMul, Int.reduceLT, Int.reduceLE, Int.reduceEq, Int.reduceNe, Int.reduceAdd, Int.reduceSub, Int.reduceMul, Int.reduceNeg, Int.reduceToNat,  cz3])
  obtain ⟨hb_p, hbb_p⟩ := sz_len2 (by omega) (fun h0 => (hr3c h0).1) cz3
  have hbq_p : q_p.length ≤ 1048576 := by have := (hr3c (by omega)).2; omega
  refine fq_use (laws_toProblem (s_p.keep (fun i _ hi9 => by simp (disch := omega) only [upd_other])) hb_p hbb_p hbq_p _ (by omega)) fun x4 h4 n4 hn4 hs4 ⟨v4, u4, vs4, hx4, hv4⟩ => ?_
  subst hx4
  have o5 := one_any (Sl.any hv4.M.out)
  have oq5 := sto_any (Sl.any hv4.M.out)
  have oc5 := cel_any (Sl.any hv4.M.out)
  have o6 := one_any (Sl.any hv4.Q)
  have oq6 := sto_any (Sl.any hv4.Q)
  have oc6 := cel_any (Sl.any hv4.Q)
  simp (maxSteps := 2000000) -implicitDefEqProofs (disch := omega) only [xsW, xsC, if_true, if_false, ite_true, ite_false, forall_const, ne_eq, beq_self_eq_true, bne_self_eq_false, imp_self, true_implies, false_implies, implies_true, evP, evE, ev, setD, Nat.reduceAdd, Nat.reduceSub, reduceCtorEq, fillA, cutA, Nat.reduceLeDiff, Nat.reduceMul, Int.reduceLT, Int.reduceLE, Int.reduceEq, Int.reduceNe, Int.reduceAdd, Int.reduceSub, Int.reduceMul, Int.reduceNeg, Int.reduceToNat,  o1, oq1, oc1, o2, oq2, oc2, o5, oq5, oc5, o6, oq6, oc6, hs4]
  refine q_use (spec_CountSolutions (hv4.keep (fun i _ hi9 => by simp (disch := omega) only [upd_other, hs4])) hb_p hbb_p hbq_p _ (by omega)) fun n7 hn7 => ?_
  simp (maxSteps := 2000000) -implicitDefEqProofs (disch := omega) only [xsW, xsC, if_true, if_false, ite_true, ite_false, forall_const, ne_eq, beq_self_eq_true, bne_self_eq_false, imp_self, true_implies, false_implies, implies_true, evP, evE, ev, setD, Nat.reduceAdd, Nat.reduceSub, reduceCtorEq, fillA, cutA, Nat.reduceLeDiff, Nat.reduceMul, Int.reduceLT, Int.reduceLE, Int.reduceEq, Int.reduceNe, Int.reduceAdd, Int.reduceSub, Int.reduceMul, Int.reduceNeg, Int.reduceToNat,  o1, oq1, oc1, o2, oq2, oc2, o5, oq5, oc5, o6, oq6, oc6, hs4]
  refine fq_use (laws_toProblem (s_p.keep (fun i _ hi9 => by simp (disch := omega) only [upd_other, hs4])) hb_p hbb_p hbq_p _ (by omega)) fun x8 h8 n8 hn8 hs8 ⟨v8, u8, vs8, hx8, hv8⟩ => ?_
  subst hx8
  have o9 := one_any (Sl.any hv8.M.out)
  have oq9 := sto_any (Sl.any hv8.M.out)
  have oc9 := cel_any (Sl.any hv8.M.out)
  have o10 := one_any (Sl.any hv8.Q)
  have oq10 := sto_any (Sl.any hv8.Q)
  have oc10 := cel_any (Sl.any hv8.Q)
  simp (maxSteps := 2000000) -implicitDefEqProofs (disch := omega) only [xsW, xsC, if_true, if_false, ite_true, ite_false, forall_const, ne_eq, beq_self_eq_true, bne_self_eq_false, imp_self, true_implies, false_implies, implies_true, evP, evE, ev, setD, Nat.reduceAdd, Nat.reduceSub, reduceCtorEq, fillA, cutA, Nat.reduceLeDiff, Nat.reduceMul, Int.reduceLT, Int.reduceLE, Int.reduceEq, Int.reduceNe, Int.reduceAdd, Int.reduceSub, Int.reduceMul, Int.reduceNeg, Int.reduceToNat,  o1, oq1, oc1, o2, oq2, oc2, o5, oq5, oc5, o6, oq6, oc6, o9, oq9, oc9, o10, oq10, oc10, hs8, hs4]
  refine q_use (impl_CountSolutions (hv8.keep (fun i _ hi9 => by simp (disch := omega) only [upd_other, hs8, hs4])) hb_p hbb_p hbq_p _ (by omega)) fun n11 hn11 => ?_
  simp (maxSteps := 2000000) -implicitDefEqProofs (disch := omega) only [xsW, xsC, if_true, if_false, ite_true, ite_false, forall_const, ne_eq, beq_self_eq_true, bne_self_eq_false, imp_self, true_implies, false_implies, implies_true, evP, evE, ev, setD, Nat.reduceAdd, Nat.reduceSub, reduceCtorEq, fillA, cutA, Nat.reduceLeDiff, Nat.reduceMul, Int.reduceLT, Int.reduceLE, Int.reduceEq, Int.reduceNe, Int.reduceAdd, Int.reduceSub, Int.reduceMul, Int.reduceNeg, Int.reduceToNat,  o1, oq1, oc1, o2, oq2, oc2, o5, oq5, oc5, o6, oq6, oc6, o9, oq9, oc9, o10, oq10, oc10, hs8, hs4]
  refine fq_use (laws_toProblem (s_p.keep (fun i _ hi9 => by simp (disch := omega) only [upd_other, hs8, hs4])) hb_p hbb_p hbq_p _ (by omega)) fun x12 h12 n12 hn12 hs12 ⟨v12, u12, vs12, hx12, hv12⟩ => ?_
  subst hx12
  have o13 := one_any (Sl.any hv12.M.out)
  have oq13 := sto_any (Sl.any hv12.M.out)
  have oc13 := cel_any (Sl.any hv12.M.out)
  have o14 := one_any (Sl.any hv12.Q)
  have oq14 := sto_any (Sl.any hv12.Q)
  have oc14 := cel_any (Sl.any hv12.Q)
  simp (maxSteps := 2000000) -implicitDefEqProofs (disch := omega) only [xsW, xsC, if_true, if_false, ite_true, ite_false, forall_const, ne_eq, beq_self_eq_true, bne_self_eq_false, imp_self, true_implies, false_implies, implies_true, evP, evE, ev, setD, Nat.reduceAdd, Nat.reduceSub, reduceCtorEq, fillA, cutA, Nat.reduceLeDiff, Nat.reduceMul, Int.reduceLT, Int.reduceLE, Int.reduceEq, Int.reduceNe, Int.reduceAdd, Int.reduceSub, Int.reduceMul, Int.reduceNeg, Int.reduceToNat,  o1, oq1, oc1, o2, oq2, oc2, o5, oq5, oc5, o6, oq6, oc6, o9, oq9, oc9, o10, oq10, oc10, o13, oq13, oc13, o14, oq14, oc14, hs12, hs8, hs4]
  refine q_use (laws_eqProblem (hv8.keep (fun i _ hi9 => by simp (disch := omega) only [upd_other, hs12, hs8, hs4])) (hv12.keep (fun i _ hi9 => by simp (disch := omega) only [upd_other, hs12, hs8, hs4])) hb_p hbb_p hbq_p _ (by omega) (by omega)) fun n15 hn15 => ?_
  simp (maxSteps := 2000000) -implicitDefEqProofs (disch := omega) only [xsW, xsC, if_true, if_false, ite_true, ite_false, forall_const, ne_eq, beq_self_eq_true, bne_self_eq_false, imp_self, true_implies, false_implies, implies_true, evP, evE, ev, setD, Nat.reduceAdd, Nat.reduceSub, reduceCtorEq, fillA, cutA, Nat.reduceLeDiff, Nat.reduceMul, Int.reduceLT, Int.reduceLE, Int.reduceEq, Int.reduceNe, Int.reduceAdd, Int.reduceSub, Int.reduceMul, Int.reduceNeg, Int.reduceToNat,  o1, oq1, oc1, o2, oq2, oc2, o5, oq5, oc5, o6, oq6, oc6, o9, oq9, oc9, o10, oq10, oc10, o13, oq13, oc13, o14, oq14, oc14, hs12, hs8, hs4]
end Go.Proofs.Ytkpibnhddhdooab.L
/- Contracts: solutions compared, marked, held; the statement on them. -/
namespace Go.Proofs.Ytkpibnhddhdooab.L
open Go
set_option linter.unusedSimpArgs false
set_option linter.unusedVariables false
def c_laws_eqFracSS : F := ⟨(.seq (.reg false [⟨(some 4), (.mv (.c (.bool false))), none⟩]) (.seq (.seq (.reg false [⟨(some 6), (.mv (.t 0)), none⟩, ⟨(some 7), (.len (.t 6)), none⟩, ⟨(some 8), (.mv (.t 1)), none⟩, ⟨(some 9), (.len (.t 8)), none⟩, ⟨(some 10), (.bin .neq (.t 7) (.t 9)), none⟩]) (.cond (.t 10) (.seq (.reg false [⟨(some 4), (.mv (.c (.bool false))), none⟩]) .ret) .skip)) (.seq (.seq (.reg false [⟨(some 5), (.mv (.c (.int .i64 0))), none⟩]) (.block 0 (.loop (.seq (.seq (.reg false [⟨(some 11), (.mv (.t 5)), none⟩, ⟨(some 12), (.mv (.t 0)), none⟩, ⟨(some 13), (.len (.t 12)), none⟩, ⟨(some 14), (.bin .lss (.t 11) (.t 13)), none⟩]) (.cond (.t 14) .skip (.exit 0))) (.seq (.block 1 (.seq (.reg true [⟨(some 17), (.mv (.t 0)), none⟩, ⟨(some 18), (.mv (.t 5)), none⟩, ⟨(some 19), (.ia 1 (.t 17) (.t 18)), none⟩, ⟨(some 20), (.ld1 (.t 19)), none⟩, ⟨(some 21), (.mv (.t 1)), none⟩, ⟨(some 22), (.mv (.t 5)), none⟩, ⟨(some 23), (.ia 1 (.t 21) (.t 22)), none⟩, ⟨(some 24), (.ld1 (.t 23)), none⟩, ⟨(some 25), (.call (.f 14) [(.t 20), (.t 24)]), none⟩, ⟨(some 26), (.un .not (.t 25)), none⟩]) (.cond (.t 26) (.seq (.reg false [⟨(some 4), (.mv (.c (.bool false))), none⟩]) .ret) .skip))) (.reg false [⟨(some 15), (.mv (.t 5)), none⟩, ⟨(some 16), (.bin .add (.t 15) (.c (.int .i64 1))), none⟩, ⟨(some 5), (.mv (.t 16)), none⟩])))))) (.seq (.reg false [⟨(some 4), (.mv (.c (.bool true))), none⟩]) .ret)))), 27, [(.t 4)]⟩
theorem k_laws_eqFracSS : compF Try.prog Try.f17 = some c_laws_eqFracSS := by kernel_rfl
def c_laws_markFracSS : F := ⟨(.seq (.reg false [⟨(some 4), (.mv (.c (.int .i64 0))), none⟩]) (.seq (.seq (.reg false [⟨(some 5), (.mv (.c (.int .i64 0))), none⟩]) (.block 0 (.loop (.seq (.seq (.reg false [⟨(some 6), (.mv (.t 5)), none⟩, ⟨(some 7), (.mv (.t 0)), none⟩, ⟨(some 8), (.len (.t 7)), none⟩, ⟨(some 9), (.bin .lss (.t 6) (.t 8)), none⟩]) (.cond (.t 9) .skip (.exit 0))) (.seq (.block 1 (.reg false [⟨(some 12), (.mv (.t 0)), none⟩, ⟨(some 13), (.mv (.t 5)), none⟩, ⟨(some 14), (.ia 1 (.t 12) (.t 13)), none⟩, ⟨(some 15), (.ld1 (.t 14)), none⟩, ⟨(some 16), (.mv (.t 1)), none⟩, ⟨(some 17), (.call (.f 62) [(.t 15), (.t 16)]), none⟩, ⟨(some 1), (.mv (.t 17)), none⟩])) (.reg false [⟨(some 10), (.mv (.t 5)), none⟩, ⟨(some 11), (.bin .add (.t 10) (.c (.int .i64 1))), none⟩, ⟨(some 5), (.mv (.t 11)), none⟩])))))) (.seq (.reg false [⟨(some 18), (.mv (.t 1)), none⟩, ⟨(some 4), (.mv (.t 18)), none⟩]) .ret))), 19, [(.t 4)]⟩
theorem k_laws_markFracSS : compF Try.prog Try.f19 = some c_laws_markFracSS := by kernel_rfl
def c_laws_heldFracSS : F := ⟨(.seq (.reg false [⟨(some 4), (.mv (.c (.int .i64 0))), none⟩]) (.seq (.seq (.reg false [⟨(some 5), (.mv (.c (.int .i64 0))), none⟩]) (.block 0 (.loop (.seq (.seq (.reg false [⟨(some 6), (.mv (.t 5)), none⟩, ⟨(some 7), (.mv (.t 0)), none⟩, ⟨(some 8), (.len (.t 7)), none⟩, ⟨(some 9), (.bin .lss (.t 6) (.t 8)), none⟩]) (.cond (.t 9) .skip (.exit 0))) (.seq (.block 1 (.seq (.reg false [⟨(some 12), (.mv (.t 0)), none⟩, ⟨(some 13), (.mv (.t 5)), none⟩, ⟨(some 14), (.ia 1 (.t 12) (.t 13)), none⟩, ⟨(some 15), (.ld1 (.t 14)), none⟩, ⟨(some 16), (.mv (.t 1)), none⟩, ⟨(some 17), (.call (.f 63) [(.t 15), (.t 16)]), none⟩, ⟨(some 1), (.mv (.t 17)), none⟩]) (.seq (.reg false [⟨(some 18), (.mv (.t 1)), none⟩, ⟨(some 19), (.bin .lss (.t 18) (.c (.int .i64 0))), none⟩]) (.cond (.t 19) (.seq (.reg false [⟨(some 4), (.mv (.c (.int .i64 (-1)))), none⟩]) .ret) .skip)))) (.reg false [⟨(some 10), (.mv (.t 5)), none⟩, ⟨(some 11), (.bin .add (.t 10) (.c (.int .i64 1))), none⟩, ⟨(some 5), (.mv (.t 11)), none⟩])))))) (.seq (.reg false [⟨(some 20), (.mv (.t 1)), none⟩, ⟨(some 4), (.mv (.t 20)), none⟩]) .ret))), 21, [(.t 4)]⟩
theorem k_laws_heldFracSS : compF Try.prog Try.f20 = some c_laws_heldFracSS := by kernel_rfl
def c_laws_FnExactSolutionsOf : F := ⟨(.seq (.reg false [⟨(some 1), (.box 25 (.t 0)), none⟩, ⟨(some 2), (.mv (.c (.bool false))), none⟩]) (.seq (.reg false [⟨(some 3), (.mv (.c (.int .i64 1048576))), none⟩]) (.seq (.reg false [⟨(some 14), (.ld 2 (.t 1)), none⟩, ⟨(some 15), (.mv (.t 3)), none⟩, ⟨(some 16), (.call (.f 7) [(.t 14), (.t 15)]), none⟩, ⟨(some 3), (.mv (.t 16)), none⟩]) (.seq (.seq (.reg false [⟨(some 17), (.mv (.t 3)), none⟩, ⟨(some 18), (.bin .lss (.t 17) (.c (.int .i64 0))), none⟩]) (.cond (.t 18) (.seq (.reg false [⟨(some 2), (.mv (.c (.bool true))), none⟩]) .ret) .skip)) (.seq (.reg false [⟨(some 20), (.ld 2 (.t 1)), none⟩, ⟨(some 21), (.call (.f 10) [(.t 20)]), none⟩, ⟨(some 22), (.call (.f 15) [(.t 21)]), none⟩, ⟨(some 19), (.mv (.t 22)), none⟩, ⟨(some 23), (.ext (.t 19) 0), none⟩, ⟨(some 24), (.ext (.t 19) 1), none⟩, ⟨(some 4), (.mv (.t 23)), none⟩, ⟨(some 5), (.mv (.t 24)), none⟩]) (.seq (.reg false [⟨(some 25), (.ld 2 (.t 1)), none⟩, ⟨(some 26), (.call (.f 10) [(.t 25)]), none⟩, ⟨(some 6), (.alloc 31 [.nilsl, .nilsl]), none⟩, ⟨none, (.st 2 (.t 6) (.t 26)), none⟩]) (.seq (.reg false [⟨(some 28), (.ld 2 (.t 6)), none⟩, ⟨(some 29), (.call (.f 16) [(.t 28)]), none⟩, ⟨(some 27), (.mv (.t 29)), none⟩, ⟨(some 30), (.ext (.t 27) 0), none⟩, ⟨(some 31), (.ext (.t 27) 1), none⟩, ⟨(some 7), (.mv (.t 30)), none⟩, ⟨(some 8), (.mv (.t 31)), none⟩]) (.seq (.seq (.reg false [⟨(some 32), (.mv (.t 7)), none⟩, ⟨(some 33), (.mv (.t 4)), none⟩, ⟨(some 34), (.call (.f 17) [(.t 32), (.t 33)]), none⟩, ⟨(some 35), (.un .not (.t 34)), none⟩, ⟨(some 36), (.mv (.t 35)), none⟩, ⟨(some 37), (.mv (.t 8)), (some (36, false))⟩, ⟨(some 38), (.mv (.t 5)), (some (36, false))⟩, ⟨(some 39), (.bin .neq (.t 37) (.t 38)), (some (36, false))⟩, ⟨(some 40), (.pick (.t 36) (.c (.bool true)) (.t 39)), none⟩]) (.cond (.t 40) (.seq (.reg false [⟨(some 2), (.mv (.c (.bool false))), none⟩]) .ret) .skip)) (.seq (.seq (.reg true [⟨(some 41), (.ld 2 (.t 6)), none⟩, ⟨(some 42), (.ld 2 (.t 1)), none⟩, ⟨(some 43), (.call (.f 10) [(.t 42)]), none⟩, ⟨(some 44), (.call (.f 13) [(.t 41), (.t 43)]), none⟩, ⟨(some 45), (.un .not (.t 44)), none⟩]) (.cond (.t 45) (.seq (.reg false [⟨(some 2), (.mv (.c (.bool false))), none⟩]) .ret) .skip)) (.seq (.reg false [⟨(some 9), (.mv (.c (.int .i64 1))), none⟩]) (.seq (.reg false [⟨(some 46), (.ld 2 (.t 6)), none⟩, ⟨(some 47), (.mv (.t 9)), none⟩, ⟨(some 48), (.call (.f 18) [(.t 46), (.t 47)]), none⟩, ⟨(some 9), (.mv (.t 48)), none⟩]) (.seq (.seq (.reg false [⟨(some 49), (.mv (.t 9)), none⟩, ⟨(some 50), (.bin .lss (.t 49) (.c (.int .i64 0))), none⟩, ⟨(some 51), (.mv (.t 50)), none⟩, ⟨(some 52), (.mv (.t 7)), (some (51, false))⟩, ⟨(some 53), (.mv (.t 4)), (some (51, false))⟩, ⟨(some 54), (.call (.f 17) [(.t 52), (.t 53)]), (some (51, false))⟩, ⟨(some 55), (.un .not (.t 54)), (some (51, false))⟩, ⟨(some 56), (.pick (.t 51) (.c (.bool true)) (.t 55)), none⟩, ⟨(some 57), (.mv (.t 56)), none⟩, ⟨(some 58), (.mv (.t 8)), (some (57, false))⟩, ⟨(some 59), (.mv (.t 5)), (some (57, false))⟩, ⟨(some 60), (.bin .neq (.t 58) (.t 59)), (some (57, false))⟩, ⟨(some 61), (.pick (.t 57) (.c (.bool true)) (.t 60)), none⟩]) (.cond (.t 61) (.seq (.reg false [⟨(some 2), (.mv (.c (.bool false))), none⟩]) .ret) .skip)) (.seq (.reg false [⟨(some 10), (.mv (.c (.int .i64 1))), none⟩]) (.seq (.reg false [⟨(some 62), (.mv (.t 7)), none⟩, ⟨(some 63), (.mv (.t 10)), none⟩, ⟨(some 64), (.call (.f 19) [(.t 62), (.t 63)]), none⟩, ⟨(some 10), (.mv (.t 64)), none⟩]) (.seq (.reg false [⟨(some 11), (.mv (.c (.int .i64 1))), none⟩]) (.seq (.reg false [⟨(some 65), (.mv (.t 7)), none⟩, ⟨(some 66), (.mv (.t 11)), none⟩, ⟨(some 67), (.call (.f 20) [(.t 65), (.t 66)]), none⟩, ⟨(some 11), (.mv (.t 67)), none⟩]) (.seq (.seq (.reg false [⟨(some 68), (.mv (.t 11)), none⟩, ⟨(some 69), (.bin .lss (.t 68) (.c (.int .i64 0))), none⟩]) (.cond (.t 69) (.seq (.reg false [⟨(some 2), (.mv (.c (.bool false))), none⟩]) .ret) .skip)) (.seq (.seq (.reg false [⟨(some 70), (.mv (.t 11)), none⟩, ⟨(some 71), (.mv (.t 10)), none⟩, ⟨(some 72), (.bin .neq (.t 70) (.t 71)), none⟩]) (.cond (.t 72) (.seq (.reg false [⟨(some 2), (.mv (.c (.bool false))), none⟩]) .ret) .skip)) (.seq (.reg false [⟨(some 74), (.ld 2 (.t 1)), none⟩, ⟨(some 75), (.call (.f 10) [(.t 74)]), none⟩, ⟨(some 76), (.call (.f 16) [(.t 75)]), none⟩, ⟨(some 73), (.mv (.t 76)), none⟩, ⟨(some 77), (.ext (.t 73) 0), none⟩, ⟨(some 78), (.ext (.t 73) 1), none⟩, ⟨(some 12), (.mv (.t 77)), none⟩, ⟨(some 13), (.mv (.t 78)), none⟩]) (.seq (.seq (.reg false [⟨(some 79), (.mv (.t 12)), none⟩, ⟨(some 80), (.mv (.t 4)), none⟩, ⟨(some 81), (.call (.f 17) [(.t 79), (.t 80)]), none⟩, ⟨(some 82), (.un .not (.t 81)), none⟩, ⟨(some 83), (.mv (.t 82)), none⟩, ⟨(some 84), (.mv (.t 13)), (some (83, false))⟩, ⟨(some 85), (.mv (.t 5)), (some (83, false))⟩, ⟨(some 86), (.bin .neq (.t 84) (.t 85)), (some (83, false))⟩, ⟨(some 87), (.pick (.t 83) (.c (.bool true)) (.t 86)), none⟩]) (.cond (.t 87) (.seq (.reg false [⟨(some 2), (.mv (.c (.bool false))), none⟩]) .ret) .skip)) (.seq (.reg false [⟨(some 11), (.mv (.c (.int .i64 1))), none⟩]) (.seq (.reg false [⟨(some 88), (.mv (.t 7)), none⟩, ⟨(some 89), (.mv (.t 11)), none⟩, ⟨(some 90), (.call (.f 20) [(.t 88), (.t 89)]), none⟩, ⟨(some 11), (.mv (.t 90)), none⟩]) (.seq (.seq (.reg false [⟨(some 91), (.mv (.t 11)), none⟩, ⟨(some 92), (.bin .lss (.t 91) (.c (.int .i64 0))), none⟩]) (.cond (.t 92) (.seq (.reg false [⟨(some 2), (.mv (.c (.bool false))), none⟩]) .ret) .skip)) (.seq (.seq (.reg false [⟨(some 93), (.mv (.t 11)), none⟩, ⟨(some 94), (.mv (.t 10)), none⟩, ⟨(some 95), (.bin .neq (.t 93) (.t 94)), none⟩]) (.cond (.t 95) (.seq (.reg false [⟨(some 2), (.mv (.c (.bool false))), none⟩]) .ret) .skip)) (.seq (.reg false [⟨(some 2), (.mv (.c (.bool true))), none⟩]) .ret))))))))))))))))))))))))), 96, [(.t 2)]⟩
theorem k_laws_FnExactSolutionsOf : compF Try.prog Try.f4 = some c_laws_FnExactSolutionsOf := by kernel_rfl
theorem FowsV.row1 {lo hi : Nat} {h h' : AH} {vs : List AV} {ll : List FrL} (s : FowsV true lo hi h vs ll) {i : Nat} (hi' : i < ll.length) {l : FrL} (hl : Fracs true lo hi h' (vs.getD i .any) l) (hne : isSl (vs.getD i .any) = true)
    (hk : ∀ j, lo ≤ j → j < hi → j ≠ bid (vs.getD i .any) → h' j = h j) : FowsV true lo hi h' vs (ll.set i l) := by
  refine ⟨by simpa using s.len, fun j hj => ?_, fun _ j m hj hm => ?_⟩
  · simp only [List.length_set] at hj
    rw [getD_set]
    by_cases e : i = j
    · subst e
      rw [if_pos ⟨rfl, hj⟩]
      exact hl
    · rw [if_neg fun h => e h.1]
      exact Sl.keep1 (s.row j hj) fun hs => hk _ (Sl.own (s.row j hj) hs).1 (Sl.own (s.row j hj) hs).2 (s.apart rfl j i hj hi' (fun e' => e e'.symm) hs hne)
  · simp only [List.length_set] at hj hm
    exact s.apart rfl j m hj hm
theorem Fows.row1 {lo hi : Nat} {h h' : AH} {v : AV} {vs : List AV} {ll : List FrL} (s : Fows true lo hi h v vs ll) {i : Nat} (hi' : i < ll.length) {l : FrL} (hl : Fracs true lo hi h' (vs.getD i .any) l) (hne : isSl (vs.getD i .any) = true)
    (hk : ∀ j, lo ≤ j → j < hi → j ≠ bid (vs.getD i .any) → h' j = h j) : Fows true lo hi h' v vs (ll.set i l) := by
  refine ⟨s.out.keep1 fun hs => hk _ (Sl.own s.out hs).1 (Sl.own s.out hs).2 fun e => s.outer rfl i hi' hne e.symm, s.rows.row1 hi' hl hne hk, fun _ j hj => ?_⟩
  simp only [List.length_set] at hj
  exact s.outer rfl j hj
def totF : List FrL → Nat
  | [] => 0
  | l :: ll => 2 * l.length + totF ll
def markFF : Int → List FrL → List FrL
  | _, [] => []
  | k, l :: ll => markF k l.length :: markFF (k + 2 * l.length) ll
theorem markFF_len : ∀ (k : Int) (ll : List FrL), (markFF k ll).length = ll.length
  | _, [] => rfl
  | k, l :: ll => by simp [markFF, markFF_len]
theorem totF_snoc : ∀ (ll : List FrL) (l : FrL), totF (ll ++ [l]) = totF ll + 2 * l.length
  | [], l => by simp [totF]
  | a :: ll, l => by simp [totF, totF_snoc ll l]; omega
theorem markFF_snoc : ∀ (k : Int) (ll : List FrL) (l : FrL), markFF k (ll ++ [l]) = markFF k ll ++ [markF (k + totF ll) l.length]
  | k, [], l => by simp [markFF, totF]
  | k, a :: ll, l => by
    simp only [List.cons_append, markFF, totF, markFF_snoc]
    rw [show k + 2 * (a.length : Int) + (totF ll : Int) = k + ((2 * a.length + totF ll : Nat) : Int) by omega]
theorem markFF_step (k : Int) (ll : List FrL) (j : Nat) (hj : j < ll.length) :
    (markFF k (ll.take j) ++ ll.drop j).set j (markF (k + totF (ll.take j)) (ll.getD j []).length) = markFF k (ll.take (j + 1)) ++ ll.drop (j + 1) := by
  have h1 : (markFF k (ll.take j)).length = j := by rw [markFF_len]; simp; omega
  rw [take_succ_getD (d := []) hj, markFF_snoc, List.set_append, if_neg (by omega), h1, Nat.sub_self, List.drop_eq_getElem_cons hj, List.set_cons_zero]
  simp
theorem markFF_get : ∀ (k : Int) (ll : List FrL) (j : Nat), j < ll.length → (markFF k ll).getD j [] = markF (k + totF (ll.take j)) (ll.getD j []).length
  | _, [], j, h => absurd h (Nat.not_lt_zero _)
  | k, l :: ll, 0, _ => by simp [markFF, totF, List.getD]
  | k, l :: ll, j + 1, h => by
    have := markFF_get (k + 2 * l.length) ll j (by simpa using h)
    simp only [markFF, List.getD_cons_succ, this, List.take_succ_cons, totF]
    rw [show k + 2 * (l.length : Int) + (totF (ll.take j) : Int) = k + ((2 * l.length + totF (ll.take j) : Nat) : Int) by omega]
theorem totF_bound : ∀ (ll : List FrL) (m : Nat), (∀ l ∈ ll, l.length ≤ m) → totF ll ≤ ll.length * (2 * m)
  | [], m, _ => by simp [totF]
  | l :: ll, m, h => by
    have h1 := totF_bound ll m fun a ha => h a (List.mem_cons_of_mem _ ha)
    have h2 := h l List.mem_cons_self
    rw [totF, List.length_cons, Nat.add_mul, Nat.one_mul]
    omega
theorem totF_take (ll : List FrL) (j : Nat) : totF (ll.take j) ≤ totF ll := by
  induction ll generalizing j with
  | nil => simp [totF]
  | cons l ll ih =>
    cases j with
    | zero => simp [totF]
    | succ j => simp only [List.take_succ_cons, totF]; have := ih j; omega
theorem laws_eqFracSS {w w' : Bool} {lo hi lo' hi' : Nat} {h : AH} {v v' : AV} {vs vs' : List AV} {ll ll' : List FrL} (s : Fows w lo hi h v vs ll) (s' : Fows w' lo' hi' h v' vs' ll') (hl : ll.length ≤ 1048576) (hll : ∀ l ∈ ll, l.length ≤ 1048576) (n : Nat) :
    Q Try.prog 17 [v, v'] h n (.bool (decide (ll = ll'))) := by
  refine q_intro Try.func17 k_laws_eqFracSS ?_
  simp (maxSteps := 2000000) -implicitDefEqProofs (disch := omega) only [c_laws_eqFracSS, s.ln, s'.ln, xsW, xsC, if_true, if_false, ite_true, ite_false, forall_const, ne_eq, beq_self_eq_true, bne_self_eq_false, imp_self, true_implies, false_implies, implies_true, evP, evE, ev, setD, Nat.reduceAdd, Nat.reduceSub, reduceCtorEq, fillA, cutA, Nat.reduceLeDiff, Nat.reduceMul, Int.reduceLT, Int.reduceLE, Int.reduceEq, Int.reduceNe, Int.reduceAdd, Int.reduceSub, Int.reduceMul, Int.reduceNeg, Int.reduceToNat]
  (refine cd_dec (fun h1 => ?_) (fun h1 => ?_) <;> simp (maxSteps := 2000000) -implicitDefEqProofs (disch := omega) only [xsW, xsC, if_true, if_false, ite_true, ite_false, forall_const, ne_eq, beq_self_eq_true, bne_self_eq_false, imp_self, true_implies, false_implies, implies_true, evP, evE, ev, setD, Nat.reduceAdd, Nat.reduceSub, reduceCtorEq, fillA, cutA, Nat.reduceLeDiff, Nat.reduceMul, Int.reduceLT, Int.reduceLE, Int.reduceEq, Int.reduceNe, Int.reduceAdd, Int.reduceSub, Int.reduceMul, Int.reduceNeg, Int.reduceToNat,  h1])
  · rw [decide_eq_false fun e => h1 (by rw [e])]
  refine loop_for ll.length 0 (fun k (_ : Unit) => [v, v', .any, .any, .bool false, .int .i64 k, .any, .any, .any, .any, .any, .any, .any, .any, .any, .any, .any, .any, .any, .any, .any, .any, .any, .any, .any, .any, .any]) (fun k _ => h)
    (fun k _ _ => ∀ j, j < k → ll.getD j [] = ll'.getD j []) () (Nat.zero_le _) (fun j hj => absurd hj (Nat.not_lt_zero _)) (by simp [LeL, Le1]) (fun _ _ h => h) ?_
  rintro k - n1 - hk hn1 he
  simp (maxSteps := 2000000) -implicitDefEqProofs (disch := omega) only [xsW, xsC, if_true, if_false, ite_true, ite_false, forall_const, ne_eq, beq_self_eq_true, bne_self_eq_false, imp_self, true_implies, false_implies, implies_true, evP, evE, ev, setD, Nat.reduceAdd, Nat.reduceSub, reduceCtorEq, fillA, cutA, Nat.reduceLeDiff, Nat.reduceMul, Int.reduceLT, Int.reduceLE, Int.reduceEq, Int.reduceNe, Int.reduceAdd, Int.reduceSub, Int.reduceMul, Int.reduceNeg, Int.reduceToNat,  s.ln, s'.ln]
  (refine cd_dec (fun h2 => ?_) (fun h2 => ?_) <;> simp (maxSteps := 2000000) -implicitDefEqProofs (disch := omega) only [xsW, xsC, if_true, if_false, ite_true, ite_false, forall_const, ne_eq, beq_self_eq_true, bne_self_eq_false, imp_self, true_implies, false_implies, implies_true, evP, evE, ev, setD, Nat.reduceAdd, Nat.reduceSub, reduceCtorEq, fillA, cutA, Nat.reduceLeDiff, Nat.reduceMul, Int.reduceLT, Int.reduceLE, Int.reduceEq, Int.reduceNe, Int.reduceAdd, Int.reduceSub, Int.reduceMul, Int.reduceNeg, Int.reduceToNat,  h2])
  · have hk' : k < ll.length := by omega
    have hk2 : k < ll'.length := by omega
    simp (maxSteps := 2000000) -implicitDefEqProofs (disch := omega) only [xsW, xsC, if_true, if_false, ite_true, ite_false, forall_const, ne_eq, beq_self_eq_true, bne_self_eq_false, imp_self, true_implies, false_implies, implies_true, evP, evE, ev, setD, Nat.reduceAdd, Nat.reduceSub, reduceCtorEq, fillA, cutA, Nat.reduceLeDiff, Nat.reduceMul, Int.reduceLT, Int.reduceLE, Int.reduceEq, Int.reduceNe, Int.reduceAdd, Int.reduceSub, Int.reduceMul, Int.reduceNeg, Int.reduceToNat,  s.ia, s.ld, s'.ia, s'.ld]
    refine q_use (laws_eqFracS (s.row k hk') (s'.row k hk2) (hll _ (getD_mem hk')) _) fun n2 hn2 => ?_
    simp (maxSteps := 2000000) -implicitDefEqProofs (disch := omega) only [xsW, xsC, if_true, if_false, ite_true, ite_false, forall_const, ne_eq, beq_self_eq_true, bne_self_eq_false, imp_self, true_implies, false_implies, implies_true, evP, evE, ev, setD, Nat.reduceAdd, Nat.reduceSub, reduceCtorEq, fillA, cutA, Nat.reduceLeDiff, Nat.reduceMul, Int.reduceLT, Int.reduceLE, Int.reduceEq, Int.reduceNe, Int.reduceAdd, Int.reduceSub, Int.reduceMul, Int.reduceNeg, Int.reduceToNat]
    (refine cd_dec (fun h3 => ?_) (fun h3 => ?_) <;> simp (maxSteps := 2000000) -implicitDefEqProofs (disch := omega) only [xsW, xsC, if_true, if_false, ite_true, ite_false, forall_const, ne_eq, beq_self_eq_true, bne_self_eq_false, imp_self, true_implies, false_implies, implies_true, evP, evE, ev, setD, Nat.reduceAdd, Nat.reduceSub, reduceCtorEq, fillA, cutA, Nat.reduceLeDiff, Nat.reduceMul, Int.reduceLT, Int.reduceLE, Int.reduceEq, Int.reduceNe, Int.reduceAdd, Int.reduceSub, Int.reduceMul, Int.reduceNeg, Int.reduceToNat,  h3])
    · rw [decide_eq_false fun e => h3 (by rw [e])]
    · exact ⟨(), fun j hj => (Nat.lt_succ_iff_lt_or_eq.1 hj).elim (he j) (fun e => by rw [e]; exact Decidable.not_not.1 h3), by omega, by omega, (by simp [LeL, Le1])⟩
  · rw [decide_eq_true (getD_ext (d := []) (by omega) fun j hj => he j (by omega))]
theorem Sl.just {lo hi es : Nat} {h : AH} {v : AV} {cs : List AV} (s : Sl true lo hi h es v cs) (hs : isSl v = true) : Sl true (bid v) (bid v + 1) h es v cs :=
  ⟨s.len, s.shape.imp id (Or.imp id fun ⟨h1, h2, h3, g⟩ => ⟨h1, Nat.le_refl _, by omega, g⟩)⟩
theorem laws_markFracSS {lo hi : Nat} {h : AH} {v : AV} {vs : List AV} {ll : List FrL} (s : Fows true lo hi h v vs ll) (k : Int) (h0 : 0 ≤ k) (hb : k + totF ll ≤ 4611686018427387904) (hl : ll.length ≤ 1048576) (n : Nat) (hn : hi ≤ n) :
    MQ Try.prog 19 [v, .int .i64 k] h n lo hi fun x h' n' => x = .int .i64 (k + totF ll) ∧ Fows true lo hi h' v vs (markFF k ll) ∧ (∀ i, i < n → (i < lo ∨ hi ≤ i) → h' i = h i) := by
  refine mq_intro Try.func19 k_laws_markFracSS ?_
  simp (maxSteps := 2000000) -implicitDefEqProofs (disch := omega) only [c_laws_markFracSS, xsW, xsC, if_true, if_false, ite_true, ite_false, forall_const, ne_eq, beq_self_eq_true, bne_self_eq_false, imp_self, true_implies, false_implies, implies_true, evP, evE, ev, setD, Nat.reduceAdd, Nat.reduceSub, reduceCtorEq, fillA, cutA, Nat.reduceLeDiff, Nat.reduceMul, Int.reduceLT, Int.reduceLE, Int.reduceEq, Int.reduceNe, Int.reduceAdd, Int.reduceSub, Int.reduceMul, Int.reduceNeg, Int.reduceToNat]
  refine loop_for ll.length 0 (fun j _ => [v, .int .i64 (k + totF (ll.take j)), .any, .any, .int .i64 0, .int .i64 j, .any, .any, .any, .any, .any, .any, .any, .any, .any, .any, .any, .any, .any]) (fun _ hp => hp)
    (fun j hp m => Fows true lo hi hp v vs (markFF k (ll.take j) ++ ll.drop j) ∧ (∀ i, i < n → (i < lo ∨ hi ≤ i) → hp i = h i)) h (Nat.zero_le _) ⟨by simpa [markFF] using s, fun _ _ _ => rfl⟩ (by simp [LeL, Le1, totF]) (fun _ _ h => h) ?_
  rintro j hp m - hj hm ⟨g1, g2⟩
  have hlen : (markFF k (ll.take j) ++ ll.drop j).length = ll.length := by simp [markFF_len]; omega
  simp (maxSteps := 2000000) -implicitDefEqProofs (disch := omega) only [xsW, xsC, if_true, if_false, ite_true, ite_false, forall_const, ne_eq, beq_self_eq_true, bne_self_eq_false, imp_self, true_implies, false_implies, implies_true, evP, evE, ev, setD, Nat.reduceAdd, Nat.reduceSub, reduceCtorEq, fillA, cutA, Nat.reduceLeDiff, Nat.reduceMul, Int.reduceLT, Int.reduceLE, Int.reduceEq, Int.reduceNe, Int.reduceAdd, Int.reduceSub, Int.reduceMul, Int.reduceNeg, Int.reduceToNat,  g1.ln, hlen]
  (refine cd_dec (fun c1 => ?_) (fun c1 => ?_) <;> simp (maxSteps := 2000000) -implicitDefEqProofs (disch := omega) only [xsW, xsC, if_true, if_false, ite_true, ite_false, forall_const, ne_eq, beq_self_eq_true, bne_self_eq_false, imp_self, true_implies, false_implies, implies_true, evP, evE, ev, setD, Nat.reduceAdd, Nat.reduceSub, reduceCtorEq, fillA, cutA, Nat.reduceLeDiff, Nat.reduceMul, Int.reduceLT, Int.reduceLE, Int.reduceEq, Int.reduceNe, Int.reduceAdd, Int.reduceSub, Int.reduceMul, Int.reduceNeg, Int.reduceToNat,  c1])
  · have hj' : j < ll.length := by omega
    have hr := g1.row j (by omega)
    have e : (markFF k (ll.take j) ++ ll.drop j).getD j [] = ll.getD j [] := by
      have h1 : (markFF k (ll.take j)).length = j := by rw [markFF_len]; simp; omega
      simp [List.getD, List.getElem?_append_right, h1]
    rw [e] at hr
    have t1 := totF_take ll (j + 1)
    rw [take_succ_getD (d := []) hj', totF_snoc] at t1
    have hst := markFF_step k ll j hj'
    simp (maxSteps := 2000000) -implicitDefEqProofs (disch := omega) only [xsW, xsC, if_true, if_false, ite_true, ite_false, forall_const, ne_eq, beq_self_eq_true, bne_self_eq_false, imp_self, true_implies, false_implies, implies_true, evP, evE, ev, setD, Nat.reduceAdd, Nat.reduceSub, reduceCtorEq, fillA, cutA, Nat.reduceLeDiff, Nat.reduceMul, Int.reduceLT, Int.reduceLE, Int.reduceEq, Int.reduceNe, Int.reduceAdd, Int.reduceSub, Int.reduceMul, Int.reduceNeg, Int.reduceToNat,  g1.ia, hlen, g1.ld]
    by_cases e0 : vs.getD j .any = .nilsl
    · have hr0 : Fracs true m m hp (vs.getD j .any) (ll.getD j []) := by
        have := Sl.len hr
        rw [e0] at this ⊢
        have e3 : fracs (ll.getD j []) = [] := List.eq_nil_of_length_eq_zero (by simpa [slen] using this)
        unfold Fracs
        rw [e3]; exact Sl.nil
      have hz : ll.getD j [] = [] := by
        have := Fracs.slen hr
        rw [e0] at this
        exact List.eq_nil_of_length_eq_zero this.symm
      refine mq_use (laws_markFracS hr0 (k + totF (ll.take j)) (by omega) (by omega) m (by omega)) (fun i a b => absurd b (by omega)) fun x h' n' q0 ⟨q1, q2, q3⟩ => ?_
      subst q1
      simp (maxSteps := 2000000) -implicitDefEqProofs (disch := omega) only [xsW, xsC, if_true, if_false, ite_true, ite_false, forall_const, ne_eq, beq_self_eq_true, bne_self_eq_false, imp_self, true_implies, false_implies, implies_true, evP, evE, ev, setD, Nat.reduceAdd, Nat.reduceSub, reduceCtorEq, fillA, cutA, Nat.reduceLeDiff, Nat.reduceMul, Int.reduceLT, Int.reduceLE, Int.reduceEq, Int.reduceNe, Int.reduceAdd, Int.reduceSub, Int.reduceMul, Int.reduceNeg, Int.reduceToNat]
      have g3 := g1.keep (h' := h') fun i a b => q3 i (by omega) (by omega)
      have e4 : (markFF k (ll.take j) ++ ll.drop j) = markFF k (ll.take (j + 1)) ++ ll.drop (j + 1) := by
        rw [← hst, hz]
        refine (getD_ext (d := []) (by simp) fun i hi => ?_)
        rw [getD_set]
        split
        · rename_i e5; obtain ⟨rfl, _⟩ := e5; rw [e, hz]; rfl
        · rfl
      rw [e4] at g3
      refine ⟨h', ⟨g3, fun i h1 h2 => by rw [q3 i (by omega) (by omega), g2 i h1 h2]⟩, by omega, by omega, ?_, fun _ _ h => h⟩
      rw [take_succ_getD (d := []) hj', totF_snoc]
      simp [LeL, Le1]
      omega
    · have hne := Sl.isReal hr e0
      have hown := Sl.own hr hne
      refine mq_use (laws_markFracS (Sl.just hr hne) (k + totF (ll.take j)) (by omega) (by omega) m (by omega)) (fun i a b => .inr ⟨by omega, by omega⟩) fun x h' n' q0 ⟨q1, q2, q3⟩ => ?_
      subst q1
      simp (maxSteps := 2000000) -implicitDefEqProofs (disch := omega) only [xsW, xsC, if_true, if_false, ite_true, ite_false, forall_const, ne_eq, beq_self_eq_true, bne_self_eq_false, imp_self, true_implies, false_implies, implies_true, evP, evE, ev, setD, Nat.reduceAdd, Nat.reduceSub, reduceCtorEq, fillA, cutA, Nat.reduceLeDiff, Nat.reduceMul, Int.reduceLT, Int.reduceLE, Int.reduceEq, Int.reduceNe, Int.reduceAdd, Int.reduceSub, Int.reduceMul, Int.reduceNeg, Int.reduceToNat]
      have g3 := g1.row1 (by omega) (q2.wide (by omega) (by omega)) hne (fun i a b c => q3 i (by omega) (by omega))
      rw [hst] at g3
      refine ⟨h', ⟨g3, fun i h1 h2 => by rw [q3 i (by omega) (by omega), g2 i h1 h2]⟩, by omega, by omega, ?_, fun _ _ h => h⟩
      rw [take_succ_getD (d := []) hj', totF_snoc]
      simp [LeL, Le1]
      omega
  · rw [List.take_of_length_le (by omega), List.drop_of_length_le (by omega), List.append_nil] at g1
    rw [List.take_of_length_le (by omega)]
    exact ⟨rfl, g1, g2⟩
theorem laws_heldFracSS {w : Bool} {lo hi : Nat} {h : AH} {v : AV} {vs : List AV} {ll : List FrL} {k : Int} (s : Fows w lo hi h v vs (markFF k ll)) (h0 : 0 ≤ k) (hb : k + totF ll ≤ 4611686018427387904) (hl : ll.length ≤ 1048576) (n : Nat) :
    Q Try.prog 20 [v, .int .i64 k] h n (.int .i64 (k + totF ll)) := by
  refine q_intro Try.func20 k_laws_heldFracSS ?_
  have hlen := markFF_len k ll
  simp (maxSteps := 2000000) -implicitDefEqProofs (disch := omega) only [c_laws_heldFracSS, xsW, xsC, if_true, if_false, ite_true, ite_false, forall_const, ne_eq, beq_self_eq_true, bne_self_eq_false, imp_self, true_implies, false_implies, implies_true, evP, evE, ev, setD, Nat.reduceAdd, Nat.reduceSub, reduceCtorEq, fillA, cutA, Nat.reduceLeDiff, Nat.reduceMul, Int.reduceLT, Int.reduceLE, Int.reduceEq, Int.reduceNe, Int.reduceAdd, Int.reduceSub, Int.reduceMul, Int.reduceNeg, Int.reduceToNat]
  refine loop_for ll.length 0 (fun j (_ : Unit) => [v, .int .i64 (k + totF (ll.take j)), .any, .any, .int .i64 0, .int .i64 j, .any, .any, .any, .any, .any, .any, .any, .any, .any, .any, .any, .any, .any, .any, .any]) (fun _ _ => h)
    (fun j _ m => True) () (Nat.zero_le _) trivial (by simp [LeL, Le1, totF]) (fun _ _ h => h) ?_
  rintro j - n1 - hj hm -
  simp (maxSteps := 2000000) -implicitDefEqProofs (disch := omega) only [xsW, xsC, if_true, if_false, ite_true, ite_false, forall_const, ne_eq, beq_self_eq_true, bne_self_eq_false, imp_self, true_implies, false_implies, implies_true, evP, evE, ev, setD, Nat.reduceAdd, Nat.reduceSub, reduceCtorEq, fillA, cutA, Nat.reduceLeDiff, Nat.reduceMul, Int.reduceLT, Int.reduceLE, Int.reduceEq, Int.reduceNe, Int.reduceAdd, Int.reduceSub, Int.reduceMul, Int.reduceNeg, Int.reduceToNat,  s.ln, hlen]
  (refine cd_dec (fun c1 => ?_) (fun c1 => ?_) <;> simp (maxSteps := 2000000) -implicitDefEqProofs (disch := omega) only [xsW, xsC, if_true, if_false, ite_true, ite_false, forall_const, ne_eq, beq_self_eq_true, bne_self_eq_false, imp_self, true_implies, false_implies, implies_true, evP, evE, ev, setD, Nat.reduceAdd, Nat.reduceSub, reduceCtorEq, fillA, cutA, Nat.reduceLeDiff, Nat.reduceMul, Int.reduceLT, Int.reduceLE, Int.reduceEq, Int.reduceNe, Int.reduceAdd, Int.reduceSub, Int.reduceMul, Int.reduceNeg, Int.reduceToNat,  c1])
  · have hj' : j < ll.length := by omega
    have hr := s.row j (by omega)
    rw [markFF_get k ll j hj'] at hr
    have t1 := totF_take ll (j + 1)
    rw [take_succ_getD (d := []) hj', totF_snoc] at t1
    simp (maxSteps := 2000000) -implicitDefEqProofs (disch := omega) only [xsW, xsC, if_true, if_false, ite_true, ite_false, forall_const, ne_eq, beq_self_eq_true, bne_self_eq_false, imp_self, true_implies, false_implies, implies_true, evP, evE, ev, setD, Nat.reduceAdd, Nat.reduceSub, reduceCtorEq, fillA, cutA, Nat.reduceLeDiff, Nat.reduceMul, Int.reduceLT, Int.reduceLE, Int.reduceEq, Int.reduceNe, Int.reduceAdd, Int.reduceSub, Int.reduceMul, Int.reduceNeg, Int.reduceToNat,  s.ia, s.ld, hlen]
    refine q_use (laws_heldFracS hr (by omega) (by omega) _) fun n2 hn2 => ?_
    simp (maxSteps := 2000000) -implicitDefEqProofs (disch := omega) only [xsW, xsC, if_true, if_false, ite_true, ite_false, forall_const, ne_eq, beq_self_eq_true, bne_self_eq_false, imp_self, true_implies, false_implies, implies_true, evP, evE, ev, setD, Nat.reduceAdd, Nat.reduceSub, reduceCtorEq, fillA, cutA, Nat.reduceLeDiff, Nat.reduceMul, Int.reduceLT, Int.reduceLE, Int.reduceEq, Int.reduceNe, Int.reduceAdd, Int.reduceSub, Int.reduceMul, Int.reduceNeg, Int.reduceToNat]
    refine ⟨(), by omega, by omega, ?_⟩
    rw [take_succ_getD (d := []) hj', totF_snoc]
    simp [LeL, Le1]
    omega
  · rw [List.take_of_length_le (by omega)]
theorem solsV_small (ll : List (List Int)) (q : List Int) : (solsV ll q).1.length ≤ 1048576 ∧ ∀ l ∈ (solsV ll q).1, l.length ≤ 1048576 := by
  refine ⟨by have := solsV_len ll q; omega, fun l hl => ?_⟩
  unfold solsV at hl
  split at hl
  · rename_i hp
    have := ((solsK_facts hp _).1 l hl).1
    have := ((isMat_iff ll).1 (isProb_facts hp).1).2.1
    omega
  · simp at hl
set_option maxHeartbeats 2000000 in
theorem laws_SolutionsOf {h : AH} {w_p : Bool} {lo_p hi_p : Nat} {v_p u_p : AV} {vs_p : List AV} {p : List (List Int)} {q_p : List Int} (s_p : Prob w_p lo_p hi_p h v_p u_p vs_p p q_p) (hl_p : p.length ≤ 9223372036854775807) (hll_p : ∀ l ∈ p, l.length ≤ 9223372036854775807) (hlq_p : q_p.length ≤ 9223372036854775807) (n : Nat) (hn_p : hi_p ≤ n) :
    Q Try.prog 4 [.agg [v_p, u_p]] h n (.bool true) := by
  refine q_intro Try.func4 k_laws_FnExactSolutionsOf ?_
  have o1 := one_any (Sl.any s_p.M.out)
  have oq1 := sto_any (Sl.any s_p.M.out)
  have oc1 := cel_any (Sl.any s_p.M.out)
  have o2 := one_any (Sl.any s_p.Q)
  have oq2 := sto_any (Sl.any s_p.Q)
  have oc2 := cel_any (Sl.any s_p.Q)
  simp (maxSteps := 2000000) -implicitDefEqProofs (disch := omega) only [c_laws_FnExactSolutionsOf, o1, oq1, oc1, o2, oq2, oc2, xsW, xsC, if_true, if_false, ite_true, ite_false, forall_const, ne_eq, beq_self_eq_true, bne_self_eq_false, imp_self, true_implies, false_implies, implies_true, evP, evE, ev, setD, Nat.reduceAdd, Nat.reduceSub, reduceCtorEq, fillA, cutA, Nat.reduceLeDiff, Nat.reduceMul, Int.reduceLT, Int.reduceLE, Int.reduceEq, Int.reduceNe, Int.reduceAdd, Int.reduceSub, Int.reduceMul, Int.reduceNeg, Int.reduceToNat]
  refine q_use_ex (laws_szProblem (s_p.keep (fun i _ hi9 => by simp (disch := omega) only [upd_other])) hl_p hll_p hlq_p 1048576 (by omega) (by omega) _ (by omega)) fun rz3 n3 hn3 ⟨hr3a, hr3b, hr3c⟩ => ?_
  simp (maxSteps := 2000000) -implicitDefEqProofs (disch := omega) only [xsW, xsC, if_true, if_false, ite_true, ite_false, forall_const, ne_eq, beq_self_eq_true, bne_self_eq_false, imp_self, true_implies, false_implies, implies_true, evP, evE, ev, setD, Nat.reduceAdd, Nat.reduceSub, reduceCtorEq, fillA, cutA, Nat.reduceLeDiff, Nat.reduceMul, Int.reduceLT, Int.reduceLE, Int.reduceEq, Int.reduceNe, Int.reduceAdd, Int.reduceSub, Int.reduceMul, Int.reduceNeg, Int.reduceToNat,  o1, oq1, oc1, o2, oq2, oc2]
  (refine cd_dec (fun cz3 => ?_) (fun cz3 => ?_) <;> simp (maxSteps := 2000000) -implicitDefEqProofs (disch := omega) only [xsW, xsC, if_true, if_false, ite_true, ite_false, forall_const, ne_eq, beq_self_eq_true, bne_self_eq_false, imp_self, true_implies, false_implies, implies_true, evP, evE, ev, setD, Nat.reduceAdd, Nat.reduceSub, reduceCtorEq, fillA, cutA, Nat.reduceLeDiff, Nat.reduceMul, Int.reduceLT, Int.reduceLE, Int.reduceEq, Int.reduceNe, Int.reduceAdd, Int.reduceSub, Int.reduceMul, Int.reduceNeg, Int.reduceToNat,  cz3])
  obtain ⟨hb_p, hbb_p⟩ := sz_len2 (by omega) (fun h0 => (hr3c h0).1) cz3
  have hbq_p : q_p.length ≤ 1048576 := by have := (hr3c (by omega)).2; omega
  refine fq_use (laws_toProblem (s_p.keep (fun i _ hi9 => by simp (disch := omega) only [upd_other])) hb_p hbb_p hbq_p _ (by omega)) fun x4 h4 n4 hn4 hs4 ⟨v4, u4, vs4, hx4, hv4⟩ => ?_
  subst hx4
  have o5 := one_any (Sl.any hv4.M.out)
  have oq5 := sto_any (Sl.any hv4.M.out)
  have oc5 := cel_any (Sl.any hv4.M.out)
  have o6 := one_any (Sl.any hv4.Q)
  have oq6 := sto_any (Sl.any hv4.Q)
  have oc6 := cel_any (Sl.any hv4.Q)
  simp (maxSteps := 2000000) -implicitDefEqProofs (disch := omega) only [xsW, xsC, if_true, if_false, ite_true, ite_false, forall_const, ne_eq, beq_self_eq_true, bne_self_eq_false, imp_self, true_implies, false_implies, implies_true, evP, evE, ev, setD, Nat.reduceAdd, Nat.reduceSub, reduceCtorEq, fillA, cutA, Nat.reduceLeDiff, Nat.reduceMul, Int.reduceLT, Int.reduceLE, Int.reduceEq, Int.reduceNe, Int.reduceAdd, Int.reduceSub, Int.reduceMul, Int.reduceNeg, Int.reduceToNat,  o1, oq1, oc1, o2, oq2, oc2, o5, oq5, oc5, o6, oq6, oc6, hs4]
  refine fq_use (spec_SolutionsOf (hv4.keep (fun i _ hi9 => by simp (disch := omega) only [upd_other, hs4])) hb_p hbb_p hbq_p _ (by omega)) fun x7 h7 n7 hn7 hs7 ⟨v7, vs7, hx7, hv7⟩ => ?_
  subst hx7
  simp (maxSteps := 2000000) -implicitDefEqProofs (disch := omega) only [xsW, xsC, if_true, if_false, ite_true, ite_false, forall_const, ne_eq, beq_self_eq_true, bne_self_eq_false, imp_self, true_implies, false_implies, implies_true, evP, evE, ev, setD, Nat.reduceAdd, Nat.reduceSub, reduceCtorEq, fillA, cutA, Nat.reduceLeDiff, Nat.reduceMul, Int.reduceLT, Int.reduceLE, Int.reduceEq, Int.reduceNe, Int.reduceAdd, Int.reduceSub, Int.reduceMul, Int.reduceNeg, Int.reduceToNat,  o1, oq1, oc1, o2, oq2, oc2, o5, oq5, oc5, o6, oq6, oc6, hs7, hs4]
  refine fq_use (laws_toProblem (s_p.keep (fun i _ hi9 => by simp (disch := omega) only [upd_other, hs7, hs4])) hb_p hbb_p hbq_p _ (by omega)) fun x8 h8 n8 hn8 hs8 ⟨v8, u8, vs8, hx8, hv8⟩ => ?_
  subst hx8
  have o9 := one_any (Sl.any hv8.M.out)
  have oq9 := sto_any (Sl.any hv8.M.out)
  have oc9 := cel_any (Sl.any hv8.M.out)
  have o10 := one_any (Sl.any hv8.Q)
  have oq10 := sto_any (Sl.any hv8.Q)
  have oc10 := cel_any (Sl.any hv8.Q)
  simp (maxSteps := 2000000) -implicitDefEqProofs (disch := omega) only [xsW, xsC, if_true, if_false, ite_true, ite_false, forall_const, ne_eq, beq_self_eq_true, bne_self_eq_false, imp_self, true_implies, false_implies, implies_true, evP, evE, ev, setD, Nat.reduceAdd, Nat.reduceSub, reduceCtorEq, fillA, cutA, Nat.reduceLeDiff, Nat.reduceMul, Int.reduceLT, Int.reduceLE, Int.reduceEq, Int.reduceNe, Int.reduceAdd, Int.reduceSub, Int.reduceMul, Int.reduceNeg, Int.reduceToNat,  o1, oq1, oc1, o2, oq2, oc2, o5, oq5, oc5, o6, oq6, oc6, o9, oq9, oc9, o10, oq10, oc10, hs8, hs7, hs4]
  refine fq_use (impl_SolutionsOf (hv8.keep (fun i _ hi9 => by simp (disch := omega) only [upd_other, hs8, hs7, hs4])) hb_p hbb_p hbq_p _ (by omega)) fun x11 h11 n11 hn11 hs11 ⟨v11, vs11, hx11, hv11⟩ => ?_
  subst hx11
  have hBR := solsV_small p q_p
  simp (maxSteps := 2000000) -implicitDefEqProofs (disch := omega) only [xsW, xsC, if_true, if_false, ite_true, ite_false, forall_const, ne_eq, beq_self_eq_true, bne_self_eq_false, imp_self, true_implies, false_implies, implies_true, evP, evE, ev, setD, Nat.reduceAdd, Nat.reduceSub, reduceCtorEq, fillA, cutA, Nat.reduceLeDiff, Nat.reduceMul, Int.reduceLT, Int.reduceLE, Int.reduceEq, Int.reduceNe, Int.reduceAdd, Int.reduceSub, Int.reduceMul, Int.reduceNeg, Int.reduceToNat,  o1, oq1, oc1, o2, oq2, oc2, o5, oq5, oc5, o6, oq6, oc6, o9, oq9, oc9, o10, oq10, oc10, hs11, hs8, hs7, hs4]
  refine q_use (laws_eqFracSS (hv11.keep (fun i _ hi9 => by simp (disch := omega) only [upd_other, hs11, hs8, hs7, hs4])) (hv7.keep (fun i _ hi9 => by simp (disch := omega) only [upd_other, hs11, hs8, hs7, hs4])) hBR.1 hBR.2 _) fun n12 hn12 => ?_
  simp (maxSteps := 2000000) -implicitDefEqProofs (disch := omega) only [xsW, xsC, if_true, if_false, ite_true, ite_false, forall_const, ne_eq, beq_self_eq_true, bne_self_eq_false, imp_self, true_implies, false_implies, implies_true, evP, evE, ev, setD, Nat.reduceAdd, Nat.reduceSub, reduceCtorEq, fillA, cutA, Nat.reduceLeDiff, Nat.reduceMul, Int.reduceLT, Int.reduceLE, Int.reduceEq, Int.reduceNe, Int.reduceAdd, Int.reduceSub, Int.reduceMul, Int.reduceNeg, Int.reduceToNat,  o1, oq1, oc1, o2, oq2, oc2, o5, oq5, oc5, o6, oq6, oc6, o9, oq9, oc9, o10, oq10, oc10, hs11, hs8, hs7, hs4]
  refine fq_use (laws_toProblem (s_p.keep (fun i _ hi9 => by simp (disch := omega) only [upd_other, hs11, hs8, hs7, hs4])) hb_p hbb_p hbq_p _ (by omega)) fun x13 h13 n13 hn13 hs13 ⟨v13, u13, vs13, hx13, hv13⟩ => ?_
  subst hx13
  have o14 := one_any (Sl.any hv13.M.out)
  have oq14 := sto_any (Sl.any hv13.M.out)
  have oc14 := cel_any (Sl.any hv13.M.out)
  have o15 := one_any (Sl.any hv13.Q)
  have oq15 := sto_any (Sl.any hv13.Q)
  have oc15 := cel_any (Sl.any hv13.Q)
  simp (maxSteps := 2000000) -implicitDefEqProofs (disch := omega) only [xsW, xsC, if_true, if_false, ite_true, ite_false, forall_const, ne_eq, beq_self_eq_true, bne_self_eq_false, imp_self, true_implies, false_implies, implies_true, evP, evE, ev, setD, Nat.reduceAdd, Nat.reduceSub, reduceCtorEq, fillA, cutA, Nat.reduceLeDiff, Nat.reduceMul, Int.reduceLT, Int.reduceLE, Int.reduceEq, Int.reduceNe, Int.reduceAdd, Int.reduceSub, Int.reduceMul, Int.reduceNeg, Int.reduceToNat,  o1, oq1, oc1, o2, oq2, oc2, o5, oq5, oc5, o6, oq6, oc6, o9, oq9, oc9, o10, oq10, oc10, o14, oq14, oc14, o15, oq15, oc15, hs13, hs11, hs8, hs7, hs4]
  refine q_use (laws_eqProblem (hv8.keep (fun i _ hi9 => by simp (disch := omega) only [upd_other, hs13, hs11, hs8, hs7, hs4])) (hv13.keep (fun i _ hi9 => by simp (disch := omega) only [upd_other, hs13, hs11, hs8, hs7, hs4])) hb_p hbb_p hbq_p _ (by omega) (by omega)) fun n16 hn16 => ?_
  simp (maxSteps := 2000000) -implicitDefEqProofs (disch := omega) only [xsW, xsC, if_true, if_false, ite_true, ite_false, forall_const, ne_eq, beq_self_eq_true, bne_self_eq_false, imp_self, true_implies, false_implies, implies_true, evP, evE, ev, setD, Nat.reduceAdd, Nat.reduceSub, reduceCtorEq, fillA, cutA, Nat.reduceLeDiff, Nat.reduceMul, Int.reduceLT, Int.reduceLE, Int.reduceEq, Int.reduceNe, Int.reduceAdd, Int.reduceSub, Int.reduceMul, Int.reduceNeg, Int.reduceToNat,  o1, oq1, oc1, o2, oq2, oc2, o5, oq5, oc5, o6, oq6, oc6, o9, oq9, oc9, o10, oq10, oc10, o14, oq14, oc14, o15, oq15, oc15, hs13, hs11, hs8, hs7, hs4]
  have ht_p := tot_bound p 1048576 hbb_p
  have hu_p : p.length * 1048576 ≤ 1048576 * 1048576 := Nat.mul_le_mul hb_p (Nat.le_refl _)
  refine mq_use (laws_markProblem (hv8.keep (fun i _ hi9 => by simp (disch := omega) only [upd_other, hs13, hs11, hs8, hs7, hs4])) _ (by omega) (by omega) hb_p _ (by omega)) (fun i a b => .inl (by omega)) fun x17 h17 n17 hn17 ⟨he17, hs17⟩ => ?_
  subst he17
  simp (maxSteps := 2000000) -implicitDefEqProofs (disch := omega) only [xsW, xsC, if_true, if_false, ite_true, ite_false, forall_const, ne_eq, beq_self_eq_true, bne_self_eq_false, imp_self, true_implies, false_implies, implies_true, evP, evE, ev, setD, Nat.reduceAdd, Nat.reduceSub, reduceCtorEq, fillA, cutA, Nat.reduceLeDiff, Nat.reduceMul, Int.reduceLT, Int.reduceLE, Int.reduceEq, Int.reduceNe, Int.reduceAdd, Int.reduceSub, Int.reduceMul, Int.reduceNeg, Int.reduceToNat,  o1, oq1, oc1, o2, oq2, oc2, o5, oq5, oc5, o6, oq6, oc6, o9, oq9, oc9, o10, oq10, oc10, o14, oq14, oc14, o15, oq15, oc15, hs17, hs13, hs11, hs8, hs7, hs4]
  refine q_use (laws_eqFracSS (hv11.keep (fun i _ hi9 => by simp (disch := omega) only [upd_other, hs17, hs13, hs11, hs8, hs7, hs4])) (hv7.keep (fun i _ hi9 => by simp (disch := omega) only [upd_other, hs17, hs13, hs11, hs8, hs7, hs4])) hBR.1 hBR.2 _) fun n18 hn18 => ?_
  simp (maxSteps := 2000000) -implicitDefEqProofs (disch := omega) only [xsW, xsC, if_true, if_false, ite_true, ite_false, forall_const, ne_eq, beq_self_eq_true, bne_self_eq_false, imp_self, true_implies, false_implies, implies_true, evP, evE, ev, setD, Nat.reduceAdd, Nat.reduceSub, reduceCtorEq, fillA, cutA, Nat.reduceLeDiff, Nat.reduceMul, Int.reduceLT, Int.reduceLE, Int.reduceEq, Int.reduceNe, Int.reduceAdd, Int.reduceSub, Int.reduceMul, Int.reduceNeg, Int.reduceToNat,  o1, oq1, oc1, o2, oq2, oc2, o5, oq5, oc5, o6, oq6, oc6, o9, oq9, oc9, o10, oq10, oc10, o14, oq14, oc14, o15, oq15, oc15, hs17, hs13, hs11, hs8, hs7, hs4]
  have htR := totF_bound _ 1048576 hBR.2
  have htS := Nat.mul_le_mul hBR.1 (Nat.le_refl 1048576)
  refine mq_use (laws_markFracSS (hv11.keep (fun i _ hi9 => by simp (disch := omega) only [upd_other, hs17, hs13, hs11, hs8, hs7, hs4])) 1 (by omega) (by omega) hBR.1 _ (by omega)) (fun i a b => .inl (by omega)) fun x19 h19 n19 hn19 ⟨he19, hv19, hs19⟩ => ?_
  subst he19
  simp (maxSteps := 2000000) -implicitDefEqProofs (disch := omega) only [xsW, xsC, if_true, if_false, ite_true, ite_false, forall_const, ne_eq, beq_self_eq_true, bne_self_eq_false, imp_self, true_implies, false_implies, implies_true, evP, evE, ev, setD, Nat.reduceAdd, Nat.reduceSub, reduceCtorEq, fillA, cutA, Nat.reduceLeDiff, Nat.reduceMul, Int.reduceLT, Int.reduceLE, Int.reduceEq, Int.reduceNe, Int.reduceAdd, Int.reduceSub, Int.reduceMul, Int.reduceNeg, Int.reduceToNat,  o1, oq1, oc1, o2, oq2, oc2, o5, oq5, oc5, o6, oq6, oc6, o9, oq9, oc9, o10, oq10, oc10, o14, oq14, oc14, o15, oq15, oc15, hs19, hs17, hs13, hs11, hs8, hs7, hs4]
  refine q_use (laws_heldFracSS (hv19.keep (fun i _ hi9 => by simp (disch := omega) only [upd_other, hs19, hs17, hs13, hs11, hs8, hs7, hs4])) (by omega) (by omega) hBR.1 _) fun n20 hn20 => ?_
  simp (maxSteps := 2000000) -implicitDefEqProofs (disch := omega) only [xsW, xsC, if_true, if_false, ite_true, ite_false, forall_const, ne_eq, beq_self_eq_true, bne_self_eq_false, imp_self, true_implies, false_implies, implies_true, evP, evE, ev, setD, Nat.reduceAdd, Nat.reduceSub, reduceCtorEq, fillA, cutA, Nat.reduceLeDiff, Nat.reduceMul, Int.reduceLT, Int.reduceLE, Int.reduceEq, Int.reduceNe, Int.reduceAdd, Int.reduceSub, Int.reduceMul, Int.reduceNeg, Int.reduceToNat,  o1, oq1, oc1, o2, oq2, oc2, o5, oq5, oc5, o6, oq6, oc6, o9, oq9, oc9, o10, oq10, oc10, o14, oq14, oc14, o15, oq15, oc15, hs19, hs17, hs13, hs11, hs8, hs7, hs4]
  refine fq_use (laws_toProblem (s_p.keep (fun i _ hi9 => by simp (disch := omega) only [upd_other, hs19, hs17, hs13, hs11, hs8, hs7, hs4])) hb_p hbb_p hbq_p _ (by omega)) fun x21 h21 n21 hn21 hs21 ⟨v21, u21, vs21, hx21, hv21⟩ => ?_
  subst hx21
  have o22 := one_any (Sl.any hv21.M.out)
  have oq22 := sto_any (Sl.any hv21.M.out)
  have oc22 := cel_any (Sl.any hv21.M.out)
  have o23 := one_any (Sl.any hv21.Q)
  have oq23 := sto_any (Sl.any hv21.Q)
  have oc23 := cel_any (Sl.any hv21.Q)
  simp (maxSteps := 2000000) -implicitDefEqProofs (disch := omega) only [xsW, xsC, if_true, if_false, ite_true, ite_false, forall_const, ne_eq, beq_self_eq_true, bne_self_eq_false, imp_self, true_implies, false_implies, implies_true, evP, evE, ev, setD, Nat.reduceAdd, Nat.reduceSub, reduceCtorEq, fillA, cutA, Nat.reduceLeDiff, Nat.reduceMul, Int.reduceLT, Int.reduceLE, Int.reduceEq, Int.reduceNe, Int.reduceAdd, Int.reduceSub, Int.reduceMul, Int.reduceNeg, Int.reduceToNat,  o1, oq1, oc1, o2, oq2, oc2, o5, oq5, oc5, o6, oq6, oc6, o9, oq9, oc9, o10, oq10, oc10, o14, oq14, oc14, o15, oq15, oc15, o22, oq22, oc22, o23, oq23, oc23, hs21, hs19, hs17, hs13, hs11, hs8, hs7, hs4]
  refine fq_use (impl_SolutionsOf (hv21.keep (fun i _ hi9 => by simp (disch := omega) only [upd_other, hs21, hs19, hs17, hs13, hs11, hs8, hs7, hs4])) hb_p hbb_p hbq_p _ (by omega)) fun x24 h24 n24 hn24 hs24 ⟨v24, vs24, hx24, hv24⟩ => ?_
  subst hx24
  simp (maxSteps := 2000000) -implicitDefEqProofs (disch := omega) only [xsW, xsC, if_true, if_false, ite_true, ite_false, forall_const, ne_eq, beq_self_eq_true, bne_self_eq_false, imp_self, true_implies, false_implies, implies_true, evP, evE, ev, setD, Nat.reduceAdd, Nat.reduceSub, reduceCtorEq, fillA, cutA, Nat.reduceLeDiff, Nat.reduceMul, Int.reduceLT, Int.reduceLE, Int.reduceEq, Int.reduceNe, Int.reduceAdd, Int.reduceSub, Int.reduceMul, Int.reduceNeg, Int.reduceToNat,  o1, oq1, oc1, o2, oq2, oc2, o5, oq5, oc5, o6, oq6, oc6, o9, oq9, oc9, o10, oq10, oc10, o14, oq14, oc14, o15, oq15, oc15, o22, oq22, oc22, o23, oq23, oc23, hs24, hs21, hs19, hs17, hs13, hs11, hs8, hs7, hs4]
  refine q_use (laws_eqFracSS (hv24.keep (fun i _ hi9 => by simp (disch := omega) only [upd_other, hs24, hs21, hs19, hs17, hs13, hs11, hs8, hs7, hs4])) (hv7.keep (fun i _ hi9 => by simp (disch := omega) only [upd_other, hs24, hs21, hs19, hs17, hs13, hs11, hs8, hs7, hs4])) hBR.1 hBR.2 _) fun n25 hn25 => ?_
  simp (maxSteps := 2000000) -implicitDefEqProofs (disch := omega) only [xsW, xsC, if_true, if_false, ite_true, ite_false, forall_const, ne_eq, beq_self_eq_true, bne_self_eq_false, imp_self, true_implies, false_implies, implies_true, evP, evE, ev, setD, Nat.reduceAdd, Nat.reduceSub, reduceCtorEq, fillA, cutA, Nat.reduceLeDiff, Nat.reduceMul, Int.reduceLT, Int.reduceLE, Int.reduceEq, Int.reduceNe, Int.reduceAdd, Int.reduceSub, Int.reduceMul, Int.reduceNeg, Int.reduceToNat,  o1, oq1, oc1, o2, oq2, oc2, o5, oq5, oc5, o6, oq6, oc6, o9, oq9, oc9, o10, oq10, oc10, o14, oq14, oc14, o15, oq15, oc15, o22, oq22, oc22, o23, oq23, oc23, hs24, hs21, hs19, hs17, hs13, hs11, hs8, hs7, hs4]
  refine q_use (laws_heldFracSS (hv19.keep (fun i _ hi9 => by simp (disch := omega) only [upd_other, hs24, hs21, hs19, hs17, hs13, hs11, hs8, hs7, hs4])) (by omega) (by omega) hBR.1 _) fun n26 hn26 => ?_
  simp (maxSteps := 2000000) -implicitDefEqProofs (disch := omega) only [xsW, xsC, if_true, if_false, ite_true, ite_false, forall_const, ne_eq, beq_self_eq_true, bne_self_eq_false, imp_self, true_implies, false_implies, implies_true, evP, evE, ev, setD, Nat.reduceAdd, Nat.reduceSub, reduceCtorEq, fillA, cutA, Nat.reduceLeDiff, Nat.reduceMul, Int.reduceLT, Int.reduceLE, Int.reduceEq, Int.reduceNe, Int.reduceAdd, Int.reduceSub, Int.reduceMul, Int.reduceNeg, Int.reduceToNat,  o1, oq1, oc1, o2, oq2, oc2, o5, oq5, oc5, o6, oq6, oc6, o9, oq9, oc9, o10, oq10, oc10, o14, oq14, oc14, o15, oq15, oc15, o22, oq22, oc22, o23, oq23, oc23, hs24, hs21, hs19, hs17, hs13, hs11, hs8, hs7, hs4]
end Go.Proofs.Ytkpibnhddhdooab.L
