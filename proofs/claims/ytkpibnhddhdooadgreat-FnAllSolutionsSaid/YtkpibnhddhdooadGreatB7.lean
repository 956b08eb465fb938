/- The library's sort at this program. -/
import Derived.Test.YtkpibnhddhdooadGreatB6
import Derived.Shelf.SlLaysF
import Derived.Shelf.SlGeneric
import Derived.Test.YtkpibnhddhdooadGreatProg
import Derived.Shelf.SlSortCmp.NoneTotal
set_option linter.unusedSimpArgs false
set_option linter.unusedVariables false
namespace Go.Proofs
open Go.Shelf
def Tryz.sortL_ren : Go.Shelf.Ren := ⟨fun | 6 => 48 | 15 => 85 | 14 => 84 | 28 => 121 | 29 => 122 | 20 => 113 | 21 => 114 | 22 => 115 | 23 => 116 | 24 => 117 | 25 => 118 | 26 => 119 | 27 => 120 | 46 => 140 | 47 => 141 | 48 => 142 | 49 => 143 | 50 => 144 | 57 => 153 | n => n, fun | 22 => 40 | 24 => 27 | 25 => 73 | 3 => 3 | 39 => 106 | 0 => 0 | 53 => 137 | 55 => 91 | 4 => 4 | 46 => 130 | 45 => 129 | 50 => 134 | 5 => 5 | 9 => 9 | 66 => 149 | 70 => 153 | 76 => 159 | 77 => 160 | n => n, fun | n => n⟩
theorem Tryz.sortL : Go.Proofs.SlLaysF.n6 Tryz.prog Tryz.sortL_ren := {
  mixed := by kernel_rfl
  f6 := ⟨Tryz.f48.name, by decide, Tryz.func48.trans (congrArg some (by kernel_rfl))⟩
  f14 := ⟨Tryz.f84.name, by decide, Tryz.func84.trans (congrArg some (by kernel_rfl))⟩
  f15 := Tryz.func85.trans (congrArg some (by kernel_rfl))
  f20 := ⟨Tryz.f113.name, by decide, Tryz.func113.trans (congrArg some (by kernel_rfl))⟩
  f21 := ⟨Tryz.f114.name, by decide, Tryz.func114.trans (congrArg some (by kernel_rfl))⟩
  f22 := ⟨Tryz.f115.name, by decide, Tryz.func115.trans (congrArg some (by kernel_rfl))⟩
  f23 := ⟨Tryz.f116.name, by decide, Tryz.func116.trans (congrArg some (by kernel_rfl))⟩
  f24 := ⟨Tryz.f117.name, by decide, Tryz.func117.trans (congrArg some (by kernel_rfl))⟩
  f25 := ⟨Tryz.f118.name, by decide, Tryz.func118.trans (congrArg some (by kernel_rfl))⟩
  f26 := ⟨Tryz.f119.name, by decide, Tryz.func119.trans (congrArg some (by kernel_rfl))⟩
  f27 := ⟨Tryz.f120.name, by decide, Tryz.func120.trans (congrArg some (by kernel_rfl))⟩
  f28 := Tryz.func121.trans (congrArg some (by kernel_rfl))
  f29 := Tryz.func122.trans (congrArg some (by kernel_rfl))
  f46 := ⟨Tryz.f140.name, by decide, Tryz.func140.trans (congrArg some (by kernel_rfl))⟩
  f47 := Tryz.func141.trans (congrArg some (by kernel_rfl))
  f48 := Tryz.func142.trans (congrArg some (by kernel_rfl))
  f49 := ⟨Tryz.f143.name, by decide, Tryz.func143.trans (congrArg some (by kernel_rfl))⟩
  f50 := ⟨Tryz.f144.name, by decide, Tryz.func144.trans (congrArg some (by kernel_rfl))⟩
  f57 := ⟨Tryz.f153.name, by decide, Tryz.func153.trans (congrArg some (by kernel_rfl))⟩
  t0 := Tryz.underlying0
  a0 := Tryz.isAgg0
  z0 := Tryz.sizeOf0
  v0 := Tryz.zeroValue0
  t3 := Tryz.underlying3
  a3 := Tryz.isAgg3
  z3 := Tryz.sizeOf3
  v3 := Tryz.zeroValue3
  t4 := Tryz.underlying4
  a4 := Tryz.isAgg4
  z4 := Tryz.sizeOf4
  v4 := Tryz.zeroValue4
  t5 := Tryz.underlying5
  a5 := Tryz.isAgg5
  z5 := Tryz.sizeOf5
  v5 := Tryz.zeroValue5
  t9 := Tryz.underlying9
  a9 := Tryz.isAgg9
  z9 := Tryz.sizeOf9
  v9 := Tryz.zeroValue9
  t22 := Tryz.underlying40
  a22 := Tryz.isAgg40
  z22 := Tryz.sizeOf40
  v22 := Tryz.zeroValue40
  a24 := Tryz.isAgg27
  z24 := Tryz.sizeOf27
  t25 := Tryz.underlying73
  a25 := Tryz.isAgg73
  z25 := Tryz.sizeOf73
  v25 := Tryz.zeroValue73
  t39 := Tryz.underlying106
  a39 := Tryz.isAgg106
  z39 := Tryz.sizeOf106
  v39 := Tryz.zeroValue106
  t45 := Tryz.underlying129
  a45 := Tryz.isAgg129
  z45 := Tryz.sizeOf129
  v45 := Tryz.zeroValue129
  t46 := Tryz.underlying130
  a46 := Tryz.isAgg130
  z46 := Tryz.sizeOf130
  v46 := Tryz.zeroValue130
  t50 := Tryz.underlying134
  a50 := Tryz.isAgg134
  z50 := Tryz.sizeOf134
  v50 := Tryz.zeroValue134
  t53 := Tryz.underlying137
  a53 := Tryz.isAgg137
  z53 := Tryz.sizeOf137
  v53 := Tryz.zeroValue137
  t55 := Tryz.underlying91
  a55 := Tryz.isAgg91
  z55 := Tryz.sizeOf91
  v55 := Tryz.zeroValue91
  t66 := Tryz.underlying149
  a66 := Tryz.isAgg149
  z66 := Tryz.sizeOf149
  v66 := Tryz.zeroValue149
  t70 := Tryz.underlying153
  a70 := Tryz.isAgg153
  z70 := Tryz.sizeOf153
  v70 := Tryz.zeroValue153
  t76 := Tryz.underlying159
  a76 := Tryz.isAgg159
  z76 := Tryz.sizeOf159
  v76 := Tryz.zeroValue159
  t77 := Tryz.underlying160
  a77 := Tryz.isAgg160
  z77 := Tryz.sizeOf160
  v77 := Tryz.zeroValue160 }
end Go.Proofs
namespace Go.Proofs.YtkpibnhddhdooadGreat.L
open Go Go.Proofs
def c_impl_SolutionsOf : F := ⟨(.seq (.reg false [⟨some 1, .box 30 (.t 0), none⟩, ⟨some 2, .mv (.c .nilsl), none⟩, ⟨some 3, .mv (.c (.int .i64 0)), none⟩]) (.seq (.reg false [⟨some 12, .ld 2 (.t 1), none⟩, ⟨some 13, .call (.f 46) [(.t 12)], none⟩, ⟨some 11, .mv (.t 13), none⟩, ⟨some 14, .ext (.t 11) 0, none⟩, ⟨some 15, .ext (.t 11) 1, none⟩, ⟨some 4, .mv (.t 14), none⟩, ⟨some 5, .mv (.t 15), none⟩]) (.seq (.seq (.reg false [⟨some 16, .mv (.t 5), none⟩, ⟨some 17, .bin .neq (.t 16) (.c (.int .i64 0)), none⟩]) (.cond (.t 17) (.seq (.reg false [⟨some 18, .mv (.t 5), none⟩, ⟨some 2, .mv (.c .nilsl), none⟩, ⟨some 3, .mv (.t 18), none⟩]) .ret) .skip)) (.seq (.reg false [⟨some 6, .mv (.c .nilsl), none⟩]) (.seq (.seq (.reg false [⟨some 19, .mv (.t 4), none⟩, ⟨some 20, .len (.t 19), none⟩, ⟨some 21, .mv (.c (.int .i64 0)), none⟩]) (.block 0 (.loop (.seq (.reg false [⟨some 22, .bin .lss (.t 21) (.t 20), none⟩]) (.seq (.cond (.t 22) .skip (.exit 0)) (.seq (.block 1 (.seq (.reg false [⟨some 23, .ia 1 (.t 19) (.t 21), none⟩, ⟨some 24, .ld1 (.t 23), none⟩, ⟨some 8, .mv (.t 24), none⟩]) (.seq (.reg false [⟨some 26, .ld 2 (.t 1), none⟩, ⟨some 27, .mv (.t 8), none⟩, ⟨some 28, .call (.f 47) [(.t 26), (.t 27)], none⟩, ⟨some 25, .mv (.t 28), none⟩, ⟨some 29, .ext (.t 25) 0, none⟩, ⟨some 30, .ext (.t 25) 1, none⟩, ⟨some 9, .mv (.t 29), none⟩, ⟨some 10, .mv (.t 30), none⟩]) (.seq (.seq (.reg false [⟨some 31, .mv (.t 10), none⟩, ⟨some 32, .bin .neq (.t 31) (.c (.int .i64 0)), none⟩]) (.cond (.t 32) (.seq (.reg false [⟨some 33, .mv (.t 10), none⟩, ⟨some 2, .mv (.c .nilsl), none⟩, ⟨some 3, .mv (.t 33), none⟩]) .ret) .skip)) (.reg false [⟨some 34, .mv (.t 6), none⟩, ⟨some 35, .mv (.t 9), none⟩, ⟨some 36, .lit 27 1 1 [.nilsl] [(0, (.t 35))], none⟩, ⟨some 37, .app 27 1 24 [.nilsl] (.t 34) (.t 36), none⟩, ⟨some 6, .mv (.t 37), none⟩]))))) (.reg false [⟨some 38, .bin .add (.t 21) (.c (.int .i64 1)), none⟩, ⟨some 21, .mv (.t 38), none⟩]))))))) (.seq (.reg false [⟨some 39, .mv (.t 6), none⟩, ⟨some 40, .call (.f 48) [(.t 39), (.f 49)], none⟩]) (.seq (.reg false [⟨some 41, .mv (.t 6), none⟩, ⟨some 42, .call (.f 50) [(.t 41), (.f 51)], none⟩, ⟨some 2, .mv (.t 42), none⟩, ⟨some 3, .mv (.c (.int .i64 0)), none⟩]) .ret))))))), 43, [(.t 2), (.t 3)]⟩
theorem k_impl_SolutionsOf : compF Tryz.prog Tryz.f16 = some c_impl_SolutionsOf := by kernel_rfl
theorem sort_nil {h : AH} {n g : Nat} (hf : okFn Tryz.prog 48 = true) : Q Tryz.prog 48 [.nilsl, .fn g []] h n (.tup []) := by
  refine ⟨n, hf, Nat.le_refl _, fun ρ w vs' hs ha hfresh => ?_⟩
  simp only [IsL] at ha
  obtain ⟨v1, _, rfl, hv, v2, _, rfl, hf2, rfl⟩ := ha
  simp only [Is] at hv hf2
  subst hv
  refine Calls.mono (AnyF.slices_SortFunc_none (P := Tryz.prog) (ρ := Tryz.sortL_ren) { Tryz.sortL with } none 0 v2 w) ?_
  rintro e w' ⟨rfl, rfl⟩
  exact ⟨.tuple #[], ρ, rfl, by simp [Is, IsL], hs, Cx.refl ρ w' none' n n fun i h1 h2 => by omega⟩
theorem compact_nil {h : AH} {n g : Nat} : Q Tryz.prog 50 [.nilsl, .fn g []] h n .nilsl := by
  refine q_intro Tryz.func50 k_slices_CompactFunc_SSimpl_Frac_Simpl_Frac ?_
  simp (maxSteps := 2000000) -implicitDefEqProofs (disch := omega) only [c_slices_CompactFunc_SSimpl_Frac_Simpl_Frac, xsW, xsC, xsD, xsE, fillA, reduceCtorEq, Nat.reduceAdd, Nat.reduceSub, Nat.reduceLeDiff, Nat.reduceMul, Int.reduceLT, Int.reduceLE, Int.reduceEq, Int.reduceNe, Int.reduceAdd, Int.reduceSub, Int.reduceMul, Int.reduceNeg, Int.reduceToNat]
theorem swo_lists {N : Nat} {zs : List FrL} (hg : ∀ z ∈ zs, GoodF N z) (h0 : 0 < zs.length) : Sort.SWO (ltOf fun x y => cmpL (zs.getD (ixm zs.length x) []) (zs.getD (ixm zs.length y) [])) := by
  have gj : ∀ x, GoodF N (zs.getD (ixm zs.length x) []) := fun x => hg _ (getD_mem (by unfold ixm; split <;> omega))
  have key : ∀ x y, ltOf (fun x y => cmpL (zs.getD (ixm zs.length x) []) (zs.getD (ixm zs.length y) [])) x y = true ↔ ltL (zs.getD (ixm zs.length x) []) (zs.getD (ixm zs.length y) []) := fun x y => by
    rw [ltOf, decide_eq_true_eq]; rfl
  have keyf : ∀ x y, ltOf (fun x y => cmpL (zs.getD (ixm zs.length x) []) (zs.getD (ixm zs.length y) [])) x y = false ↔ ¬ ltL (zs.getD (ixm zs.length x) []) (zs.getD (ixm zs.length y) []) := fun x y => by
    rw [ltOf, decide_eq_false_iff_not]; rfl
  refine ⟨fun x => (keyf x x).2 (ltL_irr (gj x)), fun x y z h1 h2 => (key x z).2 (ltL_trans N (gj x) (gj y) (gj z) ((key x y).1 h1) ((key y z).1 h2)), fun x y z h1 h2 => (keyf x z).2 fun h3 => ?_⟩
  rcases ltL_not (gj y) (gj x) ((keyf x y).1 h1) with a | a
  · rcases ltL_not (gj z) (gj y) ((keyf y z).1 h2) with b | b
    · exact ltL_irr (gj x) (ltL_trans N (gj x) (gj z) (gj x) h3 (ltL_trans N (gj z) (gj y) (gj x) b a))
    · rw [b] at h3; exact ltL_asy (gj y) (gj x) a h3
  · rw [← a] at h3; exact (keyf y z).1 h2 h3
theorem solV_feas {ll : List (List Int)} {q : List Int} (hp : isProb ll q = true) {s : Nat} (hs : s < pw ll.length) (hf : setP ll q feasT s = true) : solV ll q (s : Int) = (zF ll q s, 0) := by
  have hc : codeP ll q (s : Int) = 0 := codeP_zero.2 ⟨hp, decide_eq_true (by omega)⟩
  have ha : allFr (onlyF (ptF ll q (s : Int)) (s : Int)) = true := good_all (zF_good hp (setP_d hf))
  unfold solV
  rw [if_pos hc, Int.toNat_natCast, if_pos hf, if_pos ha]
  rfl
def solsV (ll : List (List Int)) (q : List Int) : List FrL × Int := if isProb ll q = true then (solsK ll q (pw ll.length), 0) else ([], 1)
theorem fracs_low {n : Nat} (l : FrL) : ∀ c ∈ fracs l, lowC n c = true := fun c hc => by
  simp only [fracs, List.mem_flatten, List.mem_map] at hc
  obtain ⟨_, ⟨p, _, rfl⟩, hc⟩ := hc
  simp only [List.mem_cons, List.not_mem_nil, or_false] at hc
  rcases hc with rfl | rfl <;> rfl
theorem low_sl {lo hi n es : Nat} {h : AH} {v : AV} {cs : List AV} (s : Sl true lo hi h es v cs) (hn : hi ≤ n) : lowC n v = true := by
  rcases s.shape with rfl | ⟨hw, _⟩ | ⟨h1, h2, h3, _⟩
  · rfl
  · cases hw
  · cases v <;> simp only [isSl, Bool.false_eq_true] at h1
    all_goals
      simp only [bid] at h3
      simp only [lowC, decide_eq_true_eq]
      omega
section
variable {w : Bool} {lo hi : Nat} {h : AH} {v u : AV} {vs : List AV} {ll : List (List Int)} {q : List Int}
theorem impl_SolutionsOf (s : Prob w lo hi h v u vs ll q) (hl : ll.length ≤ 1048576) (hll : ∀ l ∈ ll, l.length ≤ 1048576) (hq : q.length ≤ 1048576) (n : Nat) (hn : hi ≤ n) :
    FQ Tryz.prog 16 [.agg [v, u]] h n fun x h' n' => ∃ v' vs', x = .tup [v', .int .i64 (solsV ll q).2] ∧ Fows true n n' h' v' vs' (solsV ll q).1 := by
  refine fq_intro Tryz.func16 k_impl_SolutionsOf ?_
  have o1 := one_any (Sl.any s.M.out)
  have o2 := one_any (Sl.any s.Q)
  simp (maxSteps := 2000000) -implicitDefEqProofs (disch := omega) only [c_impl_SolutionsOf, o1, o2, xsW, xsC, xsD, xsE, fillA, reduceCtorEq, Nat.reduceAdd, Nat.reduceSub, Nat.reduceLeDiff, Nat.reduceMul, Int.reduceLT, Int.reduceLE, Int.reduceEq, Int.reduceNe, Int.reduceAdd, Int.reduceSub, Int.reduceMul, Int.reduceNeg, Int.reduceToNat]
  refine fq_use (impl_FeasibleSets (s.keep (fun i _ hi9 => by simp (disch := omega) only [upd_other])) hl hll hq _ (by omega)) fun x1 h1 n1 hn1 hs1 ⟨v1, hx1, hv1⟩ => ?_
  subst hx1
  unfold solsV
  have hsv : setsV ll q feasT = if isProb ll q = true then (selL (setP ll q feasT) (pw ll.length), 0) else ([], 1) := rfl
  cases hp : isProb ll q
  · rw [hsv, hp]
    simp (maxSteps := 2000000) -implicitDefEqProofs (disch := omega) only [xsW, xsC, xsD, xsE, fillA, reduceCtorEq, Nat.reduceAdd, Nat.reduceSub, Nat.reduceLeDiff, Nat.reduceMul, Int.reduceLT, Int.reduceLE, Int.reduceEq, Int.reduceNe, Int.reduceAdd, Int.reduceSub, Int.reduceMul, Int.reduceNeg, Int.reduceToNat]
    intro _ h2 hh
    exact ⟨.nilsl, [], rfl, Sl.nil, FowsV.nil, fun _ k hk => absurd hk (Nat.not_lt_zero _)⟩
  · rw [hsv, hp] at hv1 ⊢
    simp only [if_true] at hv1 ⊢
    obtain ⟨hm, hql, _⟩ := isProb_facts hp
    have hN := ((isMat_iff ll).1 hm).2.1
    have hpw := pw_le hN
    obtain ⟨F, hF⟩ : ∃ F, F = (List.range (pw ll.length)).filter (setP ll q feasT) := ⟨_, rfl⟩
    have hFl : F.length ≤ pw ll.length := by rw [hF]; have := List.length_filter_le (setP ll q feasT) (List.range (pw ll.length)); simpa using this
    have hFm : ∀ j, j < F.length → F.getD j 0 < pw ll.length ∧ setP ll q feasT (F.getD j 0) = true := fun j hj => by
      have : F.getD j 0 ∈ F := getD_mem hj
      rw [hF, List.mem_filter, List.mem_range, ← hF] at this
      exact this
    have hsel : selL (setP ll q feasT) (pw ll.length) = F.map fun i : Nat => (i : Int) := by rw [hF]; rfl
    rw [hsel] at hv1
    obtain ⟨zs, hzs⟩ : ∃ zs, zs = F.map (zF ll q) := ⟨_, rfl⟩
    have hzl : zs.length = F.length := by rw [hzs]; simp
    have hzg : ∀ z ∈ zs, GoodF ll.length z := fun z hz => by
      have e : zs = zsL ll q (pw ll.length) := by rw [hzs, hF]; rfl
      exact zsL_good hp z (by rw [← e]; exact hz)
    have hbox1 : h1 n = some ⟨30, [v, u], true, 0⟩ := by rw [hs1 n (by omega), upd_same]
    have hLl : (F.map fun i : Nat => (i : Int)).length = F.length := by simp
    have hLg : ∀ j, j < F.length → (F.map fun i : Nat => (i : Int)).getD j 0 = ((F.getD j 0 : Nat) : Int) := fun j hj => by simp [List.getD, hj]
    have hZg : ∀ j, j < F.length → zs.getD j [] = zF ll q (F.getD j 0) := fun j hj => by rw [hzs]; simp [List.getD, hj]
    simp (maxSteps := 2000000) -implicitDefEqProofs (disch := omega) only [xsW, xsC, xsD, xsE, fillA, reduceCtorEq, Nat.reduceAdd, Nat.reduceSub, Nat.reduceLeDiff, Nat.reduceMul, Int.reduceLT, Int.reduceLE, Int.reduceEq, Int.reduceNe, Int.reduceAdd, Int.reduceSub, Int.reduceMul, Int.reduceNeg, Int.reduceToNat,  hv1.ln, hLl]
    refine loop_for F.length 0 (fun k p => [.any, .ptr n 0, .nilsl, .int .i64 0, .any, .any, p.1, .any, .any, .any, .any, .any, .any, .any, .any, .any, .any, .any, .any, v1, .int .i64 F.length, .int .i64 k, .any, .any, .any, .any, .any, .any, .any, .any, .any, .any, .any, .any, .any, .any, .any, .any, .any, .any, .any, .any, .any]) (fun _ (p : AV × List AV × AH) => p.2.2)
      (fun k p m => GrowF n1 m h1 p.2.2 27 p.1 p.2.1 (zs.take k) ∧ (k = 0 → p.1 = .nilsl)) (.nilsl, [], h1) (Nat.zero_le _) ⟨GrowF.start, fun _ => rfl⟩ (by simp [LeL, Le1]) (fun _ _ h => h) ?_
    rintro k ⟨out, ws, hp'⟩ m - hk hm1 ⟨g, hnil⟩
    simp only at g hnil
    have hold := g.old
    have hle := g.le
    simp (maxSteps := 2000000) -implicitDefEqProofs (disch := omega) only [xsW, xsC, xsD, xsE, fillA, reduceCtorEq, Nat.reduceAdd, Nat.reduceSub, Nat.reduceLeDiff, Nat.reduceMul, Int.reduceLT, Int.reduceLE, Int.reduceEq, Int.reduceNe, Int.reduceAdd, Int.reduceSub, Int.reduceMul, Int.reduceNeg, Int.reduceToNat]
    (refine cd_dec (fun c1 => ?_) (fun c1 => ?_) <;> simp (maxSteps := 2000000) -implicitDefEqProofs (disch := omega) only [xsW, xsC, xsD, xsE, fillA, reduceCtorEq, Nat.reduceAdd, Nat.reduceSub, Nat.reduceLeDiff, Nat.reduceMul, Int.reduceLT, Int.reduceLE, Int.reduceEq, Int.reduceNe, Int.reduceAdd, Int.reduceSub, Int.reduceMul, Int.reduceNeg, Int.reduceToNat,  c1])
    · have hk2 : k < F.length := by omega
      obtain ⟨f1, f2⟩ := hFm k hk2
      have hsv2 := solV_feas hp f1 f2
      have hv1' := hv1.keep (h' := hp') (fun i _ hi9 => by simp (disch := omega) only [upd_other, hold])
      have hbox2 : hp' n = some ⟨30, [v, u], true, 0⟩ := by rw [hold n (by omega), hbox1]
      have hLk := hLg k hk2
      simp (maxSteps := 2000000) -implicitDefEqProofs (disch := omega) only [xsW, xsC, xsD, xsE, fillA, reduceCtorEq, Nat.reduceAdd, Nat.reduceSub, Nat.reduceLeDiff, Nat.reduceMul, Int.reduceLT, Int.reduceLE, Int.reduceEq, Int.reduceNe, Int.reduceAdd, Int.reduceSub, Int.reduceMul, Int.reduceNeg, Int.reduceToNat,  hv1'.ia, hv1'.ld, hLl, hLk, hbox2]
      refine fq_use (impl_SolutionOfSet ((s.keep (h' := h1) (fun i _ hi9 => by simp (disch := omega) only [upd_other, hs1])).keep (h' := hp') (fun i _ hi9 => by simp (disch := omega) only [upd_other, hold])) hl hll hq _ _ (by omega)) fun x3 h3 n3 hn3 hs3 ⟨v3, hx3, hv3⟩ => ?_
      subst hx3
      rw [hsv2] at hv3 ⊢
      have x1 := one_any (Sl.any hv3)
      have x2 := sto_any (Sl.any hv3)
      have x3 := cel_any (Sl.any hv3)
      simp (maxSteps := 2000000) -implicitDefEqProofs (disch := omega) only [xsW, xsC, xsD, xsE, fillA, reduceCtorEq, Nat.reduceAdd, Nat.reduceSub, Nat.reduceLeDiff, Nat.reduceMul, Int.reduceLT, Int.reduceLE, Int.reduceEq, Int.reduceNe, Int.reduceAdd, Int.reduceSub, Int.reduceMul, Int.reduceNeg, Int.reduceToNat,  x1, x2, x3]
      refine g.app (hB := upd h3 n3 _) (v1 := v3) (l := zF ll q (F.getD k 0)) (hv3.keep (fun i _ hi9 => by simp (disch := omega) only [upd_other])) (fun i hi9 => by simp (disch := omega) only [upd_other, hs3]) hn3 (by omega) (by omega) ⟨rfl, _, upd_same _ _ _, by simp, by simp [cutA]⟩ (by rw [List.length_take]; omega) fun out' h' n' q1 q2 => ?_
      simp (maxSteps := 2000000) -implicitDefEqProofs (disch := omega) only [xsW, xsC, xsD, xsE, fillA, reduceCtorEq, Nat.reduceAdd, Nat.reduceSub, Nat.reduceLeDiff, Nat.reduceMul, Int.reduceLT, Int.reduceLE, Int.reduceEq, Int.reduceNe, Int.reduceAdd, Int.reduceSub, Int.reduceMul, Int.reduceNeg, Int.reduceToNat]
      exact ⟨(out', ws ++ [v3], h'), ⟨by rw [take_succ_getD (d := []) (by omega), hZg k hk2]; exact q2, fun h => h.elim⟩, by omega, by omega, (by simp [LeL, Le1]), fun _ _ h => h⟩
    · have e : k = F.length := by omega
      subst e
      rw [List.take_of_length_le (by omega)] at g
      have okS : okFn Tryz.prog 48 = true := by kernel_rfl
      have okG : okFn Tryz.prog 49 = true := by kernel_rfl
      by_cases h0 : F.length = 0
      · have := hnil h0
        subst this
        refine q_use (sort_nil okS) fun n4 hn4 => ?_
        simp (maxSteps := 2000000) -implicitDefEqProofs (disch := omega) only [xsW, xsC, xsD, xsE, fillA, reduceCtorEq, Nat.reduceAdd, Nat.reduceSub, Nat.reduceLeDiff, Nat.reduceMul, Int.reduceLT, Int.reduceLE, Int.reduceEq, Int.reduceNe, Int.reduceAdd, Int.reduceSub, Int.reduceMul, Int.reduceNeg, Int.reduceToNat]
        refine q_use compact_nil fun n5 hn5 => ?_
        simp (maxSteps := 2000000) -implicitDefEqProofs (disch := omega) only [xsW, xsC, xsD, xsE, fillA, reduceCtorEq, Nat.reduceAdd, Nat.reduceSub, Nat.reduceLeDiff, Nat.reduceMul, Int.reduceLT, Int.reduceLE, Int.reduceEq, Int.reduceNe, Int.reduceAdd, Int.reduceSub, Int.reduceMul, Int.reduceNeg, Int.reduceToNat]
        intro _ h2 hh
        have hF0 : F = [] := List.eq_nil_of_length_eq_zero h0
        have e : solsK ll q (pw ll.length) = [] := by
          refine List.eq_nil_iff_forall_not_mem.2 fun x hx => ?_
          obtain ⟨t, t1, t2, t3⟩ := ((solsK_facts hp _).2.2 x).1 hx
          have : t ∈ F := by rw [hF, List.mem_filter, List.mem_range]; exact ⟨t1, t2⟩
          rw [hF0] at this; simp at this
        exact ⟨.nilsl, [], rfl, Sl.nil, by rw [e]; exact FowsV.nil, fun _ k hk => by rw [e] at hk; exact absurd hk (Nat.not_lt_zero _)⟩
      · have hwl := g.rows.len
        have hal := g.acc.len
        obtain ⟨i, rfl, hi1, hi2, hbi⟩ : ∃ i, out = .so i ws.length ∧ n1 ≤ i ∧ i < m ∧ hp' i = some ⟨27, ws, true, 1⟩ := by
          rcases g.acc.shape with e | ⟨i, b, e, _⟩ | ⟨i, mm, e, a1, a2, a3⟩
          · rw [e] at hal; simp only [slen, Nat.zero_mul] at hal; omega
          · rw [e] at hal; simp only [slen, Nat.zero_mul] at hal; omega
          · rw [e] at hal
            simp only [slen, Nat.mul_one] at hal
            exact ⟨i, by rw [e, hal], a1, a2, a3⟩
        have hapart : ∀ j, j < zs.length → isSl (ws.getD j .any) = true → bid (ws.getD j .any) ≠ i := fun j hj hs => g.apart j hj hs rfl
        have hzj : ∀ j, j < zs.length → GoodF ll.length (zs.getD j []) := fun j hj => hzg _ (getD_mem hj)
        refine mq_use (sort_bridge (P := Tryz.prog) (ρT := Tryz.sortL_ren) (lo := n1) (hi := m) (cf := fun x y => cmpL (zs.getD x []) (zs.getD y [])) Tryz.sortL okG okS hbi hi1 hi2 (Nat.le_refl _) (by omega) (by omega) (fun a ha => ?_) (by rw [hwl]; exact swo_lists hzg (by omega)) (fun x y hx hy h' hh' => ?_)) (fun i a b => .inl (by omega)) fun x4 h4 n4 hn4 ⟨hx4, js, hjp, hjs, hh4⟩ => ?_
        · obtain ⟨j, hj, rfl⟩ := List.mem_iff_getElem.1 ha
          have := low_sl (n := m) (g.rows.row j (by omega)) (Nat.le_refl _)
          simpa [List.getD, hj] using this
        · have hfr : ∀ x, x < ws.length → Fracs true n1 m h' (ws.getD x .any) (zs.getD x []) := fun x hx => by
            have hr := g.rows.row x (by omega)
            exact Sl.lowB hr (fracs_low _) fun hs => hh' _ (Sl.own hr hs).2 (hapart x (by omega) hs)
          exact impl_compareLists (hfr x hx) (hfr y hy) (hzj x (by omega)) (hzj y (by omega)) hN _ (Nat.le_refl _) (Nat.le_refl _)
        · subst hx4
          obtain ⟨us, hus⟩ : ∃ us, us = js.map fun j => ws.getD j .any := ⟨_, rfl⟩
          obtain ⟨zs', hzs'⟩ : ∃ zs', zs' = js.map fun j => zs.getD j [] := ⟨_, rfl⟩
          rw [← hus] at hh4
          have hjl : js.length = ws.length := by rw [hjp.length_eq]; simp
          have hul : us.length = ws.length := by rw [hus, List.length_map, hjl]
          have hzl' : zs'.length = zs.length := by rw [hzs', List.length_map, hjl, hwl]
          have hjlt : ∀ j ∈ js, j < zs.length := fun j hj => by
            have := hjp.mem_iff.1 hj
            rw [List.mem_range] at this; omega
          have hjn : js.Nodup := hjp.nodup_iff.2 List.nodup_range
          have hug : ∀ k, k < js.length → us.getD k .any = ws.getD (js.getD k 0) .any ∧ zs'.getD k [] = zs.getD (js.getD k 0) [] := fun k hk => by rw [hus, hzs']; simp [List.getD, hk]
          have hrows4 : FowsV true n1 m h4 us zs' := by
            rw [hus, hzs']
            refine FowsV.pick (g.rows.keep1 fun j hj hs => ?_) hjn hjlt
            rw [hh4, upd_other (hapart j hj hs)]
          have hb4 : h4 i = some ⟨27, us, true, 1⟩ := by rw [hh4, upd_same]
          have hmem : ∀ x, x ∈ zs' ↔ x ∈ zsL ll q (pw ll.length) := fun x => by
            have e : zs = zsL ll q (pw ll.length) := by rw [hzs, hF]; rfl
            rw [← e, hzs', List.mem_map]
            constructor
            · rintro ⟨j, hj, rfl⟩; exact getD_mem (hjlt j hj)
            · intro hx
              obtain ⟨j, hj, rfl⟩ := List.mem_iff_getElem.1 hx
              exact ⟨j, hjp.mem_iff.2 (List.mem_range.2 (by omega)), by simp [List.getD, hj]⟩
          have hsorted : ddL zs' = solsK ll q (pw ll.length) := sorted_sols hp hmem fun a b hab hb => by
            rw [(hug a (by omega)).2, (hug b (by omega)).2]
            exact hjs a b hab (by omega)
          have hzg' : ∀ z ∈ zs', GoodF ll.length z := fun z hz => by rw [hzs', List.mem_map] at hz; obtain ⟨j, hj, rfl⟩ := hz; exact hzj j (hjlt j hj)
          have hapart' : ∀ j, j < zs'.length → isSl (us.getD j .any) = true → bid (us.getD j .any) ≠ i := fun j hj hs => by
            have hj2 : j < js.length := by omega
            rw [(hug j hj2).1] at hs ⊢
            exact hapart _ (hjlt _ (getD_mem hj2)) hs
          have e : AV.so i ws.length = AV.so i us.length := by rw [hul]
          rw [e]
          simp (maxSteps := 2000000) -implicitDefEqProofs (disch := omega) only [xsW, xsC, xsD, xsE, fillA, reduceCtorEq, Nat.reduceAdd, Nat.reduceSub, Nat.reduceLeDiff, Nat.reduceMul, Int.reduceLT, Int.reduceLE, Int.reduceEq, Int.reduceNe, Int.reduceAdd, Int.reduceSub, Int.reduceMul, Int.reduceNeg, Int.reduceToNat]
          refine mq_use (slices_CompactFunc (lo := n1) (hi := m) (n := n4) hb4 hi1 hi2 hn4 hrows4 hapart' hzg' hN (by omega)) (fun i a b => .inl (by omega)) fun x5 h5 n5 hn5 ⟨hx5, hs5, hv5⟩ => ?_
          subst hx5
          simp (maxSteps := 2000000) -implicitDefEqProofs (disch := omega) only [xsW, xsC, xsD, xsE, fillA, reduceCtorEq, Nat.reduceAdd, Nat.reduceSub, Nat.reduceLeDiff, Nat.reduceMul, Int.reduceLT, Int.reduceLE, Int.reduceEq, Int.reduceNe, Int.reduceAdd, Int.reduceSub, Int.reduceMul, Int.reduceNeg, Int.reduceToNat]
          intro _ h2 hh
          have hdn := ddI_nodup zs' us.length
          have hdlt : ∀ j ∈ ddI zs' us.length, j < zs'.length := fun j hj => by have := ddI_lt hj; omega
          have hrows5 := (hrows4.keep1 (h' := h5) fun j hj hs => hs5 _ (by have := Sl.own (hrows4.row j hj) hs; omega) (hapart' j hj hs)).pick hdn hdlt
          have e2 : (ddI zs' us.length).map (fun j => zs'.getD j []) = solsK ll q (pw ll.length) := by rw [← hsorted, ddL, hul, hwl, hzl']
          rw [e2] at hrows5
          refine ⟨.so i (ddI zs' us.length).length, _, rfl, (hv5.keep (h' := h2) fun j a b => hh j (by omega) (by omega)).wide (by omega) (by omega), (hrows5.keep (h' := h2) fun j a b => hh j (by omega) (by omega)).wide (by omega) (by omega), fun _ j hj hs => ?_⟩
          have hdj : j < (ddI zs' us.length).length := by rw [← e2, List.length_map] at hj; exact hj
          have e3 : ((ddI zs' us.length).map fun j => us.getD j .any).getD j .any = us.getD ((ddI zs' us.length).getD j 0) .any := by simp [List.getD, hdj]
          rw [e3] at hs ⊢
          exact hapart' _ (hdlt _ (getD_mem hdj)) hs
end
def c_spec_SolutionsOf : F := ⟨(.seq (.reg false [⟨some 1, .box 30 (.t 0), none⟩, ⟨some 2, .mv (.c .nilsl), none⟩, ⟨some 3, .mv (.c (.int .i64 0)), none⟩]) (.seq (.seq (.reg false [⟨some 8, .ld 2 (.t 1), none⟩, ⟨some 9, .call (.f 30) [(.t 8)], none⟩, ⟨some 10, .un .not (.t 9), none⟩]) (.cond (.t 10) (.seq (.reg false [⟨some 2, .mv (.c .nilsl), none⟩, ⟨some 3, .mv (.c (.int .i64 1)), none⟩]) .ret) .skip)) (.seq (.reg false [⟨some 11, .ld 2 (.t 1), none⟩, ⟨some 12, .call (.f 31) [(.t 11)], none⟩, ⟨some 4, .mv (.t 12), none⟩]) (.seq (.seq (.reg false [⟨some 5, .mv (.c (.int .i64 0)), none⟩]) (.block 0 (.loop (.seq (.seq (.reg false [⟨some 13, .mv (.t 5), none⟩, ⟨some 14, .mv (.t 4), none⟩, ⟨some 15, .len (.t 14), none⟩, ⟨some 16, .bin .lss (.t 13) (.t 15), none⟩]) (.cond (.t 16) .skip (.exit 0))) (.seq (.block 1 (.seq (.reg false [⟨some 20, .mv (.t 4), none⟩, ⟨some 21, .mv (.t 5), none⟩, ⟨some 22, .ia 1 (.t 20) (.t 21), none⟩, ⟨some 23, .ld1 (.t 22), none⟩, ⟨some 24, .call (.f 33) [(.t 23)], none⟩, ⟨some 19, .mv (.t 24), none⟩, ⟨some 25, .ext (.t 19) 0, none⟩, ⟨some 26, .ext (.t 19) 1, none⟩, ⟨some 6, .mv (.t 25), none⟩, ⟨some 7, .mv (.t 26), none⟩]) (.seq (.reg false [⟨some 27, .mv (.t 7), none⟩, ⟨some 28, .bin .neq (.t 27) (.c (.int .i64 0)), none⟩]) (.cond (.t 28) (.seq (.reg false [⟨some 29, .mv (.t 7), none⟩, ⟨some 2, .mv (.c .nilsl), none⟩, ⟨some 3, .mv (.t 29), none⟩]) .ret) .skip)))) (.reg false [⟨some 17, .mv (.t 5), none⟩, ⟨some 18, .bin .add (.t 17) (.c (.int .i64 1)), none⟩, ⟨some 5, .mv (.t 18), none⟩])))))) (.seq (.reg false [⟨some 30, .mv (.t 4), none⟩, ⟨some 2, .mv (.t 30), none⟩, ⟨some 3, .mv (.c (.int .i64 0)), none⟩]) .ret))))), 31, [(.t 2), (.t 3)]⟩
theorem k_spec_SolutionsOf : compF Tryz.prog Tryz.f17 = some c_spec_SolutionsOf := by kernel_rfl
def c_spec_CountSolutions : F := ⟨(.seq (.reg false [⟨some 1, .box 30 (.t 0), none⟩, ⟨some 2, .mv (.c (.int .i64 0)), none⟩, ⟨some 3, .mv (.c (.int .i64 0)), none⟩]) (.seq (.seq (.reg false [⟨some 4, .ld 2 (.t 1), none⟩, ⟨some 5, .call (.f 30) [(.t 4)], none⟩, ⟨some 6, .un .not (.t 5), none⟩]) (.cond (.t 6) (.seq (.reg false [⟨some 2, .mv (.c (.int .i64 0)), none⟩, ⟨some 3, .mv (.c (.int .i64 1)), none⟩]) .ret) .skip)) (.seq (.reg false [⟨some 7, .ld 2 (.t 1), none⟩, ⟨some 8, .call (.f 31) [(.t 7)], none⟩, ⟨some 9, .len (.t 8), none⟩, ⟨some 2, .mv (.t 9), none⟩, ⟨some 3, .mv (.c (.int .i64 0)), none⟩]) .ret))), 10, [(.t 2), (.t 3)]⟩
theorem k_spec_CountSolutions : compF Tryz.prog Tryz.f20 = some c_spec_CountSolutions := by kernel_rfl
def c_impl_CountSolutions : F := ⟨(.seq (.reg false [⟨some 1, .box 30 (.t 0), none⟩, ⟨some 2, .mv (.c (.int .i64 0)), none⟩, ⟨some 3, .mv (.c (.int .i64 0)), none⟩]) (.seq (.reg false [⟨some 7, .ld 2 (.t 1), none⟩, ⟨some 8, .call (.f 16) [(.t 7)], none⟩, ⟨some 6, .mv (.t 8), none⟩, ⟨some 9, .ext (.t 6) 0, none⟩, ⟨some 10, .ext (.t 6) 1, none⟩, ⟨some 4, .mv (.t 9), none⟩, ⟨some 5, .mv (.t 10), none⟩]) (.seq (.reg false [⟨some 11, .mv (.t 4), none⟩, ⟨some 12, .len (.t 11), none⟩, ⟨some 13, .mv (.t 5), none⟩, ⟨some 2, .mv (.t 12), none⟩, ⟨some 3, .mv (.t 13), none⟩]) .ret))), 14, [(.t 2), (.t 3)]⟩
theorem k_impl_CountSolutions : compF Tryz.prog Tryz.f19 = some c_impl_CountSolutions := by kernel_rfl
section
variable {w : Bool} {lo hi : Nat} {h : AH} {v u : AV} {vs : List AV} {ll : List (List Int)} {q : List Int}
theorem spec_SolutionsOf (s : Prob w lo hi h v u vs ll q) (hl : ll.length ≤ 1048576) (hll : ∀ l ∈ ll, l.length ≤ 1048576) (hq : q.length ≤ 1048576) (n : Nat) (hn : hi ≤ n) :
    FQ Tryz.prog 17 [.agg [v, u]] h n fun x h' n' => ∃ v' vs', x = .tup [v', .int .i64 (solsV ll q).2] ∧ Fows true n n' h' v' vs' (solsV ll q).1 := by
  refine fq_intro Tryz.func17 k_spec_SolutionsOf ?_
  have o1 := one_any (Sl.any s.M.out)
  have o2 := one_any (Sl.any s.Q)
  simp (maxSteps := 2000000) -implicitDefEqProofs (disch := omega) only [c_spec_SolutionsOf, o1, o2, xsW, xsC, xsD, xsE, fillA, reduceCtorEq, Nat.reduceAdd, Nat.reduceSub, Nat.reduceLeDiff, Nat.reduceMul, Int.reduceLT, Int.reduceLE, Int.reduceEq, Int.reduceNe, Int.reduceAdd, Int.reduceSub, Int.reduceMul, Int.reduceNeg, Int.reduceToNat]
  refine q_use (spec_l01Is (s.keep (fun i _ hi9 => by simp (disch := omega) only [upd_other])) hl hll hq _ (by omega)) fun n1 hn1 => ?_
  unfold solsV
  cases hp : isProb ll q
  · simp (maxSteps := 2000000) -implicitDefEqProofs (disch := omega) only [xsW, xsC, xsD, xsE, fillA, reduceCtorEq, Nat.reduceAdd, Nat.reduceSub, Nat.reduceLeDiff, Nat.reduceMul, Int.reduceLT, Int.reduceLE, Int.reduceEq, Int.reduceNe, Int.reduceAdd, Int.reduceSub, Int.reduceMul, Int.reduceNeg, Int.reduceToNat]
    intro _ h2 hh
    exact ⟨.nilsl, [], rfl, Sl.nil, FowsV.nil, fun _ k hk => absurd hk (Nat.not_lt_zero _)⟩
  · have hN := ((isMat_iff ll).1 (isProb_facts hp).1).2.1
    have hpw := pw_le hN
    simp (maxSteps := 2000000) -implicitDefEqProofs (disch := omega) only [xsW, xsC, xsD, xsE, fillA, reduceCtorEq, Nat.reduceAdd, Nat.reduceSub, Nat.reduceLeDiff, Nat.reduceMul, Int.reduceLT, Int.reduceLE, Int.reduceEq, Int.reduceNe, Int.reduceAdd, Int.reduceSub, Int.reduceMul, Int.reduceNeg, Int.reduceToNat]
    refine fq_use (spec_l02All (s.keep (fun i _ hi9 => by simp (disch := omega) only [upd_other])) hp n1 (by omega)) fun v1 h1 n2 hn2 hs1 ⟨vs1, hv1⟩ => ?_
    have hg := (solsK_facts hp (pw ll.length)).1
    have hsl := solsK_len ll q (pw ll.length)
    generalize solsK ll q (pw ll.length) = zs at hv1 hg hsl ⊢
    simp (maxSteps := 2000000) -implicitDefEqProofs (disch := omega) only [xsW, xsC, xsD, xsE, fillA, reduceCtorEq, Nat.reduceAdd, Nat.reduceSub, Nat.reduceLeDiff, Nat.reduceMul, Int.reduceLT, Int.reduceLE, Int.reduceEq, Int.reduceNe, Int.reduceAdd, Int.reduceSub, Int.reduceMul, Int.reduceNeg, Int.reduceToNat]
    refine loop_for zs.length 0 (fun k (_ : Unit) => [.any, .ptr n 0, .nilsl, .int .i64 0, v1, .int .i64 k, .any, .any, .any, .any, .any, .any, .any, .any, .any, .any, .any, .any, .any, .any, .any, .any, .any, .any, .any, .any, .any, .any, .any, .any, .any]) (fun _ _ => h1) (fun _ _ _ => True) () (Nat.zero_le _) trivial (by simp [LeL, Le1]) (fun _ _ h => h) ?_
    rintro k - m hk0 hk hm -
    simp (maxSteps := 2000000) -implicitDefEqProofs (disch := omega) only [xsW, xsC, xsD, xsE, fillA, reduceCtorEq, Nat.reduceAdd, Nat.reduceSub, Nat.reduceLeDiff, Nat.reduceMul, Int.reduceLT, Int.reduceLE, Int.reduceEq, Int.reduceNe, Int.reduceAdd, Int.reduceSub, Int.reduceMul, Int.reduceNeg, Int.reduceToNat,  hv1.ln]
    (refine cd_dec (fun c1 => ?_) (fun c1 => ?_) <;> simp (maxSteps := 2000000) -implicitDefEqProofs (disch := omega) only [xsW, xsC, xsD, xsE, fillA, reduceCtorEq, Nat.reduceAdd, Nat.reduceSub, Nat.reduceLeDiff, Nat.reduceMul, Int.reduceLT, Int.reduceLE, Int.reduceEq, Int.reduceNe, Int.reduceAdd, Int.reduceSub, Int.reduceMul, Int.reduceNeg, Int.reduceToNat,  c1])
    · have hk2 : k < zs.length := by omega
      have hzk : GoodF ll.length (zs.getD k []) := hg _ (getD_mem hk2)
      simp (maxSteps := 2000000) -implicitDefEqProofs (disch := omega) only [xsW, xsC, xsD, xsE, fillA, reduceCtorEq, Nat.reduceAdd, Nat.reduceSub, Nat.reduceLeDiff, Nat.reduceMul, Int.reduceLT, Int.reduceLE, Int.reduceEq, Int.reduceNe, Int.reduceAdd, Int.reduceSub, Int.reduceMul, Int.reduceNeg, Int.reduceToNat,  hv1.ia, hv1.ld]
      refine q_use (spec_l02Told (hv1.row k hk2) (by rw [hzk.1]; omega) (fun j hj => by
        have := fr1_b (hzk.at (k := j) (by rw [← hzk.1]; exact hj))
        exact ⟨this.1, this.2.2.2.2, by unfold in64; omega, by unfold in64; omega⟩) _) fun n3 hn3 => ?_
      rw [if_pos (good_all hzk)]
      simp (maxSteps := 2000000) -implicitDefEqProofs (disch := omega) only [xsW, xsC, xsD, xsE, fillA, reduceCtorEq, Nat.reduceAdd, Nat.reduceSub, Nat.reduceLeDiff, Nat.reduceMul, Int.reduceLT, Int.reduceLE, Int.reduceEq, Int.reduceNe, Int.reduceAdd, Int.reduceSub, Int.reduceMul, Int.reduceNeg, Int.reduceToNat]
      exact ⟨(), by omega, by omega, (by simp [LeL, Le1])⟩
    · have e : k = zs.length := by omega
      subst e
      intro _ h2 hh
      exact ⟨v1, vs1, rfl, (hv1.keep fun i a b => hh i (by omega) (by omega)).wide (by omega) (by omega)⟩
def cntS (ll : List (List Int)) (q : List Int) : Int × Int := ((solsV ll q).1.length, (solsV ll q).2)
theorem solsV_len (ll : List (List Int)) (q : List Int) : (solsV ll q).1.length ≤ 32 := by
  unfold solsV
  split
  · rename_i hp
    have := pw_le ((isMat_iff ll).1 (isProb_facts hp).1).2.1
    have := solsK_len ll q (pw ll.length)
    simp only; omega
  · simp
theorem impl_CountSolutions (s : Prob w lo hi h v u vs ll q) (hl : ll.length ≤ 1048576) (hll : ∀ l ∈ ll, l.length ≤ 1048576) (hq : q.length ≤ 1048576) (n : Nat) (hn : hi ≤ n) :
    Q Tryz.prog 19 [.agg [v, u]] h n (.tup [.int .i64 (cntS ll q).1, .int .i64 (cntS ll q).2]) := by
  refine q_intro Tryz.func19 k_impl_CountSolutions ?_
  have o1 := one_any (Sl.any s.M.out)
  have o2 := one_any (Sl.any s.Q)
  have hs := solsV_len ll q
  unfold cntS
  simp (maxSteps := 2000000) -implicitDefEqProofs (disch := omega) only [c_impl_CountSolutions, o1, o2, xsW, xsC, xsD, xsE, fillA, reduceCtorEq, Nat.reduceAdd, Nat.reduceSub, Nat.reduceLeDiff, Nat.reduceMul, Int.reduceLT, Int.reduceLE, Int.reduceEq, Int.reduceNe, Int.reduceAdd, Int.reduceSub, Int.reduceMul, Int.reduceNeg, Int.reduceToNat]
  refine fq_use (impl_SolutionsOf (s.keep (fun i _ hi9 => by simp (disch := omega) only [upd_other])) hl hll hq _ (by omega)) fun x1 h1 n1 hn1 hs1 ⟨v1, vs1, hx1, hv1⟩ => ?_
  subst hx1
  simp (maxSteps := 2000000) -implicitDefEqProofs (disch := omega) only [xsW, xsC, xsD, xsE, fillA, reduceCtorEq, Nat.reduceAdd, Nat.reduceSub, Nat.reduceLeDiff, Nat.reduceMul, Int.reduceLT, Int.reduceLE, Int.reduceEq, Int.reduceNe, Int.reduceAdd, Int.reduceSub, Int.reduceMul, Int.reduceNeg, Int.reduceToNat,  hv1.ln]
theorem spec_CountSolutions (s : Prob w lo hi h v u vs ll q) (hl : ll.length ≤ 1048576) (hll : ∀ l ∈ ll, l.length ≤ 1048576) (hq : q.length ≤ 1048576) (n : Nat) (hn : hi ≤ n) :
    Q Tryz.prog 20 [.agg [v, u]] h n (.tup [.int .i64 (cntS ll q).1, .int .i64 (cntS ll q).2]) := by
  refine q_intro Tryz.func20 k_spec_CountSolutions ?_
  have o1 := one_any (Sl.any s.M.out)
  have o2 := one_any (Sl.any s.Q)
  unfold cntS solsV
  simp (maxSteps := 2000000) -implicitDefEqProofs (disch := omega) only [c_spec_CountSolutions, o1, o2, xsW, xsC, xsD, xsE, fillA, reduceCtorEq, Nat.reduceAdd, Nat.reduceSub, Nat.reduceLeDiff, Nat.reduceMul, Int.reduceLT, Int.reduceLE, Int.reduceEq, Int.reduceNe, Int.reduceAdd, Int.reduceSub, Int.reduceMul, Int.reduceNeg, Int.reduceToNat]
  refine q_use (spec_l01Is (s.keep (fun i _ hi9 => by simp (disch := omega) only [upd_other])) hl hll hq _ (by omega)) fun n1 hn1 => ?_
  cases hp : isProb ll q
  · simp (maxSteps := 2000000) -implicitDefEqProofs (disch := omega) only [xsW, xsC, xsD, xsE, fillA, reduceCtorEq, Nat.reduceAdd, Nat.reduceSub, Nat.reduceLeDiff, Nat.reduceMul, Int.reduceLT, Int.reduceLE, Int.reduceEq, Int.reduceNe, Int.reduceAdd, Int.reduceSub, Int.reduceMul, Int.reduceNeg, Int.reduceToNat]
    rfl
  · have hpw := pw_le ((isMat_iff ll).1 (isProb_facts hp).1).2.1
    have hsl := solsK_len ll q (pw ll.length)
    simp (maxSteps := 2000000) -implicitDefEqProofs (disch := omega) only [xsW, xsC, xsD, xsE, fillA, reduceCtorEq, Nat.reduceAdd, Nat.reduceSub, Nat.reduceLeDiff, Nat.reduceMul, Int.reduceLT, Int.reduceLE, Int.reduceEq, Int.reduceNe, Int.reduceAdd, Int.reduceSub, Int.reduceMul, Int.reduceNeg, Int.reduceToNat]
    refine fq_use (spec_l02All (s.keep (fun i _ hi9 => by simp (disch := omega) only [upd_other])) hp n1 (by omega)) fun v1 h1 n2 hn2 hs1 ⟨vs1, hv1⟩ => ?_
    simp (maxSteps := 2000000) -implicitDefEqProofs (disch := omega) only [xsW, xsC, xsD, xsE, fillA, reduceCtorEq, Nat.reduceAdd, Nat.reduceSub, Nat.reduceLeDiff, Nat.reduceMul, Int.reduceLT, Int.reduceLE, Int.reduceEq, Int.reduceNe, Int.reduceAdd, Int.reduceSub, Int.reduceMul, Int.reduceNeg, Int.reduceToNat,  hv1.ln]
end

theorem FowsV.row1 {lo hi : Nat} {h h' : AH} {vs : List AV} {ll : List FrL} (s : FowsV true lo hi h vs ll) {i : Nat} (hi' : i < ll.length) {l : FrL} (hl : Fracs true lo hi h' (vs.getD i .any) l) (hne : isSl (vs.getD i .any) = true)
    (hk : ∀ j, lo ≤ j → j < hi → j ≠ bid (vs.getD i .any) → h' j = h j) : FowsV true lo hi h' vs (ll.set i l) := by
  refine ⟨by simpa using s.len, fun j hj => ?_, fun _ j m hj hm => ?_⟩
  · simp only [List.length_set] at hj
    rw [getD_set]
    by_cases e : i = j
    · subst e
      rw [if_pos ⟨rfl, hj⟩]
      exact hl
    · rw [if_neg fun h => e h.1]
      exact Sl.keep1 (s.row j hj) fun hs => hk _ (Sl.own (s.row j hj) hs).1 (Sl.own (s.row j hj) hs).2 (s.apart rfl j i hj hi' (fun e' => e e'.symm) hs hne)
  · simp only [List.length_set] at hj hm
    exact s.apart rfl j m hj hm
theorem Fows.row1 {lo hi : Nat} {h h' : AH} {v : AV} {vs : List AV} {ll : List FrL} (s : Fows true lo hi h v vs ll) {i : Nat} (hi' : i < ll.length) {l : FrL} (hl : Fracs true lo hi h' (vs.getD i .any) l) (hne : isSl (vs.getD i .any) = true)
    (hk : ∀ j, lo ≤ j → j < hi → j ≠ bid (vs.getD i .any) → h' j = h j) : Fows true lo hi h' v vs (ll.set i l) := by
  refine ⟨s.out.keep1 fun hs => hk _ (Sl.own s.out hs).1 (Sl.own s.out hs).2 fun e => s.outer rfl i hi' hne e.symm, s.rows.row1 hi' hl hne hk, fun _ j hj => ?_⟩
  simp only [List.length_set] at hj
  exact s.outer rfl j hj
theorem Sl.just {lo hi es : Nat} {h : AH} {v : AV} {cs : List AV} (s : Sl true lo hi h es v cs) (hs : isSl v = true) : Sl true (bid v) (bid v + 1) h es v cs :=
  ⟨s.len, s.shape.imp id (Or.imp id fun ⟨h1, h2, h3, g⟩ => ⟨h1, Nat.le_refl _, by omega, g⟩)⟩
theorem solsV_small (ll : List (List Int)) (q : List Int) : (solsV ll q).1.length ≤ 1048576 ∧ ∀ l ∈ (solsV ll q).1, l.length ≤ 1048576 := by
  refine ⟨by have := solsV_len ll q; omega, fun l hl => ?_⟩
  unfold solsV at hl
  split at hl
  · rename_i hp
    have := ((solsK_facts hp _).1 l hl).1
    have := ((isMat_iff ll).1 (isProb_facts hp).1).2.1
    omega
  · simp at hl
def c_impl_isLeast : F := ⟨(.seq (.reg false [⟨some 4, .mv (.c (.bool false)), none⟩]) (.seq (.seq (.reg false [⟨some 7, .mv (.t 0), none⟩, ⟨some 8, .len (.t 7), none⟩, ⟨some 9, .mv (.c (.int .i64 0)), none⟩]) (.block 0 (.loop (.seq (.reg false [⟨some 10, .bin .lss (.t 9) (.t 8), none⟩]) (.seq (.cond (.t 10) .skip (.exit 0)) (.seq (.block 1 (.seq (.reg false [⟨some 11, .mv (.t 9), none⟩, ⟨some 12, .ia 2 (.t 7) (.t 9), none⟩, ⟨some 13, .ld 2 (.t 12), none⟩, ⟨some 6, .alloc 49 [(.int .i64 0), (.int .i64 0)], none⟩, ⟨some 5, .mv (.t 11), none⟩, ⟨none, .st 2 (.t 6) (.t 13), none⟩]) (.seq (.reg true [⟨some 14, .ld 2 (.t 6), none⟩, ⟨some 15, .mv (.t 1), none⟩, ⟨some 16, .mv (.t 5), none⟩, ⟨some 17, .ia 2 (.t 15) (.t 16), none⟩, ⟨some 18, .ld 2 (.t 17), none⟩, ⟨some 19, .call (.f 75) [(.t 14), (.t 18)], none⟩, ⟨some 20, .bin .gtr (.t 19) (.c (.int .i64 0)), none⟩]) (.cond (.t 20) (.seq (.reg false [⟨some 4, .mv (.c (.bool false)), none⟩]) .ret) .skip)))) (.reg false [⟨some 21, .bin .add (.t 9) (.c (.int .i64 1)), none⟩, ⟨some 9, .mv (.t 21), none⟩]))))))) (.seq (.reg false [⟨some 4, .mv (.c (.bool true)), none⟩]) .ret))), 22, [(.t 4)]⟩
theorem k_impl_isLeast : compF Tryz.prog Tryz.f38 = some c_impl_isLeast := by kernel_rfl
def c_impl_LeastSolution_1 : F := ⟨(.seq (.reg false [⟨some 3, .mv (.c (.bool false)), none⟩]) (.seq (.reg false [⟨some 4, .ld1 (.t 1), none⟩, ⟨some 5, .mv (.t 0), none⟩, ⟨some 6, .call (.f 38) [(.t 4), (.t 5)], none⟩, ⟨some 7, .un .not (.t 6), none⟩, ⟨some 3, .mv (.t 7), none⟩]) .ret)), 8, [(.t 3)]⟩
theorem k_impl_LeastSolution_1 : compF Tryz.prog Tryz.f37 = some c_impl_LeastSolution_1 := by kernel_rfl
def c_impl_LeastSolution : F := ⟨(.seq (.reg false [⟨some 1, .box 30 (.t 0), none⟩, ⟨some 2, .mv (.c .nilsl), none⟩, ⟨some 3, .mv (.c (.int .i64 0)), none⟩]) (.seq (.reg false [⟨some 9, .ld 2 (.t 1), none⟩, ⟨some 10, .call (.f 16) [(.t 9)], none⟩, ⟨some 8, .mv (.t 10), none⟩, ⟨some 11, .ext (.t 8) 0, none⟩, ⟨some 12, .ext (.t 8) 1, none⟩, ⟨some 4, .mv (.t 11), none⟩, ⟨some 5, .mv (.t 12), none⟩]) (.seq (.seq (.reg false [⟨some 13, .mv (.t 5), none⟩, ⟨some 14, .bin .neq (.t 13) (.c (.int .i64 0)), none⟩]) (.cond (.t 14) (.seq (.reg false [⟨some 15, .mv (.t 5), none⟩, ⟨some 2, .mv (.c .nilsl), none⟩, ⟨some 3, .mv (.t 15), none⟩]) .ret) .skip)) (.seq (.seq (.reg false [⟨some 16, .mv (.t 4), none⟩, ⟨some 17, .len (.t 16), none⟩, ⟨some 18, .mv (.c (.int .i64 0)), none⟩]) (.block 0 (.loop (.seq (.reg false [⟨some 19, .bin .lss (.t 18) (.t 17), none⟩]) (.seq (.cond (.t 19) .skip (.exit 0)) (.seq (.block 1 (.seq (.reg false [⟨some 20, .ia 1 (.t 16) (.t 18), none⟩, ⟨some 21, .ld1 (.t 20), none⟩, ⟨some 7, .alloc 27 [.nilsl], none⟩, ⟨none, .st 1 (.t 7) (.t 21), none⟩]) (.seq (.reg false [⟨some 22, .mv (.t 4), none⟩, ⟨some 23, .mkf 37 [(.t 7)], none⟩, ⟨some 24, .call (.f 36) [(.t 22), (.t 23)], none⟩, ⟨some 25, .un .not (.t 24), none⟩]) (.cond (.t 25) (.seq (.reg false [⟨some 26, .ld1 (.t 7), none⟩, ⟨some 2, .mv (.t 26), none⟩, ⟨some 3, .mv (.c (.int .i64 0)), none⟩]) .ret) .skip)))) (.reg false [⟨some 27, .bin .add (.t 18) (.c (.int .i64 1)), none⟩, ⟨some 18, .mv (.t 27), none⟩]))))))) (.seq (.reg false [⟨some 2, .mv (.c .nilsl), none⟩, ⟨some 3, .mv (.c (.int .i64 4)), none⟩]) .ret))))), 28, [(.t 2), (.t 3)]⟩
theorem k_impl_LeastSolution : compF Tryz.prog Tryz.f8 = some c_impl_LeastSolution := by kernel_rfl
def c_spec_LeastSolution : F := ⟨(.seq (.reg false [⟨some 1, .box 30 (.t 0), none⟩, ⟨some 2, .mv (.c .nilsl), none⟩, ⟨some 3, .mv (.c (.int .i64 0)), none⟩]) (.seq (.seq (.reg false [⟨some 11, .ld 2 (.t 1), none⟩, ⟨some 12, .call (.f 30) [(.t 11)], none⟩, ⟨some 13, .un .not (.t 12), none⟩]) (.cond (.t 13) (.seq (.reg false [⟨some 2, .mv (.c .nilsl), none⟩, ⟨some 3, .mv (.c (.int .i64 1)), none⟩]) .ret) .skip)) (.seq (.reg false [⟨some 14, .ld 2 (.t 1), none⟩, ⟨some 15, .call (.f 31) [(.t 14)], none⟩, ⟨some 4, .mv (.t 15), none⟩]) (.seq (.seq (.reg false [⟨some 5, .mv (.c (.int .i64 0)), none⟩]) (.block 0 (.loop (.seq (.seq (.reg false [⟨some 16, .mv (.t 5), none⟩, ⟨some 17, .mv (.t 4), none⟩, ⟨some 18, .len (.t 17), none⟩, ⟨some 19, .bin .lss (.t 16) (.t 18), none⟩]) (.cond (.t 19) .skip (.exit 0))) (.seq (.block 1 (.seq (.reg false [⟨some 6, .mv (.c (.bool true)), none⟩]) (.seq (.seq (.reg false [⟨some 7, .mv (.c (.int .i64 0)), none⟩]) (.block 2 (.loop (.seq (.seq (.reg false [⟨some 22, .mv (.t 7), none⟩, ⟨some 23, .mv (.t 4), none⟩, ⟨some 24, .len (.t 23), none⟩, ⟨some 25, .bin .lss (.t 22) (.t 24), none⟩]) (.cond (.t 25) .skip (.exit 2))) (.seq (.block 3 (.seq (.reg false [⟨some 8, .mv (.c (.int .i64 0)), none⟩]) (.block 4 (.loop (.seq (.seq (.reg false [⟨some 28, .mv (.t 8), none⟩, ⟨some 29, .fa 1 (.t 1), none⟩, ⟨some 30, .ld1 (.t 29), none⟩, ⟨some 31, .len (.t 30), none⟩, ⟨some 32, .bin .lss (.t 28) (.t 31), none⟩]) (.cond (.t 32) .skip (.exit 4))) (.seq (.block 5 (.reg true [⟨some 35, .mv (.t 6), none⟩, ⟨some 36, .mv (.t 35), none⟩, ⟨some 37, .mv (.t 4), some (36, true)⟩, ⟨some 38, .mv (.t 7), some (36, true)⟩, ⟨some 39, .ia 1 (.t 37) (.t 38), some (36, true)⟩, ⟨some 40, .ld1 (.t 39), some (36, true)⟩, ⟨some 41, .mv (.t 8), some (36, true)⟩, ⟨some 42, .ia 2 (.t 40) (.t 41), some (36, true)⟩, ⟨some 43, .ld 2 (.t 42), some (36, true)⟩, ⟨some 44, .mv (.t 4), some (36, true)⟩, ⟨some 45, .mv (.t 5), some (36, true)⟩, ⟨some 46, .ia 1 (.t 44) (.t 45), some (36, true)⟩, ⟨some 47, .ld1 (.t 46), some (36, true)⟩, ⟨some 48, .mv (.t 8), some (36, true)⟩, ⟨some 49, .ia 2 (.t 47) (.t 48), some (36, true)⟩, ⟨some 50, .ld 2 (.t 49), some (36, true)⟩, ⟨some 51, .call (.f 32) [(.t 43), (.t 50)], some (36, true)⟩, ⟨some 52, .un .not (.t 51), some (36, true)⟩, ⟨some 53, .pick (.t 36) (.t 52) (.c (.bool false)), none⟩, ⟨some 6, .mv (.t 53), none⟩])) (.reg false [⟨some 33, .mv (.t 8), none⟩, ⟨some 34, .bin .add (.t 33) (.c (.int .i64 1)), none⟩, ⟨some 8, .mv (.t 34), none⟩]))))))) (.reg false [⟨some 26, .mv (.t 7), none⟩, ⟨some 27, .bin .add (.t 26) (.c (.int .i64 1)), none⟩, ⟨some 7, .mv (.t 27), none⟩])))))) (.seq (.reg false [⟨some 54, .mv (.t 6), none⟩]) (.cond (.t 54) (.seq (.reg false [⟨some 56, .mv (.t 4), none⟩, ⟨some 57, .mv (.t 5), none⟩, ⟨some 58, .ia 1 (.t 56) (.t 57), none⟩, ⟨some 59, .ld1 (.t 58), none⟩, ⟨some 60, .call (.f 33) [(.t 59)], none⟩, ⟨some 55, .mv (.t 60), none⟩, ⟨some 61, .ext (.t 55) 0, none⟩, ⟨some 62, .ext (.t 55) 1, none⟩, ⟨some 9, .mv (.t 61), none⟩, ⟨some 10, .mv (.t 62), none⟩]) (.seq (.reg false [⟨some 63, .mv (.t 9), none⟩, ⟨some 64, .mv (.t 10), none⟩, ⟨some 2, .mv (.t 63), none⟩, ⟨some 3, .mv (.t 64), none⟩]) .ret)) .skip))))) (.reg false [⟨some 20, .mv (.t 5), none⟩, ⟨some 21, .bin .add (.t 20) (.c (.int .i64 1)), none⟩, ⟨some 5, .mv (.t 21), none⟩])))))) (.seq (.reg false [⟨some 2, .mv (.c .nilsl), none⟩, ⟨some 3, .mv (.c (.int .i64 4)), none⟩]) .ret))))), 65, [(.t 2), (.t 3)]⟩
theorem k_spec_LeastSolution : compF Tryz.prog Tryz.f6 = some c_spec_LeastSolution := by kernel_rfl
def le1 (l m : FrL) (j : Nat) : Bool := decide ((l.getD j (0, 0)).1 * (m.getD j (0, 0)).2 - (m.getD j (0, 0)).1 * (l.getD j (0, 0)).2 ≤ 0)
def leB (N : Nat) (l m : FrL) : Bool := (List.range N).all (le1 l m)
theorem leB_t {N : Nat} {l m : FrL} (h : ∀ j, j < N → le1 l m j = true) : leB N l m = true := by
  rw [leB, List.all_eq_true]; intro j hj; exact h j (by simpa using hj)
theorem leB_f {N j : Nat} {l m : FrL} (hj : j < N) (h : le1 l m j = false) : leB N l m = false := by
  cases e : leB N l m with
  | false => rfl
  | true => rw [leB, List.all_eq_true] at e; rw [e j (by simpa using hj)] at h; cases h
theorem leB_iff {N : Nat} {l m : FrL} : leB N l m = true ↔ ∀ j, j < N → le1 l m j = true := by
  rw [leB, List.all_eq_true]
  exact ⟨fun h j hj => h j (by simpa using hj), fun h j hj => h j (by simpa using hj)⟩
def lstB (N : Nat) (zs : List FrL) (z : FrL) : Bool := !(List.range zs.length).any fun k => !leB N z (zs.getD k [])
theorem lstB_iff {N : Nat} {zs : List FrL} {z : FrL} : lstB N zs z = true ↔ ∀ k, k < zs.length → leB N z (zs.getD k []) = true := by
  simp only [lstB, Bool.not_eq_true', List.any_eq_false, List.mem_range]
  exact ⟨fun h k hk => by have := h k hk; simpa using this, fun h k hk => by rw [h k hk]; simp⟩
def lstF (N : Nat) (zs : List FrL) : Nat → Nat → FrL × Int
  | _, 0 => ([], 4)
  | i, m + 1 => if lstB N zs (zs.getD i []) = true then (zs.getD i [], 0) else lstF N zs (i + 1) m
def leastV (ll : List (List Int)) (q : List Int) : FrL × Int := if isProb ll q = true then lstF ll.length (solsK ll q (pw ll.length)) 0 (solsK ll q (pw ll.length)).length else ([], 1)
theorem lstF_len {N : Nat} {zs : List FrL} (hg : ∀ z ∈ zs, GoodF N z) : ∀ m i, i + m = zs.length → (lstF N zs i m).1.length ≤ N
  | 0, i, _ => by simp [lstF]
  | m + 1, i, h => by
    rw [lstF]
    split
    · exact Nat.le_of_eq (hg _ (getD_mem (by omega))).1
    · exact lstF_len hg m (i + 1) (by omega)
theorem leastV_small (ll : List (List Int)) (q : List Int) : (leastV ll q).1.length ≤ 1048576 := by
  unfold leastV
  split
  · rename_i hp
    have h1 := lstF_len (solsK_facts hp (pw ll.length)).1 _ 0 (Nat.zero_add _)
    have := ((isMat_iff ll).1 (isProb_facts hp).1).2.1
    omega
  · simp
section
variable {w w' : Bool} {lo hi lo' hi' : Nat} {h : AH} {v u : AV} {vs : List AV} {ll : List (List Int)} {q : List Int} {l m : FrL} {N : Nat}
theorem impl_isLeast (s : Fracs w lo hi h v l) (r : Fracs w' lo' hi' h u m) (hl : GoodF N l) (hm : GoodF N m) (hN : N ≤ 5) (n : Nat) (hn : hi ≤ n) (hn' : hi' ≤ n) :
    Q Tryz.prog 38 [v, u] h n (.bool (leB N l m)) := by
  refine q_intro Tryz.func38 k_impl_isLeast ?_
  have h1 := hl.1
  have h2 := hm.1
  simp (maxSteps := 2000000) -implicitDefEqProofs (disch := omega) only [c_impl_isLeast, s.ln, h1, xsW, xsC, xsD, xsE, fillA, reduceCtorEq, Nat.reduceAdd, Nat.reduceSub, Nat.reduceLeDiff, Nat.reduceMul, Int.reduceLT, Int.reduceLE, Int.reduceEq, Int.reduceNe, Int.reduceAdd, Int.reduceSub, Int.reduceMul, Int.reduceNeg, Int.reduceToNat]
  refine loop_for N 0 (fun k _ => [v, u, .any, .any, .bool false, .any, .any, v, .int .i64 N, .int .i64 k, .any, .any, .any, .any, .any, .any, .any, .any, .any, .any, .any, .any]) (fun _ (hp : AH) => hp)
    (fun k hp _ => (∀ j, j < k → le1 l m j = true) ∧ ∀ j, j < n → hp j = h j) h (Nat.zero_le _) ⟨fun j hj => absurd hj (Nat.not_lt_zero _), fun _ _ => rfl⟩ (by simp [LeL, Le1]) (fun _ _ h => h) ?_
  rintro k hp m1 - hk hm1 ⟨he, hold⟩
  have sk := s.keep (h' := hp) (fun i _ hi9 => by simp (disch := omega) only [upd_other, hold])
  have rk := r.keep (h' := hp) (fun i _ hi9 => by simp (disch := omega) only [upd_other, hold])
  simp (maxSteps := 2000000) -implicitDefEqProofs (disch := omega) only [xsW, xsC, xsD, xsE, fillA, reduceCtorEq, Nat.reduceAdd, Nat.reduceSub, Nat.reduceLeDiff, Nat.reduceMul, Int.reduceLT, Int.reduceLE, Int.reduceEq, Int.reduceNe, Int.reduceAdd, Int.reduceSub, Int.reduceMul, Int.reduceNeg, Int.reduceToNat]
  (refine cd_dec (fun c1 => ?_) (fun c1 => ?_) <;> simp (maxSteps := 2000000) -implicitDefEqProofs (disch := omega) only [xsW, xsC, xsD, xsE, fillA, reduceCtorEq, Nat.reduceAdd, Nat.reduceSub, Nat.reduceLeDiff, Nat.reduceMul, Int.reduceLT, Int.reduceLE, Int.reduceEq, Int.reduceNe, Int.reduceAdd, Int.reduceSub, Int.reduceMul, Int.reduceNeg, Int.reduceToNat,  c1])
  · have hk2 : k < N := by omega
    have b1 := Fracs.below sk (fun e => by rw [e] at h1; simp at h1; omega)
    have b2 := Fracs.below rk (fun e => by rw [e] at h2; simp at h2; omega)
    have g1 := hl.at hk2
    have g2 := hm.at hk2
    have hle : le1 l m k = decide ((l.getD k (0, 0)).1 * (m.getD k (0, 0)).2 - (m.getD k (0, 0)).1 * (l.getD k (0, 0)).2 ≤ 0) := rfl
    simp (maxSteps := 2000000) -implicitDefEqProofs (disch := omega) only [xsW, xsC, xsD, xsE, fillA, reduceCtorEq, Nat.reduceAdd, Nat.reduceSub, Nat.reduceLeDiff, Nat.reduceMul, Int.reduceLT, Int.reduceLE, Int.reduceEq, Int.reduceNe, Int.reduceAdd, Int.reduceSub, Int.reduceMul, Int.reduceNeg, Int.reduceToNat,  sk.ia, sk.ld, rk.ia, rk.ld, rk.ln, h1, h2, frA]
    refine q_use (impl_compare _ _ _ _ g1 g2 _ _) fun n2 hn2 => ?_
    generalize (l.getD k (0, 0)).1 * (m.getD k (0, 0)).2 - (m.getD k (0, 0)).1 * (l.getD k (0, 0)).2 = D at hle ⊢
    have hsd : 0 < D.sign ↔ 0 < D := Int.sign_pos_iff
    simp (maxSteps := 2000000) -implicitDefEqProofs (disch := omega) only [xsW, xsC, xsD, xsE, fillA, reduceCtorEq, Nat.reduceAdd, Nat.reduceSub, Nat.reduceLeDiff, Nat.reduceMul, Int.reduceLT, Int.reduceLE, Int.reduceEq, Int.reduceNe, Int.reduceAdd, Int.reduceSub, Int.reduceMul, Int.reduceNeg, Int.reduceToNat]
    (refine cd_dec (fun c2 => ?_) (fun c2 => ?_) <;> simp (maxSteps := 2000000) -implicitDefEqProofs (disch := omega) only [xsW, xsC, xsD, xsE, fillA, reduceCtorEq, Nat.reduceAdd, Nat.reduceSub, Nat.reduceLeDiff, Nat.reduceMul, Int.reduceLT, Int.reduceLE, Int.reduceEq, Int.reduceNe, Int.reduceAdd, Int.reduceSub, Int.reduceMul, Int.reduceNeg, Int.reduceToNat,  c2])
    · rw [leB_f hk2 (by rw [hle]; exact decide_eq_false (by omega))]
    · exact ⟨_, ⟨fun j hj => (Nat.lt_succ_iff_lt_or_eq.1 hj).elim (he j) (fun e => by rw [e, hle]; exact decide_eq_true (by omega)), fun j hj => by rw [upd_other (by omega), hold j hj]⟩, by omega, by omega, (by simp [LeL, Le1]), fun _ _ h => h⟩
  · rw [leB_t fun j hj => he j (by omega)]
theorem impl_LeastSolution1 (s : Fracs w lo hi h v l) (r : Fracs w' lo' hi' h u m) (hl : GoodF N l) (hm : GoodF N m) (hN : N ≤ 5) {b ty op : Nat} {wr : Bool} (hb : h b = some ⟨ty, [u], wr, op⟩) (n : Nat) (hn : hi ≤ n) (hn' : hi' ≤ n) :
    Q Tryz.prog 37 [v, .ptr b 0] h n (.bool (!leB N m l)) := by
  refine q_intro Tryz.func37 k_impl_LeastSolution_1 ?_
  simp (maxSteps := 2000000) -implicitDefEqProofs (disch := omega) only [c_impl_LeastSolution_1, hb, xsW, xsC, xsD, xsE, fillA, reduceCtorEq, Nat.reduceAdd, Nat.reduceSub, Nat.reduceLeDiff, Nat.reduceMul, Int.reduceLT, Int.reduceLE, Int.reduceEq, Int.reduceNe, Int.reduceAdd, Int.reduceSub, Int.reduceMul, Int.reduceNeg, Int.reduceToNat]
  refine q_use (impl_isLeast r s hm hl hN _ hn' hn) fun n2 hn2 => ?_
  simp (maxSteps := 2000000) -implicitDefEqProofs (disch := omega) only [xsW, xsC, xsD, xsE, fillA, reduceCtorEq, Nat.reduceAdd, Nat.reduceSub, Nat.reduceLeDiff, Nat.reduceMul, Int.reduceLT, Int.reduceLE, Int.reduceEq, Int.reduceNe, Int.reduceAdd, Int.reduceSub, Int.reduceMul, Int.reduceNeg, Int.reduceToNat]
theorem impl_LeastSolution (s : Prob w lo hi h v u vs ll q) (hl : ll.length ≤ 1048576) (hll : ∀ l ∈ ll, l.length ≤ 1048576) (hq : q.length ≤ 1048576) (n : Nat) (hn : hi ≤ n) :
    FQ Tryz.prog 8 [.agg [v, u]] h n fun x h' n' => ∃ v', x = .tup [v', .int .i64 (leastV ll q).2] ∧ Fracs true n n' h' v' (leastV ll q).1 := by
  refine fq_intro Tryz.func8 k_impl_LeastSolution ?_
  have o1 := one_any (Sl.any s.M.out)
  have o2 := one_any (Sl.any s.Q)
  simp (maxSteps := 2000000) -implicitDefEqProofs (disch := omega) only [c_impl_LeastSolution, o1, o2, xsW, xsC, xsD, xsE, fillA, reduceCtorEq, Nat.reduceAdd, Nat.reduceSub, Nat.reduceLeDiff, Nat.reduceMul, Int.reduceLT, Int.reduceLE, Int.reduceEq, Int.reduceNe, Int.reduceAdd, Int.reduceSub, Int.reduceMul, Int.reduceNeg, Int.reduceToNat]
  refine fq_use (impl_SolutionsOf (s.keep (fun i _ hi9 => by simp (disch := omega) only [upd_other])) hl hll hq _ (by omega)) fun x1 h1 n1 hn1 hs1 ⟨v1, vs1, hx1, hv1⟩ => ?_
  subst hx1
  unfold leastV
  cases hp : isProb ll q
  · have e : solsV ll q = ([], 1) := by unfold solsV; rw [if_neg (by simp [hp])]
    rw [e]
    simp (maxSteps := 2000000) -implicitDefEqProofs (disch := omega) only [xsW, xsC, xsD, xsE, fillA, reduceCtorEq, Nat.reduceAdd, Nat.reduceSub, Nat.reduceLeDiff, Nat.reduceMul, Int.reduceLT, Int.reduceLE, Int.reduceEq, Int.reduceNe, Int.reduceAdd, Int.reduceSub, Int.reduceMul, Int.reduceNeg, Int.reduceToNat]
    intro _ h2 hh
    exact ⟨.nilsl, rfl, Sl.nil⟩
  · have e : solsV ll q = (solsK ll q (pw ll.length), 0) := by unfold solsV; rw [if_pos hp]
    rw [e] at hv1 ⊢
    have hN := ((isMat_iff ll).1 (isProb_facts hp).1).2.1
    have hpw := pw_le hN
    have hg := (solsK_facts hp (pw ll.length)).1
    have hsl := solsK_len ll q (pw ll.length)
    simp only [if_true] at hv1 ⊢
    generalize solsK ll q (pw ll.length) = zs at hv1 hg hsl ⊢
    have hzg : ∀ j, j < zs.length → GoodF ll.length (zs.getD j []) := fun j hj => hg _ (getD_mem hj)
    have hvl := hv1.slen
    simp (maxSteps := 2000000) -implicitDefEqProofs (disch := omega) only [xsW, xsC, xsD, xsE, fillA, reduceCtorEq, Nat.reduceAdd, Nat.reduceSub, Nat.reduceLeDiff, Nat.reduceMul, Int.reduceLT, Int.reduceLE, Int.reduceEq, Int.reduceNe, Int.reduceAdd, Int.reduceSub, Int.reduceMul, Int.reduceNeg, Int.reduceToNat,  hv1.ln]
    obtain ⟨V, hV⟩ : ∃ V, V = lstF ll.length zs 0 zs.length := ⟨_, rfl⟩
    rw [← hV]
    refine loop_for zs.length 0 (fun k _ => [.any, .ptr n 0, .nilsl, .int .i64 0, v1, .any, .any, .any, .any, .any, .any, .any, .any, .any, .any, .any, v1, .int .i64 zs.length, .int .i64 k, .any, .any, .any, .any, .any, .any, .any, .any, .any]) (fun _ (hp : AH) => hp)
      (fun k hp _ => V = lstF ll.length zs k (zs.length - k) ∧ ∀ j, j < n1 → hp j = h1 j) h1 (Nat.zero_le _) ⟨hV, fun _ _ => rfl⟩ (by simp [LeL, Le1]) (fun _ _ h => h) ?_
    rintro k hp' m1 - hk hm1 ⟨he, hold⟩
    have gk := hv1.keep (h' := hp') (fun i _ hi9 => by simp (disch := omega) only [upd_other, hold])
    simp (maxSteps := 2000000) -implicitDefEqProofs (disch := omega) only [xsW, xsC, xsD, xsE, fillA, reduceCtorEq, Nat.reduceAdd, Nat.reduceSub, Nat.reduceLeDiff, Nat.reduceMul, Int.reduceLT, Int.reduceLE, Int.reduceEq, Int.reduceNe, Int.reduceAdd, Int.reduceSub, Int.reduceMul, Int.reduceNeg, Int.reduceToNat]
    (refine cd_dec (fun c1 => ?_) (fun c1 => ?_) <;> simp (maxSteps := 2000000) -implicitDefEqProofs (disch := omega) only [xsW, xsC, xsD, xsE, fillA, reduceCtorEq, Nat.reduceAdd, Nat.reduceSub, Nat.reduceLeDiff, Nat.reduceMul, Int.reduceLT, Int.reduceLE, Int.reduceEq, Int.reduceNe, Int.reduceAdd, Int.reduceSub, Int.reduceMul, Int.reduceNeg, Int.reduceToNat,  c1])
    · have hk2 : k < zs.length := by omega
      rw [show zs.length - k = (zs.length - (k + 1)) + 1 by omega, lstF] at he
      have hrow := gk.row k hk2
      have hbl := gk.out.below (by rw [hvl]; omega)
      have x1 := one_any (Sl.any hrow)
      have x2 := sto_any (Sl.any hrow)
      have x3 := cel_any (Sl.any hrow)
      simp (maxSteps := 2000000) -implicitDefEqProofs (disch := omega) only [xsW, xsC, xsD, xsE, fillA, reduceCtorEq, Nat.reduceAdd, Nat.reduceSub, Nat.reduceLeDiff, Nat.reduceMul, Int.reduceLT, Int.reduceLE, Int.reduceEq, Int.reduceNe, Int.reduceAdd, Int.reduceSub, Int.reduceMul, Int.reduceNeg, Int.reduceToNat,  gk.ia, gk.ld, x1, x2, x3, List.length_cons, List.length_nil]
      have gk2 := gk.keep (h' := upd hp' m1 (some ⟨27, [vs1.getD k .any], true, 0⟩)) (fun i _ hi9 => by simp (disch := omega) only [upd_other])
      have hrow2 := gk2.row k hk2
      refine q_use (has_fows gk2.out (by rw [hvl]; omega) _ _ (fun j => !leB ll.length (zs.getD k []) (zs.getD j [])) _ fun j n' hj hn' => ?_) fun n2 hn2 => ?_
      · exact impl_LeastSolution1 (gk2.row j (by omega)) hrow2 (hzg j (by omega)) (hzg k hk2) hN (upd_same _ _ _) _ (by omega) (by omega)
      · have hL : lstB ll.length zs (zs.getD k []) = !((List.range (slen v1)).any fun j => !leB ll.length (zs.getD k []) (zs.getD j [])) := by unfold lstB; rw [hvl]
        generalize ((List.range (slen v1)).any fun j => !leB ll.length (zs.getD k []) (zs.getD j [])) = B at hL ⊢
        cases B
        · rw [hL, if_pos (by rfl)] at he
          simp (maxSteps := 2000000) -implicitDefEqProofs (disch := omega) only [xsW, xsC, xsD, xsE, fillA, reduceCtorEq, Nat.reduceAdd, Nat.reduceSub, Nat.reduceLeDiff, Nat.reduceMul, Int.reduceLT, Int.reduceLE, Int.reduceEq, Int.reduceNe, Int.reduceAdd, Int.reduceSub, Int.reduceMul, Int.reduceNeg, Int.reduceToNat]
          intro _ h2 hh
          rw [he]
          exact ⟨_, ⟨rfl, rfl⟩, (Fracs.keep hrow2 fun j a b => hh j (by omega) (by omega)).wide (by omega) (by omega)⟩
        · rw [hL, if_neg (by simp)] at he
          simp (maxSteps := 2000000) -implicitDefEqProofs (disch := omega) only [xsW, xsC, xsD, xsE, fillA, reduceCtorEq, Nat.reduceAdd, Nat.reduceSub, Nat.reduceLeDiff, Nat.reduceMul, Int.reduceLT, Int.reduceLE, Int.reduceEq, Int.reduceNe, Int.reduceAdd, Int.reduceSub, Int.reduceMul, Int.reduceNeg, Int.reduceToNat]
          exact ⟨_, ⟨he, fun j hj => by rw [upd_other (by omega), hold j hj]⟩, by omega, by omega, (by simp [LeL, Le1]), fun _ _ h => h⟩
    · rw [show zs.length - k = 0 by omega, lstF] at he
      intro _ h2 hh
      rw [he]
      exact ⟨.nilsl, ⟨rfl, rfl⟩, Sl.nil⟩
theorem spec_LeastSolution (s : Prob w lo hi h v u vs ll q) (hl : ll.length ≤ 1048576) (hll : ∀ l ∈ ll, l.length ≤ 1048576) (hq : q.length ≤ 1048576) (n : Nat) (hn : hi ≤ n) :
    FQ Tryz.prog 6 [.agg [v, u]] h n fun x h' n' => ∃ v', x = .tup [v', .int .i64 (leastV ll q).2] ∧ Fracs true n n' h' v' (leastV ll q).1 := by
  refine fq_intro Tryz.func6 k_spec_LeastSolution ?_
  have o1 := one_any (Sl.any s.M.out)
  have o2 := one_any (Sl.any s.Q)
  unfold leastV
  simp (maxSteps := 2000000) -implicitDefEqProofs (disch := omega) only [c_spec_LeastSolution, o1, o2, xsW, xsC, xsD, xsE, fillA, reduceCtorEq, Nat.reduceAdd, Nat.reduceSub, Nat.reduceLeDiff, Nat.reduceMul, Int.reduceLT, Int.reduceLE, Int.reduceEq, Int.reduceNe, Int.reduceAdd, Int.reduceSub, Int.reduceMul, Int.reduceNeg, Int.reduceToNat]
  refine q_use (spec_l01Is (s.keep (fun i _ hi9 => by simp (disch := omega) only [upd_other])) hl hll hq _ (by omega)) fun n1 hn1 => ?_
  cases hp : isProb ll q
  · simp (maxSteps := 2000000) -implicitDefEqProofs (disch := omega) only [xsW, xsC, xsD, xsE, fillA, reduceCtorEq, Nat.reduceAdd, Nat.reduceSub, Nat.reduceLeDiff, Nat.reduceMul, Int.reduceLT, Int.reduceLE, Int.reduceEq, Int.reduceNe, Int.reduceAdd, Int.reduceSub, Int.reduceMul, Int.reduceNeg, Int.reduceToNat]
    intro _ h2 hh
    exact ⟨.nilsl, rfl, Sl.nil⟩
  · obtain ⟨hm, hql, _⟩ := isProb_facts hp
    have hN := ((isMat_iff ll).1 hm).2.1
    have hpw := pw_le hN
    have hg := (solsK_facts hp (pw ll.length)).1
    have hsl := solsK_len ll q (pw ll.length)
    simp (maxSteps := 2000000) -implicitDefEqProofs (disch := omega) only [xsW, xsC, xsD, xsE, fillA, reduceCtorEq, Nat.reduceAdd, Nat.reduceSub, Nat.reduceLeDiff, Nat.reduceMul, Int.reduceLT, Int.reduceLE, Int.reduceEq, Int.reduceNe, Int.reduceAdd, Int.reduceSub, Int.reduceMul, Int.reduceNeg, Int.reduceToNat]
    refine fq_use (spec_l02All (s.keep (fun i _ hi9 => by simp (disch := omega) only [upd_other])) hp n1 (by omega)) fun v1 h1 n2 hn2 hs1 ⟨vs1, hv1⟩ => ?_
    generalize solsK ll q (pw ll.length) = zs at hv1 hg hsl ⊢
    have hzg : ∀ j, j < zs.length → GoodF ll.length (zs.getD j []) := fun j hj => hg _ (getD_mem hj)
    have hbox : h1 n = some ⟨30, [v, u], true, 0⟩ := by rw [hs1 n (by omega), upd_same]
    have hQ := (s.keep (h' := upd h n (some ⟨30, [v, u], true, 0⟩)) (fun i _ hi9 => by simp (disch := omega) only [upd_other])).Q.keep (h' := h1) (fun i _ hi9 => by simp (disch := omega) only [upd_other, hs1])
    obtain ⟨V, hV⟩ : ∃ V, V = lstF ll.length zs 0 zs.length := ⟨_, rfl⟩
    rw [← hV]
    simp (maxSteps := 2000000) -implicitDefEqProofs (disch := omega) only [xsW, xsC, xsD, xsE, fillA, reduceCtorEq, Nat.reduceAdd, Nat.reduceSub, Nat.reduceLeDiff, Nat.reduceMul, Int.reduceLT, Int.reduceLE, Int.reduceEq, Int.reduceNe, Int.reduceAdd, Int.reduceSub, Int.reduceMul, Int.reduceNeg, Int.reduceToNat]
    refine loop_for zs.length 0 (fun i (_ : Unit) => [.any, .ptr n 0, .nilsl, .int .i64 0, v1, .int .i64 i, .any, .any, .any, .any, .any, .any, .any, .any, .any, .any, .any, .any, .any, .any, .any, .any, .any, .any, .any, .any, .any, .any, .any, .any, .any, .any, .any, .any, .any, .any, .any, .any, .any, .any, .any, .any, .any, .any, .any, .any, .any, .any, .any, .any, .any, .any, .any, .any, .any, .any, .any, .any, .any, .any, .any, .any, .any, .any, .any]) (fun _ _ => h1)
      (fun i _ _ => V = lstF ll.length zs i (zs.length - i)) () (Nat.zero_le _) hV (by simp [LeL, Le1]) (fun _ _ h => h) ?_
    rintro i - m1 - hi1 hm1 he
    simp (maxSteps := 2000000) -implicitDefEqProofs (disch := omega) only [xsW, xsC, xsD, xsE, fillA, reduceCtorEq, Nat.reduceAdd, Nat.reduceSub, Nat.reduceLeDiff, Nat.reduceMul, Int.reduceLT, Int.reduceLE, Int.reduceEq, Int.reduceNe, Int.reduceAdd, Int.reduceSub, Int.reduceMul, Int.reduceNeg, Int.reduceToNat,  hv1.ln]
    (refine cd_dec (fun c1 => ?_) (fun c1 => ?_) <;> simp (maxSteps := 2000000) -implicitDefEqProofs (disch := omega) only [xsW, xsC, xsD, xsE, fillA, reduceCtorEq, Nat.reduceAdd, Nat.reduceSub, Nat.reduceLeDiff, Nat.reduceMul, Int.reduceLT, Int.reduceLE, Int.reduceEq, Int.reduceNe, Int.reduceAdd, Int.reduceSub, Int.reduceMul, Int.reduceNeg, Int.reduceToNat,  c1])
    · have hi2 : i < zs.length := by omega
      rw [show zs.length - i = (zs.length - (i + 1)) + 1 by omega, lstF] at he
      have hgi := hzg i hi2
      have hri := hv1.row i hi2
      refine loop_for zs.length 0 (fun k (b : Bool) => [.any, .ptr n 0, .nilsl, .int .i64 0, v1, .int .i64 i, .bool b, .int .i64 k, .any, .any, .any, .any, .any, .any, .any, .any, .any, .any, .any, .any, .any, .any, .any, .any, .any, .any, .any, .any, .any, .any, .any, .any, .any, .any, .any, .any, .any, .any, .any, .any, .any, .any, .any, .any, .any, .any, .any, .any, .any, .any, .any, .any, .any, .any, .any, .any, .any, .any, .any, .any, .any, .any, .any, .any, .any]) (fun _ _ => h1)
        (fun k b _ => b = true ↔ ∀ k', k' < k → leB ll.length (zs.getD i []) (zs.getD k' []) = true) true (Nat.zero_le _) ⟨fun _ j hj => absurd hj (Nat.not_lt_zero _), fun _ => rfl⟩ (by simp [LeL, Le1]) (fun _ _ h => h) ?_
      rintro k b m2 - hk1 hm2 hb
      simp (maxSteps := 2000000) -implicitDefEqProofs (disch := omega) only [xsW, xsC, xsD, xsE, fillA, reduceCtorEq, Nat.reduceAdd, Nat.reduceSub, Nat.reduceLeDiff, Nat.reduceMul, Int.reduceLT, Int.reduceLE, Int.reduceEq, Int.reduceNe, Int.reduceAdd, Int.reduceSub, Int.reduceMul, Int.reduceNeg, Int.reduceToNat,  hv1.ln]
      (refine cd_dec (fun c2 => ?_) (fun c2 => ?_) <;> simp (maxSteps := 2000000) -implicitDefEqProofs (disch := omega) only [xsW, xsC, xsD, xsE, fillA, reduceCtorEq, Nat.reduceAdd, Nat.reduceSub, Nat.reduceLeDiff, Nat.reduceMul, Int.reduceLT, Int.reduceLE, Int.reduceEq, Int.reduceNe, Int.reduceAdd, Int.reduceSub, Int.reduceMul, Int.reduceNeg, Int.reduceToNat,  c2])
      · have hk2 : k < zs.length := by omega
        have hgk := hzg k hk2
        have hrk := hv1.row k hk2
        refine loop_for ll.length 0 (fun j (b : Bool) => [.any, .ptr n 0, .nilsl, .int .i64 0, v1, .int .i64 i, .bool b, .int .i64 k, .int .i64 j, .any, .any, .any, .any, .any, .any, .any, .any, .any, .any, .any, .any, .any, .any, .any, .any, .any, .any, .any, .any, .any, .any, .any, .any, .any, .any, .any, .any, .any, .any, .any, .any, .any, .any, .any, .any, .any, .any, .any, .any, .any, .any, .any, .any, .any, .any, .any, .any, .any, .any, .any, .any, .any, .any, .any, .any]) (fun _ _ => h1)
          (fun j b _ => b = true ↔ (∀ k', k' < k → leB ll.length (zs.getD i []) (zs.getD k' []) = true) ∧ ∀ j', j' < j → le1 (zs.getD i []) (zs.getD k []) j' = true) b (Nat.zero_le _)
          (hb.trans ⟨fun h => ⟨h, fun _ hj => absurd hj (Nat.not_lt_zero _)⟩, fun h => h.1⟩) (by simp [LeL, Le1]) (fun _ _ h => h) ?_
        rintro j b2 m3 - hj1 hm3 hb2
        simp (maxSteps := 2000000) -implicitDefEqProofs (disch := omega) only [xsW, xsC, xsD, xsE, fillA, reduceCtorEq, Nat.reduceAdd, Nat.reduceSub, Nat.reduceLeDiff, Nat.reduceMul, Int.reduceLT, Int.reduceLE, Int.reduceEq, Int.reduceNe, Int.reduceAdd, Int.reduceSub, Int.reduceMul, Int.reduceNeg, Int.reduceToNat,  hbox, hQ.ln, hql]
        (refine cd_dec (fun c3 => ?_) (fun c3 => ?_) <;> simp (maxSteps := 2000000) -implicitDefEqProofs (disch := omega) only [xsW, xsC, xsD, xsE, fillA, reduceCtorEq, Nat.reduceAdd, Nat.reduceSub, Nat.reduceLeDiff, Nat.reduceMul, Int.reduceLT, Int.reduceLE, Int.reduceEq, Int.reduceNe, Int.reduceAdd, Int.reduceSub, Int.reduceMul, Int.reduceNeg, Int.reduceToNat,  c3])
        · have hj2 : j < ll.length := by omega
          cases b2
          · simp (maxSteps := 2000000) -implicitDefEqProofs (disch := omega) only [xsW, xsC, xsD, xsE, fillA, reduceCtorEq, Nat.reduceAdd, Nat.reduceSub, Nat.reduceLeDiff, Nat.reduceMul, Int.reduceLT, Int.reduceLE, Int.reduceEq, Int.reduceNe, Int.reduceAdd, Int.reduceSub, Int.reduceMul, Int.reduceNeg, Int.reduceToNat]
            refine ⟨false, ⟨fun h => (by cases h), fun h => hb2.2 ⟨h.1, fun j' hj' => h.2 j' (by omega)⟩⟩, by omega, by omega, (by simp [LeL, Le1])⟩
          · have g1 := hgi.at hj2
            have g2 := hgk.at hj2
            have li := hgi.1
            have lk := hgk.1
            simp (maxSteps := 2000000) -implicitDefEqProofs (disch := omega) only [xsW, xsC, xsD, xsE, fillA, reduceCtorEq, Nat.reduceAdd, Nat.reduceSub, Nat.reduceLeDiff, Nat.reduceMul, Int.reduceLT, Int.reduceLE, Int.reduceEq, Int.reduceNe, Int.reduceAdd, Int.reduceSub, Int.reduceMul, Int.reduceNeg, Int.reduceToNat,  hv1.ia, hv1.ld, hri.ia, hri.ld, hrk.ia, hrk.ld, li, lk, frA]
            refine q_use (spec_l01Less _ _ _ _ g2 g1 _ _) fun n3 hn3 => ?_
            have hle : le1 (zs.getD i []) (zs.getD k []) j = !decide (((zs.getD k []).getD j (0, 0)).1 * ((zs.getD i []).getD j (0, 0)).2 < ((zs.getD i []).getD j (0, 0)).1 * ((zs.getD k []).getD j (0, 0)).2) := by
              unfold le1
              rw [← decide_not]
              refine decide_eq_decide.2 ?_
              omega
            generalize decide (((zs.getD k []).getD j (0, 0)).1 * ((zs.getD i []).getD j (0, 0)).2 < ((zs.getD i []).getD j (0, 0)).1 * ((zs.getD k []).getD j (0, 0)).2) = X at hle ⊢
            simp (maxSteps := 2000000) -implicitDefEqProofs (disch := omega) only [xsW, xsC, xsD, xsE, fillA, reduceCtorEq, Nat.reduceAdd, Nat.reduceSub, Nat.reduceLeDiff, Nat.reduceMul, Int.reduceLT, Int.reduceLE, Int.reduceEq, Int.reduceNe, Int.reduceAdd, Int.reduceSub, Int.reduceMul, Int.reduceNeg, Int.reduceToNat]
            refine ⟨le1 (zs.getD i []) (zs.getD k []) j, ⟨fun h => ⟨(hb2.1 rfl).1, fun j' hj' => (Nat.lt_succ_iff_lt_or_eq.1 hj').elim ((hb2.1 rfl).2 j') (fun e => by rw [e]; exact h)⟩, fun h => h.2 j (by omega)⟩, by omega, by omega, by rw [hle]; simp [LeL, Le1]⟩
        · have e : j = ll.length := by omega
          subst e
          refine ⟨b2, hb2.trans ⟨fun h k' hk' => (Nat.lt_succ_iff_lt_or_eq.1 hk').elim (h.1 k') (fun e => by rw [e]; exact leB_t h.2), fun h => ⟨fun k' hk' => h k' (by omega), leB_iff.1 (h k (by omega))⟩⟩, by omega, by omega, (by simp [LeL, Le1])⟩
      · have e : k = zs.length := by omega
        subst e
        have hB : b = lstB ll.length zs (zs.getD i []) := by rw [Bool.eq_iff_iff, hb, lstB_iff]
        cases b
        · rw [← hB, if_neg (by simp)] at he
          simp (maxSteps := 2000000) -implicitDefEqProofs (disch := omega) only [xsW, xsC, xsD, xsE, fillA, reduceCtorEq, Nat.reduceAdd, Nat.reduceSub, Nat.reduceLeDiff, Nat.reduceMul, Int.reduceLT, Int.reduceLE, Int.reduceEq, Int.reduceNe, Int.reduceAdd, Int.reduceSub, Int.reduceMul, Int.reduceNeg, Int.reduceToNat]
          exact ⟨(), he, by omega, by omega, (by simp [LeL, Le1])⟩
        · rw [← hB, if_pos rfl] at he
          simp (maxSteps := 2000000) -implicitDefEqProofs (disch := omega) only [xsW, xsC, xsD, xsE, fillA, reduceCtorEq, Nat.reduceAdd, Nat.reduceSub, Nat.reduceLeDiff, Nat.reduceMul, Int.reduceLT, Int.reduceLE, Int.reduceEq, Int.reduceNe, Int.reduceAdd, Int.reduceSub, Int.reduceMul, Int.reduceNeg, Int.reduceToNat,  hv1.ia, hv1.ld]
          refine q_use (spec_l02Told hri (by rw [hgi.1]; omega) (fun j hj => by
            have := fr1_b (hgi.at (k := j) (by rw [← hgi.1]; exact hj))
            exact ⟨this.1, this.2.2.2.2, by unfold in64; omega, by unfold in64; omega⟩) _) fun n3 hn3 => ?_
          rw [if_pos (good_all hgi)]
          simp (maxSteps := 2000000) -implicitDefEqProofs (disch := omega) only [xsW, xsC, xsD, xsE, fillA, reduceCtorEq, Nat.reduceAdd, Nat.reduceSub, Nat.reduceLeDiff, Nat.reduceMul, Int.reduceLT, Int.reduceLE, Int.reduceEq, Int.reduceNe, Int.reduceAdd, Int.reduceSub, Int.reduceMul, Int.reduceNeg, Int.reduceToNat]
          intro _ h2 hh
          rw [he]
          exact ⟨_, ⟨rfl, rfl⟩, (Fracs.keep hri fun j a b => hh j (by omega) (by omega)).wide (by omega) (by omega)⟩
    · rw [show zs.length - i = 0 by omega, lstF] at he
      intro _ h2 hh
      rw [he]
      exact ⟨.nilsl, ⟨rfl, rfl⟩, Sl.nil⟩
end
def c_spec_l01From : F := ⟨(.seq (.reg false [⟨some 2, .mv (.c .nilptr), none⟩]) (.seq (.reg false [⟨some 5, .mv (.t 0), none⟩, ⟨some 6, .mv (.t 0), none⟩, ⟨some 7, .len (.t 6), none⟩, ⟨some 8, .cvi .u64 (.t 7), none⟩, ⟨some 9, .bin .add (.c (.int .u64 13431)) (.t 8), none⟩, ⟨some 10, .build [.nilsl, (.int .i64 0), (.int .u64 0)] [(0, (1, (.t 5))), (2, (1, (.t 9)))], none⟩, ⟨some 11, .box 98 (.t 10), none⟩, ⟨some 3, .mv (.t 11), none⟩]) (.seq (.seq (.reg false [⟨some 4, .mv (.c (.int .i64 0)), none⟩]) (.block 0 (.loop (.seq (.seq (.reg false [⟨some 12, .mv (.t 4), none⟩, ⟨some 13, .mv (.t 0), none⟩, ⟨some 14, .len (.t 13), none⟩, ⟨some 15, .bin .lss (.t 12) (.t 14), none⟩, ⟨some 16, .mv (.t 15), none⟩, ⟨some 17, .mv (.t 4), some (16, true)⟩, ⟨some 18, .bin .lss (.t 17) (.c (.int .i64 4096)), some (16, true)⟩, ⟨some 19, .pick (.t 16) (.t 18) (.c (.bool false)), none⟩]) (.cond (.t 19) .skip (.exit 0))) (.seq (.block 1 (.reg true [⟨some 22, .mv (.t 3), none⟩, ⟨some 23, .mv (.t 3), none⟩, ⟨some 24, .nck (.t 23), none⟩, ⟨some 25, .fa 2 (.t 24), none⟩, ⟨some 26, .ld1 (.t 25), none⟩, ⟨some 27, .bin .mul (.t 26) (.c (.int .u64 1099511628211)), none⟩, ⟨some 28, .mv (.t 0), none⟩, ⟨some 29, .mv (.t 4), none⟩, ⟨some 30, .ia 1 (.t 28) (.t 29), none⟩, ⟨some 31, .ld1 (.t 30), none⟩, ⟨some 32, .cvi .u64 (.t 31), none⟩, ⟨some 33, .bin .add (.t 27) (.t 32), none⟩, ⟨some 34, .bin .add (.t 33) (.c (.int .u64 167)), none⟩, ⟨some 35, .nck (.t 22), none⟩, ⟨some 36, .fa 2 (.t 35), none⟩, ⟨none, .st 1 (.t 36) (.t 34), none⟩])) (.reg false [⟨some 20, .mv (.t 4), none⟩, ⟨some 21, .bin .add (.t 20) (.c (.int .i64 1)), none⟩, ⟨some 4, .mv (.t 21), none⟩])))))) (.seq (.reg false [⟨some 37, .mv (.t 3), none⟩, ⟨some 2, .mv (.t 37), none⟩]) .ret)))), 38, [(.t 2)]⟩
theorem k_spec_l01From : compF Tryz.prog Tryz.f45 = some c_spec_l01From := by kernel_rfl
def c_spec_l01Next : F := ⟨(.seq (.reg false [⟨some 4, .mv (.c (.int .i64 0)), none⟩]) (.seq (.seq (.reg false [⟨some 6, .mv (.t 1), none⟩, ⟨some 7, .bin .lss (.t 6) (.c (.int .i64 1)), none⟩]) (.cond (.t 7) (.seq (.reg false [⟨some 4, .mv (.c (.int .i64 0)), none⟩]) .ret) .skip)) (.seq (.reg false [⟨some 8, .mv (.t 0), none⟩, ⟨some 9, .mv (.t 0), none⟩, ⟨some 10, .nck (.t 9), none⟩, ⟨some 11, .fa 2 (.t 10), none⟩, ⟨some 12, .ld1 (.t 11), none⟩, ⟨some 13, .bin .mul (.t 12) (.c (.int .u64 6364136223846793005)), none⟩, ⟨some 14, .bin .add (.t 13) (.c (.int .u64 1442695040888963407)), none⟩, ⟨some 15, .nck (.t 8), none⟩, ⟨some 16, .fa 2 (.t 15), none⟩, ⟨none, .st 1 (.t 16) (.t 14), none⟩]) (.seq (.reg false [⟨some 17, .mv (.t 0), none⟩, ⟨some 18, .nck (.t 17), none⟩, ⟨some 19, .fa 2 (.t 18), none⟩, ⟨some 20, .ld1 (.t 19), none⟩, ⟨some 21, .bin .shr (.t 20) (.c (.int .u64 31)), none⟩, ⟨some 22, .bin .and (.t 21) (.c (.int .u64 1073741823)), none⟩, ⟨some 23, .cvi .i64 (.t 22), none⟩, ⟨some 5, .mv (.t 23), none⟩]) (.seq (.seq (.reg true [⟨some 24, .mv (.t 0), none⟩, ⟨some 25, .nck (.t 24), none⟩, ⟨some 26, .fa 1 (.t 25), none⟩, ⟨some 27, .ld1 (.t 26), none⟩, ⟨some 28, .mv (.t 0), none⟩, ⟨some 29, .nck (.t 28), none⟩, ⟨some 30, .fa 0 (.t 29), none⟩, ⟨some 31, .ld1 (.t 30), none⟩, ⟨some 32, .len (.t 31), none⟩, ⟨some 33, .bin .lss (.t 27) (.t 32), none⟩]) (.cond (.t 33) (.seq (.reg true [⟨some 34, .mv (.t 5), none⟩, ⟨some 35, .mv (.t 0), none⟩, ⟨some 36, .nck (.t 35), none⟩, ⟨some 37, .fa 0 (.t 36), none⟩, ⟨some 38, .ld1 (.t 37), none⟩, ⟨some 39, .mv (.t 0), none⟩, ⟨some 40, .nck (.t 39), none⟩, ⟨some 41, .fa 1 (.t 40), none⟩, ⟨some 42, .ld1 (.t 41), none⟩, ⟨some 43, .ia 1 (.t 38) (.t 42), none⟩, ⟨some 44, .ld1 (.t 43), none⟩, ⟨some 45, .cvi .i64 (.t 44), none⟩, ⟨some 46, .bin .add (.t 34) (.t 45), none⟩, ⟨some 5, .mv (.t 46), none⟩]) (.reg false [⟨some 47, .mv (.t 0), none⟩, ⟨some 48, .mv (.t 0), none⟩, ⟨some 49, .nck (.t 48), none⟩, ⟨some 50, .fa 1 (.t 49), none⟩, ⟨some 51, .ld1 (.t 50), none⟩, ⟨some 52, .bin .add (.t 51) (.c (.int .i64 1)), none⟩, ⟨some 53, .nck (.t 47), none⟩, ⟨some 54, .fa 1 (.t 53), none⟩, ⟨none, .st 1 (.t 54) (.t 52), none⟩])) .skip)) (.seq (.reg false [⟨some 55, .mv (.t 5), none⟩, ⟨some 56, .mv (.t 1), none⟩, ⟨some 57, .bin .rem (.t 55) (.t 56), none⟩, ⟨some 4, .mv (.t 57), none⟩]) .ret)))))), 58, [(.t 4)]⟩
theorem k_spec_l01Next : compF Tryz.prog Tryz.f89 = some c_spec_l01Next := by kernel_rfl
def c_spec_l01Pick : F := ⟨(.seq (.reg false [⟨some 4, .mv (.c (.int .i64 0)), none⟩]) (.seq (.reg false [⟨some 5, .mv (.t 1), none⟩, ⟨some 6, .mv (.t 0), none⟩, ⟨some 7, .mv (.t 1), none⟩, ⟨some 8, .len (.t 7), none⟩, ⟨some 9, .call (.f 89) [(.t 6), (.t 8)], none⟩, ⟨some 10, .ia 1 (.t 5) (.t 9), none⟩, ⟨some 11, .ld1 (.t 10), none⟩, ⟨some 4, .mv (.t 11), none⟩]) .ret)), 12, [(.t 4)]⟩
theorem k_spec_l01Pick : compF Tryz.prog Tryz.f104 = some c_spec_l01Pick := by kernel_rfl
def c_spec_l01DrawPart : F := ⟨(.seq (.reg false [⟨some 4, .mv (.c (.int .i64 0)), none⟩]) (.seq (.reg false [⟨some 5, .mv (.t 0), none⟩, ⟨some 6, .mv (.t 1), none⟩, ⟨some 7, .bin .mul (.c (.int .i64 2)) (.t 6), none⟩, ⟨some 8, .bin .add (.t 7) (.c (.int .i64 1)), none⟩, ⟨some 9, .call (.f 89) [(.t 5), (.t 8)], none⟩, ⟨some 10, .mv (.t 1), none⟩, ⟨some 11, .bin .sub (.t 9) (.t 10), none⟩, ⟨some 4, .mv (.t 11), none⟩]) .ret)), 12, [(.t 4)]⟩
theorem k_spec_l01DrawPart : compF Tryz.prog Tryz.f90 = some c_spec_l01DrawPart := by kernel_rfl

def Rnd (bnd b : Nat) (h : AH) : Prop := ∃ (vc : AV) (code : List Int) (a : Nat) (hash : Int), h b = some ⟨98, [vc, .int .i64 a, .int .u64 hash], true, 0⟩ ∧ Sl false 0 bnd h 1 vc (bytesA code) ∧ code.length ≤ 4096 ∧ (∀ x ∈ code, 0 ≤ x ∧ x ≤ 255) ∧ a ≤ code.length
theorem Rnd.keep {bnd b : Nat} {h h' : AH} (r : Rnd bnd b h) (hb : h' b = h b) (k : ∀ j, j < bnd → h' j = h j) : Rnd bnd b h' := by
  obtain ⟨vc, code, a, hash, h1, h2, h3⟩ := r
  exact ⟨vc, code, a, hash, by rw [hb]; exact h1, h2.keep fun j _ hj => k j hj, h3⟩
theorem Rnd.blk {bnd b : Nat} {h : AH} (r : Rnd bnd b h) : ∃ bl, h b = some bl ∧ bl.wr = true := by
  obtain ⟨vc, code, a, hash, h1, _⟩ := r
  exact ⟨_, h1, rfl⟩
theorem and_small (x : Int) : 0 ≤ bitv .and .u64 x 1073741823 ∧ bitv .and .u64 x 1073741823 ≤ 1073741823 := by
  simp only [bitv]
  have h : (BitVec.ofInt IntKind.u64.bits x &&& BitVec.ofInt IntKind.u64.bits 1073741823).toNat ≤ 1073741823 := by
    rw [BitVec.toNat_and]
    refine Nat.le_trans Nat.and_le_right ?_
    decide
  generalize (BitVec.ofInt IntKind.u64.bits x &&& BitVec.ofInt IntKind.u64.bits 1073741823).toNat = m at h
  have : IntKind.u64.wrap (m : Int) = m := by simp [IntKind.wrap, IntKind.bits, IntKind.signed]; omega
  rw [this]
  omega
def NextP (k : Int) (x : AV) : Prop := ∃ y : Int, x = .int .i64 y ∧ 0 ≤ y ∧ (1 ≤ k → y < k) ∧ (k < 1 → y = 0)
def PickP (l : List Int) (x : AV) : Prop := ∃ y : Int, x = .int .i64 y ∧ y ∈ l
def PartP (k : Int) (x : AV) : Prop := ∃ y : Int, x = .int .i64 y ∧ -k ≤ y ∧ y ≤ k
def Same (b : Nat) (h' h : AH) : Prop := ∀ j, j ≠ b → h' j = h j
section
variable {bnd b : Nat} {h : AH}
theorem spec_l01Next (r : Rnd bnd b h) (hb : bnd ≤ b) (k : Int) (n : Nat) (hn : b < n) :
    MQ Tryz.prog 89 [.ptr b 0, .int .i64 k] h n b (b + 1) fun x h' n' => n' = n ∧ NextP k x ∧ Rnd bnd b h' ∧ Same b h' h := by
  refine mq_intro Tryz.func89 k_spec_l01Next ?_
  obtain ⟨vc, code, a, hash, h1, h2, h3, h4, h5⟩ := r
  have r0 : Rnd bnd b h := ⟨vc, code, a, hash, h1, h2, h3, h4, h5⟩
  simp (maxSteps := 2000000) -implicitDefEqProofs (disch := omega) only [c_spec_l01Next, xsW, xsC, xsD, xsE, fillA, reduceCtorEq, Nat.reduceAdd, Nat.reduceSub, Nat.reduceLeDiff, Nat.reduceMul, Int.reduceLT, Int.reduceLE, Int.reduceEq, Int.reduceNe, Int.reduceAdd, Int.reduceSub, Int.reduceMul, Int.reduceNeg, Int.reduceToNat]
  (refine cd_dec (fun c1 => ?_) (fun c1 => ?_) <;> simp (maxSteps := 2000000) -implicitDefEqProofs (disch := omega) only [xsW, xsC, xsD, xsE, fillA, reduceCtorEq, Nat.reduceAdd, Nat.reduceSub, Nat.reduceLeDiff, Nat.reduceMul, Int.reduceLT, Int.reduceLE, Int.reduceEq, Int.reduceNe, Int.reduceAdd, Int.reduceSub, Int.reduceMul, Int.reduceNeg, Int.reduceToNat,  c1])
  · exact ⟨⟨0, rfl, by omega, fun h => by omega, fun _ => rfl⟩, r0, fun _ _ => rfl⟩
  · simp (maxSteps := 2000000) -implicitDefEqProofs (disch := omega) only [xsW, xsC, xsD, xsE, fillA, reduceCtorEq, Nat.reduceAdd, Nat.reduceSub, Nat.reduceLeDiff, Nat.reduceMul, Int.reduceLT, Int.reduceLE, Int.reduceEq, Int.reduceNe, Int.reduceAdd, Int.reduceSub, Int.reduceMul, Int.reduceNeg, Int.reduceToNat,  h1]
    refine ⟨hn, .inr (by omega), ?_⟩
    generalize IntKind.u64.wrap (IntKind.u64.wrap (hash * 6364136223846793005) + 1442695040888963407) = hash2
    have hx := and_small (hash2.fdiv (2 ^ min 31 IntKind.u64.bits))
    generalize bitv BinOp.and IntKind.u64 (hash2.fdiv (2 ^ min 31 IntKind.u64.bits)) 1073741823 = X at hx ⊢
    have hup : ∀ (a' : Nat) (hash' : Int) (h2' : AH), (∀ j, j ≠ b → h2' j = h j) → h2' b = some ⟨98, [vc, .int .i64 a', .int .u64 hash'], true, 0⟩ → a' ≤ code.length → Rnd bnd b h2' := fun a' hash' h2' e1 e2 e3 =>
      ⟨vc, code, a', hash', e2, h2.keep fun j _ hj => e1 j (by omega), h3, h4, e3⟩
    have fin : ∀ y : Int, 0 ≤ y → NextP k (.int .i64 (y.tmod k)) := fun y hy => ⟨_, rfl, Int.tmod_nonneg _ hy, fun _ => Int.tmod_lt_of_pos _ (by omega), fun _ => by omega⟩
    have hsl : slen vc = code.length := by have := h2.len; rw [bytesA_len] at this; omega
    refine ⟨by unfold in64; omega, ?_⟩
    simp (maxSteps := 2000000) -implicitDefEqProofs (disch := omega) only [xsW, xsC, xsD, xsE, fillA, reduceCtorEq, Nat.reduceAdd, Nat.reduceSub, Nat.reduceLeDiff, Nat.reduceMul, Int.reduceLT, Int.reduceLE, Int.reduceEq, Int.reduceNe, Int.reduceAdd, Int.reduceSub, Int.reduceMul, Int.reduceNeg, Int.reduceToNat,  h2.ln, hsl]
    (refine cd_dec (fun c2 => ?_) (fun c2 => ?_) <;> simp (maxSteps := 2000000) -implicitDefEqProofs (disch := omega) only [xsW, xsC, xsD, xsE, fillA, reduceCtorEq, Nat.reduceAdd, Nat.reduceSub, Nat.reduceLeDiff, Nat.reduceMul, Int.reduceLT, Int.reduceLE, Int.reduceEq, Int.reduceNe, Int.reduceAdd, Int.reduceSub, Int.reduceMul, Int.reduceNeg, Int.reduceToNat,  c2])
    · have ha : a < code.length := by omega
      have hby := h4 _ (getD_mem (d := 0) ha)
      have hbel := h2.below (by omega)
      have hld := fun (K : AV → AH → Nat → Prop) (h' : AH) (n : Nat) => h2.ld (k := a) (by rw [bytesA_len]; exact ha) K h' n
      rw [bytesA_get code a ha] at hld
      simp (maxSteps := 2000000) -implicitDefEqProofs (disch := omega) only [xsW, xsC, xsD, xsE, fillA, reduceCtorEq, Nat.reduceAdd, Nat.reduceSub, Nat.reduceLeDiff, Nat.reduceMul, Int.reduceLT, Int.reduceLE, Int.reduceEq, Int.reduceNe, Int.reduceAdd, Int.reduceSub, Int.reduceMul, Int.reduceNeg, Int.reduceToNat,  h2.ia, hsl, hld]
      exact ⟨hn, .inr (by omega), fin _ (by omega), hup (a + 1) hash2 _ (fun j hj => upd_other hj) (by rw [upd_same, Int.natCast_add]; rfl) (by omega), fun j hj => upd_other hj⟩
    · exact ⟨fin _ (by omega), hup a hash2 _ (fun j hj => upd_other hj) (by rw [upd_same]) (by omega), fun j hj => upd_other hj⟩
theorem spec_l01Pick {w : Bool} {lo hi : Nat} {v : AV} {l : List Int} (r : Rnd bnd b h) (hb : bnd ≤ b) (s : Ints w lo hi h v l) (hd : b < lo) (hl : 0 < l.length) (hl2 : l.length ≤ 100) (n : Nat) (hn : b < n) :
    MQ Tryz.prog 104 [.ptr b 0, v] h n b (b + 1) fun x h' n' => n' = n ∧ PickP l x ∧ Rnd bnd b h' ∧ Same b h' h := by
  refine mq_intro Tryz.func104 k_spec_l01Pick ?_
  simp (maxSteps := 2000000) -implicitDefEqProofs (disch := omega) only [c_spec_l01Pick, s.ln, xsW, xsC, xsD, xsE, fillA, reduceCtorEq, Nat.reduceAdd, Nat.reduceSub, Nat.reduceLeDiff, Nat.reduceMul, Int.reduceLT, Int.reduceLE, Int.reduceEq, Int.reduceNe, Int.reduceAdd, Int.reduceSub, Int.reduceMul, Int.reduceNeg, Int.reduceToNat]
  refine mq_use (spec_l01Next r hb _ n hn) (fun i a c => .inr ⟨by omega, by omega⟩) fun x h' n' hn' ⟨en, ⟨y, hy, y0, y1, _⟩, r', sm⟩ => ?_
  subst en
  subst hy
  have y2 := y1 (by omega)
  obtain ⟨m, rfl⟩ : ∃ m : Nat, y = m := ⟨y.toNat, by omega⟩
  have s' := s.keep (h' := h') fun i a c => sm i (by omega)
  simp (maxSteps := 2000000) -implicitDefEqProofs (disch := omega) only [xsW, xsC, xsD, xsE, fillA, reduceCtorEq, Nat.reduceAdd, Nat.reduceSub, Nat.reduceLeDiff, Nat.reduceMul, Int.reduceLT, Int.reduceLE, Int.reduceEq, Int.reduceNe, Int.reduceAdd, Int.reduceSub, Int.reduceMul, Int.reduceNeg, Int.reduceToNat,  s'.ia, s'.ld]
  exact ⟨⟨_, rfl, getD_mem (by omega)⟩, r', sm⟩
theorem spec_l01DrawPart (r : Rnd bnd b h) (hb : bnd ≤ b) (k : Int) (h0 : 0 ≤ k) (h1 : k ≤ 1000000000000) (n : Nat) (hn : b < n) :
    MQ Tryz.prog 90 [.ptr b 0, .int .i64 k] h n b (b + 1) fun x h' n' => n' = n ∧ PartP k x ∧ Rnd bnd b h' ∧ Same b h' h := by
  refine mq_intro Tryz.func90 k_spec_l01DrawPart ?_
  simp (maxSteps := 2000000) -implicitDefEqProofs (disch := omega) only [c_spec_l01DrawPart, xsW, xsC, xsD, xsE, fillA, reduceCtorEq, Nat.reduceAdd, Nat.reduceSub, Nat.reduceLeDiff, Nat.reduceMul, Int.reduceLT, Int.reduceLE, Int.reduceEq, Int.reduceNe, Int.reduceAdd, Int.reduceSub, Int.reduceMul, Int.reduceNeg, Int.reduceToNat]
  refine mq_use (spec_l01Next r hb _ n hn) (fun i a c => .inr ⟨by omega, by omega⟩) fun x h' n' hn' ⟨en, ⟨y, hy, y0, y1, _⟩, r', sm⟩ => ?_
  subst en
  subst hy
  have y2 := y1 (by omega)
  simp (maxSteps := 2000000) -implicitDefEqProofs (disch := omega) only [xsW, xsC, xsD, xsE, fillA, reduceCtorEq, Nat.reduceAdd, Nat.reduceSub, Nat.reduceLeDiff, Nat.reduceMul, Int.reduceLT, Int.reduceLE, Int.reduceEq, Int.reduceNe, Int.reduceAdd, Int.reduceSub, Int.reduceMul, Int.reduceNeg, Int.reduceToNat]
  exact ⟨⟨_, rfl, by omega, by omega⟩, r', sm⟩
theorem spec_l01From {hi : Nat} {v : AV} {code : List Int} (s : Sl false 0 hi h 1 v (bytesA code)) (hl : code.length ≤ 4096) (hc : ∀ x ∈ code, 0 ≤ x ∧ x ≤ 255) (n : Nat) (hn : hi ≤ n) :
    FQ Tryz.prog 45 [v] h n fun x h' n' => x = .ptr n 0 ∧ n < n' ∧ Rnd hi n (fun j => if j = n then h' j else h j) := by
  refine fq_intro Tryz.func45 k_spec_l01From ?_
  have hsl : slen v = code.length := by have := s.len; rw [bytesA_len] at this; omega
  have x1 := one_any s.any
  have x2 := sto_any s.any
  have x3 := cel_any s.any
  simp (maxSteps := 2000000) -implicitDefEqProofs (disch := omega) only [c_spec_l01From, s.ln, hsl, x1, x2, x3, xsW, xsC, xsD, xsE, fillA, reduceCtorEq, Nat.reduceAdd, Nat.reduceSub, Nat.reduceLeDiff, Nat.reduceMul, Int.reduceLT, Int.reduceLE, Int.reduceEq, Int.reduceNe, Int.reduceAdd, Int.reduceSub, Int.reduceMul, Int.reduceNeg, Int.reduceToNat]
  refine loop_for code.length 0 (fun k _ => [v, .any, .nilptr, .ptr n 0, .int .i64 k, .any, .any, .any, .any, .any, .any, .any, .any, .any, .any, .any, .any, .any, .any, .any, .any, .any, .any, .any, .any, .any, .any, .any, .any, .any, .any, .any, .any, .any, .any, .any, .any, .any]) (fun _ (hash : Int) => upd h n (some ⟨98, [v, .int .i64 0, .int .u64 hash], true, 0⟩))
    (fun _ _ _ => True) _ (Nat.zero_le _) trivial (by simp [LeL, Le1]) (fun _ _ h => h) ?_
  rintro k hash n1 - hk hn1 -
  simp (maxSteps := 2000000) -implicitDefEqProofs (disch := omega) only [xsW, xsC, xsD, xsE, fillA, reduceCtorEq, Nat.reduceAdd, Nat.reduceSub, Nat.reduceLeDiff, Nat.reduceMul, Int.reduceLT, Int.reduceLE, Int.reduceEq, Int.reduceNe, Int.reduceAdd, Int.reduceSub, Int.reduceMul, Int.reduceNeg, Int.reduceToNat,  s.ln, hsl]
  (refine gd_dec (fun c1 => ?_) (fun c1 => ?_) <;> simp (maxSteps := 2000000) -implicitDefEqProofs (disch := omega) only [xsW, xsC, xsD, xsE, fillA, reduceCtorEq, Nat.reduceAdd, Nat.reduceSub, Nat.reduceLeDiff, Nat.reduceMul, Int.reduceLT, Int.reduceLE, Int.reduceEq, Int.reduceNe, Int.reduceAdd, Int.reduceSub, Int.reduceMul, Int.reduceNeg, Int.reduceToNat,  c1])
  · have hk2 : k < code.length := by omega
    have hby := hc _ (getD_mem (d := 0) hk2)
    have hbel := s.below (by omega)
    have hld := fun (K : AV → AH → Nat → Prop) (h' : AH) (n : Nat) => s.ld (k := k) (by rw [bytesA_len]; exact hk2) K h' n
    rw [bytesA_get code k hk2] at hld
    simp (maxSteps := 2000000) -implicitDefEqProofs (disch := omega) only [xsW, xsC, xsD, xsE, fillA, reduceCtorEq, Nat.reduceAdd, Nat.reduceSub, Nat.reduceLeDiff, Nat.reduceMul, Int.reduceLT, Int.reduceLE, Int.reduceEq, Int.reduceNe, Int.reduceAdd, Int.reduceSub, Int.reduceMul, Int.reduceNeg, Int.reduceToNat,  s.ia, hsl, hld]
    exact ⟨_, by omega, by omega, (by simp [LeL, Le1]), fun _ _ h => h⟩
  · intro h0 h2 hh
    refine ⟨by omega, v, code, 0, hash, ?_, s.keep fun j _ hj => if_neg (by omega), hl, hc, Nat.zero_le _⟩
    show (if n = n then h2 n else h n) = _
    rw [if_pos rfl, hh n (Nat.le_refl _) (by omega), upd_same]
    rfl
end
end Go.Proofs.YtkpibnhddhdooadGreat.L
