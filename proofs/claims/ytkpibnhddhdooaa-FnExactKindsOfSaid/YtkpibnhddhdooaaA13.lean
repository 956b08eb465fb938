/- Contracts: mapped, and what is made by it. -/
import Derived.Test.YtkpibnhddhdooaaA12
namespace Go.Proofs.Ytkpibnhddhdooaa.L
open Go
set_option linter.unusedSimpArgs false
set_option linter.unusedVariables false
def c_impl_mapped : F := ⟨(.seq (.reg false [⟨(some 4), (.mv (.c .nilsl)), none⟩]) (.seq (.reg false [⟨(some 9), (.mv (.t 0)), none⟩, ⟨(some 10), (.call (.f 87) [(.t 9)]), none⟩, ⟨(some 5), (.mv (.t 10)), none⟩]) (.seq (.seq (.reg false [⟨(some 11), (.mv (.t 5)), none⟩, ⟨(some 12), (.len (.t 11)), none⟩, ⟨(some 13), (.mv (.c (.int .i64 0))), none⟩]) (.block 0 (.loop (.seq (.reg false [⟨(some 14), (.bin .lss (.t 13) (.t 12)), none⟩]) (.seq (.cond (.t 14) .skip (.exit 0)) (.seq (.block 1 (.seq (.reg false [⟨(some 15), (.mv (.t 13)), none⟩, ⟨(some 16), (.ia 1 (.t 11) (.t 13)), none⟩, ⟨(some 17), (.ld1 (.t 16)), none⟩, ⟨(some 6), (.mv (.t 15)), none⟩, ⟨(some 7), (.mv (.t 17)), none⟩]) (.seq (.reg false [⟨(some 18), (.mv (.t 7)), none⟩, ⟨(some 19), (.len (.t 18)), none⟩, ⟨(some 20), (.mv (.c (.int .i64 0))), none⟩]) (.block 2 (.loop (.seq (.reg false [⟨(some 21), (.bin .lss (.t 20) (.t 19)), none⟩]) (.seq (.cond (.t 21) .skip (.exit 2)) (.seq (.block 3 (.seq (.reg false [⟨(some 22), (.mv (.t 20)), none⟩, ⟨(some 8), (.mv (.t 22)), none⟩]) (.reg false [⟨(some 23), (.mv (.t 7)), none⟩, ⟨(some 24), (.mv (.t 8)), none⟩, ⟨(some 25), (.mv (.t 1)), none⟩, ⟨(some 26), (.mv (.t 6)), none⟩, ⟨(some 27), (.mv (.t 8)), none⟩, ⟨(some 28), (.call (.t 25) [(.t 26), (.t 27)]), none⟩, ⟨(some 29), (.ia 1 (.t 23) (.t 24)), none⟩, ⟨none, (.st 1 (.t 29) (.t 28)), none⟩]))) (.reg false [⟨(some 30), (.bin .add (.t 20) (.c (.int .i64 1))), none⟩, ⟨(some 20), (.mv (.t 30)), none⟩]))))))))) (.reg false [⟨(some 31), (.bin .add (.t 13) (.c (.int .i64 1))), none⟩, ⟨(some 13), (.mv (.t 31)), none⟩]))))))) (.seq (.reg false [⟨(some 32), (.mv (.t 5)), none⟩, ⟨(some 4), (.mv (.t 32)), none⟩]) .ret)))), 33, [(.t 4)]⟩
theorem k_impl_mapped : compF Try.prog Try.f79 = some c_impl_mapped := by kernel_rfl
def c_impl_symmetric : F := ⟨(.seq (.reg false [⟨(some 1), (.box 22 (.t 0)), none⟩, ⟨(some 2), (.mv (.c .nilsl)), none⟩]) (.seq (.reg false [⟨(some 3), (.ld1 (.t 1)), none⟩, ⟨(some 4), (.mkf 119 [(.t 1)]), none⟩, ⟨(some 5), (.call (.f 79) [(.t 3), (.t 4)]), none⟩, ⟨(some 2), (.mv (.t 5)), none⟩]) .ret)), 6, [(.t 2)]⟩
theorem k_impl_symmetric : compF Try.prog Try.f75 = some c_impl_symmetric := by kernel_rfl
def c_impl_symmetric_1 : F := ⟨(.seq (.reg false [⟨(some 5), (.mv (.c (.int .i64 0))), none⟩]) (.seq (.reg true [⟨(some 6), (.ld1 (.t 2)), none⟩, ⟨(some 7), (.mv (.t 0)), none⟩, ⟨(some 8), (.ia 1 (.t 6) (.t 7)), none⟩, ⟨(some 9), (.ld1 (.t 8)), none⟩, ⟨(some 10), (.mv (.t 1)), none⟩, ⟨(some 11), (.ia 1 (.t 9) (.t 10)), none⟩, ⟨(some 12), (.ld1 (.t 11)), none⟩, ⟨(some 13), (.ld1 (.t 2)), none⟩, ⟨(some 14), (.mv (.t 1)), none⟩, ⟨(some 15), (.ia 1 (.t 13) (.t 14)), none⟩, ⟨(some 16), (.ld1 (.t 15)), none⟩, ⟨(some 17), (.mv (.t 0)), none⟩, ⟨(some 18), (.ia 1 (.t 16) (.t 17)), none⟩, ⟨(some 19), (.ld1 (.t 18)), none⟩, ⟨(some 20), (.bin .add (.t 12) (.t 19)), none⟩, ⟨(some 5), (.mv (.t 20)), none⟩]) .ret)), 21, [(.t 5)]⟩
theorem k_impl_symmetric_1 : compF Try.prog Try.f119 = some c_impl_symmetric_1 := by kernel_rfl
def c_impl_SymmetricPart : F := ⟨(.seq (.reg false [⟨(some 2), (.mv (.c .nilsl)), none⟩, ⟨(some 3), (.mv (.c (.int .i64 0))), none⟩]) (.seq (.seq (.reg false [⟨(some 4), (.mv (.t 0)), none⟩, ⟨(some 5), (.call (.f 47) [(.t 4)]), none⟩, ⟨(some 6), (.un .not (.t 5)), none⟩]) (.cond (.t 6) (.seq (.reg false [⟨(some 2), (.mv (.c .nilsl)), none⟩, ⟨(some 3), (.mv (.c (.int .i64 1))), none⟩]) .ret) .skip)) (.seq (.reg false [⟨(some 7), (.mv (.t 0)), none⟩, ⟨(some 8), (.call (.f 75) [(.t 7)]), none⟩, ⟨(some 2), (.mv (.t 8)), none⟩, ⟨(some 3), (.mv (.c (.int .i64 0))), none⟩]) .ret))), 9, [(.t 2), (.t 3)]⟩
theorem k_impl_SymmetricPart : compF Try.prog Try.f26 = some c_impl_SymmetricPart := by kernel_rfl
def c_impl_comparison : F := ⟨(.seq (.reg false [⟨(some 1), (.box 22 (.t 0)), none⟩, ⟨(some 2), (.mv (.c .nilsl)), none⟩]) (.seq (.reg false [⟨(some 3), (.ld1 (.t 1)), none⟩, ⟨(some 4), (.mkf 120 [(.t 1)]), none⟩, ⟨(some 5), (.call (.f 79) [(.t 3), (.t 4)]), none⟩, ⟨(some 2), (.mv (.t 5)), none⟩]) .ret)), 6, [(.t 2)]⟩
theorem k_impl_comparison : compF Try.prog Try.f77 = some c_impl_comparison := by kernel_rfl
def c_impl_comparison_1 : F := ⟨(.seq (.reg false [⟨(some 5), (.mv (.c (.int .i64 0))), none⟩]) (.seq (.seq (.reg false [⟨(some 6), (.mv (.t 0)), none⟩, ⟨(some 7), (.mv (.t 1)), none⟩, ⟨(some 8), (.bin .eql (.t 6) (.t 7)), none⟩]) (.cond (.t 8) (.seq (.reg false [⟨(some 9), (.ld1 (.t 2)), none⟩, ⟨(some 10), (.mv (.t 0)), none⟩, ⟨(some 11), (.ia 1 (.t 9) (.t 10)), none⟩, ⟨(some 12), (.ld1 (.t 11)), none⟩, ⟨(some 13), (.mv (.t 1)), none⟩, ⟨(some 14), (.ia 1 (.t 12) (.t 13)), none⟩, ⟨(some 15), (.ld1 (.t 14)), none⟩, ⟨(some 16), (.call (.f 121) [(.t 15)]), none⟩, ⟨(some 5), (.mv (.t 16)), none⟩]) .ret) .skip)) (.seq (.reg false [⟨(some 17), (.ld1 (.t 2)), none⟩, ⟨(some 18), (.mv (.t 0)), none⟩, ⟨(some 19), (.ia 1 (.t 17) (.t 18)), none⟩, ⟨(some 20), (.ld1 (.t 19)), none⟩, ⟨(some 21), (.mv (.t 1)), none⟩, ⟨(some 22), (.ia 1 (.t 20) (.t 21)), none⟩, ⟨(some 23), (.ld1 (.t 22)), none⟩, ⟨(some 24), (.call (.f 121) [(.t 23)]), none⟩, ⟨(some 25), (.un .neg (.t 24)), none⟩, ⟨(some 5), (.mv (.t 25)), none⟩]) .ret))), 26, [(.t 5)]⟩
theorem k_impl_comparison_1 : compF Try.prog Try.f120 = some c_impl_comparison_1 := by kernel_rfl
def c_impl_ComparisonOf : F := ⟨(.seq (.reg false [⟨(some 2), (.mv (.c .nilsl)), none⟩, ⟨(some 3), (.mv (.c (.int .i64 0))), none⟩]) (.seq (.seq (.reg false [⟨(some 4), (.mv (.t 0)), none⟩, ⟨(some 5), (.call (.f 47) [(.t 4)]), none⟩, ⟨(some 6), (.un .not (.t 5)), none⟩]) (.cond (.t 6) (.seq (.reg false [⟨(some 2), (.mv (.c .nilsl)), none⟩, ⟨(some 3), (.mv (.c (.int .i64 1))), none⟩]) .ret) .skip)) (.seq (.reg false [⟨(some 7), (.mv (.t 0)), none⟩, ⟨(some 8), (.call (.f 77) [(.t 7)]), none⟩, ⟨(some 2), (.mv (.t 8)), none⟩, ⟨(some 3), (.mv (.c (.int .i64 0))), none⟩]) .ret))), 9, [(.t 2), (.t 3)]⟩
theorem k_impl_ComparisonOf : compF Try.prog Try.f28 = some c_impl_ComparisonOf := by kernel_rfl

/-- Rows of which the first i are those of F, and the rest those of ll. -/
def mixR (ll : List (List Int)) (F : Nat → Nat → Int) (i : Nat) : List (List Int) := (rowsOf i fun j => rowOf ll.length (F j)) ++ ll.drop i
theorem mixR_len (ll : List (List Int)) (F : Nat → Nat → Int) (i : Nat) (hi : i ≤ ll.length) : (mixR ll F i).length = ll.length := by simp [mixR, rowsOf]; omega
theorem mixR_get (ll : List (List Int)) (F : Nat → Nat → Int) (i : Nat) (hi : i < ll.length) : (mixR ll F i).getD i [] = ll.getD i [] := by
  have h1 : (rowsOf i fun j => rowOf ll.length (F j)).length = i := rowsOf_len ..
  simp [mixR, List.getD, List.getElem?_append_right, h1]
theorem mixR_set (ll : List (List Int)) (F : Nat → Nat → Int) (i : Nat) (hi : i < ll.length) : (mixR ll F i).set i (rowOf ll.length (F i)) = mixR ll F (i + 1) := by
  have h1 : (rowsOf i fun j => rowOf ll.length (F j)).length = i := rowsOf_len ..
  rw [mixR, mixR, rowsOf_succ, List.set_append, if_neg (by omega), h1, Nat.sub_self, List.drop_eq_getElem_cons hi, List.set_cons_zero]
  simp
theorem mixL_set (l : List Int) (f : Nat → Int) (k : Nat) (hk : k < l.length) : (rowOf k f ++ l.drop k).set k (f k) = rowOf (k + 1) f ++ l.drop (k + 1) := by
  have h1 : (rowOf k f).length = k := rowOf_len ..
  rw [rowOf_succ, List.set_append, if_neg (by omega), h1, Nat.sub_self, List.drop_eq_getElem_cons hk, List.set_cons_zero]
  simp
section
variable {lo hi : Nat} {h : AH} {v : AV} {vs : List AV} {ll : List (List Int)}
theorem impl_mapped (s : Rows true lo hi h v vs ll) (hm : isMat ll = true) (g : Nat) (ds : List AV) (F : Nat → Nat → Int) (n : Nat) (hn : hi ≤ n)
    (hF : ∀ i k (hp : AH) n', i < ll.length → k < ll.length → (∀ j, j < n → hp j = h j) → n ≤ n' → Q Try.prog g (.int .i64 i :: .int .i64 k :: ds) hp n' (.int .i64 (F i k))) :
    FQ Try.prog 79 [v, .fn g ds] h n fun v' h' n' => ∃ vs', Rows true n n' h' v' vs' (rowsOf ll.length fun i => rowOf ll.length (F i)) := by
  refine fq_intro Try.func79 k_impl_mapped ?_
  obtain ⟨hN1, hN⟩ := ((isMat_iff ll).1 hm).2
  simp (maxSteps := 2000000) -implicitDefEqProofs (disch := omega) only [c_impl_mapped, xsW, xsC, if_true, if_false, ite_true, ite_false, forall_const, ne_eq, beq_self_eq_true, bne_self_eq_false, imp_self, true_implies, false_implies, implies_true, evP, evE, ev, setD, Nat.reduceAdd, Nat.reduceSub, reduceCtorEq, fillA, cutA, Nat.reduceLeDiff, Nat.reduceMul, Int.reduceLT, Int.reduceLE, Int.reduceEq, Int.reduceNe, Int.reduceAdd, Int.reduceSub, Int.reduceMul, Int.reduceNeg, Int.reduceToNat]
  refine fq_use (impl_copyRows s (by omega) (fun l hl => by
    obtain ⟨k, hk, rfl⟩ := List.mem_iff_getElem.1 hl
    have := (hN k hk).1
    simp [List.getD, hk] at this
    omega) n hn) fun o h0 n0' hn0 hs0 ⟨ws, ho⟩ => ?_
  simp (maxSteps := 2000000) -implicitDefEqProofs (disch := omega) only [xsW, xsC, if_true, if_false, ite_true, ite_false, forall_const, ne_eq, beq_self_eq_true, bne_self_eq_false, imp_self, true_implies, false_implies, implies_true, evP, evE, ev, setD, Nat.reduceAdd, Nat.reduceSub, reduceCtorEq, fillA, cutA, Nat.reduceLeDiff, Nat.reduceMul, Int.reduceLT, Int.reduceLE, Int.reduceEq, Int.reduceNe, Int.reduceAdd, Int.reduceSub, Int.reduceMul, Int.reduceNeg, Int.reduceToNat,  ho.ln]
  refine loop_for ll.length 0 (fun k hp => [v, .fn g ds, .any, .any, .nilsl, o, .any, .any, .any, .any, .any, o, .int .i64 ll.length, .int .i64 k, .any, .any, .any, .any, .any, .any, .any, .any, .any, .any, .any, .any, .any, .any, .any, .any, .any, .any, .any]) (fun k (hp : AH) => hp)
    (fun i hp m => Rows true n n0' hp o ws (mixR ll F i) ∧ (∀ j, j < n → hp j = h j) ∧ n0' ≤ m) h0 (Nat.zero_le _) ⟨by simpa [mixR, rowsOf] using ho, hs0, Nat.le_refl _⟩ (by simp [LeL, Le1]) (fun _ _ h => h) ?_
  rintro i hp m - hi1 hm1 ⟨g1, g2, g3⟩
  have hlen := mixR_len ll F i hi1
  simp (maxSteps := 2000000) -implicitDefEqProofs (disch := omega) only [xsW, xsC, if_true, if_false, ite_true, ite_false, forall_const, ne_eq, beq_self_eq_true, bne_self_eq_false, imp_self, true_implies, false_implies, implies_true, evP, evE, ev, setD, Nat.reduceAdd, Nat.reduceSub, reduceCtorEq, fillA, cutA, Nat.reduceLeDiff, Nat.reduceMul, Int.reduceLT, Int.reduceLE, Int.reduceEq, Int.reduceNe, Int.reduceAdd, Int.reduceSub, Int.reduceMul, Int.reduceNeg, Int.reduceToNat]
  (refine cd_dec (fun c1 => ?_) (fun c1 => ?_) <;> simp (maxSteps := 2000000) -implicitDefEqProofs (disch := omega) only [xsW, xsC, if_true, if_false, ite_true, ite_false, forall_const, ne_eq, beq_self_eq_true, bne_self_eq_false, imp_self, true_implies, false_implies, implies_true, evP, evE, ev, setD, Nat.reduceAdd, Nat.reduceSub, reduceCtorEq, fillA, cutA, Nat.reduceLeDiff, Nat.reduceMul, Int.reduceLT, Int.reduceLE, Int.reduceEq, Int.reduceNe, Int.reduceAdd, Int.reduceSub, Int.reduceMul, Int.reduceNeg, Int.reduceToNat,  c1])
  · have hi2 : i < ll.length := by omega
    have hr := g1.row i (by omega)
    rw [mixR_get ll F i hi2] at hr
    have hrl := (hN i hi2).1
    simp (maxSteps := 2000000) -implicitDefEqProofs (disch := omega) only [xsW, xsC, if_true, if_false, ite_true, ite_false, forall_const, ne_eq, beq_self_eq_true, bne_self_eq_false, imp_self, true_implies, false_implies, implies_true, evP, evE, ev, setD, Nat.reduceAdd, Nat.reduceSub, reduceCtorEq, fillA, cutA, Nat.reduceLeDiff, Nat.reduceMul, Int.reduceLT, Int.reduceLE, Int.reduceEq, Int.reduceNe, Int.reduceAdd, Int.reduceSub, Int.reduceMul, Int.reduceNeg, Int.reduceToNat,  g1.ia, g1.ld, hlen, hr.ln, hrl]
    refine loop_for ll.length 0 (fun k hp => [v, .fn g ds, .any, .any, .nilsl, o, .int .i64 i, ws.getD i .any, .any, .any, .any, o, .int .i64 ll.length, .int .i64 i, .any, .any, .any, .any, .any, .int .i64 ll.length, .int .i64 k, .any, .any, .any, .any, .any, .any, .any, .any, .any, .any, .any, .any]) (fun k (hp : AH) => hp)
      (fun k hq m => Ints true n n0' hq (ws.getD i .any) (rowOf k (F i) ++ (ll.getD i []).drop k) ∧ (∀ j, j ≠ bid (ws.getD i .any) → hq j = hp j) ∧ n0' ≤ m) hp (Nat.zero_le _) ⟨by simpa [rowOf] using hr, fun _ _ => rfl, g3⟩ (by simp [LeL, Le1]) (fun _ _ h => h) ?_
    rintro k hq mk - hk1 hm2 ⟨a1, a2, a3⟩
    have hl2 : (rowOf k (F i) ++ (ll.getD i []).drop k).length = ll.length := by simp only [List.length_append, rowOf_len, List.length_drop]; omega
    simp (maxSteps := 2000000) -implicitDefEqProofs (disch := omega) only [xsW, xsC, if_true, if_false, ite_true, ite_false, forall_const, ne_eq, beq_self_eq_true, bne_self_eq_false, imp_self, true_implies, false_implies, implies_true, evP, evE, ev, setD, Nat.reduceAdd, Nat.reduceSub, reduceCtorEq, fillA, cutA, Nat.reduceLeDiff, Nat.reduceMul, Int.reduceLT, Int.reduceLE, Int.reduceEq, Int.reduceNe, Int.reduceAdd, Int.reduceSub, Int.reduceMul, Int.reduceNeg, Int.reduceToNat]
    (refine cd_dec (fun c2 => ?_) (fun c2 => ?_) <;> simp (maxSteps := 2000000) -implicitDefEqProofs (disch := omega) only [xsW, xsC, if_true, if_false, ite_true, ite_false, forall_const, ne_eq, beq_self_eq_true, bne_self_eq_false, imp_self, true_implies, false_implies, implies_true, evP, evE, ev, setD, Nat.reduceAdd, Nat.reduceSub, reduceCtorEq, fillA, cutA, Nat.reduceLeDiff, Nat.reduceMul, Int.reduceLT, Int.reduceLE, Int.reduceEq, Int.reduceNe, Int.reduceAdd, Int.reduceSub, Int.reduceMul, Int.reduceNeg, Int.reduceToNat,  c2])
    · have hk2 : k < ll.length := by omega
      have hown := Sl.own hr (Sl.isReal hr (by
        intro e'
        have := hr.slen
        rw [e'] at this
        change 0 = _ at this
        omega))
      refine q_use (hF i k hq mk hi2 hk2 (fun j hj => by rw [a2 j (by omega), g2 j hj]) (by omega)) fun n5 hn5 => ?_
      have e1 := fun K => Ints.st a1 (k := k) (x := F i k) (n0 := n) (n := n5) (W := none') (by omega) (fun i a b => .inl a) (by omega) K
      simp (maxSteps := 2000000) -implicitDefEqProofs (disch := omega) only [xsW, xsC, if_true, if_false, ite_true, ite_false, forall_const, ne_eq, beq_self_eq_true, bne_self_eq_false, imp_self, true_implies, false_implies, implies_true, evP, evE, ev, setD, Nat.reduceAdd, Nat.reduceSub, reduceCtorEq, fillA, cutA, Nat.reduceLeDiff, Nat.reduceMul, Int.reduceLT, Int.reduceLE, Int.reduceEq, Int.reduceNe, Int.reduceAdd, Int.reduceSub, Int.reduceMul, Int.reduceNeg, Int.reduceToNat,  a1.ia, hl2, e1]
      refine ⟨_, ⟨?_, ?_, by omega⟩, by omega, by omega, (by simp [LeL, Le1]), fun _ _ h => h⟩
      · have := a1.wr (k := k) (by omega) (F i k)
        rw [mixL_set _ (F i) k (by omega)] at this
        exact this
      · intro j hj
        rw [wr_other hj, a2 j hj]
    · have hkk : k = ll.length := by omega
      subst hkk
      rw [List.drop_of_length_le (by omega), List.append_nil] at a1
      have hne : isSl (ws.getD i .any) = true ∨ hq = hp := .inl (Sl.isReal hr (by
        intro e'
        have := hr.slen
        rw [e'] at this
        change 0 = _ at this
        omega))
      have g4 := g1.row1 (by omega) a1 hne a2
      rw [mixR_set ll F i hi2] at g4
      have hown := Sl.own hr (Sl.isReal hr (by
        intro e'
        have := hr.slen
        rw [e'] at this
        change 0 = _ at this
        omega))
      exact ⟨hq, ⟨g4, fun j hj => by rw [a2 j (by omega), g2 j hj], by omega⟩, by omega, by omega, (by simp [LeL, Le1]), fun _ _ h => h⟩
  · intro _ h2 hh
    have e : i = ll.length := by omega
    subst e
    refine ⟨ws, ?_⟩
    have : mixR ll F ll.length = rowsOf ll.length fun i => rowOf ll.length (F i) := by simp [mixR]
    rw [this] at g1
    exact (g1.keep fun i a b => hh i a (by omega)).wide (Nat.le_refl _) (by omega)
theorem impl_symmetric1 {w : Bool} (s : Rows w lo hi h v vs ll) (hm : isMat ll = true) {b : Nat} {wr : Bool} {op ty n : Nat} (hb : h b = some ⟨ty, [v], wr, op⟩) {i k : Nat} (hi2 : i < ll.length) (hk2 : k < ll.length) :
    Q Try.prog 119 [.int .i64 i, .int .i64 k, .ptr b 0] h n (.int .i64 (at2 ll i k + at2 ll k i)) := by
  refine q_intro Try.func119 k_impl_symmetric_1 ?_
  obtain ⟨hN1, hN⟩ := ((isMat_iff ll).1 hm).2
  have hri := s.row i hi2
  have hrk := s.row k hk2
  have li := (hN i hi2).1
  have lk := (hN k hk2).1
  have xi := isMat_at hm hi2 hk2
  have xk := isMat_at hm hk2 hi2
  unfold at2 at xi xk
  simp (maxSteps := 2000000) -implicitDefEqProofs (disch := omega) only [c_impl_symmetric_1, hb, s.ia, s.ld, hri.ia, hri.ld, hrk.ia, hrk.ld, xsW, xsC, if_true, if_false, ite_true, ite_false, forall_const, ne_eq, beq_self_eq_true, bne_self_eq_false, imp_self, true_implies, false_implies, implies_true, evP, evE, ev, setD, Nat.reduceAdd, Nat.reduceSub, reduceCtorEq, fillA, cutA, Nat.reduceLeDiff, Nat.reduceMul, Int.reduceLT, Int.reduceLE, Int.reduceEq, Int.reduceNe, Int.reduceAdd, Int.reduceSub, Int.reduceMul, Int.reduceNeg, Int.reduceToNat]
  rfl
theorem impl_comparison1 {w : Bool} (s : Rows w lo hi h v vs ll) (hm : isMat ll = true) {b : Nat} {wr : Bool} {op ty n : Nat} (hb : h b = some ⟨ty, [v], wr, op⟩) {i k : Nat} (hi2 : i < ll.length) (hk2 : k < ll.length) :
    Q Try.prog 120 [.int .i64 i, .int .i64 k, .ptr b 0] h n (.int .i64 (cmp2 ll i k)) := by
  refine q_intro Try.func120 k_impl_comparison_1 ?_
  obtain ⟨hN1, hN⟩ := ((isMat_iff ll).1 hm).2
  have hri := s.row i hi2
  have li := (hN i hi2).1
  have xi := isMat_at hm hi2 hk2
  unfold at2 at xi
  simp (maxSteps := 2000000) -implicitDefEqProofs (disch := omega) only [c_impl_comparison_1, hb, s.ia, s.ld, hri.ia, hri.ld, xsW, xsC, if_true, if_false, ite_true, ite_false, forall_const, ne_eq, beq_self_eq_true, bne_self_eq_false, imp_self, true_implies, false_implies, implies_true, evP, evE, ev, setD, Nat.reduceAdd, Nat.reduceSub, reduceCtorEq, fillA, cutA, Nat.reduceLeDiff, Nat.reduceMul, Int.reduceLT, Int.reduceLE, Int.reduceEq, Int.reduceNe, Int.reduceAdd, Int.reduceSub, Int.reduceMul, Int.reduceNeg, Int.reduceToNat]
  refine cd_dec (fun c1 => ?_) (fun c1 => ?_)
  all_goals
    simp (maxSteps := 2000000) -implicitDefEqProofs (disch := omega) only [xsW, xsC, if_true, if_false, ite_true, ite_false, forall_const, ne_eq, beq_self_eq_true, bne_self_eq_false, imp_self, true_implies, false_implies, implies_true, evP, evE, ev, setD, Nat.reduceAdd, Nat.reduceSub, reduceCtorEq, fillA, cutA, Nat.reduceLeDiff, Nat.reduceMul, Int.reduceLT, Int.reduceLE, Int.reduceEq, Int.reduceNe, Int.reduceAdd, Int.reduceSub, Int.reduceMul, Int.reduceNeg, Int.reduceToNat,  hb, s.ia, s.ld, hri.ia, hri.ld]
    refine q_use (impl_size _ (by unfold in64; omega) _ _) fun n1 hn1 => ?_
    simp (maxSteps := 2000000) -implicitDefEqProofs (disch := omega) only [xsW, xsC, if_true, if_false, ite_true, ite_false, forall_const, ne_eq, beq_self_eq_true, bne_self_eq_false, imp_self, true_implies, false_implies, implies_true, evP, evE, ev, setD, Nat.reduceAdd, Nat.reduceSub, reduceCtorEq, fillA, cutA, Nat.reduceLeDiff, Nat.reduceMul, Int.reduceLT, Int.reduceLE, Int.reduceEq, Int.reduceNe, Int.reduceAdd, Int.reduceSub, Int.reduceMul, Int.reduceNeg, Int.reduceToNat]
    simp [cmp2, at2]
    omega
theorem impl_symmetric (s : Rows true lo hi h v vs ll) (hm : isMat ll = true) (n : Nat) (hn : hi ≤ n) :
    FQ Try.prog 75 [v] h n fun v' h' n' => ∃ vs', Rows true n n' h' v' vs' (symF ll) := by
  refine fq_intro Try.func75 k_impl_symmetric ?_
  have o1 := one_any (Sl.any s.out)
  have o2 := sto_any (Sl.any s.out)
  have o3 := cel_any (Sl.any s.out)
  simp (maxSteps := 2000000) -implicitDefEqProofs (disch := omega) only [c_impl_symmetric, o1, o2, o3, xsW, xsC, if_true, if_false, ite_true, ite_false, forall_const, ne_eq, beq_self_eq_true, bne_self_eq_false, imp_self, true_implies, false_implies, implies_true, evP, evE, ev, setD, Nat.reduceAdd, Nat.reduceSub, reduceCtorEq, fillA, cutA, Nat.reduceLeDiff, Nat.reduceMul, Int.reduceLT, Int.reduceLE, Int.reduceEq, Int.reduceNe, Int.reduceAdd, Int.reduceSub, Int.reduceMul, Int.reduceNeg, Int.reduceToNat]
  refine fq_use (impl_mapped (s.keep (fun i _ hi9 => by simp (disch := omega) only [upd_other])) hm _ _ (fun i k => at2 ll i k + at2 ll k i) _ (by omega) fun i k hp n' hi2 hk2 hag hn' =>
    impl_symmetric1 (s.keep (fun i _ hi9 => by simp (disch := omega) only [upd_other, hag])) hm (by rw [hag n (by omega)]; exact upd_same _ _ _) hi2 hk2) fun v' h' n' hn' hs ⟨vs', hv'⟩ => ?_
  simp (maxSteps := 2000000) -implicitDefEqProofs (disch := omega) only [xsW, xsC, if_true, if_false, ite_true, ite_false, forall_const, ne_eq, beq_self_eq_true, bne_self_eq_false, imp_self, true_implies, false_implies, implies_true, evP, evE, ev, setD, Nat.reduceAdd, Nat.reduceSub, reduceCtorEq, fillA, cutA, Nat.reduceLeDiff, Nat.reduceMul, Int.reduceLT, Int.reduceLE, Int.reduceEq, Int.reduceNe, Int.reduceAdd, Int.reduceSub, Int.reduceMul, Int.reduceNeg, Int.reduceToNat]
  intro _ h2 hh
  exact ⟨vs', (hv'.keep fun i a b => hh i (by omega) b).wide (by omega) (Nat.le_refl _)⟩
theorem impl_SymmetricPart (s : Rows true lo hi h v vs ll) (hl : ll.length ≤ 1048576) (hll : ∀ l ∈ ll, l.length ≤ 1048576) (n : Nat) (hn : hi ≤ n) :
    FQ Try.prog 26 [v] h n fun x h' n' => ∃ v' vs' r c, x = .tup [v', .int .i64 c] ∧ Rows true n n' h' v' vs' r ∧ r = (if isMat ll = true then symF ll else []) ∧ c = (if isMat ll = true then 0 else 1) := by
  refine fq_intro Try.func26 k_impl_SymmetricPart ?_
  simp (maxSteps := 2000000) -implicitDefEqProofs (disch := omega) only [c_impl_SymmetricPart, xsW, xsC, if_true, if_false, ite_true, ite_false, forall_const, ne_eq, beq_self_eq_true, bne_self_eq_false, imp_self, true_implies, false_implies, implies_true, evP, evE, ev, setD, Nat.reduceAdd, Nat.reduceSub, reduceCtorEq, fillA, cutA, Nat.reduceLeDiff, Nat.reduceMul, Int.reduceLT, Int.reduceLE, Int.reduceEq, Int.reduceNe, Int.reduceAdd, Int.reduceSub, Int.reduceMul, Int.reduceNeg, Int.reduceToNat]
  refine q_use (impl_IsMatrix s hl hll _ hn) fun n1 hn1 => ?_
  cases hm : isMat ll
  · simp (maxSteps := 2000000) -implicitDefEqProofs (disch := omega) only [xsW, xsC, if_true, if_false, ite_true, ite_false, forall_const, ne_eq, beq_self_eq_true, bne_self_eq_false, imp_self, true_implies, false_implies, implies_true, evP, evE, ev, setD, Nat.reduceAdd, Nat.reduceSub, reduceCtorEq, fillA, cutA, Nat.reduceLeDiff, Nat.reduceMul, Int.reduceLT, Int.reduceLE, Int.reduceEq, Int.reduceNe, Int.reduceAdd, Int.reduceSub, Int.reduceMul, Int.reduceNeg, Int.reduceToNat]
    intro _ h2 _
    exact ⟨.nilsl, [], [], 1, ⟨rfl, rfl⟩, ⟨Sl.nil, RowsV.nil, fun _ j hj => absurd hj (Nat.not_lt_zero _)⟩, rfl, rfl⟩
  · simp (maxSteps := 2000000) -implicitDefEqProofs (disch := omega) only [xsW, xsC, if_true, if_false, ite_true, ite_false, forall_const, ne_eq, beq_self_eq_true, bne_self_eq_false, imp_self, true_implies, false_implies, implies_true, evP, evE, ev, setD, Nat.reduceAdd, Nat.reduceSub, reduceCtorEq, fillA, cutA, Nat.reduceLeDiff, Nat.reduceMul, Int.reduceLT, Int.reduceLE, Int.reduceEq, Int.reduceNe, Int.reduceAdd, Int.reduceSub, Int.reduceMul, Int.reduceNeg, Int.reduceToNat]
    refine fq_use (impl_symmetric s hm n1 (by omega)) fun v' h' n' hn' hs ⟨vs', hv'⟩ => ?_
    simp (maxSteps := 2000000) -implicitDefEqProofs (disch := omega) only [xsW, xsC, if_true, if_false, ite_true, ite_false, forall_const, ne_eq, beq_self_eq_true, bne_self_eq_false, imp_self, true_implies, false_implies, implies_true, evP, evE, ev, setD, Nat.reduceAdd, Nat.reduceSub, reduceCtorEq, fillA, cutA, Nat.reduceLeDiff, Nat.reduceMul, Int.reduceLT, Int.reduceLE, Int.reduceEq, Int.reduceNe, Int.reduceAdd, Int.reduceSub, Int.reduceMul, Int.reduceNeg, Int.reduceToNat]
    intro _ h2 hh
    exact ⟨v', vs', _, 0, ⟨rfl, rfl⟩, (hv'.keep fun i a b => hh i (by omega) b).wide (by omega) (Nat.le_refl _), rfl, rfl⟩
theorem impl_comparison (s : Rows true lo hi h v vs ll) (hm : isMat ll = true) (n : Nat) (hn : hi ≤ n) :
    FQ Try.prog 77 [v] h n fun v' h' n' => ∃ vs', Rows true n n' h' v' vs' (cmpF2 ll) := by
  refine fq_intro Try.func77 k_impl_comparison ?_
  have o1 := one_any (Sl.any s.out)
  have o2 := sto_any (Sl.any s.out)
  have o3 := cel_any (Sl.any s.out)
  simp (maxSteps := 2000000) -implicitDefEqProofs (disch := omega) only [c_impl_comparison, o1, o2, o3, xsW, xsC, if_true, if_false, ite_true, ite_false, forall_const, ne_eq, beq_self_eq_true, bne_self_eq_false, imp_self, true_implies, false_implies, implies_true, evP, evE, ev, setD, Nat.reduceAdd, Nat.reduceSub, reduceCtorEq, fillA, cutA, Nat.reduceLeDiff, Nat.reduceMul, Int.reduceLT, Int.reduceLE, Int.reduceEq, Int.reduceNe, Int.reduceAdd, Int.reduceSub, Int.reduceMul, Int.reduceNeg, Int.reduceToNat]
  refine fq_use (impl_mapped (s.keep (fun i _ hi9 => by simp (disch := omega) only [upd_other])) hm _ _ (fun i k => cmp2 ll i k) _ (by omega) fun i k hp n' hi2 hk2 hag hn' =>
    impl_comparison1 (s.keep (fun i _ hi9 => by simp (disch := omega) only [upd_other, hag])) hm (by rw [hag n (by omega)]; exact upd_same _ _ _) hi2 hk2) fun v' h' n' hn' hs ⟨vs', hv'⟩ => ?_
  simp (maxSteps := 2000000) -implicitDefEqProofs (disch := omega) only [xsW, xsC, if_true, if_false, ite_true, ite_false, forall_const, ne_eq, beq_self_eq_true, bne_self_eq_false, imp_self, true_implies, false_implies, implies_true, evP, evE, ev, setD, Nat.reduceAdd, Nat.reduceSub, reduceCtorEq, fillA, cutA, Nat.reduceLeDiff, Nat.reduceMul, Int.reduceLT, Int.reduceLE, Int.reduceEq, Int.reduceNe, Int.reduceAdd, Int.reduceSub, Int.reduceMul, Int.reduceNeg, Int.reduceToNat]
  intro _ h2 hh
  exact ⟨vs', (hv'.keep fun i a b => hh i (by omega) b).wide (by omega) (Nat.le_refl _)⟩
theorem impl_ComparisonOf (s : Rows true lo hi h v vs ll) (hl : ll.length ≤ 1048576) (hll : ∀ l ∈ ll, l.length ≤ 1048576) (n : Nat) (hn : hi ≤ n) :
    FQ Try.prog 28 [v] h n fun x h' n' => ∃ v' vs' r c, x = .tup [v', .int .i64 c] ∧ Rows true n n' h' v' vs' r ∧ r = (if isMat ll = true then cmpF2 ll else []) ∧ c = (if isMat ll = true then 0 else 1) := by
  refine fq_intro Try.func28 k_impl_ComparisonOf ?_
  simp (maxSteps := 2000000) -implicitDefEqProofs (disch := omega) only [c_impl_ComparisonOf, xsW, xsC, if_true, if_false, ite_true, ite_false, forall_const, ne_eq, beq_self_eq_true, bne_self_eq_false, imp_self, true_implies, false_implies, implies_true, evP, evE, ev, setD, Nat.reduceAdd, Nat.reduceSub, reduceCtorEq, fillA, cutA, Nat.reduceLeDiff, Nat.reduceMul, Int.reduceLT, Int.reduceLE, Int.reduceEq, Int.reduceNe, Int.reduceAdd, Int.reduceSub, Int.reduceMul, Int.reduceNeg, Int.reduceToNat]
  refine q_use (impl_IsMatrix s hl hll _ hn) fun n1 hn1 => ?_
  cases hm : isMat ll
  · simp (maxSteps := 2000000) -implicitDefEqProofs (disch := omega) only [xsW, xsC, if_true, if_false, ite_true, ite_false, forall_const, ne_eq, beq_self_eq_true, bne_self_eq_false, imp_self, true_implies, false_implies, implies_true, evP, evE, ev, setD, Nat.reduceAdd, Nat.reduceSub, reduceCtorEq, fillA, cutA, Nat.reduceLeDiff, Nat.reduceMul, Int.reduceLT, Int.reduceLE, Int.reduceEq, Int.reduceNe, Int.reduceAdd, Int.reduceSub, Int.reduceMul, Int.reduceNeg, Int.reduceToNat]
    intro _ h2 _
    exact ⟨.nilsl, [], [], 1, ⟨rfl, rfl⟩, ⟨Sl.nil, RowsV.nil, fun _ j hj => absurd hj (Nat.not_lt_zero _)⟩, rfl, rfl⟩
  · simp (maxSteps := 2000000) -implicitDefEqProofs (disch := omega) only [xsW, xsC, if_true, if_false, ite_true, ite_false, forall_const, ne_eq, beq_self_eq_true, bne_self_eq_false, imp_self, true_implies, false_implies, implies_true, evP, evE, ev, setD, Nat.reduceAdd, Nat.reduceSub, reduceCtorEq, fillA, cutA, Nat.reduceLeDiff, Nat.reduceMul, Int.reduceLT, Int.reduceLE, Int.reduceEq, Int.reduceNe, Int.reduceAdd, Int.reduceSub, Int.reduceMul, Int.reduceNeg, Int.reduceToNat]
    refine fq_use (impl_comparison s hm n1 (by omega)) fun v' h' n' hn' hs ⟨vs', hv'⟩ => ?_
    simp (maxSteps := 2000000) -implicitDefEqProofs (disch := omega) only [xsW, xsC, if_true, if_false, ite_true, ite_false, forall_const, ne_eq, beq_self_eq_true, bne_self_eq_false, imp_self, true_implies, false_implies, implies_true, evP, evE, ev, setD, Nat.reduceAdd, Nat.reduceSub, reduceCtorEq, fillA, cutA, Nat.reduceLeDiff, Nat.reduceMul, Int.reduceLT, Int.reduceLE, Int.reduceEq, Int.reduceNe, Int.reduceAdd, Int.reduceSub, Int.reduceMul, Int.reduceNeg, Int.reduceToNat]
    intro _ h2 hh
    exact ⟨v', vs', _, 0, ⟨rfl, rfl⟩, (hv'.keep fun i a b => hh i (by omega) b).wide (by omega) (Nat.le_refl _), rfl, rfl⟩
end
end Go.Proofs.Ytkpibnhddhdooaa.L
