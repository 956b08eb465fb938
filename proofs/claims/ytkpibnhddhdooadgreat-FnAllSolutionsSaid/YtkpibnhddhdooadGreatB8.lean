/- Contracts: draws of matrices. -/
import Derived.Test.YtkpibnhddhdooadGreatB7
set_option linter.unusedSimpArgs false
set_option linter.unusedVariables false
namespace Go.Proofs.YtkpibnhddhdooadGreat.L
open Go
def c_spec_l01DrawM : F := ⟨(.seq (.reg false [⟨some 6, .mv (.c .nilsl), none⟩]) (.seq (.reg false [⟨some 11, .lit 23 1 0 [.nilsl] [], none⟩, ⟨some 7, .mv (.t 11), none⟩]) (.seq (.seq (.reg false [⟨some 8, .mv (.c (.int .i64 0)), none⟩]) (.block 0 (.loop (.seq (.seq (.reg false [⟨some 12, .mv (.t 8), none⟩, ⟨some 13, .mv (.t 1), none⟩, ⟨some 14, .bin .lss (.t 12) (.t 13), none⟩]) (.cond (.t 14) .skip (.exit 0))) (.seq (.block 1 (.seq (.reg false [⟨some 17, .lit 2 1 0 [(.int .i64 0)] [], none⟩, ⟨some 9, .mv (.t 17), none⟩]) (.seq (.seq (.reg false [⟨some 10, .mv (.c (.int .i64 0)), none⟩]) (.block 2 (.loop (.seq (.seq (.reg false [⟨some 18, .mv (.t 10), none⟩, ⟨some 19, .mv (.t 1), none⟩, ⟨some 20, .bin .lss (.t 18) (.t 19), none⟩]) (.cond (.t 20) .skip (.exit 2))) (.seq (.block 3 (.reg false [⟨some 23, .mv (.t 9), none⟩, ⟨some 24, .mv (.t 0), none⟩, ⟨some 25, .mv (.t 2), none⟩, ⟨some 26, .call (.f 90) [(.t 24), (.t 25)], none⟩, ⟨some 27, .mv (.t 0), none⟩, ⟨some 28, .lit 2 1 3 [(.int .i64 0)] [(0, (.c (.int .i64 0))), (1, (.c (.int .i64 1))), (2, (.c (.int .i64 1)))], none⟩, ⟨some 29, .call (.f 104) [(.t 27), (.t 28)], none⟩, ⟨some 30, .bin .mul (.t 26) (.t 29), none⟩, ⟨some 31, .lit 2 1 1 [(.int .i64 0)] [(0, (.t 30))], none⟩, ⟨some 32, .app 2 1 8 [(.int .i64 0)] (.t 23) (.t 31), none⟩, ⟨some 9, .mv (.t 32), none⟩])) (.reg false [⟨some 21, .mv (.t 10), none⟩, ⟨some 22, .bin .add (.t 21) (.c (.int .i64 1)), none⟩, ⟨some 10, .mv (.t 22), none⟩])))))) (.reg false [⟨some 33, .mv (.t 7), none⟩, ⟨some 34, .mv (.t 9), none⟩, ⟨some 35, .lit 23 1 1 [.nilsl] [(0, (.t 34))], none⟩, ⟨some 36, .app 23 1 24 [.nilsl] (.t 33) (.t 35), none⟩, ⟨some 7, .mv (.t 36), none⟩])))) (.reg false [⟨some 15, .mv (.t 8), none⟩, ⟨some 16, .bin .add (.t 15) (.c (.int .i64 1)), none⟩, ⟨some 8, .mv (.t 16), none⟩])))))) (.seq (.reg false [⟨some 37, .mv (.t 7), none⟩, ⟨some 6, .mv (.t 37), none⟩]) .ret)))), 38, [(.t 6)]⟩
theorem k_spec_l01DrawM : compF Tryz.prog Tryz.f133 = some c_spec_l01DrawM := by kernel_rfl
def c_spec_l01DrawP : F := ⟨(.seq (.reg false [⟨some 4, .mv (.c .nilsl), none⟩]) (.seq (.reg false [⟨some 10, .mv (.t 0), none⟩, ⟨some 11, .mv (.t 1), none⟩, ⟨some 12, .call (.f 133) [(.t 10), (.t 11), (.c (.int .i64 3))], none⟩, ⟨some 5, .mv (.t 12), none⟩]) (.seq (.seq (.reg false [⟨some 6, .mv (.c (.int .i64 0)), none⟩]) (.block 0 (.loop (.seq (.seq (.reg false [⟨some 13, .mv (.t 6), none⟩, ⟨some 14, .mv (.t 1), none⟩, ⟨some 15, .bin .lss (.t 13) (.t 14), none⟩]) (.cond (.t 15) .skip (.exit 0))) (.seq (.block 1 (.seq (.reg false [⟨some 18, .mv (.t 5), none⟩, ⟨some 19, .mv (.t 6), none⟩, ⟨some 20, .ia 1 (.t 18) (.t 19), none⟩, ⟨some 21, .ld1 (.t 20), none⟩, ⟨some 7, .mv (.t 21), none⟩, ⟨some 8, .mv (.c (.int .i64 1)), none⟩]) (.seq (.reg false [⟨some 22, .mv (.t 7), none⟩, ⟨some 23, .mv (.t 6), none⟩, ⟨some 24, .ia 1 (.t 22) (.t 23), none⟩, ⟨none, .st 1 (.t 24) (.c (.int .i64 0)), none⟩]) (.seq (.seq (.reg false [⟨some 9, .mv (.c (.int .i64 0)), none⟩]) (.block 2 (.loop (.seq (.seq (.reg false [⟨some 25, .mv (.t 9), none⟩, ⟨some 26, .mv (.t 1), none⟩, ⟨some 27, .bin .lss (.t 25) (.t 26), none⟩]) (.cond (.t 27) .skip (.exit 2))) (.seq (.block 3 (.reg true [⟨some 30, .mv (.t 8), none⟩, ⟨some 31, .mv (.t 7), none⟩, ⟨some 32, .mv (.t 9), none⟩, ⟨some 33, .ia 1 (.t 31) (.t 32), none⟩, ⟨some 34, .ld1 (.t 33), none⟩, ⟨some 35, .mv (.t 7), none⟩, ⟨some 36, .mv (.t 9), none⟩, ⟨some 37, .ia 1 (.t 35) (.t 36), none⟩, ⟨some 38, .ld1 (.t 37), none⟩, ⟨some 39, .un .neg (.t 38), none⟩, ⟨some 40, .mx [(.t 34), (.t 39)], none⟩, ⟨some 41, .bin .add (.t 30) (.t 40), none⟩, ⟨some 8, .mv (.t 41), none⟩])) (.reg false [⟨some 28, .mv (.t 9), none⟩, ⟨some 29, .bin .add (.t 28) (.c (.int .i64 1)), none⟩, ⟨some 9, .mv (.t 29), none⟩])))))) (.reg false [⟨some 42, .mv (.t 7), none⟩, ⟨some 43, .mv (.t 6), none⟩, ⟨some 44, .mv (.t 8), none⟩, ⟨some 45, .mv (.t 0), none⟩, ⟨some 46, .call (.f 89) [(.t 45), (.c (.int .i64 3))], none⟩, ⟨some 47, .bin .add (.t 44) (.t 46), none⟩, ⟨some 48, .ia 1 (.t 42) (.t 43), none⟩, ⟨none, .st 1 (.t 48) (.t 47), none⟩]))))) (.reg false [⟨some 16, .mv (.t 6), none⟩, ⟨some 17, .bin .add (.t 16) (.c (.int .i64 1)), none⟩, ⟨some 6, .mv (.t 17), none⟩])))))) (.seq (.reg false [⟨some 49, .mv (.t 5), none⟩, ⟨some 4, .mv (.t 49), none⟩]) .ret)))), 50, [(.t 4)]⟩
theorem k_spec_l01DrawP : compF Tryz.prog Tryz.f134 = some c_spec_l01DrawP := by kernel_rfl

theorem Grow.re {n m : Nat} {h hp h' : AH} {ty : Nat} {out : AV} {ws : List AV} {ll : List (List Int)} (g : Grow n m h hp ty out ws ll) (k : ∀ i, n ≤ i → i < m → h' i = hp i) : Grow n m h' h' ty out ws ll :=
  ⟨g.le, fun _ _ => rfl, g.acc.keep k, g.rows.keep k, g.apart⟩
def BndL (k : Int) (l : List Int) : Prop := ∀ x ∈ l, -k ≤ x ∧ x ≤ k
def SqM (N : Nat) (k : Int) (ll : List (List Int)) : Prop := ll.length = N ∧ ∀ l ∈ ll, l.length = N ∧ BndL k l
theorem BndL.snoc {k : Int} {l : List Int} {x : Int} (h : BndL k l) (h1 : -k ≤ x) (h2 : x ≤ k) : BndL k (l ++ [x]) := by
  intro y hy
  rcases List.mem_append.1 hy with hy | hy
  · exact h y hy
  · simp only [List.mem_cons, List.not_mem_nil, or_false] at hy; subst hy; exact ⟨h1, h2⟩
theorem BndL.at {k : Int} {l : List Int} (h : BndL k l) {i : Nat} (hi : i < l.length) : -k ≤ l.getD i 0 ∧ l.getD i 0 ≤ k := h _ (getD_mem hi)
theorem SqM.row {N : Nat} {k : Int} {ll : List (List Int)} (h : SqM N k ll) {i : Nat} (hi : i < N) : (ll.getD i []).length = N ∧ BndL k (ll.getD i []) := h.2 _ (getD_mem (by rw [h.1]; exact hi))
theorem mem_set' {α : Type} {l : List α} {i : Nat} {a x : α} (h : x ∈ l.set i a) : x ∈ l ∨ x = a := by
  rcases List.mem_or_eq_of_mem_set h with h | h
  · exact .inl h
  · exact .inr h
theorem BndL.set {k : Int} {l : List Int} {i : Nat} {x : Int} (h : BndL k l) (h1 : -k ≤ x) (h2 : x ≤ k) : BndL k (l.set i x) := by
  intro y hy
  rcases mem_set' hy with hy | hy
  · exact h y hy
  · subst hy; exact ⟨h1, h2⟩
theorem SqM.set {N : Nat} {k : Int} {ll : List (List Int)} (h : SqM N k ll) {i : Nat} {l : List Int} (h1 : l.length = N) (h2 : BndL k l) : SqM N k (ll.set i l) := by
  refine ⟨by simpa using h.1, fun r hr => ?_⟩
  rcases mem_set' hr with hr | hr
  · exact h.2 r hr
  · subst hr; exact ⟨h1, h2⟩
theorem BndL.le {k k' : Int} {l : List Int} (h : BndL k l) (hk : k ≤ k') : BndL k' l := fun x hx => by have := h x hx; omega
theorem SqM.le {N : Nat} {k k' : Int} {ll : List (List Int)} (h : SqM N k ll) (hk : k ≤ k') : SqM N k' ll := ⟨h.1, fun l hl => ⟨(h.2 l hl).1, (h.2 l hl).2.le hk⟩⟩

section
variable {bnd b : Nat} {h : AH}
set_option maxHeartbeats 1000000 in
theorem spec_l01DrawM (r : Rnd bnd b h) (hb : bnd ≤ b) (N : Nat) (most : Int) (hN : N ≤ 8) (h0 : 0 ≤ most) (h1 : most ≤ 1000) (n : Nat) (hn : b < n) :
    MQ Tryz.prog 133 [.ptr b 0, .int .i64 N, .int .i64 most] h n b (b + 1) fun v h' n' => ∃ vs ll, Rows true n n' h' v vs ll ∧ SqM N most ll ∧ Rnd bnd b h' ∧ ∀ j, j < n → j ≠ b → h' j = h j := by
  refine mq_intro Tryz.func133 k_spec_l01DrawM ?_
  simp (maxSteps := 2000000) -implicitDefEqProofs (disch := omega) only [c_spec_l01DrawM, xsW, xsC, xsD, xsE, fillA, reduceCtorEq, Nat.reduceAdd, Nat.reduceSub, Nat.reduceLeDiff, Nat.reduceMul, Int.reduceLT, Int.reduceLE, Int.reduceEq, Int.reduceNe, Int.reduceAdd, Int.reduceSub, Int.reduceMul, Int.reduceNeg, Int.reduceToNat]
  refine loop_for N 0 (fun k p => [.ptr b 0, .int .i64 N, .int .i64 most, .any, .any, .any, .nilsl, p.1, .int .i64 k, .any, .any, .any, .any, .any, .any, .any, .any, .any, .any, .any, .any, .any, .any, .any, .any, .any, .any, .any, .any, .any, .any, .any, .any, .any, .any, .any, .any, .any]) (fun k (p : AV × List AV × List (List Int) × AH) => p.2.2.2)
    (fun k p m => Grow n m p.2.2.2 p.2.2.2 23 p.1 p.2.1 p.2.2.1 ∧ p.2.2.1.length = k ∧ (∀ l ∈ p.2.2.1, l.length = N ∧ BndL most l) ∧ Rnd bnd b p.2.2.2 ∧ ∀ j, j < n → j ≠ b → p.2.2.2 j = h j) (.sl n 0 0 0, [], [], _) (Nat.zero_le _)
    ⟨(Grow.start0 (h := h) rfl).re (fun _ _ _ => rfl), rfl, by simp, r.keep (upd_other (by omega)) fun j hj => upd_other (by omega), fun j hj hne => upd_other (by omega)⟩ (by simp [LeL, Le1]) (fun _ _ h => h) ?_
  rintro i ⟨out, ws, ll, hp⟩ m - hi1 hm1 ⟨g, gl, ge, gr, go⟩
  simp only at g gl ge gr go
  simp (maxSteps := 2000000) -implicitDefEqProofs (disch := omega) only [xsW, xsC, xsD, xsE, fillA, reduceCtorEq, Nat.reduceAdd, Nat.reduceSub, Nat.reduceLeDiff, Nat.reduceMul, Int.reduceLT, Int.reduceLE, Int.reduceEq, Int.reduceNe, Int.reduceAdd, Int.reduceSub, Int.reduceMul, Int.reduceNeg, Int.reduceToNat]
  (refine cd_dec (fun c1 => ?_) (fun c1 => ?_) <;> simp (maxSteps := 2000000) -implicitDefEqProofs (disch := omega) only [xsW, xsC, xsD, xsE, fillA, reduceCtorEq, Nat.reduceAdd, Nat.reduceSub, Nat.reduceLeDiff, Nat.reduceMul, Int.reduceLT, Int.reduceLE, Int.reduceEq, Int.reduceNe, Int.reduceAdd, Int.reduceSub, Int.reduceMul, Int.reduceNeg, Int.reduceToNat,  c1])
  · have hi2 : i < N := by omega
    refine loop_for N 0 (fun k p => [.ptr b 0, .int .i64 N, .int .i64 most, .any, .any, .any, .nilsl, out, .int .i64 i, p.1, .int .i64 k, .any, .any, .any, .any, .any, .any, .any, .any, .any, .any, .any, .any, .any, .any, .any, .any, .any, .any, .any, .any, .any, .any, .any, .any, .any, .any, .any]) (fun k (p : AV × List Int × AH) => p.2.2)
      (fun k p m' => Acc m m' p.2.2 2 1 p.1 (ints p.2.1) ∧ p.2.1.length = k ∧ BndL most p.2.1 ∧ m ≤ m' ∧ Rnd bnd b p.2.2 ∧ ∀ j, j < m → j ≠ b → p.2.2 j = hp j) (.sl m 0 0 0, [], _) (Nat.zero_le _)
      ⟨Acc.empty (upd_same _ _ _) rfl (Nat.le_refl _) (by omega), rfl, by simp [BndL], by omega, gr.keep (upd_other (by omega)) fun j hj => upd_other (by omega), fun j hj hne => upd_other (by omega)⟩ (by simp [LeL, Le1]) (fun _ _ h => h) ?_
    rintro k ⟨row, l, hq⟩ mq - hk1 hm2 ⟨a, al, ab, hle, qr, qo⟩
    simp only at a al ab qr qo
    simp (maxSteps := 2000000) -implicitDefEqProofs (disch := omega) only [xsW, xsC, xsD, xsE, fillA, reduceCtorEq, Nat.reduceAdd, Nat.reduceSub, Nat.reduceLeDiff, Nat.reduceMul, Int.reduceLT, Int.reduceLE, Int.reduceEq, Int.reduceNe, Int.reduceAdd, Int.reduceSub, Int.reduceMul, Int.reduceNeg, Int.reduceToNat]
    (refine cd_dec (fun c2 => ?_) (fun c2 => ?_) <;> simp (maxSteps := 2000000) -implicitDefEqProofs (disch := omega) only [xsW, xsC, xsD, xsE, fillA, reduceCtorEq, Nat.reduceAdd, Nat.reduceSub, Nat.reduceLeDiff, Nat.reduceMul, Int.reduceLT, Int.reduceLE, Int.reduceEq, Int.reduceNe, Int.reduceAdd, Int.reduceSub, Int.reduceMul, Int.reduceNeg, Int.reduceToNat,  c2])
    · refine mq_use (spec_l01DrawPart qr hb most h0 (by omega) mq (by omega)) (fun i a c => .inr ⟨by omega, by omega⟩) fun x h1' n1 hn1 ⟨en, ⟨y, hy, y0, y1⟩, r1, sm1⟩ => ?_
      subst en; subst hy
      simp (maxSteps := 2000000) -implicitDefEqProofs (disch := omega) only [xsW, xsC, xsD, xsE, fillA, reduceCtorEq, Nat.reduceAdd, Nat.reduceSub, Nat.reduceLeDiff, Nat.reduceMul, Int.reduceLT, Int.reduceLE, Int.reduceEq, Int.reduceNe, Int.reduceAdd, Int.reduceSub, Int.reduceMul, Int.reduceNeg, Int.reduceToNat]
      refine mq_use (spec_l01Pick (b := b) (bnd := bnd) (w := true) (lo := n1) (hi := n1 + 1) (l := [0, 1, 1]) (r1.keep (upd_other (by omega)) fun j hj => upd_other (by omega)) hb (Sl.of_sl (upd_same _ _ _) rfl (Nat.le_refl _) (Nat.le_refl _) (by omega)) (by omega) (by simp) (by simp) _ (by omega)) (fun i a c => .inr ⟨by omega, by omega⟩) fun x2 h2 n2 hn2 ⟨en, ⟨z, hz, z0⟩, r2, sm2⟩ => ?_
      subst en; subst hz
      have hyz : -most ≤ y * z ∧ y * z ≤ most := by
        simp only [List.mem_cons, List.not_mem_nil, or_false] at z0
        rcases z0 with rfl | rfl | rfl <;> omega
      simp (maxSteps := 2000000) -implicitDefEqProofs (disch := omega) only [xsW, xsC, xsD, xsE, fillA, reduceCtorEq, Nat.reduceAdd, Nat.reduceSub, Nat.reduceLeDiff, Nat.reduceMul, Int.reduceLT, Int.reduceLE, Int.reduceEq, Int.reduceNe, Int.reduceAdd, Int.reduceSub, Int.reduceMul, Int.reduceNeg, Int.reduceToNat]
      refine app_int (y := y * z) ((a.keep fun j a1 a2 => ?_).wide (Nat.le_refl _) (by omega)) (by omega) (by omega) ⟨rfl, _, upd_same _ _ _, by simp, by simp [cutA]⟩ (by omega) fun v' h' n' q1 q2 q3 => ?_
      · rw [upd_other (by omega), sm2 j (by omega), upd_other (by omega), sm1 j (by omega)]
      simp (maxSteps := 2000000) -implicitDefEqProofs (disch := omega) only [xsW, xsC, xsD, xsE, fillA, reduceCtorEq, Nat.reduceAdd, Nat.reduceSub, Nat.reduceLeDiff, Nat.reduceMul, Int.reduceLT, Int.reduceLE, Int.reduceEq, Int.reduceNe, Int.reduceAdd, Int.reduceSub, Int.reduceMul, Int.reduceNeg, Int.reduceToNat]
      exact ⟨(v', l ++ [y * z], h'), ⟨q2, by simp [al], ab.snoc hyz.1 hyz.2, by omega, r2.keep (show h' b = h2 b by rw [q3 b (by omega), upd_other (by omega)]) fun j hj => (show h' j = h2 j by rw [q3 j (by omega), upd_other (by omega)]), fun j hj hne => by
        show h' j = hp j
        rw [q3 j hj, upd_other (by omega), sm2 j hne, upd_other (by omega), sm1 j hne, qo j hj hne]⟩, by omega, by omega, (by simp [LeL, Le1]), fun _ _ h => h⟩
    · have e : l.length = N := by omega
      have o1 := one_any a.any
      have o2 := sto_any a.any
      have o3 := cel_any a.any
      simp (maxSteps := 2000000) -implicitDefEqProofs (disch := omega) only [xsW, xsC, xsD, xsE, fillA, reduceCtorEq, Nat.reduceAdd, Nat.reduceSub, Nat.reduceLeDiff, Nat.reduceMul, Int.reduceLT, Int.reduceLE, Int.reduceEq, Int.reduceNe, Int.reduceAdd, Int.reduceSub, Int.reduceMul, Int.reduceNeg, Int.reduceToNat,  o1, o2, o3]
      have gB : Grow n m (upd hq mq (some ⟨23, [row], true, 0⟩)) (upd hq mq (some ⟨23, [row], true, 0⟩)) 23 out ws ll := g.re fun j a1 a2 => by rw [upd_other (by omega), qo j a2 (by omega)]
      refine gB.app (v1 := row) (l := l) (m1 := mq) (a.sl.keep (fun i _ hi9 => by simp (disch := omega) only [upd_other])) (fun _ _ => rfl) hle (by omega) (Nat.le_refl _) ⟨rfl, _, upd_same _ _ _, by simp, by simp [cutA]⟩ (by omega) fun out' h' n' q1 q2 => ?_
      simp (maxSteps := 2000000) -implicitDefEqProofs (disch := omega) only [xsW, xsC, xsD, xsE, fillA, reduceCtorEq, Nat.reduceAdd, Nat.reduceSub, Nat.reduceLeDiff, Nat.reduceMul, Int.reduceLT, Int.reduceLE, Int.reduceEq, Int.reduceNe, Int.reduceAdd, Int.reduceSub, Int.reduceMul, Int.reduceNeg, Int.reduceToNat]
      have qo2 := q2.old
      refine ⟨(out', ws ++ [row], ll ++ [l], h'), ⟨q2.re fun _ _ _ => rfl, by simp [gl], fun r hr => ?_, qr.keep (show h' b = hq b by rw [qo2 b hn, upd_other (by omega)]) fun j hj => (show h' j = hq j by rw [qo2 j (by omega), upd_other (by omega)]), fun j hj hne => ?_⟩, by omega, by omega, (by simp [LeL, Le1]), fun _ _ h => h⟩
      · rcases List.mem_append.1 hr with hr | hr
        · exact ge r hr
        · simp only [List.mem_cons, List.not_mem_nil, or_false] at hr; subst hr; exact ⟨e, ab⟩
      · have := g.le
        show h' j = h j
        rw [qo2 j hj, upd_other (by omega), qo j (by omega) hne, go j hj hne]
  · exact ⟨ws, ll, g.rowsOf fun _ _ _ => rfl, ⟨by omega, ge⟩, gr, go⟩
theorem set_get {ll : List (List Int)} {i j : Nat} {l : List Int} (h : i < ll.length) : (ll.set i l).getD j [] = if i = j then l else ll.getD j [] := by
  rw [getD_set]
  by_cases e : i = j
  · subst e; rw [if_pos ⟨rfl, h⟩, if_pos rfl]
  · rw [if_neg fun h => e h.1, if_neg e]
theorem below_row {lo hi : Nat} {h : AH} {v : AV} {vs : List AV} {ll : List (List Int)} (s : Rows true lo hi h v vs ll) {N : Nat} {k : Int} (q : SqM N k ll) {i : Nat} (hi' : i < N) : lo ≤ bid (vs.getD i .any) ∧ bid (vs.getD i .any) < hi := by
  have h1 := s.row i (by rw [q.1]; exact hi')
  exact Sl.below h1 (by rw [h1.slen, (q.row hi').1]; omega)
set_option maxHeartbeats 1000000 in
theorem spec_l01DrawP (r : Rnd bnd b h) (hb : bnd ≤ b) (N : Nat) (hN : N ≤ 8) (n : Nat) (hn : b < n) :
    MQ Tryz.prog 134 [.ptr b 0, .int .i64 N] h n b (b + 1) fun v h' n' => ∃ vs ll, Rows true n n' h' v vs ll ∧ SqM N 1000 ll ∧ Rnd bnd b h' ∧ ∀ j, j < n → j ≠ b → h' j = h j := by
  refine mq_intro Tryz.func134 k_spec_l01DrawP ?_
  simp (maxSteps := 2000000) -implicitDefEqProofs (disch := omega) only [c_spec_l01DrawP, xsW, xsC, xsD, xsE, fillA, reduceCtorEq, Nat.reduceAdd, Nat.reduceSub, Nat.reduceLeDiff, Nat.reduceMul, Int.reduceLT, Int.reduceLE, Int.reduceEq, Int.reduceNe, Int.reduceAdd, Int.reduceSub, Int.reduceMul, Int.reduceNeg, Int.reduceToNat]
  refine mq_use (spec_l01DrawM r hb N 3 hN (by omega) (by omega) n hn) (fun i a c => .inr ⟨by omega, by omega⟩) fun v h1 n1 hn1 ⟨vs, ll, s1, q1, r1, o1⟩ => ?_
  simp (maxSteps := 2000000) -implicitDefEqProofs (disch := omega) only [xsW, xsC, xsD, xsE, fillA, reduceCtorEq, Nat.reduceAdd, Nat.reduceSub, Nat.reduceLeDiff, Nat.reduceMul, Int.reduceLT, Int.reduceLE, Int.reduceEq, Int.reduceNe, Int.reduceAdd, Int.reduceSub, Int.reduceMul, Int.reduceNeg, Int.reduceToNat]
  refine loop_for N 0 (fun k p => [.ptr b 0, .int .i64 N, .any, .any, .nilsl, v, .int .i64 k, .any, .any, .any, .any, .any, .any, .any, .any, .any, .any, .any, .any, .any, .any, .any, .any, .any, .any, .any, .any, .any, .any, .any, .any, .any, .any, .any, .any, .any, .any, .any, .any, .any, .any, .any, .any, .any, .any, .any, .any, .any, .any, .any]) (fun k (p : List (List Int) × AH) => p.2)
    (fun k p m => Rows true n n1 p.2 v vs p.1 ∧ SqM N 1000 p.1 ∧ (∀ j, k ≤ j → j < N → BndL 3 (p.1.getD j [])) ∧ Rnd bnd b p.2 ∧ ∀ j, j < n → j ≠ b → p.2 j = h j) (ll, _) (Nat.zero_le _)
    ⟨s1, q1.le (by omega), fun j _ hj => (q1.row hj).2, r1, o1⟩ (by simp [LeL, Le1]) (fun _ _ h => h) ?_
  rintro i ⟨l2, hp⟩ m - hi1 hm1 ⟨s2, q2, w2, r2, o2⟩
  simp only at s2 q2 w2 r2 o2
  simp (maxSteps := 2000000) -implicitDefEqProofs (disch := omega) only [xsW, xsC, xsD, xsE, fillA, reduceCtorEq, Nat.reduceAdd, Nat.reduceSub, Nat.reduceLeDiff, Nat.reduceMul, Int.reduceLT, Int.reduceLE, Int.reduceEq, Int.reduceNe, Int.reduceAdd, Int.reduceSub, Int.reduceMul, Int.reduceNeg, Int.reduceToNat]
  (refine cd_dec (fun c1 => ?_) (fun c1 => ?_) <;> simp (maxSteps := 2000000) -implicitDefEqProofs (disch := omega) only [xsW, xsC, xsD, xsE, fillA, reduceCtorEq, Nat.reduceAdd, Nat.reduceSub, Nat.reduceLeDiff, Nat.reduceMul, Int.reduceLT, Int.reduceLE, Int.reduceEq, Int.reduceNe, Int.reduceAdd, Int.reduceSub, Int.reduceMul, Int.reduceNeg, Int.reduceToNat,  c1])
  · have hi2 : i < N := by omega
    have hil : i < l2.length := by rw [q2.1]; exact hi2
    have hrow := s2.row i hil
    have hlen := (q2.row hi2).1
    have hbw := below_row s2 q2 hi2
    have hout := s2.out.below (by rw [s2.slen, q2.1]; omega)
    have e1 := fun K => Ints.st hrow (k := i) (x := 0) (n0 := n) (n := m) (W := fun i => b ≤ i ∧ i < b + 1) (by omega) (fun i a b => .inl (by omega)) (by omega) K
    simp (maxSteps := 2000000) -implicitDefEqProofs (disch := omega) only [xsW, xsC, xsD, xsE, fillA, reduceCtorEq, Nat.reduceAdd, Nat.reduceSub, Nat.reduceLeDiff, Nat.reduceMul, Int.reduceLT, Int.reduceLE, Int.reduceEq, Int.reduceNe, Int.reduceAdd, Int.reduceSub, Int.reduceMul, Int.reduceNeg, Int.reduceToNat,  s2.ia, s2.ld, hrow.ia, e1, q2.1, hlen]
    have hrow0 := hrow.wr (k := i) (by omega) 0
    have s3 := s2.wr hil (k := i) (by omega) 0
    have w3 := w2 i (Nat.le_refl _) hi2
    generalize hx : (l2.getD i []).set i 0 = rw0 at hrow0 s3
    have hlen0 : rw0.length = N := by rw [← hx, List.length_set, hlen]
    have w4 : BndL 3 rw0 := by rw [← hx]; exact w3.set (by omega) (by omega)
    have r3 : Rnd bnd b (wr hp (bid (vs.getD i .any)) (boff (vs.getD i .any) + i) (.int .i64 0)) := r2.keep (wr_other (by omega)) fun j hj => wr_other (by omega)
    have o3 : ∀ j, j < n → j ≠ b → wr hp (bid (vs.getD i .any)) (boff (vs.getD i .any) + i) (.int .i64 0) j = h j := fun j hj hne => by rw [wr_other (by omega), o2 j hj hne]
    generalize wr hp (bid (vs.getD i .any)) (boff (vs.getD i .any) + i) (.int .i64 0) = hq at hrow0 s3 r3 o3 ⊢
    refine loop_for N 0 (fun k p => [.ptr b 0, .int .i64 N, .any, .any, .nilsl, v, .int .i64 i, vs.getD i .any, .int .i64 p, .int .i64 k, .any, .any, .any, .any, .any, .any, .any, .any, .any, .any, .any, .any, .any, .any, .any, .any, .any, .any, .any, .any, .any, .any, .any, .any, .any, .any, .any, .any, .any, .any, .any, .any, .any, .any, .any, .any, .any, .any, .any, .any]) (fun k _ => hq)
      (fun k (p : Int) m' => 1 ≤ p ∧ p ≤ 1 + 3 * k) 1 (Nat.zero_le _) ⟨by omega, by omega⟩ (by simp [LeL, Le1]) (fun _ _ h => h) ?_
    rintro k sum m2 - hk1 hm2 ⟨u1, u2⟩
    simp (maxSteps := 2000000) -implicitDefEqProofs (disch := omega) only [xsW, xsC, xsD, xsE, fillA, reduceCtorEq, Nat.reduceAdd, Nat.reduceSub, Nat.reduceLeDiff, Nat.reduceMul, Int.reduceLT, Int.reduceLE, Int.reduceEq, Int.reduceNe, Int.reduceAdd, Int.reduceSub, Int.reduceMul, Int.reduceNeg, Int.reduceToNat]
    (refine cd_dec (fun c2 => ?_) (fun c2 => ?_) <;> simp (maxSteps := 2000000) -implicitDefEqProofs (disch := omega) only [xsW, xsC, xsD, xsE, fillA, reduceCtorEq, Nat.reduceAdd, Nat.reduceSub, Nat.reduceLeDiff, Nat.reduceMul, Int.reduceLT, Int.reduceLE, Int.reduceEq, Int.reduceNe, Int.reduceAdd, Int.reduceSub, Int.reduceMul, Int.reduceNeg, Int.reduceToNat,  c2])
    · have hk2 : k < N := by omega
      have hx := w4.at (i := k) (by omega)
      simp (maxSteps := 2000000) -implicitDefEqProofs (disch := omega) only [xsW, xsC, xsD, xsE, fillA, reduceCtorEq, Nat.reduceAdd, Nat.reduceSub, Nat.reduceLeDiff, Nat.reduceMul, Int.reduceLT, Int.reduceLE, Int.reduceEq, Int.reduceNe, Int.reduceAdd, Int.reduceSub, Int.reduceMul, Int.reduceNeg, Int.reduceToNat,  hrow0.ia, hrow0.ld, hlen0]
      exact ⟨sum + max (rw0.getD k 0) (-rw0.getD k 0), ⟨by omega, by omega⟩, by omega, by omega, (by simp [LeL, Le1])⟩
    · refine mq_use (spec_l01Next r3 hb 3 m2 (by omega)) (fun i a c => .inr ⟨by omega, by omega⟩) fun x h4 n4 hn4 ⟨en, ⟨y, hy, y0, y1, _⟩, r4, sm4⟩ => ?_
      subst en; subst hy
      have y2 := y1 (by omega)
      have s4 := s3.keep (h' := h4) fun j a c => sm4 j (by omega)
      have hrow4 := hrow0.keep (h' := h4) fun j a c => sm4 j (by omega)
      have e2 := fun K => Ints.st hrow4 (k := i) (x := sum + y) (n0 := n) (n := n4) (W := fun i => b ≤ i ∧ i < b + 1) (by omega) (fun i a b => .inl (by omega)) (by omega) K
      simp (maxSteps := 2000000) -implicitDefEqProofs (disch := omega) only [xsW, xsC, xsD, xsE, fillA, reduceCtorEq, Nat.reduceAdd, Nat.reduceSub, Nat.reduceLeDiff, Nat.reduceMul, Int.reduceLT, Int.reduceLE, Int.reduceEq, Int.reduceNe, Int.reduceAdd, Int.reduceSub, Int.reduceMul, Int.reduceNeg, Int.reduceToNat,  hrow4.ia, hlen0, e2]
      have hil4 : i < (l2.set i rw0).length := by simpa using hil
      have ege : (l2.set i rw0).getD i [] = rw0 := by rw [set_get hil, if_pos rfl]
      have s5 := s4.wr hil4 (k := i) (by rw [ege]; omega) (sum + y)
      rw [ege, List.set_set] at s5
      refine ⟨(l2.set i (rw0.set i (sum + y)), _), ⟨s5, q2.set (by simpa using hlen0) ((w4.le (by omega)).set (by omega) (by omega)), fun j a c => ?_, r4.keep (wr_other (by omega)) fun j hj => wr_other (by omega), fun j hj hne => ?_⟩, by omega, by omega, (by simp [LeL, Le1]), fun _ _ h => h⟩
      · rw [set_get hil, if_neg (by omega)]; exact w2 j (by omega) c
      · show wr h4 _ _ _ j = h j
        rw [wr_other (by omega), sm4 j hne, o3 j hj hne]
  · exact ⟨vs, l2, s2.wide (Nat.le_refl _) (by omega), q2, r2, o2⟩
end


structure St (bnd b : Nat) (h : AH) (lo hi N : Nat) (v : AV) (vs : List AV) (ll : List (List Int)) (hp : AH) : Prop where
  s : Rows true lo hi hp v vs ll
  q : SqM N 1000 ll
  r : Rnd bnd b hp
  o : ∀ j, j < lo → j ≠ b → hp j = h j
section
variable {bnd b : Nat} {h : AH} {lo hi N : Nat} {v : AV} {vs : List AV} {ll : List (List Int)} {hp : AH}
theorem St.store (t : St bnd b h lo hi N v vs ll hp) (hb : bnd ≤ b) (hl : b < lo) {i k : Nat} (hi' : i < N) (hk : k < N) {x : Int} (h1 : -1000 ≤ x) (h2 : x ≤ 1000) :
    St bnd b h lo hi N v vs (ll.set i ((ll.getD i []).set k x)) (wr hp (bid (vs.getD i .any)) (boff (vs.getD i .any) + k) (.int .i64 x)) := by
  have hb1 := below_row t.s t.q hi'
  have hr := t.q.row hi'
  exact ⟨t.s.wr (by rw [t.q.1]; exact hi') (by rw [hr.1]; exact hk) x, t.q.set (by rw [List.length_set, hr.1]) (hr.2.set h1 h2), t.r.keep (wr_other (by omega)) fun j hj => wr_other (by omega), fun j hj hne => by rw [wr_other (by omega), t.o j hj hne]⟩
theorem St.draw (t : St bnd b h lo hi N v vs ll hp) (hl : b < lo) {h' : AH} (r : Rnd bnd b h') (sm : Same b h' hp) : St bnd b h lo hi N v vs ll h' :=
  ⟨t.s.keep fun j a c => sm j (by omega), t.q, r, fun j hj hne => by rw [sm j hne, t.o j hj hne]⟩
theorem St.row (t : St bnd b h lo hi N v vs ll hp) {i : Nat} (hi' : i < N) : Ints true lo hi hp (vs.getD i .any) (ll.getD i []) := t.s.row i (by rw [t.q.1]; exact hi')
theorem St.below (t : St bnd b h lo hi N v vs ll hp) {i : Nat} (hi' : i < N) : lo ≤ bid (vs.getD i .any) ∧ bid (vs.getD i .any) < hi := below_row t.s t.q hi'
theorem St.num (t : St bnd b h lo hi N v vs ll hp) {i k : Nat} (hi' : i < N) (hk : k < N) : -1000 ≤ (ll.getD i []).getD k 0 ∧ (ll.getD i []).getD k 0 ≤ 1000 := by
  have h1 := t.q.row hi'
  exact h1.2.at (by rw [h1.1]; exact hk)
end
section
variable {bnd b : Nat} {h : AH}
set_option maxRecDepth 100000 in
set_option maxHeartbeats 4000000 in
end

theorem dtK_putC {ll : List (List Int)} (q : List Int) (s : Int) {k : Nat} (hk : k < ll.length) : dtK ll q s k = det ll.length (putC (mx (colsL ll s)) k fun i => q.getD i 0) := by
  unfold dtK
  refine det_congr fun r c hr hc => ?_
  have hs := colsL_sq ll s
  have e := putL_at (ll := colsL ll s) (i := k) (c := q) (r := r) (k := c) (by rw [hs.1]; exact hr) (by rw [hs.2 r hr]; exact hc)
  simp only [mx, e, putC]
  by_cases h : k = c
  · subst h; simp
  · rw [if_neg h, if_neg fun h' => h h'.symm]
theorem sol_eq {ll : List (List Int)} (q : List Int) (s : Int) {r : Nat} (hr : r < ll.length) : (sumTo ll.length fun c => colE ll s r c * dtK ll q s c) = dtS ll s * q.getD r 0 := by
  have h := cramer (mx (colsL ll s)) (fun i => q.getD i 0) hr
  unfold dtS
  rw [← h]
  refine sumTo_congr fun c hc => ?_
  rw [dtK_putC q s hc, show mx (colsL ll s) r c = at2 (colsL ll s) r c from rfl, colsL_at hr hc]
theorem sol_row {ll : List (List Int)} (q : List Int) (s : Int) {r : Nat} (hr : r < ll.length) :
    dtS ll s * q.getD r 0 + (sumTo ll.length fun c => at2 ll r c * (if hasB s c = true then dtK ll q s c else 0)) = if hasB s r = true then 0 else dtK ll q s r := by
  rw [← sol_eq q s hr, ← sumTo_add']
  have e : (sumTo ll.length fun i => colE ll s r i * dtK ll q s i + at2 ll r i * (if hasB s i = true then dtK ll q s i else 0)) = sumTo ll.length fun i => if i = r then (if hasB s r = true then 0 else dtK ll q s r) else 0 := sumTo_congr fun c hc => by
    unfold colE
    by_cases hb : hasB s c = true
    · rw [if_pos hb, if_pos hb]
      by_cases e : c = r
      · subst e; rw [if_pos rfl, if_pos hb, Int.neg_mul]; omega
      · rw [if_neg e, Int.neg_mul]; omega
    · rw [if_neg hb, if_neg hb]
      by_cases e : c = r
      · subst e; rw [if_pos rfl, if_pos rfl, if_neg hb]; omega
      · rw [if_neg (fun h => e h.symm), if_neg e]; omega
  rw [e, sumTo_one hr fun i _ hne => by rw [if_neg hne], if_pos rfl]
theorem dkF_dvd {f : List (Int × Int)} (hf : allFr f = true) : ∀ k, k ≤ f.length → ∀ j, j < k → (f.getD j (0, 0)).2 ∣ dkF f k
  | 0, _, j, h => absurd h (Nat.not_lt_zero _)
  | k + 1, hk, j, hj => by
    have hpos := dkF_pos hf k (by omega)
    have hd := (allFr_get hf (k := k) (by omega)).2
    rw [dkF]
    have hg : (Int.gcd (dkF f k) (f.getD k (0, 0)).2 : Int) ∣ dkF f k := Int.gcd_dvd_left ..
    have hg2 : (Int.gcd (dkF f k) (f.getD k (0, 0)).2 : Int) ∣ (f.getD k (0, 0)).2 := Int.gcd_dvd_right ..
    have he : (dkF f k).tdiv (Int.gcd (dkF f k) (f.getD k (0, 0)).2 : Int) * (Int.gcd (dkF f k) (f.getD k (0, 0)).2 : Int) = dkF f k := Int.tdiv_mul_cancel hg
    by_cases e : j = k
    · subst e; exact Int.dvd_mul_left _ _
    · have ih := dkF_dvd hf k (by omega) j (by omega)
      refine Int.dvd_trans ih ?_
      obtain ⟨m, hm⟩ := hg2
      refine ⟨m, ?_⟩
      generalize (Int.gcd (dkF f k) (f.getD k (0, 0)).2 : Int) = g at hm he ⊢
      generalize (dkF f k).tdiv g = t at he ⊢
      rw [hm, ← he]
      grind
theorem cmnX_eq {f : List (Int × Int)} (hf : allFr f = true) {k : Nat} (hk : k < f.length) : cmnX f k * (f.getD k (0, 0)).2 = (f.getD k (0, 0)).1 * cmnD f := by
  have h := dkF_dvd hf f.length (Nat.le_refl _) k hk
  unfold cmnX
  have := Int.tdiv_mul_cancel h
  rw [Int.mul_assoc]
  unfold cmnD
  rw [this]
theorem red_cross {a b : Int} (hb : b ≠ 0) : (red a b).1 * b = a * (red a b).2 := by
  simp only [red]
  have hg : (0 : Int) < (Int.gcd a b : Int) := by have := Int.gcd_pos_of_ne_zero_right a hb; omega
  have h1 : (Int.gcd a b : Int) ∣ a * b.sign := Int.dvd_trans (Int.gcd_dvd_left ..) (Int.dvd_mul_right _ _)
  have h2 : (Int.gcd a b : Int) ∣ (b.natAbs : Int) := by rw [Int.dvd_natAbs]; exact Int.gcd_dvd_right ..
  obtain ⟨x, hx⟩ := h1
  obtain ⟨y, hy⟩ := h2
  have e1 : a * b.sign / (Int.gcd a b : Int) = x := by rw [hx]; exact Int.mul_ediv_cancel_left _ (by omega)
  have e2 : ((b.natAbs / Int.gcd a b : Nat) : Int) = y := by rw [Int.natCast_ediv, hy]; exact Int.mul_ediv_cancel_left _ (by omega)
  have e3 : (b.natAbs : Int) / (Int.gcd a b : Int) = y := by rw [← e2, Int.natCast_ediv]
  rw [e1, e3]
  clear e1 e2 e3
  generalize (Int.gcd a b : Int) = g at hg hx hy
  have hs : b = b.sign * b.natAbs := (Int.sign_mul_natAbs b).symm
  have hq : g * (x * b) = g * (a * y) := by
    have : g * (x * b) = (g * x) * b := by grind
    rw [this, ← hx]
    have h3 : g * (a * y) = a * (g * y) := by grind
    rw [h3, ← hy]
    have h4 : b.sign * b = (b.natAbs : Int) := by rw [Int.mul_comm, Int.mul_sign_self]
    rw [Int.mul_assoc, h4]
  exact Int.eq_of_mul_eq_mul_left (by omega) hq
theorem sumTo_scale {n : Nat} {f g : Nat → Int} {d c : Int} (h : ∀ i, i < n → f i * d = c * g i) : sumTo n f * d = c * sumTo n g := by
  induction n with
  | zero => simp [sumTo]
  | succ n ih =>
    rw [sumTo, sumTo, Int.add_mul, Int.mul_add, ih fun i hi => h i (by omega), h n (by omega)]
theorem nn_of_mul {x d D c : Int} (hd : d ≠ 0) (hD : 0 ≤ D) (h : x * d = D * c) (hc : 0 ≤ d.sign * c) : 0 ≤ x := by
  rcases Int.lt_or_gt_of_ne hd with h1 | h1
  · rw [Int.sign_eq_neg_one_of_neg h1] at hc
    have h2 : D * c ≤ 0 := by
      have := Int.mul_nonneg hD (show 0 ≤ -c by omega)
      rw [Int.mul_neg] at this; omega
    by_cases h3 : 0 ≤ x
    · exact h3
    · have := Int.mul_pos_of_neg_of_neg (show x < 0 by omega) h1
      omega
  · rw [Int.sign_eq_one_of_pos h1] at hc
    have h2 : 0 ≤ D * c := Int.mul_nonneg hD (by omega)
    by_cases h3 : 0 ≤ x
    · exact h3
    · have := Int.mul_neg_of_neg_of_pos (show x < 0 by omega) h1
      omega
theorem zero_of_mul {x d D : Int} (hd : d ≠ 0) (h : x * d = D * 0) : x = 0 := by
  rw [Int.mul_zero] at h
  rcases Int.mul_eq_zero.1 h with h | h
  · exact h
  · exact absurd h hd
theorem feas_solves {ll : List (List Int)} {q : List Int} (hp : isProb ll q = true) {s : Nat} (hs : setP ll q feasT s = true) : solvB (remL ll q (cmnN (zF ll q s)) (cmnD (zF ll q s))) (cmnN (zF ll q s)) = true := by
  have hd := setP_d hs
  have hf : ∀ k, k < ll.length → 0 ≤ (dtS ll (s : Int)).sign * dtK ll q (s : Int) k := fun k hk => by
    simp only [setP, Bool.and_eq_true] at hs
    have := (feasT_iff _).1 hs.2 k (by rw [solL_len]; exact hk)
    rwa [solL, rowOf_get hk] at this
  have hg := zF_good hp hd
  have ha := good_all hg
  have hzl := hg.1
  have hD := dkF_pos ha (zF ll q s).length (Nat.le_refl _)
  have hx : ∀ k, k < ll.length → (cmnN (zF ll q s)).getD k 0 * dtS ll (s : Int) = cmnD (zF ll q s) * (if hasB (s : Int) k = true then dtK ll q (s : Int) k else 0) := fun k hk => by
    rw [cmnN, rowOf_get (by omega)]
    have h1 := cmnX_eq ha (k := k) (by omega)
    have h2 := (allFr_get ha (k := k) (by omega)).2
    have hz : (zF ll q s).getD k (0, 0) = if hasB (s : Int) k = true then (ptF ll q (s : Int)).getD k (0, 0) else (0, 1) := by rw [zF, onlyF_get (by rw [ptF_len]; exact hk)]
    by_cases hb : hasB (s : Int) k = true
    · rw [if_pos hb]
      rw [if_pos hb, ptF, getD_map _ _ _ 0 _ (by rw [ptL_len]; exact hk), ptL, rowOf_get hk] at hz
      have h3 := red_cross (a := dtK ll q (s : Int) k) hd
      rw [← hz] at h3
      generalize (zF ll q s).getD k (0, 0) = z at h1 h2 h3
      generalize cmnX (zF ll q s) k = x at h1
      generalize cmnD (zF ll q s) = D at h1
      generalize dtS ll (s : Int) = d at h3
      generalize dtK ll q (s : Int) k = t at h3
      refine Int.eq_of_mul_eq_mul_right (a := z.2) (by omega) ?_
      have e1 : x * d * z.2 = (x * z.2) * d := by grind
      have e2 : D * t * z.2 = (t * z.2) * D := by grind
      rw [e1, e2, h1, ← h3]
      grind
    · rw [if_neg hb] at hz ⊢
      rw [hz] at h1
      simp only [Int.mul_one, Int.zero_mul] at h1
      rw [h1]; simp
  have hy : ∀ k, k < ll.length → (remL ll q (cmnN (zF ll q s)) (cmnD (zF ll q s))).getD k 0 * dtS ll (s : Int) = cmnD (zF ll q s) * (if hasB (s : Int) k = true then 0 else dtK ll q (s : Int) k) := fun k hk => by
    rw [remL, rowOf_get hk, remX, ← sol_row q (s : Int) hk, Int.add_mul, Int.mul_add]
    have h1 : sumTo ll.length (remT ll (cmnN (zF ll q s)) k) * dtS ll (s : Int) = cmnD (zF ll q s) * sumTo ll.length fun c => at2 ll k c * (if hasB (s : Int) c = true then dtK ll q (s : Int) c else 0) := sumTo_scale fun i hi => by
      have := hx i hi
      simp only [remT, at2]
      rw [Int.mul_assoc, this]
      grind
    rw [h1]
    generalize sumTo ll.length (fun c => at2 ll k c * (if hasB (s : Int) c = true then dtK ll q (s : Int) c else 0)) = T
    generalize q.getD k 0 = qk
    generalize cmnD (zF ll q s) = D
    generalize dtS ll (s : Int) = d
    grind
  rw [solvB_iff]
  intro k hk
  rw [remL_len] at hk
  have h1 := hx k hk
  have h2 := hy k hk
  have h3 := hf k hk
  have hD' : 0 ≤ cmnD (zF ll q s) := by unfold cmnD; omega
  simp only [okYX, decide_eq_true_eq]
  by_cases hb : hasB (s : Int) k = true
  · rw [if_pos hb] at h1 h2
    have e := zero_of_mul hd h2
    exact ⟨by omega, nn_of_mul hd hD' h1 h3, .inl e⟩
  · rw [if_neg hb] at h1 h2
    have e := zero_of_mul hd h1
    exact ⟨nn_of_mul hd hD' h2 h3, by omega, .inr e⟩
def c_spec_l01Copy : F := ⟨(.seq (.reg false [⟨some 1, .box 30 (.t 0), none⟩, ⟨some 2, .alloc 30 [.nilsl, .nilsl], none⟩]) (.seq (.reg false [⟨some 5, .lit 23 1 0 [.nilsl] [], none⟩, ⟨some 6, .fa 1 (.t 1), none⟩, ⟨some 7, .ld1 (.t 6), none⟩, ⟨some 8, .call (.f 132) [(.t 7)], none⟩, ⟨some 9, .build [.nilsl, .nilsl] [(0, (1, (.t 5))), (1, (1, (.t 8)))], none⟩, ⟨some 3, .alloc 30 [.nilsl, .nilsl], none⟩, ⟨none, .st 2 (.t 3) (.t 9), none⟩]) (.seq (.seq (.reg false [⟨some 4, .mv (.c (.int .i64 0)), none⟩]) (.block 0 (.loop (.seq (.seq (.reg false [⟨some 10, .mv (.t 4), none⟩, ⟨some 11, .fa 0 (.t 1), none⟩, ⟨some 12, .ld1 (.t 11), none⟩, ⟨some 13, .len (.t 12), none⟩, ⟨some 14, .bin .lss (.t 10) (.t 13), none⟩]) (.cond (.t 14) .skip (.exit 0))) (.seq (.block 1 (.reg true [⟨some 17, .fa 0 (.t 3), none⟩, ⟨some 18, .ld1 (.t 17), none⟩, ⟨some 19, .fa 0 (.t 1), none⟩, ⟨some 20, .ld1 (.t 19), none⟩, ⟨some 21, .mv (.t 4), none⟩, ⟨some 22, .ia 1 (.t 20) (.t 21), none⟩, ⟨some 23, .ld1 (.t 22), none⟩, ⟨some 24, .call (.f 132) [(.t 23)], none⟩, ⟨some 25, .lit 23 1 1 [.nilsl] [(0, (.t 24))], none⟩, ⟨some 26, .app 23 1 24 [.nilsl] (.t 18) (.t 25), none⟩, ⟨some 27, .fa 0 (.t 3), none⟩, ⟨none, .st 1 (.t 27) (.t 26), none⟩])) (.reg false [⟨some 15, .mv (.t 4), none⟩, ⟨some 16, .bin .add (.t 15) (.c (.int .i64 1)), none⟩, ⟨some 4, .mv (.t 16), none⟩])))))) (.seq (.reg false [⟨some 28, .ld 2 (.t 3), none⟩, ⟨none, .st 2 (.t 2) (.t 28), none⟩]) .ret)))), 29, [(.ca 2 2)]⟩
theorem k_spec_l01Copy : compF Tryz.prog Tryz.f103 = some c_spec_l01Copy := by kernel_rfl
def c_spec_l01DrawOf : F := ⟨(.seq (.reg false [⟨some 4, .alloc 30 [.nilsl, .nilsl], none⟩]) (.seq (.reg false [⟨some 11, .mv (.t 0), none⟩, ⟨some 12, .mv (.t 1), none⟩, ⟨some 13, .mv (.t 0), none⟩, ⟨some 14, .lit 2 1 5 [(.int .i64 0)] [(0, (.c (.int .i64 1))), (1, (.c (.int .i64 2))), (2, (.c (.int .i64 3))), (3, (.c (.int .i64 9))), (4, (.c (.int .i64 20)))], none⟩, ⟨some 15, .call (.f 104) [(.t 13), (.t 14)], none⟩, ⟨some 16, .call (.f 133) [(.t 11), (.t 12), (.t 15)], none⟩, ⟨some 17, .lit 2 1 0 [(.int .i64 0)] [], none⟩, ⟨some 18, .build [.nilsl, .nilsl] [(0, (1, (.t 16))), (1, (1, (.t 17)))], none⟩, ⟨some 5, .alloc 30 [.nilsl, .nilsl], none⟩, ⟨none, .st 2 (.t 5) (.t 18), none⟩]) (.seq (.seq (.reg false [⟨some 19, .mv (.t 0), none⟩, ⟨some 20, .call (.f 89) [(.t 19), (.c (.int .i64 4))], none⟩]) (.block 0 (.seq (.reg false [⟨some 22, .bin .eql (.t 20) (.c (.int .i64 0)), none⟩, ⟨some 21, .mv (.t 22), none⟩]) (.cond (.t 21) (.reg false [⟨some 23, .mv (.t 0), none⟩, ⟨some 24, .mv (.t 1), none⟩, ⟨some 25, .call (.f 134) [(.t 23), (.t 24)], none⟩, ⟨some 26, .fa 0 (.t 5), none⟩, ⟨none, .st 1 (.t 26) (.t 25), none⟩]) (.seq (.reg false [⟨some 28, .bin .eql (.t 20) (.c (.int .i64 1)), none⟩, ⟨some 27, .mv (.t 28), none⟩]) (.cond (.t 27) (.seq (.reg false [⟨some 6, .mv (.c (.int .i64 0)), none⟩]) (.block 1 (.loop (.seq (.seq (.reg false [⟨some 29, .mv (.t 6), none⟩, ⟨some 30, .mv (.t 1), none⟩, ⟨some 31, .bin .lss (.t 29) (.t 30), none⟩]) (.cond (.t 31) .skip (.exit 1))) (.seq (.block 2 (.seq (.reg false [⟨some 34, .fa 0 (.t 5), none⟩, ⟨some 35, .ld1 (.t 34), none⟩, ⟨some 36, .mv (.t 6), none⟩, ⟨some 37, .ia 1 (.t 35) (.t 36), none⟩, ⟨some 38, .ld1 (.t 37), none⟩, ⟨some 7, .mv (.t 38), none⟩]) (.seq (.reg false [⟨some 8, .mv (.c (.int .i64 0)), none⟩]) (.block 3 (.loop (.seq (.seq (.reg false [⟨some 39, .mv (.t 8), none⟩, ⟨some 40, .mv (.t 6), none⟩, ⟨some 41, .bin .lss (.t 39) (.t 40), none⟩]) (.cond (.t 41) .skip (.exit 3))) (.seq (.block 4 (.reg false [⟨some 44, .mv (.t 7), none⟩, ⟨some 45, .mv (.t 8), none⟩, ⟨some 46, .fa 0 (.t 5), none⟩, ⟨some 47, .ld1 (.t 46), none⟩, ⟨some 48, .mv (.t 8), none⟩, ⟨some 49, .ia 1 (.t 47) (.t 48), none⟩, ⟨some 50, .ld1 (.t 49), none⟩, ⟨some 51, .mv (.t 6), none⟩, ⟨some 52, .ia 1 (.t 50) (.t 51), none⟩, ⟨some 53, .ld1 (.t 52), none⟩, ⟨some 54, .ia 1 (.t 44) (.t 45), none⟩, ⟨none, .st 1 (.t 54) (.t 53), none⟩])) (.reg false [⟨some 42, .mv (.t 8), none⟩, ⟨some 43, .bin .add (.t 42) (.c (.int .i64 1)), none⟩, ⟨some 8, .mv (.t 43), none⟩])))))))) (.reg false [⟨some 32, .mv (.t 6), none⟩, ⟨some 33, .bin .add (.t 32) (.c (.int .i64 1)), none⟩, ⟨some 6, .mv (.t 33), none⟩])))))) .skip)))))) (.seq (.reg false [⟨some 55, .mv (.t 0), none⟩, ⟨some 56, .lit 2 1 5 [(.int .i64 0)] [(0, (.c (.int .i64 1))), (1, (.c (.int .i64 2))), (2, (.c (.int .i64 5))), (3, (.c (.int .i64 20))), (4, (.c (.int .i64 100)))], none⟩, ⟨some 57, .call (.f 104) [(.t 55), (.t 56)], none⟩, ⟨some 9, .mv (.t 57), none⟩]) (.seq (.seq (.reg false [⟨some 10, .mv (.c (.int .i64 0)), none⟩]) (.block 5 (.loop (.seq (.seq (.reg false [⟨some 58, .mv (.t 10), none⟩, ⟨some 59, .mv (.t 1), none⟩, ⟨some 60, .bin .lss (.t 58) (.t 59), none⟩]) (.cond (.t 60) .skip (.exit 5))) (.seq (.block 6 (.seq (.reg true [⟨some 63, .fa 1 (.t 5), none⟩, ⟨some 64, .ld1 (.t 63), none⟩, ⟨some 65, .mv (.t 0), none⟩, ⟨some 66, .mv (.t 9), none⟩, ⟨some 67, .callp (.f 90) [(.t 65), (.t 66)], none⟩, ⟨some 68, .lit 2 1 1 [(.int .i64 0)] [(0, (.t 67))], none⟩, ⟨some 69, .app 2 1 8 [(.int .i64 0)] (.t 64) (.t 68), none⟩, ⟨some 70, .fa 1 (.t 5), none⟩, ⟨none, .st 1 (.t 70) (.t 69), none⟩]) (.chk [((.t 65), (.t 63))]))) (.reg false [⟨some 61, .mv (.t 10), none⟩, ⟨some 62, .bin .add (.t 61) (.c (.int .i64 1)), none⟩, ⟨some 10, .mv (.t 62), none⟩])))))) (.seq (.reg false [⟨some 71, .ld 2 (.t 5), none⟩, ⟨none, .st 2 (.t 4) (.t 71), none⟩]) .ret)))))), 72, [(.ca 4 2)]⟩
theorem k_spec_l01DrawOf : compF Tryz.prog Tryz.f105 = some c_spec_l01DrawOf := by kernel_rfl

section
variable {w : Bool} {lo hi : Nat} {h : AH} {v u : AV} {vs : List AV} {ll : List (List Int)} {q : List Int}
set_option maxHeartbeats 1000000 in
theorem spec_l01Copy (s : Prob w lo hi h v u vs ll q) (hl : ll.length ≤ 1048576) (hll : ∀ l ∈ ll, l.length ≤ 1048576) (hq : q.length ≤ 1048576) (n : Nat) (hn : hi ≤ n) :
    FQ Tryz.prog 103 [.agg [v, u]] h n fun x h' n' => ∃ v' u' vs' c, x = .agg [v', u'] ∧ GrowE (n + 1 + 1) (c + 1) n' h' 23 v' vs' ll ∧ Acc (n + 1 + 1 + 1) c h' 2 1 u' (ints q) ∧ n + 1 + 1 + 1 ≤ c := by
  refine fq_intro Tryz.func103 k_spec_l01Copy ?_
  have o1 := one_any (Sl.any s.M.out)
  have o2 := one_any (Sl.any s.Q)
  have p2 := sto_any (Sl.any s.Q)
  simp (maxSteps := 2000000) -implicitDefEqProofs (disch := omega) only [c_spec_l01Copy, o1, o2, p2, xsW, xsC, xsD, xsE, fillA, reduceCtorEq, Nat.reduceAdd, Nat.reduceSub, Nat.reduceLeDiff, Nat.reduceMul, Int.reduceLT, Int.reduceLE, Int.reduceEq, Int.reduceNe, Int.reduceAdd, Int.reduceSub, Int.reduceMul, Int.reduceNeg, Int.reduceToNat]
  refine fq_use (spec_l01OwnA (s.Q.keep (fun i _ hi9 => by simp (disch := omega) only [upd_other])) hq _ (by omega)) fun u' h1 c hc hs1 a1 => ?_
  have x1 := one_any a1.any
  have x2 := sto_any a1.any
  have x3 := cel_any a1.any
  simp (maxSteps := 2000000) -implicitDefEqProofs (disch := omega) only [xsW, xsC, xsD, xsE, fillA, reduceCtorEq, Nat.reduceAdd, Nat.reduceSub, Nat.reduceLeDiff, Nat.reduceMul, Int.reduceLT, Int.reduceLE, Int.reduceEq, Int.reduceNe, Int.reduceAdd, Int.reduceSub, Int.reduceMul, Int.reduceNeg, Int.reduceToNat,  x1, x2, x3]
  have hN : h1 n = some ⟨30, [v, u], true, 0⟩ := by rw [hs1 n (by omega), upd_other (by omega), upd_other (by omega), upd_same]
  have hN1 : h1 (n + 1) = some ⟨30, [.nilsl, .nilsl], true, 0⟩ := by rw [hs1 (n + 1) (by omega), upd_other (by omega), upd_same]
  have hN2 : h1 (n + 1 + 1) = some ⟨23, [], true, 0⟩ := by rw [hs1 _ (by omega), upd_same]
  have sM : Rows w lo hi h1 v vs ll := s.M.keep fun i _ b => by rw [hs1 i (by omega), upd_other (by omega), upd_other (by omega), upd_other (by omega)]
  refine loop_for ll.length 0 (fun k p => [.agg [v, u], .ptr n 0, .ptr (n + 1) 0, .ptr c 0, .int .i64 k, .any, .any, .any, .any, .any, .any, .any, .any, .any, .any, .any, .any, .any, .any, .any, .any, .any, .any, .any, .any, .any, .any, .any, .any]) (fun k (p : AV × List AV × AH) => p.2.2)
    (fun k p m => GrowE (n + 1 + 1) (c + 1) m p.2.2 23 p.1 p.2.1 (ll.take k) ∧ p.2.2 c = some ⟨30, [p.1, u'], true, 0⟩ ∧ ∀ j, j < c → p.2.2 j = h1 j) (.sl (n + 1 + 1) 0 0 0, [], upd h1 c (some ⟨30, [.sl (n + 1 + 1) 0 0 0, u'], true, 0⟩)) (Nat.zero_le _)
    ⟨⟨Nat.le_refl _, by omega, AccE.start ((upd_other (by omega)).trans hN2) rfl, RowsV.nil, fun j hj => absurd hj (Nat.not_lt_zero _)⟩, upd_same _ _ _, fun j hj => upd_other (by omega)⟩ (by simp [LeL, Le1]) (fun _ _ h => h) ?_
  rintro k ⟨out, ws, hp⟩ m - hk hm ⟨g, gc, go⟩
  simp only at g gc go
  have pN := (go n (by omega)).trans hN
  have sMp := sM.keep (h' := hp) fun i _ b => go i (by omega)
  simp (maxSteps := 2000000) -implicitDefEqProofs (disch := omega) only [xsW, xsC, xsD, xsE, fillA, reduceCtorEq, Nat.reduceAdd, Nat.reduceSub, Nat.reduceLeDiff, Nat.reduceMul, Int.reduceLT, Int.reduceLE, Int.reduceEq, Int.reduceNe, Int.reduceAdd, Int.reduceSub, Int.reduceMul, Int.reduceNeg, Int.reduceToNat,  pN, sMp.ln]
  (refine cd_dec (fun c1 => ?_) (fun c1 => ?_) <;> simp (maxSteps := 2000000) -implicitDefEqProofs (disch := omega) only [xsW, xsC, xsD, xsE, fillA, reduceCtorEq, Nat.reduceAdd, Nat.reduceSub, Nat.reduceLeDiff, Nat.reduceMul, Int.reduceLT, Int.reduceLE, Int.reduceEq, Int.reduceNe, Int.reduceAdd, Int.reduceSub, Int.reduceMul, Int.reduceNeg, Int.reduceToNat,  c1])
  · have hk' : k < ll.length := by omega
    have hb := sMp.out.below (by rw [sMp.slen]; omega)
    simp (maxSteps := 2000000) -implicitDefEqProofs (disch := omega) only [xsW, xsC, xsD, xsE, fillA, reduceCtorEq, Nat.reduceAdd, Nat.reduceSub, Nat.reduceLeDiff, Nat.reduceMul, Int.reduceLT, Int.reduceLE, Int.reduceEq, Int.reduceNe, Int.reduceAdd, Int.reduceSub, Int.reduceMul, Int.reduceNeg, Int.reduceToNat,  gc, pN, sMp.ia, sMp.ld]
    refine fq_use (spec_l01Own (sMp.row k hk') (hll _ (getD_mem hk')) m (by omega)) fun v1 h2 n2 hn2 hs2 hv1 => ?_
    have y1 := one_any (Sl.any hv1)
    have y2 := sto_any (Sl.any hv1)
    have y3 := cel_any (Sl.any hv1)
    simp (maxSteps := 2000000) -implicitDefEqProofs (disch := omega) only [xsW, xsC, xsD, xsE, fillA, reduceCtorEq, Nat.reduceAdd, Nat.reduceSub, Nat.reduceLeDiff, Nat.reduceMul, Int.reduceLT, Int.reduceLE, Int.reduceEq, Int.reduceNe, Int.reduceAdd, Int.reduceSub, Int.reduceMul, Int.reduceNeg, Int.reduceToNat,  y1, y2, y3]
    refine g.app (hv1.keep (fun i _ hi9 => by simp (disch := omega) only [upd_other])) (fun i _ hi9 => by simp (disch := omega) only [upd_other, hs2]) (by rw [upd_other (by omega), hs2 _ (by omega)]) hn2 (by omega) (by omega) ⟨rfl, _, upd_same _ _ _, by simp, by simp [cutA]⟩ (by simp; omega) fun out' h' n' q1 q2 q3 => ?_
    have h'c : h' c = some ⟨30, [out, u'], true, 0⟩ := by rw [q3 c (by omega), upd_other (by omega), hs2 c (by omega), gc]
    have z1 := one_any q2.acc.any
    have z2 := sto_any q2.acc.any
    have z3 := cel_any q2.acc.any
    have hle := g.le
    simp (maxSteps := 2000000) -implicitDefEqProofs (disch := omega) only [xsW, xsC, xsD, xsE, fillA, reduceCtorEq, Nat.reduceAdd, Nat.reduceSub, Nat.reduceLeDiff, Nat.reduceMul, Int.reduceLT, Int.reduceLE, Int.reduceEq, Int.reduceNe, Int.reduceAdd, Int.reduceSub, Int.reduceMul, Int.reduceNeg, Int.reduceToNat,  h'c, z1, z2, z3]
    refine ⟨(out', ws ++ [v1], _), ⟨by rw [take_succ_getD (d := []) hk']; exact q2.keep (fun i a b => upd_other (by omega)) (upd_other (by omega)), upd_same _ _ _, fun j hj => ?_⟩, by omega, by omega, (by simp [LeL, Le1]), fun _ _ h => h⟩
    show upd h' c _ j = h1 j
    rw [upd_other (by omega), q3 j (by omega), upd_other (by omega), hs2 j (by omega), go j hj]
  · have e : k = ll.length := by omega
    subst e
    rw [List.take_length] at g
    have pN1 := (go (n + 1) (by omega)).trans hN1
    have hle := g.le
    have z1 := one_any g.acc.any
    have z2 := sto_any g.acc.any
    simp (maxSteps := 2000000) -implicitDefEqProofs (disch := omega) only [xsW, xsC, xsD, xsE, fillA, reduceCtorEq, Nat.reduceAdd, Nat.reduceSub, Nat.reduceLeDiff, Nat.reduceMul, Int.reduceLT, Int.reduceLE, Int.reduceEq, Int.reduceNe, Int.reduceAdd, Int.reduceSub, Int.reduceMul, Int.reduceNeg, Int.reduceToNat,  gc, pN1, x1, x2, z1, z2]
    intro _ h2 hh
    have ha : ∀ i, n ≤ i → i < m → i ≠ n + 1 → h2 i = hp i := fun i a b hne => by rw [hh i a b, upd_other hne]
    exact ⟨out, u', ws, c, ⟨rfl, rfl⟩, g.keep (fun i a b => ha i (by omega) b (by omega)) (ha _ (by omega) (by omega) (by omega)), a1.keep fun i a b => by rw [ha i (by omega) (by omega) (by omega), go i b], by omega⟩
end
section
variable {bnd b : Nat} {h : AH}
set_option maxRecDepth 100000 in
set_option maxHeartbeats 4000000 in
theorem spec_l01DrawOf (r : Rnd bnd b h) (hb : bnd ≤ b) (N : Nat) (hN1 : 1 ≤ N) (hN : N ≤ 5) (n : Nat) (hn : b < n) :
    MQ Tryz.prog 105 [.ptr b 0, .int .i64 N] h n b (b + 1) fun x h' n' => ∃ v u vs ll q, x = .agg [v, u] ∧ Prob false n n' h' v u vs ll q ∧ SqM N 1000 ll ∧ q.length = N ∧ Rnd bnd b h' ∧ ∀ j, j < n → j ≠ b → h' j = h j := by
  refine mq_intro Tryz.func105 k_spec_l01DrawOf ?_
  simp (maxSteps := 2000000) -implicitDefEqProofs (disch := omega) only [c_spec_l01DrawOf, xsW, xsC, xsD, xsE, fillA, reduceCtorEq, Nat.reduceAdd, Nat.reduceSub, Nat.reduceLeDiff, Nat.reduceMul, Int.reduceLT, Int.reduceLE, Int.reduceEq, Int.reduceNe, Int.reduceAdd, Int.reduceSub, Int.reduceMul, Int.reduceNeg, Int.reduceToNat]
  refine mq_use (spec_l01Pick (b := b) (bnd := bnd) (w := true) (lo := n + 1) (hi := n + 1 + 1) (l := [1, 2, 3, 9, 20]) (r.keep (by rw [upd_other (by omega), upd_other (by omega)]) fun j hj => by rw [upd_other (by omega), upd_other (by omega)]) hb (Sl.of_sl (upd_same _ _ _) rfl (Nat.le_refl _) (Nat.le_refl _) (by omega)) (by omega) (by simp) (by simp) _ (by omega)) (fun i a c => .inr ⟨by omega, by omega⟩) fun x1 h1 n1 hn1 ⟨en, ⟨z, hz, z0⟩, r1, sm1⟩ => ?_
  subst en; subst hz
  simp only [List.mem_cons, List.not_mem_nil, or_false] at z0
  have o1 : ∀ j, j < n → j ≠ b → h1 j = h j := fun j hj hne => by rw [sm1 j hne, upd_other (by omega), upd_other (by omega)]
  have c1 : h1 n = some ⟨30, [.nilsl, .nilsl], true, 0⟩ := by rw [sm1 n (by omega), upd_other (by omega), upd_same]
  simp (maxSteps := 2000000) -implicitDefEqProofs (disch := omega) only [xsW, xsC, xsD, xsE, fillA, reduceCtorEq, Nat.reduceAdd, Nat.reduceSub, Nat.reduceLeDiff, Nat.reduceMul, Int.reduceLT, Int.reduceLE, Int.reduceEq, Int.reduceNe, Int.reduceAdd, Int.reduceSub, Int.reduceMul, Int.reduceNeg, Int.reduceToNat]
  refine mq_use (spec_l01DrawM r1 hb N z (by omega) (by omega) (by omega) _ (by omega)) (fun i a c => .inr ⟨by omega, by omega⟩) fun v' h2 e hn2 ⟨vs, ll, s2, q2, r2, o2⟩ => ?_
  have o2' : ∀ j, j < n → j ≠ b → h2 j = h j := fun j hj hne => by rw [o2 j (by omega) hne, o1 j hj hne]
  have c2 : h2 n = some ⟨30, [.nilsl, .nilsl], true, 0⟩ := by rw [o2 n (by omega) (by omega), c1]
  have x1 := one_any (Sl.any s2.out)
  have x2 := sto_any (Sl.any s2.out)
  have x3 := cel_any (Sl.any s2.out)
  have hh3 : ∀ j, j < e → (upd (upd h2 e (some ⟨2, [], true, 0⟩)) (e + 1) (some ⟨30, [v', .sl e 0 0 0], true, 0⟩)) j = h2 j := fun j hj => by rw [upd_other (by omega), upd_other (by omega)]
  have hhe : (upd (upd h2 e (some ⟨2, [], true, 0⟩)) (e + 1) (some ⟨30, [v', .sl e 0 0 0], true, 0⟩)) e = some ⟨2, [], true, 0⟩ := by rw [upd_other (by omega), upd_same]
  have hhc : (upd (upd h2 e (some ⟨2, [], true, 0⟩)) (e + 1) (some ⟨30, [v', .sl e 0 0 0], true, 0⟩)) (e + 1) = some ⟨30, [v', .sl e 0 0 0], true, 0⟩ := upd_same _ _ _
  simp (maxSteps := 2000000) -implicitDefEqProofs (disch := omega) only [xsW, xsC, xsD, xsE, fillA, reduceCtorEq, Nat.reduceAdd, Nat.reduceSub, Nat.reduceLeDiff, Nat.reduceMul, Int.reduceLT, Int.reduceLE, Int.reduceEq, Int.reduceNe, Int.reduceAdd, Int.reduceSub, Int.reduceMul, Int.reduceNeg, Int.reduceToNat,  x1, x2, x3]
  generalize (upd (upd h2 e (some ⟨2, [], true, 0⟩)) (e + 1) (some ⟨30, [v', .sl e 0 0 0], true, 0⟩)) = h3 at hh3 hhe hhc ⊢
  have r3 : Rnd bnd b h3 := r2.keep (hh3 b (by omega)) fun j hj => hh3 j (by omega)
  refine mq_use (spec_l01Next r3 hb 4 _ (by omega)) (fun i a c => .inr ⟨by omega, by omega⟩) fun x4 h4 n4 hn4 ⟨en, ⟨y, hy, y0, y1, _⟩, r4, sm4⟩ => ?_
  subst en; subst hy
  have y2 := y1 (by omega)
  have s4 : Rows true (n + 1 + 1) e h4 v' vs ll := s2.keep fun j a c => by rw [sm4 j (by omega), hh3 j c]
  have c4 : h4 n = some ⟨30, [.nilsl, .nilsl], true, 0⟩ := by rw [sm4 n (by omega), hh3 n (by omega), c2]
  have d4 : h4 (e + 1) = some ⟨30, [v', .sl e 0 0 0], true, 0⟩ := by rw [sm4 _ (by omega), hhc]
  have e4 : h4 e = some ⟨2, [], true, 0⟩ := by rw [sm4 _ (by omega), hhe]
  have o4 : ∀ j, j < n → j ≠ b → h4 j = h j := fun j hj hne => by rw [sm4 j hne, hh3 j (by omega), o2' j hj hne]
  simp (maxSteps := 2000000) -implicitDefEqProofs (disch := omega) only [xsW, xsC, xsD, xsE, fillA, reduceCtorEq, Nat.reduceAdd, Nat.reduceSub, Nat.reduceLeDiff, Nat.reduceMul, Int.reduceLT, Int.reduceLE, Int.reduceEq, Int.reduceNe, Int.reduceAdd, Int.reduceSub, Int.reduceMul, Int.reduceNeg, Int.reduceToNat]
  refine cd_dec (fun c0 => ?_) (fun c0 => ?_) <;> simp (maxSteps := 2000000) -implicitDefEqProofs (disch := omega) only [xsW, xsC, xsD, xsE, fillA, reduceCtorEq, Nat.reduceAdd, Nat.reduceSub, Nat.reduceLeDiff, Nat.reduceMul, Int.reduceLT, Int.reduceLE, Int.reduceEq, Int.reduceNe, Int.reduceAdd, Int.reduceSub, Int.reduceMul, Int.reduceNeg, Int.reduceToNat,  c0]
  refine mq_use (spec_l01DrawP r4 hb N (by omega) _ (by omega)) (fun i a c => .inr ⟨by omega, by omega⟩) fun v h5 m5 hn5 ⟨vs, ll, s5, q5, r5, o5⟩ => ?_
  have d5 : h5 (e + 1) = some ⟨30, [v', .sl e 0 0 0], true, 0⟩ := by rw [o5 _ (by omega) (by omega), d4]
  have e5 : h5 e = some ⟨2, [], true, 0⟩ := by rw [o5 _ (by omega) (by omega), e4]
  have c5 : h5 n = some ⟨30, [.nilsl, .nilsl], true, 0⟩ := by rw [o5 _ (by omega) (by omega), c4]
  have w1 := one_any (Sl.any s5.out)
  have w2 := sto_any (Sl.any s5.out)
  have w3 := cel_any (Sl.any s5.out)
  simp (maxSteps := 2000000) -implicitDefEqProofs (disch := omega) only [xsW, xsC, xsD, xsE, fillA, reduceCtorEq, Nat.reduceAdd, Nat.reduceSub, Nat.reduceLeDiff, Nat.reduceMul, Int.reduceLT, Int.reduceLE, Int.reduceEq, Int.reduceNe, Int.reduceAdd, Int.reduceSub, Int.reduceMul, Int.reduceNeg, Int.reduceToNat,  d5, w1, w2, w3]
  have k5 : ∃ rl rh, Rows true rl rh (upd h5 (e + 1) (some ⟨30, [v, .sl e 0 0 0], true, 0⟩)) v vs ll ∧ SqM N 1000 ll ∧ n < rl ∧ rh ≤ m5 ∧ (rh ≤ e ∨ e + 1 < rl) := ⟨e + 1 + 1, m5, s5.keep fun i a c => upd_other (by omega), q5, by omega, by omega, by omega⟩
  replace r5 : Rnd bnd b (upd h5 (e + 1) (some ⟨30, [v, .sl e 0 0 0], true, 0⟩)) := r5.keep (upd_other (by omega)) fun j hj => upd_other (by omega)
  replace o5 : ∀ j, j < n → j ≠ b → (upd h5 (e + 1) (some ⟨30, [v, .sl e 0 0 0], true, 0⟩)) j = h j := fun j hj hne => by rw [upd_other (by omega), o5 j (by omega) hne, o4 j hj hne]
  replace d5 : (upd h5 (e + 1) (some ⟨30, [v, .sl e 0 0 0], true, 0⟩)) (e + 1) = some ⟨30, [v, .sl e 0 0 0], true, 0⟩ := upd_same _ _ _
  replace e5 : (upd h5 (e + 1) (some ⟨30, [v, .sl e 0 0 0], true, 0⟩)) e = some ⟨2, [], true, 0⟩ := by rw [upd_other (by omega), e5]
  replace c5 : (upd h5 (e + 1) (some ⟨30, [v, .sl e 0 0 0], true, 0⟩)) n = some ⟨30, [.nilsl, .nilsl], true, 0⟩ := by rw [upd_other (by omega), c5]
  generalize (upd h5 (e + 1) (some ⟨30, [v, .sl e 0 0 0], true, 0⟩)) = hx at k5 r5 o5 d5 e5 c5 ⊢
  replace hn5 : e + 1 + 1 ≤ m5 := hn5
  rotate_left
  refine cd_dec (fun c0' => ?_) (fun c0' => ?_) <;> simp (maxSteps := 2000000) -implicitDefEqProofs (disch := omega) only [xsW, xsC, xsD, xsE, fillA, reduceCtorEq, Nat.reduceAdd, Nat.reduceSub, Nat.reduceLeDiff, Nat.reduceMul, Int.reduceLT, Int.reduceLE, Int.reduceEq, Int.reduceNe, Int.reduceAdd, Int.reduceSub, Int.reduceMul, Int.reduceNeg, Int.reduceToNat,  c0']
  obtain ⟨v, rfl⟩ : ∃ v, v = v' := ⟨_, rfl⟩
  refine loop_for N 0 (fun k p => [.ptr b 0, .int .i64 N, .any, .any, .ptr n 0, .ptr (e + 1) 0, .int .i64 k, .any, .any, .any, .any, .any, .any, .any, .any, .any, .any, .any, .any, .any, .any, .any, .any, .any, .any, .any, .any, .any, .any, .any, .any, .any, .any, .any, .any, .any, .any, .any, .any, .any, .any, .any, .any, .any, .any, .any, .any, .any, .any, .any, .any, .any, .any, .any, .any, .any, .any, .any, .any, .any, .any, .any, .any, .any, .any, .any, .any, .any, .any, .any, .any, .any]) (fun k (p : List (List Int) × AH) => p.2)
    (fun k p m => St bnd b h4 (n + 1 + 1) e N v vs p.1 p.2 ∧ ∀ j, e ≤ j → p.2 j = h4 j) (ll, h4) (Nat.zero_le _) ⟨⟨s4, q2.le (by omega), r4, fun _ _ _ => rfl⟩, fun _ _ => rfl⟩ (by simp [LeL, Le1]) (fun _ _ h => h) ?_
  rintro i ⟨ll, hx⟩ m5 - hi1 hn5 ⟨t, tf⟩
  simp only at t tf
  have d5 := (tf (e + 1) (by omega)).trans d4
  have hlen := t.q.1
  simp (maxSteps := 2000000) -implicitDefEqProofs (disch := omega) only [xsW, xsC, xsD, xsE, fillA, reduceCtorEq, Nat.reduceAdd, Nat.reduceSub, Nat.reduceLeDiff, Nat.reduceMul, Int.reduceLT, Int.reduceLE, Int.reduceEq, Int.reduceNe, Int.reduceAdd, Int.reduceSub, Int.reduceMul, Int.reduceNeg, Int.reduceToNat]
  refine cd_dec (fun c1' => ?_) (fun c1' => ?_) <;> simp (maxSteps := 2000000) -implicitDefEqProofs (disch := omega) only [xsW, xsC, xsD, xsE, fillA, reduceCtorEq, Nat.reduceAdd, Nat.reduceSub, Nat.reduceLeDiff, Nat.reduceMul, Int.reduceLT, Int.reduceLE, Int.reduceEq, Int.reduceNe, Int.reduceAdd, Int.reduceSub, Int.reduceMul, Int.reduceNeg, Int.reduceToNat,  c1']
  · have hi2 : i < N := by omega
    have hout := t.s.out.below (by rw [t.s.slen, t.q.1]; omega)
    simp (maxSteps := 2000000) -implicitDefEqProofs (disch := omega) only [xsW, xsC, xsD, xsE, fillA, reduceCtorEq, Nat.reduceAdd, Nat.reduceSub, Nat.reduceLeDiff, Nat.reduceMul, Int.reduceLT, Int.reduceLE, Int.reduceEq, Int.reduceNe, Int.reduceAdd, Int.reduceSub, Int.reduceMul, Int.reduceNeg, Int.reduceToNat,  d5, t.s.ia, t.s.ld]
    refine loop_for i 0 (fun k p => [.ptr b 0, .int .i64 N, .any, .any, .ptr n 0, .ptr (e + 1) 0, .int .i64 i, vs.getD i .any, .int .i64 k, .any, .any, .any, .any, .any, .any, .any, .any, .any, .any, .any, .any, .any, .any, .any, .any, .any, .any, .any, .any, .any, .any, .any, .any, .any, .any, .any, .any, .any, .any, .any, .any, .any, .any, .any, .any, .any, .any, .any, .any, .any, .any, .any, .any, .any, .any, .any, .any, .any, .any, .any, .any, .any, .any, .any, .any, .any, .any, .any, .any, .any, .any, .any]) (fun k (p : List (List Int) × AH) => p.2)
      (fun k p m => St bnd b h4 (n + 1 + 1) e N v vs p.1 p.2 ∧ ∀ j, e ≤ j → p.2 j = h4 j) (ll, hx) (Nat.zero_le _) ⟨t, tf⟩ (by simp [LeL, Le1]) (fun _ _ h => h) ?_
    rintro k ⟨l5, hq⟩ m2 - hk1 hm2 ⟨t5, tf5⟩
    simp only at t5 tf5
    have d6 := (tf5 (e + 1) (by omega)).trans d4
    have hlen5 := t5.q.1
    simp (maxSteps := 2000000) -implicitDefEqProofs (disch := omega) only [xsW, xsC, xsD, xsE, fillA, reduceCtorEq, Nat.reduceAdd, Nat.reduceSub, Nat.reduceLeDiff, Nat.reduceMul, Int.reduceLT, Int.reduceLE, Int.reduceEq, Int.reduceNe, Int.reduceAdd, Int.reduceSub, Int.reduceMul, Int.reduceNeg, Int.reduceToNat]
    (refine cd_dec (fun c2 => ?_) (fun c2 => ?_) <;> simp (maxSteps := 2000000) -implicitDefEqProofs (disch := omega) only [xsW, xsC, xsD, xsE, fillA, reduceCtorEq, Nat.reduceAdd, Nat.reduceSub, Nat.reduceLeDiff, Nat.reduceMul, Int.reduceLT, Int.reduceLE, Int.reduceEq, Int.reduceNe, Int.reduceAdd, Int.reduceSub, Int.reduceMul, Int.reduceNeg, Int.reduceToNat,  c2])
    · have hk2 : k < N := by omega
      have hbw := t5.below hi2
      have hbk := t5.below hk2
      have hrow := t5.row hi2
      have hrk := t5.row hk2
      have hl1 := (t5.q.row hi2).1
      have hl2 := (t5.q.row hk2).1
      have hx := t5.num hk2 hi2
      have hout5 := t5.s.out.below (by rw [t5.s.slen, t5.q.1]; omega)
      have e1 := fun K => Ints.st hrow (k := k) (x := (l5.getD k []).getD i 0) (n0 := n) (n := m2) (W := fun i => b ≤ i ∧ i < b + 1) (by omega) (fun i a b => .inl (by omega)) (by omega) K
      simp (maxSteps := 2000000) -implicitDefEqProofs (disch := omega) only [xsW, xsC, xsD, xsE, fillA, reduceCtorEq, Nat.reduceAdd, Nat.reduceSub, Nat.reduceLeDiff, Nat.reduceMul, Int.reduceLT, Int.reduceLE, Int.reduceEq, Int.reduceNe, Int.reduceAdd, Int.reduceSub, Int.reduceMul, Int.reduceNeg, Int.reduceToNat,  d6, t5.s.ia, t5.s.ld, hrow.ia, hrk.ia, hrk.ld, e1]
      exact ⟨(_, _), ⟨t5.store hb (by omega) hi2 hk2 (x := (l5.getD k []).getD i 0) (by omega) (by omega), fun j hj => (wr_other (by omega)).trans (tf5 j hj)⟩, by omega, by omega, (by simp [LeL, Le1]), fun _ _ h => h⟩
    · exact ⟨(l5, hq), ⟨t5, tf5⟩, by omega, by omega, (by simp [LeL, Le1]), fun _ _ h => h⟩
  have k5 : ∃ rl rh, Rows true rl rh hx v vs ll ∧ SqM N 1000 ll ∧ n < rl ∧ rh ≤ m5 ∧ (rh ≤ e ∨ e + 1 < rl) := ⟨n + 1 + 1, e, t.s, t.q, by omega, by omega, by omega⟩
  have r5 := t.r
  have o5 : ∀ j, j < n → j ≠ b → hx j = h j := fun j hj hne => by rw [t.o j (by omega) hne, o4 j hj hne]
  have e5 := (tf e (by omega)).trans e4
  have c5 : hx n = some ⟨30, [.nilsl, .nilsl], true, 0⟩ := by rw [t.o n (by omega) (by omega), c4]
  rotate_left
  obtain ⟨v, rfl⟩ : ∃ v, v = v' := ⟨_, rfl⟩
  obtain ⟨m5, hm5⟩ : ∃ m5, m5 = e + 1 + 1 := ⟨_, rfl⟩
  rw [← hm5]
  have hn5 : e + 1 + 1 ≤ m5 := by omega
  have k5 : ∃ rl rh, Rows true rl rh h4 v vs ll ∧ SqM N 1000 ll ∧ n < rl ∧ rh ≤ m5 ∧ (rh ≤ e ∨ e + 1 < rl) := ⟨n + 1 + 1, e, s4, q2.le (by omega), by omega, by omega, by omega⟩
  have r5 := r4
  have o5 := o4
  have d5 := d4
  have e5 := e4
  have c5 := c4
  generalize h4 = hx at k5 r5 o5 d5 e5 c5 ⊢
  all_goals
    obtain ⟨rl, rh, s6, q6, k1, k2, k3⟩ := k5
    refine mq_use (spec_l01Pick (b := b) (bnd := bnd) (w := true) (lo := m5) (hi := m5 + 1) (l := [1, 2, 5, 20, 100]) (r5.keep (upd_other (by omega)) fun j hj => upd_other (by omega)) hb (Sl.of_sl (upd_same _ _ _) rfl (Nat.le_refl _) (Nat.le_refl _) (by omega)) (by omega) (by simp) (by simp) _ (by omega)) (fun i a c => .inr ⟨by omega, by omega⟩) fun x7 h7 n7 hn7 ⟨en, ⟨zq, hz, zq0⟩, r7, sm7⟩ => ?_
    subst en; subst hz
    simp only [List.mem_cons, List.not_mem_nil, or_false] at zq0
    have f7 : ∀ j, j < m5 → j ≠ b → h7 j = hx j := fun j hj hne => by rw [sm7 j hne, upd_other (by omega)]
    simp (maxSteps := 2000000) -implicitDefEqProofs (disch := omega) only [xsW, xsC, xsD, xsE, fillA, reduceCtorEq, Nat.reduceAdd, Nat.reduceSub, Nat.reduceLeDiff, Nat.reduceMul, Int.reduceLT, Int.reduceLE, Int.reduceEq, Int.reduceNe, Int.reduceAdd, Int.reduceSub, Int.reduceMul, Int.reduceNeg, Int.reduceToNat]
    refine loop_for N 0 (fun k p => [.ptr b 0, .int .i64 N, .any, .any, .ptr n 0, .ptr (e + 1) 0, .any, .any, .any, .int .i64 zq, .int .i64 k, .any, .any, .any, .any, .any, .any, .any, .any, .any, .any, .any, .any, .any, .any, .any, .any, .any, .any, .any, .any, .any, .any, .any, .any, .any, .any, .any, .any, .any, .any, .any, .any, .any, .any, .any, .any, .any, .any, .any, .any, .any, .any, .any, .any, .any, .any, .any, .any, .any, .any, .any, .any, .any, .any, .any, .any, .any, .any, .any, .any, .any]) (fun k (p : AV × List Int × AH) => p.2.2)
      (fun k p m => AccE e (m5 + 1) m p.2.2 2 1 p.1 (ints p.2.1) ∧ p.2.1.length = k ∧ p.2.2 (e + 1) = some ⟨30, [v, p.1], true, 0⟩ ∧ Rnd bnd b p.2.2 ∧ ∀ j, j < m5 → j ≠ b → j ≠ e + 1 → p.2.2 j = hx j) (.sl e 0 0 0, [], h7) (Nat.zero_le _)
      ⟨AccE.start ((f7 e (by omega) (by omega)).trans e5) rfl, rfl, (f7 _ (by omega) (by omega)).trans d5, r7, fun j hj hne _ => f7 j hj hne⟩ (by simp [LeL, Le1]) (fun _ _ h => h) ?_
    rintro k ⟨uq, lq, hq⟩ mq - hk1 hm2 ⟨a, al, ad, ar, ao⟩
    simp only at a al ad ar ao
    obtain ⟨bl, hbl, hbw'⟩ := ar.blk
    simp (maxSteps := 2000000) -implicitDefEqProofs (disch := omega) only [xsW, xsC, xsD, xsE, fillA, reduceCtorEq, Nat.reduceAdd, Nat.reduceSub, Nat.reduceLeDiff, Nat.reduceMul, Int.reduceLT, Int.reduceLE, Int.reduceEq, Int.reduceNe, Int.reduceAdd, Int.reduceSub, Int.reduceMul, Int.reduceNeg, Int.reduceToNat]
    (refine cd_dec (fun c8 => ?_) (fun c8 => ?_) <;> simp (maxSteps := 2000000) -implicitDefEqProofs (disch := omega) only [xsW, xsC, xsD, xsE, fillA, reduceCtorEq, Nat.reduceAdd, Nat.reduceSub, Nat.reduceLeDiff, Nat.reduceMul, Int.reduceLT, Int.reduceLE, Int.reduceEq, Int.reduceNe, Int.reduceAdd, Int.reduceSub, Int.reduceMul, Int.reduceNeg, Int.reduceToNat,  c8])
    · simp (maxSteps := 2000000) -implicitDefEqProofs (disch := omega) only [xsW, xsC, xsD, xsE, fillA, reduceCtorEq, Nat.reduceAdd, Nat.reduceSub, Nat.reduceLeDiff, Nat.reduceMul, Int.reduceLT, Int.reduceLE, Int.reduceEq, Int.reduceNe, Int.reduceAdd, Int.reduceSub, Int.reduceMul, Int.reduceNeg, Int.reduceToNat,  ad]
      refine mqp_use (spec_l01DrawPart ar hb zq (by omega) (by omega) mq (by omega)) hbl hbw' (by omega) (.inr ⟨by omega, by omega⟩) (fun v' h' n' hR => ⟨hR.1, hR.2.2.2⟩) fun x9 h9 ⟨_, ⟨y9, hy, _, _⟩, r9, sm9⟩ => ?_
      subst hy
      simp (maxSteps := 2000000) -implicitDefEqProofs (disch := omega) only [xsW, xsC, xsD, xsE, fillA, reduceCtorEq, Nat.reduceAdd, Nat.reduceSub, Nat.reduceLeDiff, Nat.reduceMul, Int.reduceLT, Int.reduceLE, Int.reduceEq, Int.reduceNe, Int.reduceAdd, Int.reduceSub, Int.reduceMul, Int.reduceNeg, Int.reduceToNat]
      have aL := a.len
      rw [ints_len] at aL
      refine app_e (a.keep (h' := upd h9 mq (some ⟨2, [.int .i64 y9], true, 0⟩)) (fun j a1 a2 => by rw [upd_other (by omega), sm9 j (by omega)]) (by rw [upd_other (by omega), sm9 e (by omega)]) |>.wide (show mq ≤ mq + 1 by omega)) (by omega) (by omega) (xs := [.int .i64 y9]) ⟨rfl, _, upd_same _ _ _, by simp, by simp [cutA]⟩ rfl rfl (by omega) (by omega) fun uq' h' n' p1 p2 p3 p4 p5 => ?_
      have hlow : ∀ j, j < m5 + 1 → h' j = h9 j := fun j hj => by rw [p4 j (by omega) fun hh => by omega, upd_other (by omega)]
      have hc9 : h' (e + 1) = some ⟨30, [v, uq], true, 0⟩ := by rw [hlow _ (by omega), sm9 _ (by omega), ad]
      have u1 := one_any p3.any
      have u2 := sto_any p3.any
      have u3 := cel_any p3.any
      simp (maxSteps := 2000000) -implicitDefEqProofs (disch := omega) only [xsW, xsC, xsD, xsE, fillA, reduceCtorEq, Nat.reduceAdd, Nat.reduceSub, Nat.reduceLeDiff, Nat.reduceMul, Int.reduceLT, Int.reduceLE, Int.reduceEq, Int.reduceNe, Int.reduceAdd, Int.reduceSub, Int.reduceMul, Int.reduceNeg, Int.reduceToNat,  hc9, u1, u2, u3]
      refine ⟨by omega, (uq', lq ++ [y9], _), ⟨.inl (by rw [← ints_snoc]; exact p3.keep fun j a1 a2 => upd_other (by omega)), by simp [al], upd_same _ _ _, r9.keep ((upd_other (by omega)).trans (hlow b (by omega))) fun j hj => (upd_other (by omega)).trans (hlow j (by omega)), fun j hj h1 h2 => ?_⟩, by omega, by omega, (by simp [LeL, Le1]), fun _ _ h => h⟩
      show upd h' (e + 1) _ j = hx j
      rw [upd_other h2, hlow j (by omega), sm9 j h1, ao j hj h1 h2]
    · have hcn := (ao n (by omega) (by omega) (by omega)).trans c5
      have u1 := one_any a.any
      have u2 := sto_any a.any
      have w1 := one_any (Sl.any s6.out)
      have w2 := sto_any (Sl.any s6.out)
      simp (maxSteps := 2000000) -implicitDefEqProofs (disch := omega) only [xsW, xsC, xsD, xsE, fillA, reduceCtorEq, Nat.reduceAdd, Nat.reduceSub, Nat.reduceLeDiff, Nat.reduceMul, Int.reduceLT, Int.reduceLE, Int.reduceEq, Int.reduceNe, Int.reduceAdd, Int.reduceSub, Int.reduceMul, Int.reduceNeg, Int.reduceToNat,  ad, hcn, u1, u2, w1, w2]
      have sq : Ints true (n + 1) mq hq uq lq := a.sl (by omega) (by omega) (Nat.le_refl _) (by omega)
      exact ⟨v, uq, vs, ll, lq, ⟨rfl, rfl⟩, Prob.of_args ((s6.ro.keep fun i a1 a2 => by rw [upd_other (by omega), ao i (by omega) (by omega) (by omega)]).wide (by omega) (by omega)) ((sq.ro.keep fun i a1 a2 => upd_other (by omega)).wide (by omega) (Nat.le_refl _)), q6, by omega,
        ar.keep (upd_other (by omega)) fun j hj => upd_other (by omega), fun j hj hne => by rw [upd_other (by omega), ao j (by omega) hne (by omega), o5 j hj hne]⟩
end
def c_spec_l01Draw : F := ⟨(.seq (.reg false [⟨some 2, .alloc 30 [.nilsl, .nilsl], none⟩]) (.seq (.reg false [⟨some 3, .mv (.t 0), none⟩, ⟨some 4, .mv (.t 0), none⟩, ⟨some 5, .lit 2 1 8 [(.int .i64 0)] [(0, (.c (.int .i64 1))), (1, (.c (.int .i64 2))), (2, (.c (.int .i64 2))), (3, (.c (.int .i64 3))), (4, (.c (.int .i64 3))), (5, (.c (.int .i64 3))), (6, (.c (.int .i64 4))), (7, (.c (.int .i64 5)))], none⟩, ⟨some 6, .call (.f 104) [(.t 4), (.t 5)], none⟩, ⟨some 7, .call (.f 105) [(.t 3), (.t 6)], none⟩, ⟨none, .st 2 (.t 2) (.t 7), none⟩]) .ret)), 8, [(.ca 2 2)]⟩
theorem k_spec_l01Draw : compF Tryz.prog Tryz.f77 = some c_spec_l01Draw := by kernel_rfl
def c_spec_l01Bad : F := ⟨(.seq (.reg false [⟨some 3, .box 30 (.t 1), none⟩, ⟨some 4, .alloc 30 [.nilsl, .nilsl], none⟩]) (.seq (.seq (.reg false [⟨some 9, .mv (.t 0), none⟩, ⟨some 10, .call (.f 89) [(.t 9), (.c (.int .i64 50))], none⟩]) (.block 0 (.seq (.reg false [⟨some 12, .bin .eql (.t 10) (.c (.int .i64 0)), none⟩, ⟨some 11, .mv (.t 12), none⟩]) (.cond (.t 11) (.seq (.reg false [⟨some 13, .build [.nilsl, .nilsl] [], none⟩, ⟨none, .st 2 (.t 4) (.t 13), none⟩]) .ret) (.seq (.reg false [⟨some 15, .bin .eql (.t 10) (.c (.int .i64 1)), none⟩, ⟨some 14, .mv (.t 15), none⟩]) (.cond (.t 14) (.seq (.reg false [⟨some 16, .ld 2 (.t 3), none⟩, ⟨some 17, .call (.f 103) [(.t 16)], none⟩, ⟨some 5, .alloc 30 [.nilsl, .nilsl], none⟩, ⟨none, .st 2 (.t 5) (.t 17), none⟩]) (.seq (.seq (.reg true [⟨some 18, .fa 0 (.t 5), none⟩, ⟨some 19, .ld1 (.t 18), none⟩, ⟨some 20, .mv (.t 0), none⟩, ⟨some 21, .fa 0 (.t 5), none⟩, ⟨some 22, .ld1 (.t 21), none⟩, ⟨some 23, .len (.t 22), none⟩, ⟨some 24, .callp (.f 89) [(.t 20), (.t 23)], none⟩, ⟨some 25, .ia 1 (.t 19) (.t 24), none⟩, ⟨some 26, .ld1 (.t 25), none⟩, ⟨some 6, .mv (.t 26), none⟩]) (.chk [((.t 20), (.t 18))])) (.seq (.reg false [⟨some 27, .mv (.t 6), none⟩, ⟨some 28, .mv (.t 0), none⟩, ⟨some 29, .lit 2 1 3 [(.int .i64 0)] [(0, (.c (.int .i64 21))), (1, (.c (.int .i64 (-21)))), (2, (.c (.int .i64 1099511627776)))], none⟩, ⟨some 30, .call (.f 104) [(.t 28), (.t 29)], none⟩, ⟨some 31, .ia 1 (.t 27) (.c (.int .i64 0)), none⟩, ⟨none, .st 1 (.t 31) (.t 30), none⟩]) (.seq (.reg false [⟨some 32, .ld 2 (.t 5), none⟩, ⟨none, .st 2 (.t 4) (.t 32), none⟩]) .ret)))) (.seq (.reg false [⟨some 34, .bin .eql (.t 10) (.c (.int .i64 2)), none⟩, ⟨some 33, .mv (.t 34), none⟩]) (.cond (.t 33) (.seq (.reg false [⟨some 35, .ld 2 (.t 3), none⟩, ⟨some 36, .call (.f 103) [(.t 35)], none⟩, ⟨some 7, .alloc 30 [.nilsl, .nilsl], none⟩, ⟨none, .st 2 (.t 7) (.t 36), none⟩]) (.seq (.seq (.reg true [⟨some 37, .fa 1 (.t 7), none⟩, ⟨some 38, .ld1 (.t 37), none⟩, ⟨some 39, .mv (.t 0), none⟩, ⟨some 40, .lit 2 1 2 [(.int .i64 0)] [(0, (.c (.int .i64 101))), (1, (.c (.int .i64 (-101))))], none⟩, ⟨some 41, .callp (.f 104) [(.t 39), (.t 40)], none⟩, ⟨some 42, .ia 1 (.t 38) (.c (.int .i64 0)), none⟩, ⟨none, .st 1 (.t 42) (.t 41), none⟩]) (.chk [((.t 39), (.t 37))])) (.seq (.reg false [⟨some 43, .ld 2 (.t 7), none⟩, ⟨none, .st 2 (.t 4) (.t 43), none⟩]) .ret))) (.seq (.reg false [⟨some 45, .bin .eql (.t 10) (.c (.int .i64 3)), none⟩, ⟨some 44, .mv (.t 45), none⟩]) (.cond (.t 44) (.seq (.reg false [⟨some 46, .ld 2 (.t 3), none⟩, ⟨some 47, .call (.f 103) [(.t 46)], none⟩, ⟨some 8, .alloc 30 [.nilsl, .nilsl], none⟩, ⟨none, .st 2 (.t 8) (.t 47), none⟩]) (.seq (.reg false [⟨some 48, .fa 1 (.t 8), none⟩, ⟨some 49, .ld1 (.t 48), none⟩, ⟨some 50, .lit 2 1 1 [(.int .i64 0)] [(0, (.c (.int .i64 0)))], none⟩, ⟨some 51, .app 2 1 8 [(.int .i64 0)] (.t 49) (.t 50), none⟩, ⟨some 52, .fa 1 (.t 8), none⟩, ⟨none, .st 1 (.t 52) (.t 51), none⟩]) (.seq (.reg false [⟨some 53, .ld 2 (.t 8), none⟩, ⟨none, .st 2 (.t 4) (.t 53), none⟩]) .ret))) .skip)))))))))) (.seq (.reg false [⟨some 54, .ld 2 (.t 3), none⟩, ⟨none, .st 2 (.t 4) (.t 54), none⟩]) .ret))), 55, [(.ca 4 2)]⟩
theorem k_spec_l01Bad : compF Tryz.prog Tryz.f76 = some c_spec_l01Bad := by kernel_rfl
def c_spec_l01Spoil : F := ⟨(.seq (.reg false [⟨some 2, .alloc 30 [.nilsl, .nilsl], none⟩]) (.seq (.reg false [⟨some 3, .mv (.t 0), none⟩, ⟨some 4, .mv (.t 0), none⟩, ⟨some 5, .call (.f 77) [(.t 4)], none⟩, ⟨some 6, .call (.f 76) [(.t 3), (.t 5)], none⟩, ⟨none, .st 2 (.t 2) (.t 6), none⟩]) .ret)), 7, [(.ca 2 2)]⟩
theorem k_spec_l01Spoil : compF Tryz.prog Tryz.f44 = some c_spec_l01Spoil := by kernel_rfl

def FewP (ll : List (List Int)) (q : List Int) : Prop := (ll.length ≤ 6 ∧ ∀ l ∈ ll, l.length ≤ 6) ∧ q.length ≤ 6
theorem Ints.isSl_of {lo hi : Nat} {h : AH} {v : AV} {l : List Int} (s : Ints true lo hi h v l) (hl : 0 < l.length) : isSl v = true := by
  refine Sl.isReal s fun e => ?_
  have := s.slen
  rw [e] at this
  change 0 = l.length at this
  omega
section
variable {bnd b : Nat} {h : AH}
theorem spec_l01Draw (r : Rnd bnd b h) (hb : bnd ≤ b) (n : Nat) (hn : b < n) :
    MQ Tryz.prog 77 [.ptr b 0] h n b (b + 1) fun x h' n' => ∃ v u vs ll q N, x = .agg [v, u] ∧ 1 ≤ N ∧ N ≤ 5 ∧ Prob false n n' h' v u vs ll q ∧ SqM N 1000 ll ∧ q.length = N ∧ Rnd bnd b h' ∧ ∀ j, j < n → j ≠ b → h' j = h j := by
  refine mq_intro Tryz.func77 k_spec_l01Draw ?_
  simp (maxSteps := 2000000) -implicitDefEqProofs (disch := omega) only [c_spec_l01Draw, xsW, xsC, xsD, xsE, fillA, reduceCtorEq, Nat.reduceAdd, Nat.reduceSub, Nat.reduceLeDiff, Nat.reduceMul, Int.reduceLT, Int.reduceLE, Int.reduceEq, Int.reduceNe, Int.reduceAdd, Int.reduceSub, Int.reduceMul, Int.reduceNeg, Int.reduceToNat]
  refine mq_use (spec_l01Pick (b := b) (bnd := bnd) (w := true) (lo := n + 1) (hi := n + 1 + 1) (l := [1, 2, 2, 3, 3, 3, 4, 5]) (r.keep (by rw [upd_other (by omega), upd_other (by omega)]) fun j hj => by rw [upd_other (by omega), upd_other (by omega)]) hb (Sl.of_sl (upd_same _ _ _) rfl (Nat.le_refl _) (Nat.le_refl _) (by omega)) (by omega) (by simp) (by simp) _ (by omega)) (fun i a c => .inr ⟨by omega, by omega⟩) fun x1 h1 n1 hn1 ⟨en, ⟨z, hz, z0⟩, r1, sm1⟩ => ?_
  subst en; subst hz
  obtain ⟨N, rfl, hN1, hN5⟩ : ∃ N : Nat, z = N ∧ 1 ≤ N ∧ N ≤ 5 := by
    simp only [List.mem_cons, List.not_mem_nil, or_false] at z0
    exact ⟨z.toNat, by omega, by omega, by omega⟩
  have o1 : ∀ j, j < n → j ≠ b → h1 j = h j := fun j hj hne => by rw [sm1 j hne, upd_other (by omega), upd_other (by omega)]
  have c1 : h1 n = some ⟨30, [.nilsl, .nilsl], true, 0⟩ := by rw [sm1 n (by omega), upd_other (by omega), upd_same]
  simp (maxSteps := 2000000) -implicitDefEqProofs (disch := omega) only [xsW, xsC, xsD, xsE, fillA, reduceCtorEq, Nat.reduceAdd, Nat.reduceSub, Nat.reduceLeDiff, Nat.reduceMul, Int.reduceLT, Int.reduceLE, Int.reduceEq, Int.reduceNe, Int.reduceAdd, Int.reduceSub, Int.reduceMul, Int.reduceNeg, Int.reduceToNat]
  refine mq_use (spec_l01DrawOf r1 hb N hN1 hN5 _ (by omega)) (fun i a c => .inr ⟨by omega, by omega⟩) fun x2 h2 n2 hn2 ⟨v, u, vs, ll, q, e2, s2, q2, l2, r2, o2⟩ => ?_
  subst e2
  have c2 : h2 n = some ⟨30, [.nilsl, .nilsl], true, 0⟩ := by rw [o2 n (by omega) (by omega), c1]
  have w1 := one_any (Sl.any s2.M.out)
  have w2 := one_any (Sl.any s2.Q)
  have w3 := sto_any (Sl.any s2.Q)
  simp (maxSteps := 2000000) -implicitDefEqProofs (disch := omega) only [xsW, xsC, xsD, xsE, fillA, reduceCtorEq, Nat.reduceAdd, Nat.reduceSub, Nat.reduceLeDiff, Nat.reduceMul, Int.reduceLT, Int.reduceLE, Int.reduceEq, Int.reduceNe, Int.reduceAdd, Int.reduceSub, Int.reduceMul, Int.reduceNeg, Int.reduceToNat,  c2, w1, w2, w3]
  exact ⟨v, u, vs, ll, q, N, ⟨rfl, rfl⟩, hN1, hN5, (s2.keep fun i a c => upd_other (by omega)).wide (by omega) (Nat.le_refl _), q2, l2, r2.keep (upd_other (by omega)) fun j hj => upd_other (by omega), fun j hj hne => by rw [upd_other (by omega), o2 j (by omega) hne, o1 j hj hne]⟩
set_option maxRecDepth 100000 in
set_option maxHeartbeats 4000000 in
theorem spec_l01Bad {lo hi : Nat} {v u : AV} {vs : List AV} {ll : List (List Int)} {q : List Int} (r : Rnd bnd b h) (hb : bnd ≤ b) (s : Prob false lo hi h v u vs ll q) (hlo : b < lo) {N : Nat} (hN : 1 ≤ N) (hN5 : N ≤ 5) (qm : SqM N 1000 ll) (ql : q.length = N) (n : Nat) (hn : hi ≤ n) (hln : lo ≤ n) :
    MQ Tryz.prog 76 [.ptr b 0, .agg [v, u]] h n b (b + 1) fun x h' n' => ∃ v' u' vs' ll' q', x = .agg [v', u'] ∧ Prob false lo n' h' v' u' vs' ll' q' ∧ FewP ll' q' ∧ Rnd bnd b h' ∧ ∀ j, j < lo → j ≠ b → h' j = h j := by
  refine mq_intro Tryz.func76 k_spec_l01Bad ?_
  have hq1 := qm.1
  have w1 := one_any (Sl.any s.M.out)
  have w2 := one_any (Sl.any s.Q)
  have w3 := sto_any (Sl.any s.Q)
  simp (maxSteps := 2000000) -implicitDefEqProofs (disch := omega) only [c_spec_l01Bad, w1, w2, w3, xsW, xsC, xsD, xsE, fillA, reduceCtorEq, Nat.reduceAdd, Nat.reduceSub, Nat.reduceLeDiff, Nat.reduceMul, Int.reduceLT, Int.reduceLE, Int.reduceEq, Int.reduceNe, Int.reduceAdd, Int.reduceSub, Int.reduceMul, Int.reduceNeg, Int.reduceToNat]
  refine mq_use (spec_l01Next (r.keep (by rw [upd_other (by omega), upd_other (by omega)]) fun j hj => by rw [upd_other (by omega), upd_other (by omega)]) hb 50 _ (by omega)) (fun i a c => .inr ⟨by omega, by omega⟩) fun x1 h1 n1 hn1 ⟨en, ⟨y, hy, y0, y1, _⟩, r1, sm1⟩ => ?_
  subst en; subst hy
  have y2 := y1 (by omega)
  have o1 : ∀ j, j < n → j ≠ b → h1 j = h j := fun j hj hne => by rw [sm1 j hne, upd_other (by omega), upd_other (by omega)]
  have s1 := s.keep (h' := h1) fun j a c => o1 j (by omega) (by omega)
  have cp : h1 n = some ⟨30, [v, u], true, 0⟩ := by rw [sm1 n (by omega), upd_other (by omega), upd_same]
  have cr : h1 (n + 1) = some ⟨30, [.nilsl, .nilsl], true, 0⟩ := by rw [sm1 _ (by omega), upd_same]
  have hll : ll.length ≤ 1048576 := by omega
  have hll2 : ∀ l ∈ ll, l.length ≤ 1048576 := fun l hl => by rw [(qm.2 l hl).1]; omega
  simp (maxSteps := 2000000) -implicitDefEqProofs (disch := omega) only [xsW, xsC, xsD, xsE, fillA, reduceCtorEq, Nat.reduceAdd, Nat.reduceSub, Nat.reduceLeDiff, Nat.reduceMul, Int.reduceLT, Int.reduceLE, Int.reduceEq, Int.reduceNe, Int.reduceAdd, Int.reduceSub, Int.reduceMul, Int.reduceNeg, Int.reduceToNat]
  (refine cd_dec (fun c0 => ?_) (fun c0 => ?_) <;> simp (maxSteps := 2000000) -implicitDefEqProofs (disch := omega) only [xsW, xsC, xsD, xsE, fillA, reduceCtorEq, Nat.reduceAdd, Nat.reduceSub, Nat.reduceLeDiff, Nat.reduceMul, Int.reduceLT, Int.reduceLE, Int.reduceEq, Int.reduceNe, Int.reduceAdd, Int.reduceSub, Int.reduceMul, Int.reduceNeg, Int.reduceToNat,  c0])
  · simp (maxSteps := 2000000) -implicitDefEqProofs (disch := omega) only [xsW, xsC, xsD, xsE, fillA, reduceCtorEq, Nat.reduceAdd, Nat.reduceSub, Nat.reduceLeDiff, Nat.reduceMul, Int.reduceLT, Int.reduceLE, Int.reduceEq, Int.reduceNe, Int.reduceAdd, Int.reduceSub, Int.reduceMul, Int.reduceNeg, Int.reduceToNat,  cr]
    exact ⟨.nilsl, .nilsl, [], [], [], ⟨rfl, rfl⟩, Prob.of_args ⟨Sl.nil, RowsV.nil, fun h => (by cases h)⟩ Sl.nil, ⟨⟨by simp, by simp⟩, by simp⟩, r1.keep (upd_other (by omega)) fun j hj => upd_other (by omega), fun j hj hne => by rw [upd_other (by omega), o1 j (by omega) hne]⟩
  (refine cd_dec (fun c0 => ?_) (fun c0 => ?_) <;> simp (maxSteps := 2000000) -implicitDefEqProofs (disch := omega) only [xsW, xsC, xsD, xsE, fillA, reduceCtorEq, Nat.reduceAdd, Nat.reduceSub, Nat.reduceLeDiff, Nat.reduceMul, Int.reduceLT, Int.reduceLE, Int.reduceEq, Int.reduceNe, Int.reduceAdd, Int.reduceSub, Int.reduceMul, Int.reduceNeg, Int.reduceToNat,  c0])
  · -- a number that is too great
    simp (maxSteps := 2000000) -implicitDefEqProofs (disch := omega) only [xsW, xsC, xsD, xsE, fillA, reduceCtorEq, Nat.reduceAdd, Nat.reduceSub, Nat.reduceLeDiff, Nat.reduceMul, Int.reduceLT, Int.reduceLE, Int.reduceEq, Int.reduceNe, Int.reduceAdd, Int.reduceSub, Int.reduceMul, Int.reduceNeg, Int.reduceToNat,  cp]
    refine fq_use (spec_l01Copy s1 hll hll2 (by omega) _ (by omega)) fun x2 h2 n2 hn2 hs2 ⟨v2, u2, vs2, c, e2, g2, a2, hc⟩ => ?_
    subst e2
    have w4 := one_any g2.acc.any
    have w5 := one_any a2.any
    have w6 := sto_any a2.any
    have cr2 := (hs2 (n + 1) (by omega)).trans cr
    have hle := g2.le
    simp (maxSteps := 2000000) -implicitDefEqProofs (disch := omega) only [xsW, xsC, xsD, xsE, fillA, reduceCtorEq, Nat.reduceAdd, Nat.reduceSub, Nat.reduceLeDiff, Nat.reduceMul, Int.reduceLT, Int.reduceLE, Int.reduceEq, Int.reduceNe, Int.reduceAdd, Int.reduceSub, Int.reduceMul, Int.reduceNeg, Int.reduceToNat,  w4, w5, w6]
    have h3a : ∀ j, j < n2 → (upd h2 n2 (some ⟨30, [v2, u2], true, 0⟩)) j = h2 j := fun j hj => upd_other (by omega)
    have h3c : (upd h2 n2 (some ⟨30, [v2, u2], true, 0⟩)) n2 = some ⟨30, [v2, u2], true, 0⟩ := upd_same _ _ _
    generalize (upd h2 n2 (some ⟨30, [v2, u2], true, 0⟩)) = h3 at h3a h3c ⊢
    have g3 := g2.keep (h' := h3) (fun j a c => h3a j c) (h3a _ (by omega))
    have a3 := a2.keep (h' := h3) fun j a c => h3a j (by omega)
    have r3 : Rnd bnd b h3 := r1.keep (by rw [h3a b (by omega), hs2 b (by omega)]) fun j hj => by rw [h3a j (by omega), hs2 j (by omega)]
    have s3 : Rows true (n + 1 + 1) n2 h3 v2 vs2 ll := g3.rowsOf (by omega) (Nat.le_refl _)
    obtain ⟨bl, hbl, hbw'⟩ := r3.blk
    simp (maxSteps := 2000000) -implicitDefEqProofs (disch := omega) only [xsW, xsC, xsD, xsE, fillA, reduceCtorEq, Nat.reduceAdd, Nat.reduceSub, Nat.reduceLeDiff, Nat.reduceMul, Int.reduceLT, Int.reduceLE, Int.reduceEq, Int.reduceNe, Int.reduceAdd, Int.reduceSub, Int.reduceMul, Int.reduceNeg, Int.reduceToNat,  s3.ln]
    refine mqp_use (spec_l01Next r3 hb _ (n2 + 1) (by omega)) hbl hbw' (by omega) (.inr ⟨by omega, by omega⟩) (fun v' h' n' hR => ⟨hR.1, hR.2.2.2⟩) fun x4 h4 ⟨_, ⟨y4, hy, y40, y41, _⟩, r4, sm4⟩ => ?_
    subst hy
    replace y41 := y41 (by omega)
    obtain ⟨m, rfl⟩ : ∃ m : Nat, y4 = m := ⟨y4.toNat, by omega⟩
    have hm : m < ll.length := by omega
    have s4 := s3.keep (h' := h4) fun j a c => sm4 j (by omega)
    have rw4 := g3.rows.keep (h' := h4) fun j a c => sm4 j (by omega)
    have a4 := a3.keep (h' := h4) fun j a c => sm4 j (by omega)
    have c4 := (sm4 n2 (by omega)).trans h3c
    have cr4 : h4 (n + 1) = some ⟨30, [.nilsl, .nilsl], true, 0⟩ := by rw [sm4 _ (by omega), h3a _ (by omega), cr2]
    have hbv := s4.out.below (by rw [s4.slen]; omega)
    simp (maxSteps := 2000000) -implicitDefEqProofs (disch := omega) only [xsW, xsC, xsD, xsE, fillA, reduceCtorEq, Nat.reduceAdd, Nat.reduceSub, Nat.reduceLeDiff, Nat.reduceMul, Int.reduceLT, Int.reduceLE, Int.reduceEq, Int.reduceNe, Int.reduceAdd, Int.reduceSub, Int.reduceMul, Int.reduceNeg, Int.reduceToNat,  s4.ia, s4.ld]
    refine ⟨by omega, ?_⟩
    refine mq_use (spec_l01Pick (b := b) (bnd := bnd) (w := true) (lo := n2 + 1) (hi := n2 + 1 + 1) (l := [21, -21, 1099511627776]) (r4.keep (upd_other (by omega)) fun j hj => upd_other (by omega)) hb (Sl.of_sl (upd_same _ _ _) rfl (Nat.le_refl _) (Nat.le_refl _) (by omega)) (by omega) (by simp) (by simp) _ (by omega)) (fun i a c => .inr ⟨by omega, by omega⟩) fun x5 h5 n5 hn5 ⟨en, ⟨z, hz, z0⟩, r5, sm5⟩ => ?_
    subst en; subst hz
    have f5 : ∀ j, j < n2 + 1 → j ≠ b → h5 j = h4 j := fun j hj hne => by rw [sm5 j hne, upd_other (by omega)]
    have rw5 := rw4.keep (h' := h5) fun j a c => f5 j (by omega) (by omega)
    have a5 := a4.keep (h' := h5) fun j a c => f5 j (by omega) (by omega)
    have s5 := s4.keep (h' := h5) fun j a c => f5 j (by omega) (by omega)
    have hrow := rw5.row m hm
    have hrl := (qm.2 _ (getD_mem (d := []) hm)).1
    have hbw := Sl.below hrow (by rw [hrow.slen]; omega)
    have e1 := fun K => Ints.st hrow (k := 0) (x := z) (n0 := n) (n := n2 + 1 + 1) (W := fun i => b ≤ i ∧ i < b + 1) (by omega) (fun i a b => .inl (by omega)) (by omega) K
    simp only [Nat.add_zero] at e1
    have cc : wr h5 (bid (vs2.getD m .any)) (boff (vs2.getD m .any)) (.int .i64 z) n2 = some ⟨30, [v2, u2], true, 0⟩ := by rw [wr_other (by omega), f5 _ (by omega) (by omega), c4]
    have cd' : wr h5 (bid (vs2.getD m .any)) (boff (vs2.getD m .any)) (.int .i64 z) (n + 1) = some ⟨30, [.nilsl, .nilsl], true, 0⟩ := by rw [wr_other (by omega), f5 _ (by omega) (by omega), cr4]
    simp (maxSteps := 2000000) -implicitDefEqProofs (disch := omega) only [xsW, xsC, xsD, xsE, fillA, reduceCtorEq, Nat.reduceAdd, Nat.reduceSub, Nat.reduceLeDiff, Nat.reduceMul, Int.reduceLT, Int.reduceLE, Int.reduceEq, Int.reduceNe, Int.reduceAdd, Int.reduceSub, Int.reduceMul, Int.reduceNeg, Int.reduceToNat,  hrow.ia, e1, cc, cd', w4, w5, w6]
    have s6 := s5.wr hm (k := 0) (by omega) z
    simp only [Nat.add_zero] at s6
    have hq6 : ∀ j, j < lo → j ≠ b → h5 j = h j := fun j hj hne => by rw [f5 j (by omega) hne, sm4 j hne, h3a j (by omega), hs2 j (by omega), o1 j (by omega) hne]
    refine ⟨v2, u2, vs2, _, q, ⟨rfl, rfl⟩, Prob.of_args ((s6.ro.keep fun j a c => upd_other (by omega)).wide (by omega) (by omega)) ((a5.sl.ro.keep fun j a c => by rw [upd_other (by omega), wr_other (by omega)]).wide (by omega) (by omega)), ⟨⟨by rw [List.length_set]; omega, fun l hl => ?_⟩, by omega⟩,
      r5.keep (by rw [upd_other (by omega), wr_other (by omega)]) fun j hj => by rw [upd_other (by omega), wr_other (by omega)], fun j hj hne => by rw [upd_other (by omega), wr_other (by omega), hq6 j hj hne]⟩
    rcases mem_set' hl with hl | hl
    · rw [(qm.2 l hl).1]; omega
    · subst hl; rw [List.length_set]; omega
  (refine cd_dec (fun c0 => ?_) (fun c0 => ?_) <;> simp (maxSteps := 2000000) -implicitDefEqProofs (disch := omega) only [xsW, xsC, xsD, xsE, fillA, reduceCtorEq, Nat.reduceAdd, Nat.reduceSub, Nat.reduceLeDiff, Nat.reduceMul, Int.reduceLT, Int.reduceLE, Int.reduceEq, Int.reduceNe, Int.reduceAdd, Int.reduceSub, Int.reduceMul, Int.reduceNeg, Int.reduceToNat,  c0])
  · -- a number on the right that is too great
    simp (maxSteps := 2000000) -implicitDefEqProofs (disch := omega) only [xsW, xsC, xsD, xsE, fillA, reduceCtorEq, Nat.reduceAdd, Nat.reduceSub, Nat.reduceLeDiff, Nat.reduceMul, Int.reduceLT, Int.reduceLE, Int.reduceEq, Int.reduceNe, Int.reduceAdd, Int.reduceSub, Int.reduceMul, Int.reduceNeg, Int.reduceToNat,  cp]
    refine fq_use (spec_l01Copy s1 hll hll2 (by omega) _ (by omega)) fun x2 h2 n2 hn2 hs2 ⟨v2, u2, vs2, c, e2, g2, a2, hc⟩ => ?_
    subst e2
    have w4 := one_any g2.acc.any
    have w5 := one_any a2.any
    have w6 := sto_any a2.any
    have cr2 := (hs2 (n + 1) (by omega)).trans cr
    have hle := g2.le
    simp (maxSteps := 2000000) -implicitDefEqProofs (disch := omega) only [xsW, xsC, xsD, xsE, fillA, reduceCtorEq, Nat.reduceAdd, Nat.reduceSub, Nat.reduceLeDiff, Nat.reduceMul, Int.reduceLT, Int.reduceLE, Int.reduceEq, Int.reduceNe, Int.reduceAdd, Int.reduceSub, Int.reduceMul, Int.reduceNeg, Int.reduceToNat,  w4, w5, w6]
    have h3a : ∀ j, j < n2 → (upd (upd h2 n2 (some ⟨30, [v2, u2], true, 0⟩)) (n2 + 1) (some ⟨2, ints [101, -101], true, 0⟩)) j = h2 j := fun j hj => by rw [upd_other (by omega), upd_other (by omega)]
    have h3c : (upd (upd h2 n2 (some ⟨30, [v2, u2], true, 0⟩)) (n2 + 1) (some ⟨2, ints [101, -101], true, 0⟩)) n2 = some ⟨30, [v2, u2], true, 0⟩ := by rw [upd_other (by omega), upd_same]
    have h3d : Ints true (n2 + 1) (n2 + 1 + 1) (upd (upd h2 n2 (some ⟨30, [v2, u2], true, 0⟩)) (n2 + 1) (some ⟨2, ints [101, -101], true, 0⟩)) (.sl (n2 + 1) 0 2 2) [101, -101] := Sl.of_sl (upd_same _ _ _) rfl (Nat.le_refl _) (Nat.le_refl _) (by omega)
    change CallP _ _ _ _ _ (upd (upd h2 n2 (some ⟨30, [v2, u2], true, 0⟩)) (n2 + 1) (some ⟨2, ints [101, -101], true, 0⟩)) _ _
    generalize (upd (upd h2 n2 (some ⟨30, [v2, u2], true, 0⟩)) (n2 + 1) (some ⟨2, ints [101, -101], true, 0⟩)) = h3 at h3a h3c h3d ⊢
    have g3 := g2.keep (h' := h3) (fun j a c => h3a j c) (h3a _ (by omega))
    have a3 := a2.keep (h' := h3) fun j a c => h3a j (by omega)
    have r3 : Rnd bnd b h3 := r1.keep (by rw [h3a b (by omega), hs2 b (by omega)]) fun j hj => by rw [h3a j (by omega), hs2 j (by omega)]
    have s3 : Rows true (n + 1 + 1) n2 h3 v2 vs2 ll := g3.rowsOf (by omega) (Nat.le_refl _)
    obtain ⟨bl, hbl, hbw'⟩ := r3.blk
    refine mqp_use (spec_l01Pick (b := b) (bnd := bnd) (w := true) (lo := n2 + 1) (hi := n2 + 1 + 1) (l := [101, -101]) r3 hb h3d (by omega) (by simp) (by simp) _ (by omega)) hbl hbw' (by omega) (.inr ⟨by omega, by omega⟩) (fun v' h' n' hR => ⟨hR.1, hR.2.2.2⟩) fun x5 h5 ⟨_, ⟨z, hz, z0⟩, r5, sm5⟩ => ?_
    subst hz
    have c5 := (sm5 n2 (by omega)).trans h3c
    have cr5 : h5 (n + 1) = some ⟨30, [.nilsl, .nilsl], true, 0⟩ := by rw [sm5 _ (by omega), h3a _ (by omega), cr2]
    have a5 : Ints true (n + 1 + 1) c h5 u2 q := (a3.sl.keep (h' := h5) fun j a c => sm5 j (by omega)).wide (by omega) (Nat.le_refl _)
    have s5 := s3.keep (h' := h5) fun j a c => sm5 j (by omega)
    have hbw := Sl.below a5 (by rw [a5.slen]; omega)
    have hbw2 : n + 1 + 1 + 1 + 1 + 1 ≤ bid u2 := by
      have h1 := Ints.isSl_of a5 (by omega)
      exact (a2.own h1).1
    have e1 := fun K => Ints.st a5 (k := 0) (x := z) (n0 := n) (n := n2 + 1 + 1) (W := fun i => b ≤ i ∧ i < b + 1) (by omega) (fun i a b => .inl (by omega)) (by omega) K
    simp only [Nat.add_zero] at e1
    have cc : wr h5 (bid u2) (boff u2) (.int .i64 z) n2 = some ⟨30, [v2, u2], true, 0⟩ := by rw [wr_other (by omega), c5]
    have cd' : wr h5 (bid u2) (boff u2) (.int .i64 z) (n + 1) = some ⟨30, [.nilsl, .nilsl], true, 0⟩ := by rw [wr_other (by omega), cr5]
    simp (maxSteps := 2000000) -implicitDefEqProofs (disch := omega) only [xsW, xsC, xsD, xsE, fillA, reduceCtorEq, Nat.reduceAdd, Nat.reduceSub, Nat.reduceLeDiff, Nat.reduceMul, Int.reduceLT, Int.reduceLE, Int.reduceEq, Int.reduceNe, Int.reduceAdd, Int.reduceSub, Int.reduceMul, Int.reduceNeg, Int.reduceToNat,  a5.ia, e1, cc, cd', w4, w5, w6]
    have q6 := a5.wr (k := 0) (by omega) z
    simp only [Nat.add_zero] at q6
    have hr5 : RowsV true (c + 1) n2 h5 vs2 ll := g3.rows.keep fun j a c => sm5 j (by omega)
    have s6 : Rows true (n + 1 + 1) n2 (wr h5 (bid u2) (boff u2) (.int .i64 z)) v2 vs2 ll := by
      have g6 := g3.keep (h' := wr h5 (bid u2) (boff u2) (.int .i64 z)) (fun j a1 a2 => by rw [wr_other (by omega), sm5 j (by omega)]) (by rw [wr_other (by omega), sm5 _ (by omega)])
      exact g6.rowsOf (by omega) (Nat.le_refl _)
    refine ⟨by omega, v2, u2, vs2, ll, _, ⟨rfl, rfl⟩, Prob.of_args ((s6.ro.keep fun j a1 a2 => upd_other (by omega)).wide (by omega) (by omega)) ((q6.ro.keep fun j a1 a2 => upd_other (by omega)).wide (by omega) (by omega)), ⟨⟨by omega, fun l hl => ?_⟩, by rw [List.length_set]; omega⟩,
      r5.keep (by rw [upd_other (by omega), wr_other (by omega)]) fun j hj => by rw [upd_other (by omega), wr_other (by omega)], fun j hj hne => by rw [upd_other (by omega), wr_other (by omega), sm5 j hne, h3a j (by omega), hs2 j (by omega), o1 j (by omega) hne]⟩
    rw [(qm.2 l hl).1]; omega
  (refine cd_dec (fun c0 => ?_) (fun c0 => ?_) <;> simp (maxSteps := 2000000) -implicitDefEqProofs (disch := omega) only [xsW, xsC, xsD, xsE, fillA, reduceCtorEq, Nat.reduceAdd, Nat.reduceSub, Nat.reduceLeDiff, Nat.reduceMul, Int.reduceLT, Int.reduceLE, Int.reduceEq, Int.reduceNe, Int.reduceAdd, Int.reduceSub, Int.reduceMul, Int.reduceNeg, Int.reduceToNat,  c0])
  · -- a number on the right too many
    simp (maxSteps := 2000000) -implicitDefEqProofs (disch := omega) only [xsW, xsC, xsD, xsE, fillA, reduceCtorEq, Nat.reduceAdd, Nat.reduceSub, Nat.reduceLeDiff, Nat.reduceMul, Int.reduceLT, Int.reduceLE, Int.reduceEq, Int.reduceNe, Int.reduceAdd, Int.reduceSub, Int.reduceMul, Int.reduceNeg, Int.reduceToNat,  cp]
    refine fq_use (spec_l01Copy s1 hll hll2 (by omega) _ (by omega)) fun x2 h2 n2 hn2 hs2 ⟨v2, u2, vs2, c, e2, g2, a2, hc⟩ => ?_
    subst e2
    have w4 := one_any g2.acc.any
    have w5 := one_any a2.any
    have w6 := sto_any a2.any
    have cr2 := (hs2 (n + 1) (by omega)).trans cr
    have hle := g2.le
    have aL := a2.len
    rw [ints_len] at aL
    simp (maxSteps := 2000000) -implicitDefEqProofs (disch := omega) only [xsW, xsC, xsD, xsE, fillA, reduceCtorEq, Nat.reduceAdd, Nat.reduceSub, Nat.reduceLeDiff, Nat.reduceMul, Int.reduceLT, Int.reduceLE, Int.reduceEq, Int.reduceNe, Int.reduceAdd, Int.reduceSub, Int.reduceMul, Int.reduceNeg, Int.reduceToNat,  w4, w5, w6]
    refine app_acc ((a2.keep (fun i _ hi9 => by simp (disch := omega) only [upd_other]) |>.wide (Nat.le_refl _) (show c ≤ n2 + 1 + 1 by omega))) (by omega) (by omega) (xs := [.int .i64 0]) ⟨rfl, _, upd_same _ _ _, by simp, by simp [cutA]⟩ rfl rfl (by omega) fun u3 h3 n3 p1 p2 p3 p4 p5 p6 => ?_
    have hlow : ∀ j, j < n2 + 1 → ¬ (n + 1 + 1 + 1 + 1 + 1 ≤ j ∧ j < c) → h3 j = (upd h2 n2 (some ⟨30, [v2, u2], true, 0⟩)) j := fun j hj hne => by
      rw [p4 j (by omega) fun hs e => by have := a2.own hs; omega, upd_other (by omega)]
    have c3 : h3 n2 = some ⟨30, [v2, u2], true, 0⟩ := by rw [hlow n2 (by omega) (by omega), upd_same]
    have cr3 : h3 (n + 1) = some ⟨30, [.nilsl, .nilsl], true, 0⟩ := by rw [hlow _ (by omega) (by omega), upd_other (by omega), cr2]
    have y1 := one_any p3.any
    have y2 := sto_any p3.any
    have y3 := cel_any p3.any
    simp (maxSteps := 2000000) -implicitDefEqProofs (disch := omega) only [xsW, xsC, xsD, xsE, fillA, reduceCtorEq, Nat.reduceAdd, Nat.reduceSub, Nat.reduceLeDiff, Nat.reduceMul, Int.reduceLT, Int.reduceLE, Int.reduceEq, Int.reduceNe, Int.reduceAdd, Int.reduceSub, Int.reduceMul, Int.reduceNeg, Int.reduceToNat,  c3, cr3, w4, y1, y2, y3]
    have q3 : Ints true (n + 1 + 1) n3 h3 u3 (q ++ [0]) := by
      have := p3.sl
      rw [show [AV.int .i64 0] = ints [0] from rfl, ints_append] at this
      exact this.wide (by omega) (Nat.le_refl _)
    have hb3 : isSl u3 = true → bid u3 ≠ n2 := fun hs e => by
      rcases p6 with ⟨rfl, _⟩ | ⟨_, h⟩
      · have := a2.own hs; omega
      · omega
    have q4 : Ints true (n + 1 + 1) n3 (upd (upd h3 n2 (some ⟨30, [v2, u3], true, 0⟩)) (n + 1) (some ⟨30, [v2, u3], true, 0⟩)) u3 (q ++ [0]) := Sl.keep1 q3 fun hs => by
      have := (Sl.own q3 hs).1
      rw [upd_other (by omega), upd_other (hb3 hs)]
    have g3 := g2.keep (h' := upd (upd h3 n2 (some ⟨30, [v2, u3], true, 0⟩)) (n + 1) (some ⟨30, [v2, u3], true, 0⟩)) (fun j a c => by rw [upd_other (by omega), upd_other (by omega), hlow j (by omega) (by omega), upd_other (by omega)]) (by rw [upd_other (by omega), upd_other (by omega), hlow _ (by omega) (by omega), upd_other (by omega)])
    refine ⟨v2, u3, vs2, ll, q ++ [0], ⟨rfl, rfl⟩, Prob.of_args ((g3.rowsOf (l' := n + 1 + 1) (by omega) (Nat.le_refl _)).ro.wide (by omega) (by omega)) (q4.ro.wide (by omega) (Nat.le_refl _)), ⟨⟨by omega, fun l hl => ?_⟩, by simp; omega⟩,
      r1.keep (by rw [upd_other (by omega), upd_other (by omega), hlow b (by omega) (by omega), upd_other (by omega), hs2 b (by omega)]) fun j hj => by rw [upd_other (by omega), upd_other (by omega), hlow j (by omega) (by omega), upd_other (by omega), hs2 j (by omega)],
      fun j hj hne => by rw [upd_other (by omega), upd_other (by omega), hlow j (by omega) (by omega), upd_other (by omega), hs2 j (by omega), o1 j (by omega) hne]⟩
    rw [(qm.2 l hl).1]; omega
  · simp (maxSteps := 2000000) -implicitDefEqProofs (disch := omega) only [xsW, xsC, xsD, xsE, fillA, reduceCtorEq, Nat.reduceAdd, Nat.reduceSub, Nat.reduceLeDiff, Nat.reduceMul, Int.reduceLT, Int.reduceLE, Int.reduceEq, Int.reduceNe, Int.reduceAdd, Int.reduceSub, Int.reduceMul, Int.reduceNeg, Int.reduceToNat,  cp, cr, w1, w2, w3]
    exact ⟨v, u, vs, ll, q, ⟨rfl, rfl⟩, (s1.keep fun j a c => upd_other (by omega)).wide (Nat.le_refl _) (by omega), ⟨⟨by omega, fun l hl => by rw [(qm.2 l hl).1]; omega⟩, by omega⟩, r1.keep (upd_other (by omega)) fun j hj => upd_other (by omega), fun j hj hne => by rw [upd_other (by omega), o1 j (by omega) hne]⟩
theorem spec_l01Spoil (r : Rnd bnd b h) (hb : bnd ≤ b) (n : Nat) (hn : b < n) :
    MQ Tryz.prog 44 [.ptr b 0] h n b (b + 1) fun x h' n' => ∃ v' u' vs' ll' q', x = .agg [v', u'] ∧ Prob false n n' h' v' u' vs' ll' q' ∧ FewP ll' q' ∧ Rnd bnd b h' ∧ ∀ j, j < n → j ≠ b → h' j = h j := by
  refine mq_intro Tryz.func44 k_spec_l01Spoil ?_
  simp (maxSteps := 2000000) -implicitDefEqProofs (disch := omega) only [c_spec_l01Spoil, xsW, xsC, xsD, xsE, fillA, reduceCtorEq, Nat.reduceAdd, Nat.reduceSub, Nat.reduceLeDiff, Nat.reduceMul, Int.reduceLT, Int.reduceLE, Int.reduceEq, Int.reduceNe, Int.reduceAdd, Int.reduceSub, Int.reduceMul, Int.reduceNeg, Int.reduceToNat]
  refine mq_use (spec_l01Draw (r.keep (upd_other (by omega)) fun j hj => upd_other (by omega)) hb (n + 1) (by omega)) (fun i a c => .inr ⟨by omega, by omega⟩) fun x1 h1 n1 hn1 ⟨v1, u1, vs1, ll1, q1, N, e1, hN1, hN5, s1, m1, l1', r1, o1⟩ => ?_
  subst e1
  simp (maxSteps := 2000000) -implicitDefEqProofs (disch := omega) only [xsW, xsC, xsD, xsE, fillA, reduceCtorEq, Nat.reduceAdd, Nat.reduceSub, Nat.reduceLeDiff, Nat.reduceMul, Int.reduceLT, Int.reduceLE, Int.reduceEq, Int.reduceNe, Int.reduceAdd, Int.reduceSub, Int.reduceMul, Int.reduceNeg, Int.reduceToNat]
  refine mq_use (spec_l01Bad r1 hb s1 (by omega) hN1 hN5 m1 l1' n1 (Nat.le_refl _) hn1) (fun i a c => .inr ⟨by omega, by omega⟩) fun x2 h2 n2 hn2 ⟨v2, u2, vs2, ll2, q2, e2, s2, f2, r2, o2⟩ => ?_
  subst e2
  have c2 : h2 n = some ⟨30, [.nilsl, .nilsl], true, 0⟩ := by rw [o2 n (by omega) (by omega), o1 n (by omega) (by omega), upd_same]
  have w1 := one_any (Sl.any s2.M.out)
  have w2 := one_any (Sl.any s2.Q)
  have w3 := sto_any (Sl.any s2.Q)
  simp (maxSteps := 2000000) -implicitDefEqProofs (disch := omega) only [xsW, xsC, xsD, xsE, fillA, reduceCtorEq, Nat.reduceAdd, Nat.reduceSub, Nat.reduceLeDiff, Nat.reduceMul, Int.reduceLT, Int.reduceLE, Int.reduceEq, Int.reduceNe, Int.reduceAdd, Int.reduceSub, Int.reduceMul, Int.reduceNeg, Int.reduceToNat,  c2, w1, w2, w3]
  exact ⟨v2, u2, vs2, ll2, q2, ⟨rfl, rfl⟩, (s2.keep fun i a c => upd_other (by omega)).wide (by omega) (Nat.le_refl _), f2, r2.keep (upd_other (by omega)) fun j hj => upd_other (by omega), fun j hj hne => by rw [upd_other (by omega), o2 j (by omega) hne, o1 j (by omega) hne, upd_other (by omega)]⟩
end
def c_spec_l02With : F := ⟨(.seq (.reg false [⟨some 2, .alloc 30 [.nilsl, .nilsl], none⟩, ⟨some 3, .mv (.c (.int .i64 0)), none⟩]) (.seq (.reg false [⟨some 8, .mv (.t 0), none⟩, ⟨some 9, .call (.f 45) [(.t 8)], none⟩, ⟨some 4, .mv (.t 9), none⟩]) (.seq (.reg false [⟨some 10, .mv (.t 4), none⟩, ⟨some 11, .call (.f 44) [(.t 10)], none⟩, ⟨some 5, .alloc 30 [.nilsl, .nilsl], none⟩, ⟨none, .st 2 (.t 5) (.t 11), none⟩]) (.seq (.seq (.reg false [⟨some 13, .ld 2 (.t 5), none⟩, ⟨some 14, .call (.f 123) [(.t 13)], none⟩, ⟨some 12, .mv (.t 14), none⟩, ⟨some 15, .ext (.t 12) 0, none⟩, ⟨some 16, .ext (.t 12) 1, none⟩, ⟨some 6, .mv (.t 15), none⟩, ⟨some 7, .mv (.t 16), none⟩]) (.seq (.reg false [⟨some 17, .mv (.t 7), none⟩, ⟨some 18, .bin .eql (.t 17) (.c (.int .i64 0)), none⟩, ⟨some 19, .mv (.t 18), none⟩, ⟨some 20, .mv (.t 6), some (19, true)⟩, ⟨some 21, .len (.t 20), some (19, true)⟩, ⟨some 22, .bin .gtr (.t 21) (.c (.int .i64 0)), some (19, true)⟩, ⟨some 23, .pick (.t 19) (.t 22) (.c (.bool false)), none⟩, ⟨some 24, .mv (.t 23), none⟩, ⟨some 25, .mv (.t 4), some (24, true)⟩, ⟨some 26, .call (.f 89) [(.t 25), (.c (.int .i64 2))], some (24, true)⟩, ⟨some 27, .bin .eql (.t 26) (.c (.int .i64 0)), some (24, true)⟩, ⟨some 28, .pick (.t 24) (.t 27) (.c (.bool false)), none⟩]) (.cond (.t 28) (.seq (.seq (.reg true [⟨some 29, .ld 2 (.t 5), none⟩, ⟨some 30, .mv (.t 6), none⟩, ⟨some 31, .mv (.t 4), none⟩, ⟨some 32, .mv (.t 6), none⟩, ⟨some 33, .len (.t 32), none⟩, ⟨some 34, .callp (.f 89) [(.t 31), (.t 33)], none⟩, ⟨some 35, .ia 1 (.t 30) (.t 34), none⟩, ⟨some 36, .ld1 (.t 35), none⟩, ⟨none, .st 2 (.t 2) (.t 29), none⟩, ⟨some 3, .mv (.t 36), none⟩]) (.chk [((.t 31), (.t 5)), ((.t 2), (.t 35))])) .ret) .skip))) (.seq (.seq (.reg true [⟨some 37, .ld 2 (.t 5), none⟩, ⟨some 38, .mv (.t 4), none⟩, ⟨some 39, .fa 1 (.t 5), none⟩, ⟨some 40, .ld1 (.t 39), none⟩, ⟨some 41, .len (.t 40), none⟩, ⟨some 42, .mn [(.t 41), (.c (.int .i64 5))], none⟩, ⟨some 43, .cvi .u64 (.t 42), none⟩, ⟨some 44, .bin .shl (.c (.int .i64 1)) (.t 43), none⟩, ⟨some 45, .mv (.t 4), none⟩, ⟨some 46, .callp (.f 89) [(.t 45), (.c (.int .i64 24))], none⟩, ⟨some 47, .bin .quo (.t 46) (.c (.int .i64 23)), none⟩, ⟨some 48, .bin .add (.t 44) (.t 47), none⟩, ⟨some 49, .callp (.f 89) [(.t 38), (.t 48)], none⟩, ⟨none, .st 2 (.t 2) (.t 37), none⟩, ⟨some 3, .mv (.t 49), none⟩]) (.chk [((.t 45), (.t 5)), ((.t 45), (.t 39)), ((.t 38), (.t 5))])) .ret))))), 50, [(.ca 2 2), (.t 3)]⟩
theorem k_spec_l02With : compF Tryz.prog Tryz.f87 = some c_spec_l02With := by kernel_rfl

theorem FewP.big {ll : List (List Int)} {q : List Int} (f : FewP ll q) : ll.length ≤ 1048576 ∧ (∀ l ∈ ll, l.length ≤ 1048576) ∧ q.length ≤ 1048576 := ⟨by have := f.1.1; omega, fun l hl => by have := f.1.2 l hl; omega, by have := f.2; omega⟩
section
variable {hi : Nat} {h : AH} {v : AV} {code : List Int}
theorem from_use {n0 n : Nat} {W : Nat → Prop} {d : Bool} {K : AV → AH → Nat → Prop} (s : Sl false 0 hi h 1 v (bytesA code)) (hl : code.length ≤ 4096) (hc : ∀ x ∈ code, 0 ≤ x ∧ x ≤ 255) (hn : hi ≤ n)
    (k : ∀ h' n', n < n' → (∀ i, i < n → h' i = h i) → Rnd hi n h' → K (.ptr n 0) h' n') : CallC Tryz.prog n0 W d 45 [v] h n K :=
  fq_use (spec_l01From s hl hc n hn) fun x h1 n1 hn1 hs ⟨e, hlt, r⟩ => by
    subst e
    exact k h1 n1 hlt hs (r.keep (show h1 n = if n = n then h1 n else h n by rw [if_pos rfl]) fun j hj => (show h1 j = if j = n then h1 j else h j by rw [if_neg (by omega)]; exact hs j (by omega)))
theorem sets_le (ll : List (List Int)) (q : List Int) (T : List Int → Bool) : (setsV ll q T).1.length ≤ 32 ∧ ∀ x ∈ (setsV ll q T).1, 0 ≤ x ∧ x < 32 := by
  unfold setsV
  split
  · rename_i hp
    have := pw_le ((isMat_iff ll).1 (isProb_facts hp).1).2.1
    refine ⟨by have := selL_len (setP ll q T) (pw ll.length); simp only; omega, fun x hx => ?_⟩
    simp only [selL, List.mem_map, List.mem_filter, List.mem_range] at hx
    obtain ⟨i, ⟨h1, _⟩, rfl⟩ := hx
    omega
  · simp
set_option maxHeartbeats 1000000 in
theorem spec_l02With (s : Sl false 0 hi h 1 v (bytesA code)) (hl : code.length ≤ 4096) (hc : ∀ x ∈ code, 0 ≤ x ∧ x ≤ 255) (n : Nat) (hn : hi ≤ n) :
    FQ Tryz.prog 87 [v] h n fun x h' n' => ∃ v' u' vs' ll q a, x = .tup [.agg [v', u'], .int .i64 a] ∧ Prob false n n' h' v' u' vs' ll q ∧ FewP ll q ∧ in64 a := by
  refine fq_intro Tryz.func87 k_spec_l02With ?_
  simp (maxSteps := 2000000) -implicitDefEqProofs (disch := omega) only [c_spec_l02With, xsW, xsC, xsD, xsE, fillA, reduceCtorEq, Nat.reduceAdd, Nat.reduceSub, Nat.reduceLeDiff, Nat.reduceMul, Int.reduceLT, Int.reduceLE, Int.reduceEq, Int.reduceNe, Int.reduceAdd, Int.reduceSub, Int.reduceMul, Int.reduceNeg, Int.reduceToNat]
  refine from_use (s.keep (fun i _ hi9 => by simp (disch := omega) only [upd_other])) hl hc (by omega) fun h1 n1 hn1 hs1 r1 => ?_
  have c1 : h1 n = some ⟨30, [.nilsl, .nilsl], true, 0⟩ := by rw [hs1 n (by omega), upd_same]
  simp (maxSteps := 2000000) -implicitDefEqProofs (disch := omega) only [xsW, xsC, xsD, xsE, fillA, reduceCtorEq, Nat.reduceAdd, Nat.reduceSub, Nat.reduceLeDiff, Nat.reduceMul, Int.reduceLT, Int.reduceLE, Int.reduceEq, Int.reduceNe, Int.reduceAdd, Int.reduceSub, Int.reduceMul, Int.reduceNeg, Int.reduceToNat]
  refine mq_use (spec_l01Spoil r1 (by omega) n1 hn1) (fun i a c => .inl (by omega)) fun x2 h2 n2 hn2 ⟨v2, u2, vs2, ll, q, e2, s2, f2, r2, o2⟩ => ?_
  subst e2
  obtain ⟨b1, b2, b3⟩ := f2.big
  have w1 := one_any (Sl.any s2.M.out)
  have w2 := one_any (Sl.any s2.Q)
  have w3 := sto_any (Sl.any s2.Q)
  have c2 := (o2 n (by omega) (by omega)).trans c1
  have h3a : ∀ j, j < n2 → (upd h2 n2 (some ⟨30, [v2, u2], true, 0⟩)) j = h2 j := fun j hj => upd_other (by omega)
  have h3c : (upd h2 n2 (some ⟨30, [v2, u2], true, 0⟩)) n2 = some ⟨30, [v2, u2], true, 0⟩ := upd_same _ _ _
  simp (maxSteps := 2000000) -implicitDefEqProofs (disch := omega) only [xsW, xsC, xsD, xsE, fillA, reduceCtorEq, Nat.reduceAdd, Nat.reduceSub, Nat.reduceLeDiff, Nat.reduceMul, Int.reduceLT, Int.reduceLE, Int.reduceEq, Int.reduceNe, Int.reduceAdd, Int.reduceSub, Int.reduceMul, Int.reduceNeg, Int.reduceToNat,  w1, w2, w3]
  generalize (upd h2 n2 (some ⟨30, [v2, u2], true, 0⟩)) = h3 at h3a h3c ⊢
  have s3 := s2.keep (h' := h3) fun j a c => h3a j c
  have r3 : Rnd hi (n + 1) h3 := r2.keep (h3a _ (by omega)) fun j hj => h3a j (by omega)
  refine fq_use (spec_FeasibleSets s3 b1 b2 b3 _ (by omega)) fun x4 h4 n4 hn4 hs4 ⟨v4, e4, s4⟩ => ?_
  subst e4
  obtain ⟨g1, g2⟩ := sets_le ll q feasT
  have s5 := s3.keep (h' := h4) fun j a c => hs4 j (by omega)
  have r5 : Rnd hi (n + 1) h4 := r3.keep (hs4 _ (by omega)) fun j hj => hs4 j (by omega)
  have c5 : h4 n2 = some ⟨30, [v2, u2], true, 0⟩ := (hs4 _ (by omega)).trans h3c
  have d5 : h4 n = some ⟨30, [.nilsl, .nilsl], true, 0⟩ := by rw [hs4 n (by omega), h3a n (by omega), c2]
  generalize (setsV ll q feasT).1 = sl at s4 g1 g2
  generalize (setsV ll q feasT).2 = sc
  simp (maxSteps := 2000000) -implicitDefEqProofs (disch := omega) only [xsW, xsC, xsD, xsE, fillA, reduceCtorEq, Nat.reduceAdd, Nat.reduceSub, Nat.reduceLeDiff, Nat.reduceMul, Int.reduceLT, Int.reduceLE, Int.reduceEq, Int.reduceNe, Int.reduceAdd, Int.reduceSub, Int.reduceMul, Int.reduceNeg, Int.reduceToNat]
  (refine gd_dec (fun c1 => ?_) (fun c1 => ?_) <;> simp (maxSteps := 2000000) -implicitDefEqProofs (disch := omega) only [xsW, xsC, xsD, xsE, fillA, reduceCtorEq, Nat.reduceAdd, Nat.reduceSub, Nat.reduceLeDiff, Nat.reduceMul, Int.reduceLT, Int.reduceLE, Int.reduceEq, Int.reduceNe, Int.reduceAdd, Int.reduceSub, Int.reduceMul, Int.reduceNeg, Int.reduceToNat,  c1])
  · simp (maxSteps := 2000000) -implicitDefEqProofs (disch := omega) only [xsW, xsC, xsD, xsE, fillA, reduceCtorEq, Nat.reduceAdd, Nat.reduceSub, Nat.reduceLeDiff, Nat.reduceMul, Int.reduceLT, Int.reduceLE, Int.reduceEq, Int.reduceNe, Int.reduceAdd, Int.reduceSub, Int.reduceMul, Int.reduceNeg, Int.reduceToNat,  s4.ln]
    (refine gd_dec (fun c2 => ?_) (fun c2 => ?_) <;> simp (maxSteps := 2000000) -implicitDefEqProofs (disch := omega) only [xsW, xsC, xsD, xsE, fillA, reduceCtorEq, Nat.reduceAdd, Nat.reduceSub, Nat.reduceLeDiff, Nat.reduceMul, Int.reduceLT, Int.reduceLE, Int.reduceEq, Int.reduceNe, Int.reduceAdd, Int.reduceSub, Int.reduceMul, Int.reduceNeg, Int.reduceToNat,  c2])
    · refine mq_use (spec_l01Next r5 (by omega) 2 n4 (by omega)) (fun i a c => .inl (by omega)) fun x6 h6 n6 hn6 ⟨en, ⟨y6, hy, _, _, _⟩, r6, sm6⟩ => ?_
      subst en; subst hy
      have s6 := s5.keep (h' := h6) fun j a c => sm6 j (by omega)
      have c6 := (sm6 n2 (by omega)).trans c5
      have d6 := (sm6 n (by omega)).trans d5
      have t6 := s4.keep (h' := h6) fun j a c => sm6 j (by omega)
      simp (maxSteps := 2000000) -implicitDefEqProofs (disch := omega) only [xsW, xsC, xsD, xsE, fillA, reduceCtorEq, Nat.reduceAdd, Nat.reduceSub, Nat.reduceLeDiff, Nat.reduceMul, Int.reduceLT, Int.reduceLE, Int.reduceEq, Int.reduceNe, Int.reduceAdd, Int.reduceSub, Int.reduceMul, Int.reduceNeg, Int.reduceToNat]
      (refine cd_dec (fun c3 => ?_) (fun c3 => ?_) <;> simp (maxSteps := 2000000) -implicitDefEqProofs (disch := omega) only [xsW, xsC, xsD, xsE, fillA, reduceCtorEq, Nat.reduceAdd, Nat.reduceSub, Nat.reduceLeDiff, Nat.reduceMul, Int.reduceLT, Int.reduceLE, Int.reduceEq, Int.reduceNe, Int.reduceAdd, Int.reduceSub, Int.reduceMul, Int.reduceNeg, Int.reduceToNat,  c3])
      · -- one of the feasible sets
        obtain ⟨bl, hbl, hbw'⟩ := r6.blk
        simp (maxSteps := 2000000) -implicitDefEqProofs (disch := omega) only [xsW, xsC, xsD, xsE, fillA, reduceCtorEq, Nat.reduceAdd, Nat.reduceSub, Nat.reduceLeDiff, Nat.reduceMul, Int.reduceLT, Int.reduceLE, Int.reduceEq, Int.reduceNe, Int.reduceAdd, Int.reduceSub, Int.reduceMul, Int.reduceNeg, Int.reduceToNat,  c6, t6.ln]
        refine mqp_use (spec_l01Next r6 (by omega) sl.length n6 (by omega)) hbl hbw' (by omega) (.inl (by omega)) (fun v' h' n' hR => ⟨hR.1, hR.2.2.2⟩) fun x7 h7 ⟨_, ⟨y7, hy, y70, y71, _⟩, r7, sm7⟩ => ?_
        subst hy
        replace y71 := y71 (by omega)
        obtain ⟨m, rfl⟩ : ∃ m : Nat, y7 = m := ⟨y7.toNat, by omega⟩
        have t7 := t6.keep (h' := h7) fun j a c => sm7 j (by omega)
        have s7 := s6.keep (h' := h7) fun j a c => sm7 j (by omega)
        have d7 := (sm7 n (by omega)).trans d6
        have hbv := Sl.below t7 (by rw [t7.slen]; omega)
        have hx := g2 _ (getD_mem (d := 0) (l := sl) (k := m) (by omega))
        simp (maxSteps := 2000000) -implicitDefEqProofs (disch := omega) only [xsW, xsC, xsD, xsE, fillA, reduceCtorEq, Nat.reduceAdd, Nat.reduceSub, Nat.reduceLeDiff, Nat.reduceMul, Int.reduceLT, Int.reduceLE, Int.reduceEq, Int.reduceNe, Int.reduceAdd, Int.reduceSub, Int.reduceMul, Int.reduceNeg, Int.reduceToNat,  t7.ia, t7.ld, d7, w1, w2, w3]
        refine ⟨⟨by omega, by omega⟩, fun _ h9 hh => ⟨v2, u2, vs2, ll, q, _, ⟨⟨rfl, rfl⟩, rfl⟩, (s7.keep fun i a c => by rw [hh i (by omega) (by omega), upd_other (by omega)]).wide (by omega) (by omega), f2, by unfold in64; omega⟩⟩
      · have hz0 := hn6
        obtain ⟨bl, hbl, hbw'⟩ := r6.blk
        have hsh := shl1 (show min q.length 5 ≤ 5 by omega)
        have hpw := pw_le (show min q.length 5 ≤ 5 by omega)
        simp (maxSteps := 2000000) -implicitDefEqProofs (disch := omega) only [xsW, xsC, xsD, xsE, fillA, reduceCtorEq, Nat.reduceAdd, Nat.reduceSub, Nat.reduceLeDiff, Nat.reduceMul, Int.reduceLT, Int.reduceLE, Int.reduceEq, Int.reduceNe, Int.reduceAdd, Int.reduceSub, Int.reduceMul, Int.reduceNeg, Int.reduceToNat,  c6, s6.Q.ln]
        have hmn : (min (q.length : Int) 5) = ((min q.length 5 : Nat) : Int) := by omega
        rw [hmn]
        simp (maxSteps := 2000000) -implicitDefEqProofs (disch := omega) only [xsW, xsC, xsD, xsE, fillA, reduceCtorEq, Nat.reduceAdd, Nat.reduceSub, Nat.reduceLeDiff, Nat.reduceMul, Int.reduceLT, Int.reduceLE, Int.reduceEq, Int.reduceNe, Int.reduceAdd, Int.reduceSub, Int.reduceMul, Int.reduceNeg, Int.reduceToNat,  hsh]
        refine ⟨by unfold in64; omega, ?_⟩
        refine mqp_use (spec_l01Next r6 (by omega) 24 n6 (by omega)) hbl hbw' (by omega) (.inl (by omega)) (fun v' h' n' hR => ⟨hR.1, hR.2.2.2⟩) fun x7 h7 ⟨_, ⟨y7, hy, y70, y71, _⟩, r7, sm7⟩ => ?_
        subst hy
        replace y71 := y71 (by omega)
        obtain ⟨bl7, hbl7, hbw7⟩ := r7.blk
        have hdv : 0 ≤ y7.tdiv 23 ∧ y7.tdiv 23 ≤ 1 := by
          have h1 : y7.tdiv 23 = y7 / 23 := Int.tdiv_eq_ediv_of_nonneg y70
          omega
        simp (maxSteps := 2000000) -implicitDefEqProofs (disch := omega) only [xsW, xsC, xsD, xsE, fillA, reduceCtorEq, Nat.reduceAdd, Nat.reduceSub, Nat.reduceLeDiff, Nat.reduceMul, Int.reduceLT, Int.reduceLE, Int.reduceEq, Int.reduceNe, Int.reduceAdd, Int.reduceSub, Int.reduceMul, Int.reduceNeg, Int.reduceToNat]
        refine mqp_use (spec_l01Next r7 (by omega) _ n6 (by omega)) hbl7 hbw7 (by omega) (.inl (by omega)) (fun v' h' n' hR => ⟨hR.1, hR.2.2.2⟩) fun x8 h8 ⟨_, ⟨y8, hy, y80, y81, _⟩, r8, sm8⟩ => ?_
        subst hy
        replace y81 := y81 (by omega)
        have d8 : h8 n = some ⟨30, [.nilsl, .nilsl], true, 0⟩ := by rw [sm8 n (by omega), sm7 n (by omega), d6]
        simp (maxSteps := 2000000) -implicitDefEqProofs (disch := omega) only [xsW, xsC, xsD, xsE, fillA, reduceCtorEq, Nat.reduceAdd, Nat.reduceSub, Nat.reduceLeDiff, Nat.reduceMul, Int.reduceLT, Int.reduceLE, Int.reduceEq, Int.reduceNe, Int.reduceAdd, Int.reduceSub, Int.reduceMul, Int.reduceNeg, Int.reduceToNat,  d8, w1, w2, w3]
        refine ⟨by omega, fun _ h9 hh => ⟨v2, u2, vs2, ll, q, _, ⟨⟨rfl, rfl⟩, rfl⟩, (s6.keep fun i a c => by rw [hh i (by omega) (by omega), upd_other (by omega), sm8 i (by omega), sm7 i (by omega)]).wide (by omega) (by omega), f2, by unfold in64; omega⟩⟩
    · have hz0 := hn4
      obtain ⟨bl, hbl, hbw'⟩ := r5.blk
      have hsh := shl1 (show min q.length 5 ≤ 5 by omega)
      have hpw := pw_le (show min q.length 5 ≤ 5 by omega)
      simp (maxSteps := 2000000) -implicitDefEqProofs (disch := omega) only [xsW, xsC, xsD, xsE, fillA, reduceCtorEq, Nat.reduceAdd, Nat.reduceSub, Nat.reduceLeDiff, Nat.reduceMul, Int.reduceLT, Int.reduceLE, Int.reduceEq, Int.reduceNe, Int.reduceAdd, Int.reduceSub, Int.reduceMul, Int.reduceNeg, Int.reduceToNat,  c5, s5.Q.ln]
      have hmn : (min (q.length : Int) 5) = ((min q.length 5 : Nat) : Int) := by omega
      rw [hmn]
      simp (maxSteps := 2000000) -implicitDefEqProofs (disch := omega) only [xsW, xsC, xsD, xsE, fillA, reduceCtorEq, Nat.reduceAdd, Nat.reduceSub, Nat.reduceLeDiff, Nat.reduceMul, Int.reduceLT, Int.reduceLE, Int.reduceEq, Int.reduceNe, Int.reduceAdd, Int.reduceSub, Int.reduceMul, Int.reduceNeg, Int.reduceToNat,  hsh]
      refine ⟨by unfold in64; omega, ?_⟩
      refine mqp_use (spec_l01Next r5 (by omega) 24 n4 (by omega)) hbl hbw' (by omega) (.inl (by omega)) (fun v' h' n' hR => ⟨hR.1, hR.2.2.2⟩) fun x7 h7 ⟨_, ⟨y7, hy, y70, y71, _⟩, r7, sm7⟩ => ?_
      subst hy
      replace y71 := y71 (by omega)
      obtain ⟨bl7, hbl7, hbw7⟩ := r7.blk
      have hdv : 0 ≤ y7.tdiv 23 ∧ y7.tdiv 23 ≤ 1 := by
        have h1 : y7.tdiv 23 = y7 / 23 := Int.tdiv_eq_ediv_of_nonneg y70
        omega
      simp (maxSteps := 2000000) -implicitDefEqProofs (disch := omega) only [xsW, xsC, xsD, xsE, fillA, reduceCtorEq, Nat.reduceAdd, Nat.reduceSub, Nat.reduceLeDiff, Nat.reduceMul, Int.reduceLT, Int.reduceLE, Int.reduceEq, Int.reduceNe, Int.reduceAdd, Int.reduceSub, Int.reduceMul, Int.reduceNeg, Int.reduceToNat]
      refine mqp_use (spec_l01Next r7 (by omega) _ n4 (by omega)) hbl7 hbw7 (by omega) (.inl (by omega)) (fun v' h' n' hR => ⟨hR.1, hR.2.2.2⟩) fun x8 h8 ⟨_, ⟨y8, hy, y80, y81, _⟩, r8, sm8⟩ => ?_
      subst hy
      replace y81 := y81 (by omega)
      have d8 : h8 n = some ⟨30, [.nilsl, .nilsl], true, 0⟩ := by rw [sm8 n (by omega), sm7 n (by omega), d5]
      simp (maxSteps := 2000000) -implicitDefEqProofs (disch := omega) only [xsW, xsC, xsD, xsE, fillA, reduceCtorEq, Nat.reduceAdd, Nat.reduceSub, Nat.reduceLeDiff, Nat.reduceMul, Int.reduceLT, Int.reduceLE, Int.reduceEq, Int.reduceNe, Int.reduceAdd, Int.reduceSub, Int.reduceMul, Int.reduceNeg, Int.reduceToNat,  d8, w1, w2, w3]
      refine ⟨by omega, fun _ h9 hh => ⟨v2, u2, vs2, ll, q, _, ⟨⟨rfl, rfl⟩, rfl⟩, (s5.keep fun i a c => by rw [hh i (by omega) (by omega), upd_other (by omega), sm8 i (by omega), sm7 i (by omega)]).wide (by omega) (by omega), f2, by unfold in64; omega⟩⟩
  · have hz0 := hn4
    obtain ⟨bl, hbl, hbw'⟩ := r5.blk
    have hsh := shl1 (show min q.length 5 ≤ 5 by omega)
    have hpw := pw_le (show min q.length 5 ≤ 5 by omega)
    simp (maxSteps := 2000000) -implicitDefEqProofs (disch := omega) only [xsW, xsC, xsD, xsE, fillA, reduceCtorEq, Nat.reduceAdd, Nat.reduceSub, Nat.reduceLeDiff, Nat.reduceMul, Int.reduceLT, Int.reduceLE, Int.reduceEq, Int.reduceNe, Int.reduceAdd, Int.reduceSub, Int.reduceMul, Int.reduceNeg, Int.reduceToNat,  c5, s5.Q.ln]
    have hmn : (min (q.length : Int) 5) = ((min q.length 5 : Nat) : Int) := by omega
    rw [hmn]
    simp (maxSteps := 2000000) -implicitDefEqProofs (disch := omega) only [xsW, xsC, xsD, xsE, fillA, reduceCtorEq, Nat.reduceAdd, Nat.reduceSub, Nat.reduceLeDiff, Nat.reduceMul, Int.reduceLT, Int.reduceLE, Int.reduceEq, Int.reduceNe, Int.reduceAdd, Int.reduceSub, Int.reduceMul, Int.reduceNeg, Int.reduceToNat,  hsh]
    refine ⟨by unfold in64; omega, ?_⟩
    refine mqp_use (spec_l01Next r5 (by omega) 24 n4 (by omega)) hbl hbw' (by omega) (.inl (by omega)) (fun v' h' n' hR => ⟨hR.1, hR.2.2.2⟩) fun x7 h7 ⟨_, ⟨y7, hy, y70, y71, _⟩, r7, sm7⟩ => ?_
    subst hy
    replace y71 := y71 (by omega)
    obtain ⟨bl7, hbl7, hbw7⟩ := r7.blk
    have hdv : 0 ≤ y7.tdiv 23 ∧ y7.tdiv 23 ≤ 1 := by
      have h1 : y7.tdiv 23 = y7 / 23 := Int.tdiv_eq_ediv_of_nonneg y70
      omega
    simp (maxSteps := 2000000) -implicitDefEqProofs (disch := omega) only [xsW, xsC, xsD, xsE, fillA, reduceCtorEq, Nat.reduceAdd, Nat.reduceSub, Nat.reduceLeDiff, Nat.reduceMul, Int.reduceLT, Int.reduceLE, Int.reduceEq, Int.reduceNe, Int.reduceAdd, Int.reduceSub, Int.reduceMul, Int.reduceNeg, Int.reduceToNat]
    refine mqp_use (spec_l01Next r7 (by omega) _ n4 (by omega)) hbl7 hbw7 (by omega) (.inl (by omega)) (fun v' h' n' hR => ⟨hR.1, hR.2.2.2⟩) fun x8 h8 ⟨_, ⟨y8, hy, y80, y81, _⟩, r8, sm8⟩ => ?_
    subst hy
    replace y81 := y81 (by omega)
    have d8 : h8 n = some ⟨30, [.nilsl, .nilsl], true, 0⟩ := by rw [sm8 n (by omega), sm7 n (by omega), d5]
    simp (maxSteps := 2000000) -implicitDefEqProofs (disch := omega) only [xsW, xsC, xsD, xsE, fillA, reduceCtorEq, Nat.reduceAdd, Nat.reduceSub, Nat.reduceLeDiff, Nat.reduceMul, Int.reduceLT, Int.reduceLE, Int.reduceEq, Int.reduceNe, Int.reduceAdd, Int.reduceSub, Int.reduceMul, Int.reduceNeg, Int.reduceToNat,  d8, w1, w2, w3]
    refine ⟨by omega, fun _ h9 hh => ⟨v2, u2, vs2, ll, q, _, ⟨⟨rfl, rfl⟩, rfl⟩, (s5.keep fun i a c => by rw [hh i (by omega) (by omega), upd_other (by omega), sm8 i (by omega), sm7 i (by omega)]).wide (by omega) (by omega), f2, by unfold in64; omega⟩⟩
end
end Go.Proofs.YtkpibnhddhdooadGreat.L
