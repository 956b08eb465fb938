/- Contracts: SolutionOfSet. -/
import Derived.Test.YtmjfekgbbjojdacA10
import Derived.Test.YtmjfekgbbjojdacA29
import Derived.Test.YtmjfekgbbjojdacA31
namespace Go.Proofs.Ytmjfekgbbjojdac.L
open Go
set_option linter.unusedSimpArgs false
set_option linter.unusedVariables false
def c_spec_l02Told : F := ⟨(.seq (.reg false [⟨(some 2), (.mv (.c .nilsl)), none⟩, ⟨(some 3), (.mv (.c (.int .i64 0))), none⟩]) (.seq (.seq (.reg false [⟨(some 4), (.mv (.c (.int .i64 0))), none⟩]) (.block 0 (.loop (.seq (.seq (.reg false [⟨(some 5), (.mv (.t 4)), none⟩, ⟨(some 6), (.mv (.t 0)), none⟩, ⟨(some 7), (.len (.t 6)), none⟩, ⟨(some 8), (.bin .lss (.t 5) (.t 7)), none⟩]) (.cond (.t 8) .skip (.exit 0))) (.seq (.block 1 (.seq (.reg false [⟨(some 11), (.mv (.t 0)), none⟩, ⟨(some 12), (.mv (.t 4)), none⟩, ⟨(some 13), (.ia 2 (.t 11) (.t 12)), none⟩, ⟨(some 14), (.fa 0 (.t 13)), none⟩, ⟨(some 15), (.ld1 (.t 14)), none⟩, ⟨(some 16), (.call (.f 81) [(.t 15), (.c (.int .i64 (-1000000000))), (.c (.int .i64 1000000000))]), none⟩, ⟨(some 17), (.un .not (.t 16)), none⟩, ⟨(some 18), (.mv (.t 17)), none⟩, ⟨(some 19), (.mv (.t 0)), (some (18, false))⟩, ⟨(some 20), (.mv (.t 4)), (some (18, false))⟩, ⟨(some 21), (.ia 2 (.t 19) (.t 20)), (some (18, false))⟩, ⟨(some 22), (.fa 1 (.t 21)), (some (18, false))⟩, ⟨(some 23), (.ld1 (.t 22)), (some (18, false))⟩, ⟨(some 24), (.bin .gtr (.t 23) (.c (.int .i64 1000000000))), (some (18, false))⟩, ⟨(some 25), (.pick (.t 18) (.c (.bool true)) (.t 24)), none⟩]) (.cond (.t 25) (.seq (.reg false [⟨(some 2), (.mv (.c .nilsl)), none⟩, ⟨(some 3), (.mv (.c (.int .i64 3))), none⟩]) .ret) .skip))) (.reg false [⟨(some 9), (.mv (.t 4)), none⟩, ⟨(some 10), (.bin .add (.t 9) (.c (.int .i64 1))), none⟩, ⟨(some 4), (.mv (.t 10)), none⟩])))))) (.seq (.reg false [⟨(some 26), (.mv (.t 0)), none⟩, ⟨(some 2), (.mv (.t 26)), none⟩, ⟨(some 3), (.mv (.c (.int .i64 0))), none⟩]) .ret))), 27, [(.t 2), (.t 3)]⟩
theorem k_spec_l02Told : compF Try.prog Try.f84 = some c_spec_l02Told := by kernel_rfl

def wr2 (h : AH) (i o : Nat) (cs : List AV) : AH := upd h i ((h i).map fun b => { b with cells := putA b.cells o cs })
theorem wr2_other {h : AH} {i o j : Nat} {cs : List AV} (e : j ≠ i) : wr2 h i o cs j = h j := upd_other e
theorem putA_two {z : List AV} {o : Nat} {x y : AV} (h : o + 2 ≤ z.length) : putA (putA z o [x]) (o + 1) [y] = putA z o [x, y] := by
  rw [putA_eq_set (by rw [putA_len (by omega)]; omega), putA_eq_set (by omega)]
  refine List.ext_getElem? fun i => ?_
  simp only [putA, List.getElem?_set, List.length_set, List.getElem?_append, List.length_append, List.length_take, List.length_cons, List.length_nil, List.getElem?_take, List.getElem?_drop]
  by_cases h1 : i < o
  · rw [if_neg (by omega), if_neg (by omega), if_pos (by omega), if_pos (by omega), if_pos h1]
  · by_cases h2 : i = o
    · subst h2; rw [if_neg (by omega), if_pos rfl, if_pos (by omega), if_pos (by omega), if_neg (by omega), show i - min i z.length = 0 by omega]; rfl
    · by_cases h3 : i = o + 1
      · subst h3; rw [if_pos rfl, if_pos (by omega), if_pos (by omega), if_neg (by omega), show o + 1 - min o z.length = 1 by omega]; rfl
      · rw [if_neg (by omega), if_neg (by omega), if_neg (by omega)]
        congr 1; omega
section
variable {lo hi : Nat} {h : AH} {v : AV} {l : List (Int × Int)}
theorem Fracs.st2 (s : Fracs true lo hi h v l) {k : Nat} (hk : k < l.length) {x y : Int} {n0 n : Nat} {W : Nat → Prop} (hW : ∀ i, lo ≤ i → i < hi → n0 ≤ i ∨ W i) (hn : hi ≤ n) (K : AV → AH → Nat → Prop) :
    S1 n0 W 2 (.ptr (bid v) (boff v + k * 2)) (.agg [.int .i64 x, .int .i64 y]) K h n = K .any (wr2 h (bid v) (boff v + k * 2) [.int .i64 x, .int .i64 y]) n := by
  rcases Sl.shape s with rfl | ⟨hw, _⟩ | ⟨h1, h2, h3, ⟨ty, cells, w, op⟩, hb, hw, hl, hcc⟩
  · have h0 : (0 : Nat) = l.length := Fracs.slen s
    omega
  · cases hw
  · have hw' : w = true := hw rfl
    subst hw'
    have hfl := fracs_len l
    have hl : boff v + (fracs l).length ≤ cells.length := hl
    rw [s1, hb, s2]
    simp only [wr2, hb, Option.map_some, AV.storable, AV.cells]
    refine propext ⟨fun h => h.2.2.2.2.2, fun h => ⟨by simp [AV.storable, one_int], by simp [AV.cells], by omega, by omega, hW _ h2 h3, h⟩⟩
theorem Fracs.wr2 (s : Fracs true lo hi h v l) {k : Nat} (hk : k < l.length) (x y : Int) : Fracs true lo hi (L.wr2 h (bid v) (boff v + k * 2) [.int .i64 x, .int .i64 y]) v (l.set k (x, y)) := by
  have h1 := (s.wrn hk x).wrd (k := k) (by simpa using hk) y
  have e1 : (l.set k (x, (l.getD k (0, 0)).2)).set k (((l.set k (x, (l.getD k (0, 0)).2)).getD k (0, 0)).1, y) = l.set k (x, y) := by
    rw [List.set_set, getD_set, if_pos ⟨rfl, hk⟩]
  rw [e1] at h1
  rcases Sl.shape s with rfl | ⟨hw, _⟩ | ⟨h2, h3, h4, ⟨ty, cells, w, op⟩, hb, hw, hl, hcc⟩
  · have h0 : (0 : Nat) = l.length := Fracs.slen s
    omega
  · cases hw
  · have hfl := fracs_len l
    have hl : boff v + (fracs l).length ≤ cells.length := hl
    have e2 : L.wr2 h (bid v) (boff v + k * 2) [.int .i64 x, .int .i64 y] = wr (wr h (bid v) (boff v + k * 2) (.int .i64 x)) (bid v) (boff v + k * 2 + 1) (.int .i64 y) := by
      funext i
      by_cases hi : i = bid v
      · subst hi
        simp only [L.wr2, wr, upd_same, hb, Option.map_some]
        rw [putA_two (by omega)]
      · rw [wr2_other hi, wr_other hi, wr_other hi]
    rw [e2]; exact h1
end
/-- What a set leaves of a list. -/
def onlyL (l : List Int) (a : Int) : List Int := rowOf l.length fun k => if hasB a k = true then l.getD k 0 else 0
def onlyF (l : List (Int × Int)) (a : Int) : List (Int × Int) := (List.range l.length).map fun k => if hasB a k = true then l.getD k (0, 0) else (0, 1)
theorem onlyF_len (l : List (Int × Int)) (a : Int) : (onlyF l a).length = l.length := by simp [onlyF]
theorem onlyF_get {l : List (Int × Int)} {a : Int} {k : Nat} (hk : k < l.length) : (onlyF l a).getD k (0, 0) = if hasB a k = true then l.getD k (0, 0) else (0, 1) := by
  simp [onlyF, List.getD, hk]
def solV (ll : List (List Int)) (q : List Int) (a : Int) : List (Int × Int) × Int :=
  if codeP ll q a = 0 then (if setP ll q feasT a.toNat = true then (if allFr (onlyF (ptF ll q a) a) = true then (onlyF (ptF ll q a) a, 0) else ([], 3)) else ([], 5)) else ([], codeP ll q a)
theorem solV_small (ll : List (List Int)) (q : List Int) (a : Int) : (solV ll q a).1.length ≤ 1048576 := by
  unfold solV
  split
  · rename_i hc
    have := ((isMat_iff ll).1 (isProb_facts (codeP_zero.1 hc).1).1).2.1
    split
    · split
      · simp only [onlyF_len, ptF_len]; omega
      · simp
    · simp
  · simp
theorem set_nat {n : Nat} {a : Int} (h : inSet n a = true) : ((a.toNat : Nat) : Int) = a := by
  have := of_decide_eq_true h; omega
theorem red_zero {d : Int} (hd : d ≠ 0) : red 0 d = (0, 1) := by
  simp only [red, Int.zero_mul, Int.gcd_zero_left]
  refine Prod.ext (by simp) ?_
  simp only
  exact Int.ediv_self (by omega)
theorem onlyF_sol {ll : List (List Int)} {q : List Int} {a : Int} (hd : dtS ll a ≠ 0) : ((onlyL (solL ll q a) a).map fun y => red y (dtS ll a).natAbs) = onlyF (ptF ll q a) a := by
  have h1 := ptF_sol ll q a hd
  have hl1 := solL_len ll q a
  have hl2 := ptF_len ll q a
  refine getD_ext (d := (0, 0)) (by simp [onlyL, rowOf_len, onlyF_len, hl1, hl2]) fun k hk => ?_
  simp only [List.length_map, onlyL, rowOf_len, hl1] at hk
  rw [getD_map _ _ _ 0 _ (by rw [onlyL, rowOf_len]; omega), onlyF_get (by omega), onlyL, rowOf_get (by omega)]
  have h2 : (ptF ll q a).getD k (0, 0) = red ((solL ll q a).getD k 0) (dtS ll a).natAbs := by rw [← h1, getD_map _ _ _ 0 _ (by omega)]
  split
  · exact h2.symm
  · exact red_zero (by omega)
/-- In lowest terms, told by whole words. -/
def Low (p : Int × Int) : Prop := 1 ≤ p.2 ∧ Int.gcd p.1 p.2 = 1 ∧ in64 p.1 ∧ in64 p.2
theorem red_low {x d : Int} (hd : d ≠ 0) : 1 ≤ (red x d).2 ∧ Int.gcd (red x d).1 (red x d).2 = 1 := by
  have hg : 0 < (Int.gcd x d : Int) := by have := Int.gcd_pos_of_ne_zero_right x hd; omega
  have hgd : (Int.gcd x d : Int) ∣ (d.natAbs : Int) := Int.dvd_natAbs.2 (Int.gcd_dvd_right ..)
  have e1 : Int.gcd (x * d.sign) (d.natAbs : Int) = Int.gcd x d := by
    rcases Int.lt_or_gt_of_ne hd with h | h
    · rw [Int.sign_eq_neg_one_of_neg h]; simp [Int.gcd]
    · rw [Int.sign_eq_one_of_pos h]; simp [Int.gcd]
  constructor
  · simp only [red]
    obtain ⟨c, hc⟩ := hgd
    have h2 : ((d.natAbs / Int.gcd x d : Nat) : Int) = c := by rw [Int.natCast_ediv, hc, Int.mul_ediv_cancel_left _ (by omega)]
    have h3 : 0 < (Int.gcd x d : Int) * c := by omega
    have h4 : 0 < c := by
      rcases Int.lt_or_le 0 c with h | h
      · exact h
      · have := Int.mul_le_mul_of_nonneg_left h (show 0 ≤ (Int.gcd x d : Int) by omega)
        rw [Int.mul_zero] at this; omega
    omega
  · have := Int.gcd_ediv_gcd_ediv_gcd (i := x * d.sign) (j := (d.natAbs : Int)) (by rw [e1]; omega)
    rw [e1] at this
    simpa only [red, Int.natCast_ediv] using this
theorem ptF_low {ll : List (List Int)} {q : List Int} {a : Int} (hp : isProb ll q = true) (hd : dtS ll a ≠ 0) {k : Nat} (hk : k < ll.length) : Low ((ptF ll q a).getD k (0, 0)) := by
  have h1 := ptF_b (s := a) hk hp hd
  have h2 := dtS_b hp a
  have e : (ptF ll q a).getD k (0, 0) = red (dtK ll q a k) (dtS ll a) := by rw [ptF, getD_map _ _ _ 0 _ (by rw [ptL_len]; exact hk), ptL, rowOf_get hk]
  rw [e] at h1 ⊢
  obtain ⟨h3, h4⟩ := red_low (x := dtK ll q a k) hd
  refine ⟨h3, h4, h1, ?_⟩
  have h5 : ((red (dtK ll q a k) (dtS ll a)).2 : Int) ≤ ((dtS ll a).natAbs : Int) := by
    simp only [red]
    exact Int.ofNat_le.2 (Nat.div_le_self _ _)
  unfold in64; omega
theorem onlyF_low {ll : List (List Int)} {q : List Int} {a : Int} (hp : isProb ll q = true) (hd : dtS ll a ≠ 0) {k : Nat} (hk : k < ll.length) : Low ((onlyF (ptF ll q a) a).getD k (0, 0)) := by
  rw [onlyF_get (by rw [ptF_len]; exact hk)]
  split
  · exact ptF_low hp hd hk
  · exact ⟨by decide, by decide, by unfold in64; decide, by unfold in64; decide⟩
/-- A list with the places before k that a set does not have put to nothing. -/
def stgL (l : List Int) (a : Int) (k : Nat) : List Int := rowOf l.length fun j => if j < k ∧ hasB a j = false then 0 else l.getD j 0
theorem stgL_len (l : List Int) (a : Int) (k : Nat) : (stgL l a k).length = l.length := rowOf_len _ _
theorem stgL_zero (l : List Int) (a : Int) : stgL l a 0 = l := getD_ext (d := 0) (stgL_len _ _ _) fun k hk => by
  rw [stgL, rowOf_get (by rw [stgL_len] at hk; exact hk), if_neg (by omega)]
theorem stgL_t {l : List Int} {a : Int} {k : Nat} (h : hasB a k = true) : stgL l a (k + 1) = stgL l a k := getD_ext (d := 0) (by simp [stgL_len]) fun j hj => by
  rw [stgL_len] at hj
  rw [stgL, stgL, rowOf_get hj, rowOf_get hj]
  by_cases e : j = k
  · subst e; rw [if_neg (by simp [h]), if_neg (by simp [h])]
  · by_cases e2 : j < k
    · simp [show j < k + 1 by omega, e2]
    · simp [show ¬ j < k + 1 by omega, e2]
theorem stgL_f {l : List Int} {a : Int} {k : Nat} (h : hasB a k = false) (hk : k < l.length) : stgL l a (k + 1) = (stgL l a k).set k 0 := getD_ext (d := 0) (by simp [stgL_len]) fun j hj => by
  rw [stgL_len] at hj
  rw [getD_set, stgL, stgL, rowOf_get hj, rowOf_get hj, rowOf_len]
  by_cases e : j = k
  · subst e; rw [if_pos ⟨by omega, h⟩, if_pos ⟨rfl, hk⟩]
  · rw [if_neg (c := k = j ∧ j < l.length) (fun h9 => e h9.1.symm)]
    by_cases e2 : j < k
    · simp [show j < k + 1 by omega, e2]
    · simp [show ¬ j < k + 1 by omega, e2]
theorem stgL_full (l : List Int) (a : Int) : stgL l a l.length = onlyL l a := getD_ext (d := 0) (by simp [stgL_len, onlyL, rowOf_len]) fun j hj => by
  rw [stgL_len] at hj
  rw [stgL, onlyL, rowOf_get hj, rowOf_get hj]
  cases h : hasB a j <;> simp [hj]
def stgF (l : List (Int × Int)) (a : Int) (k : Nat) : List (Int × Int) := (List.range l.length).map fun j => if j < k ∧ hasB a j = false then (0, 1) else l.getD j (0, 0)
theorem stgF_len (l : List (Int × Int)) (a : Int) (k : Nat) : (stgF l a k).length = l.length := by simp [stgF]
theorem stgF_get {l : List (Int × Int)} {a : Int} {k j : Nat} (hj : j < l.length) : (stgF l a k).getD j (0, 0) = if j < k ∧ hasB a j = false then (0, 1) else l.getD j (0, 0) := by
  simp [stgF, List.getD, hj]
theorem stgF_zero (l : List (Int × Int)) (a : Int) : stgF l a 0 = l := getD_ext (d := (0, 0)) (stgF_len _ _ _) fun k hk => by
  rw [stgF_get (by rw [stgF_len] at hk; exact hk), if_neg (by omega)]
theorem stgF_t {l : List (Int × Int)} {a : Int} {k : Nat} (h : hasB a k = true) : stgF l a (k + 1) = stgF l a k := getD_ext (d := (0, 0)) (by simp [stgF_len]) fun j hj => by
  rw [stgF_len] at hj
  rw [stgF_get hj, stgF_get hj]
  by_cases e : j = k
  · subst e; rw [if_neg (by simp [h]), if_neg (by simp [h])]
  · by_cases e2 : j < k
    · simp [show j < k + 1 by omega, e2]
    · simp [show ¬ j < k + 1 by omega, e2]
theorem stgF_f {l : List (Int × Int)} {a : Int} {k : Nat} (h : hasB a k = false) (hk : k < l.length) : stgF l a (k + 1) = (stgF l a k).set k (0, 1) := getD_ext (d := (0, 0)) (by simp [stgF_len]) fun j hj => by
  rw [stgF_len] at hj
  rw [getD_set, stgF_get hj, stgF_get hj, stgF_len]
  by_cases e : j = k
  · subst e; rw [if_pos ⟨by omega, h⟩, if_pos ⟨rfl, hk⟩]
  · rw [if_neg (c := k = j ∧ j < l.length) (fun h9 => e h9.1.symm)]
    by_cases e2 : j < k
    · simp [show j < k + 1 by omega, e2]
    · simp [show ¬ j < k + 1 by omega, e2]
theorem stgF_full (l : List (Int × Int)) (a : Int) : stgF l a l.length = onlyF l a := getD_ext (d := (0, 0)) (by simp [stgF_len, onlyF_len]) fun j hj => by
  rw [stgF_len] at hj
  rw [stgF_get hj, onlyF_get hj]
  cases h : hasB a j <;> simp [hj]
section
variable {w : Bool} {lo hi : Nat} {h : AH} {v u : AV} {vs : List AV} {ll : List (List Int)} {q : List Int} {l : List Int}
theorem spec_l02Told {f : List (Int × Int)} (s : Fracs w lo hi h v f) (hl : f.length ≤ 1048576) (hf : ∀ k, k < f.length → Low (f.getD k (0, 0))) (n : Nat) :
    Q Try.prog 84 [v] h n (if allFr f = true then .tup [v, .int .i64 0] else .tup [.nilsl, .int .i64 3]) := by
  refine q_intro Try.func84 k_spec_l02Told ?_
  simp (maxSteps := 2000000) -implicitDefEqProofs (disch := omega) only [c_spec_l02Told, xsW, xsC, if_true, if_false, ite_true, ite_false, forall_const, ne_eq, beq_self_eq_true, bne_self_eq_false, imp_self, true_implies, false_implies, implies_true, evP, evE, ev, setD, Nat.reduceAdd, Nat.reduceSub, reduceCtorEq, fillA, cutA, Nat.reduceLeDiff, Nat.reduceMul, Int.reduceLT, Int.reduceLE, Int.reduceEq, Int.reduceNe, Int.reduceAdd, Int.reduceSub, Int.reduceMul, Int.reduceNeg, Int.reduceToNat]
  refine loop_for f.length 0 (fun k (_ : Unit) => [v, .any, .nilsl, .int .i64 0, .int .i64 k, .any, .any, .any, .any, .any, .any, .any, .any, .any, .any, .any, .any, .any, .any, .any, .any, .any, .any, .any, .any, .any, .any]) (fun _ _ => h)
    (fun k _ m => ∀ j, j < k → isFr 1000000000 (f.getD j (0, 0)).1 (f.getD j (0, 0)).2 = true) () (Nat.zero_le _) (fun j hj => absurd hj (Nat.not_lt_zero _)) (by simp [LeL, Le1]) (fun _ _ h => h) ?_
  rintro k - m - hk hm hall
  simp (maxSteps := 2000000) -implicitDefEqProofs (disch := omega) only [xsW, xsC, if_true, if_false, ite_true, ite_false, forall_const, ne_eq, beq_self_eq_true, bne_self_eq_false, imp_self, true_implies, false_implies, implies_true, evP, evE, ev, setD, Nat.reduceAdd, Nat.reduceSub, reduceCtorEq, fillA, cutA, Nat.reduceLeDiff, Nat.reduceMul, Int.reduceLT, Int.reduceLE, Int.reduceEq, Int.reduceNe, Int.reduceAdd, Int.reduceSub, Int.reduceMul, Int.reduceNeg, Int.reduceToNat,  s.ln]
  (refine cd_dec (fun c1 => ?_) (fun c1 => ?_) <;> simp (maxSteps := 2000000) -implicitDefEqProofs (disch := omega) only [xsW, xsC, if_true, if_false, ite_true, ite_false, forall_const, ne_eq, beq_self_eq_true, bne_self_eq_false, imp_self, true_implies, false_implies, implies_true, evP, evE, ev, setD, Nat.reduceAdd, Nat.reduceSub, reduceCtorEq, fillA, cutA, Nat.reduceLeDiff, Nat.reduceMul, Int.reduceLT, Int.reduceLE, Int.reduceEq, Int.reduceNe, Int.reduceAdd, Int.reduceSub, Int.reduceMul, Int.reduceNeg, Int.reduceToNat,  c1])
  · have hk2 : k < f.length := by omega
    obtain ⟨b1, b2, b3, b4⟩ := hf k hk2
    have bad : ¬ ((-1000000000 ≤ (f.getD k (0, 0)).1 ∧ (f.getD k (0, 0)).1 ≤ 1000000000) ∧ (f.getD k (0, 0)).2 ≤ 1000000000) → allFr f = false := fun hb => by
      cases hx : allFr f
      · rfl
      · have := (allFr_iff f).1 hx k hk2
        simp only [isFr, decide_eq_true_eq] at this
        omega
    simp (maxSteps := 2000000) -implicitDefEqProofs (disch := omega) only [xsW, xsC, if_true, if_false, ite_true, ite_false, forall_const, ne_eq, beq_self_eq_true, bne_self_eq_false, imp_self, true_implies, false_implies, implies_true, evP, evE, ev, setD, Nat.reduceAdd, Nat.reduceSub, reduceCtorEq, fillA, cutA, Nat.reduceLeDiff, Nat.reduceMul, Int.reduceLT, Int.reduceLE, Int.reduceEq, Int.reduceNe, Int.reduceAdd, Int.reduceSub, Int.reduceMul, Int.reduceNeg, Int.reduceToNat,  s.ia, s.ldn]
    refine q_use (spec_l01In _ _ _ _ _) fun n3 hn3 => ?_
    simp (maxSteps := 2000000) -implicitDefEqProofs (disch := omega) only [xsW, xsC, if_true, if_false, ite_true, ite_false, forall_const, ne_eq, beq_self_eq_true, bne_self_eq_false, imp_self, true_implies, false_implies, implies_true, evP, evE, ev, setD, Nat.reduceAdd, Nat.reduceSub, reduceCtorEq, fillA, cutA, Nat.reduceLeDiff, Nat.reduceMul, Int.reduceLT, Int.reduceLE, Int.reduceEq, Int.reduceNe, Int.reduceAdd, Int.reduceSub, Int.reduceMul, Int.reduceNeg, Int.reduceToNat]
    (refine gd_dec (fun c2 => ?_) (fun c2 => ?_) <;> simp (maxSteps := 2000000) -implicitDefEqProofs (disch := omega) only [xsW, xsC, if_true, if_false, ite_true, ite_false, forall_const, ne_eq, beq_self_eq_true, bne_self_eq_false, imp_self, true_implies, false_implies, implies_true, evP, evE, ev, setD, Nat.reduceAdd, Nat.reduceSub, reduceCtorEq, fillA, cutA, Nat.reduceLeDiff, Nat.reduceMul, Int.reduceLT, Int.reduceLE, Int.reduceEq, Int.reduceNe, Int.reduceAdd, Int.reduceSub, Int.reduceMul, Int.reduceNeg, Int.reduceToNat,  c2])
    · simp [bad (by omega)]
    · simp (maxSteps := 2000000) -implicitDefEqProofs (disch := omega) only [xsW, xsC, if_true, if_false, ite_true, ite_false, forall_const, ne_eq, beq_self_eq_true, bne_self_eq_false, imp_self, true_implies, false_implies, implies_true, evP, evE, ev, setD, Nat.reduceAdd, Nat.reduceSub, reduceCtorEq, fillA, cutA, Nat.reduceLeDiff, Nat.reduceMul, Int.reduceLT, Int.reduceLE, Int.reduceEq, Int.reduceNe, Int.reduceAdd, Int.reduceSub, Int.reduceMul, Int.reduceNeg, Int.reduceToNat,  s.ia, s.ldd]
      (refine cd_dec (fun c3 => ?_) (fun c3 => ?_) <;> simp (maxSteps := 2000000) -implicitDefEqProofs (disch := omega) only [xsW, xsC, if_true, if_false, ite_true, ite_false, forall_const, ne_eq, beq_self_eq_true, bne_self_eq_false, imp_self, true_implies, false_implies, implies_true, evP, evE, ev, setD, Nat.reduceAdd, Nat.reduceSub, reduceCtorEq, fillA, cutA, Nat.reduceLeDiff, Nat.reduceMul, Int.reduceLT, Int.reduceLE, Int.reduceEq, Int.reduceNe, Int.reduceAdd, Int.reduceSub, Int.reduceMul, Int.reduceNeg, Int.reduceToNat,  c3])
      · simp [bad (by omega)]
      · exact ⟨(), fun j hj => (Nat.lt_succ_iff_lt_or_eq.1 hj).elim (hall j) (fun e => by
          rw [e]; simp only [isFr, decide_eq_true_eq]; omega), by omega, by omega, (by simp [LeL, Le1])⟩
  · have hyes : allFr f = true := (allFr_iff f).2 fun j hj => hall j (by omega)
    simp [hyes]
end
end Go.Proofs.Ytmjfekgbbjojdac.L
