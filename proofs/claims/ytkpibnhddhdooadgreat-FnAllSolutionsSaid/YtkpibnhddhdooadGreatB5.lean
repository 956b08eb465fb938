/- Contracts: IsDegenerate, SignsOfSet. -/
import Derived.Test.YtkpibnhddhdooadGreatB4
set_option linter.unusedSimpArgs false
set_option linter.unusedVariables false
namespace Go.Proofs.YtkpibnhddhdooadGreat.L
open Go


section
variable {w : Bool} {lo hi : Nat} {h : AH} {v u : AV} {vs : List AV} {ll : List (List Int)} {q : List Int} {l : List Int}
end
def c_impl_only : F := ⟨(.seq (.reg false [⟨some 4, .mv (.c .nilsl), none⟩]) (.seq (.reg false [⟨some 7, .mv (.t 0), none⟩, ⟨some 8, .call (.f 111) [(.t 7)], none⟩, ⟨some 5, .mv (.t 8), none⟩]) (.seq (.seq (.reg false [⟨some 9, .mv (.t 5), none⟩, ⟨some 10, .len (.t 9), none⟩, ⟨some 11, .mv (.c (.int .i64 0)), none⟩]) (.block 0 (.loop (.seq (.reg false [⟨some 12, .bin .lss (.t 11) (.t 10), none⟩]) (.seq (.cond (.t 12) .skip (.exit 0)) (.seq (.block 1 (.seq (.reg false [⟨some 13, .mv (.t 11), none⟩, ⟨some 6, .mv (.t 13), none⟩]) (.seq (.reg false [⟨some 14, .mv (.t 1), none⟩, ⟨some 15, .mv (.t 6), none⟩, ⟨some 16, .call (.f 112) [(.t 14), (.t 15)], none⟩, ⟨some 17, .un .not (.t 16), none⟩]) (.cond (.t 17) (.reg false [⟨some 18, .mv (.t 5), none⟩, ⟨some 19, .mv (.t 6), none⟩, ⟨some 20, .ia 1 (.t 18) (.t 19), none⟩, ⟨none, .st 1 (.t 20) (.c (.int .i64 0)), none⟩]) .skip)))) (.reg false [⟨some 21, .bin .add (.t 11) (.c (.int .i64 1)), none⟩, ⟨some 11, .mv (.t 21), none⟩]))))))) (.seq (.reg false [⟨some 22, .mv (.t 5), none⟩, ⟨some 4, .mv (.t 22), none⟩]) .ret)))), 23, [(.t 4)]⟩
theorem k_impl_only : compF Tryz.prog Tryz.f83 = some c_impl_only := by kernel_rfl
def c_impl_SolutionOfSet : F := ⟨(.seq (.reg false [⟨some 2, .box 30 (.t 0), none⟩, ⟨some 4, .mv (.c .nilsl), none⟩, ⟨some 5, .mv (.c (.int .i64 0)), none⟩]) (.seq (.seq (.reg false [⟨some 10, .ld 2 (.t 2), none⟩, ⟨some 11, .mv (.t 1), none⟩, ⟨some 12, .call (.f 80) [(.t 10), (.t 11)], none⟩, ⟨some 6, .mv (.t 12), none⟩]) (.seq (.reg false [⟨some 13, .mv (.t 6), none⟩, ⟨some 14, .bin .neq (.t 13) (.c (.int .i64 0)), none⟩]) (.cond (.t 14) (.seq (.reg false [⟨some 15, .mv (.t 6), none⟩, ⟨some 4, .mv (.c .nilsl), none⟩, ⟨some 5, .mv (.t 15), none⟩]) .ret) .skip))) (.seq (.reg false [⟨some 17, .ld 2 (.t 2), none⟩, ⟨some 18, .mv (.t 1), none⟩, ⟨some 19, .call (.f 81) [(.t 17), (.t 18)], none⟩, ⟨some 16, .mv (.t 19), none⟩, ⟨some 20, .ext (.t 16) 0, none⟩, ⟨some 21, .ext (.t 16) 1, none⟩, ⟨some 22, .ext (.t 16) 2, none⟩, ⟨some 7, .mv (.t 20), none⟩, ⟨some 8, .mv (.t 21), none⟩, ⟨some 9, .mv (.t 22), none⟩]) (.seq (.seq (.reg false [⟨some 23, .mv (.t 9), none⟩, ⟨some 24, .un .not (.t 23), none⟩, ⟨some 25, .mv (.t 24), none⟩, ⟨some 26, .mv (.t 7), some (25, false)⟩, ⟨some 27, .call (.f 79) [(.t 26)], some (25, false)⟩, ⟨some 28, .un .not (.t 27), some (25, false)⟩, ⟨some 29, .pick (.t 25) (.c (.bool true)) (.t 28), none⟩]) (.cond (.t 29) (.seq (.reg false [⟨some 4, .mv (.c .nilsl), none⟩, ⟨some 5, .mv (.c (.int .i64 5)), none⟩]) .ret) .skip)) (.seq (.reg false [⟨some 30, .mv (.t 7), none⟩, ⟨some 31, .mv (.t 1), none⟩, ⟨some 32, .call (.f 83) [(.t 30), (.t 31)], none⟩, ⟨some 33, .mv (.t 8), none⟩, ⟨some 34, .call (.f 82) [(.t 32), (.t 33)], none⟩, ⟨some 35, .ext (.t 34) 0, none⟩, ⟨some 36, .ext (.t 34) 1, none⟩, ⟨some 4, .mv (.t 35), none⟩, ⟨some 5, .mv (.t 36), none⟩]) .ret))))), 37, [(.t 4), (.t 5)]⟩
theorem k_impl_SolutionOfSet : compF Tryz.prog Tryz.f47 = some c_impl_SolutionOfSet := by kernel_rfl
def c_spec_l02Solution : F := ⟨(.seq (.reg false [⟨some 2, .box 30 (.t 0), none⟩, ⟨some 4, .mv (.c .nilsl), none⟩]) (.seq (.reg false [⟨some 9, .ld 2 (.t 2), none⟩, ⟨some 10, .mv (.t 1), none⟩, ⟨some 11, .call (.f 101) [(.t 9), (.t 10)], none⟩, ⟨some 8, .mv (.t 11), none⟩, ⟨some 12, .ext (.t 8) 0, none⟩, ⟨some 13, .ext (.t 8) 1, none⟩, ⟨some 5, .mv (.t 12), none⟩, ⟨some 6, .mv (.t 13), none⟩]) (.seq (.seq (.reg false [⟨some 7, .mv (.c (.int .i64 0)), none⟩]) (.block 0 (.loop (.seq (.seq (.reg false [⟨some 14, .mv (.t 7), none⟩, ⟨some 15, .mv (.t 5), none⟩, ⟨some 16, .len (.t 15), none⟩, ⟨some 17, .bin .lss (.t 14) (.t 16), none⟩]) (.cond (.t 17) .skip (.exit 0))) (.seq (.block 1 (.seq (.reg false [⟨some 20, .mv (.t 1), none⟩, ⟨some 21, .mv (.t 7), none⟩, ⟨some 22, .cvi .u64 (.t 21), none⟩, ⟨some 23, .bin .shr (.t 20) (.t 22), none⟩, ⟨some 24, .bin .and (.t 23) (.c (.int .i64 1)), none⟩, ⟨some 25, .bin .eql (.t 24) (.c (.int .i64 0)), none⟩]) (.cond (.t 25) (.reg false [⟨some 26, .mv (.t 5), none⟩, ⟨some 27, .mv (.t 7), none⟩, ⟨some 28, .build [(.int .i64 0), (.int .i64 0)] [(0, (1, (.c (.int .i64 0)))), (1, (1, (.c (.int .i64 1))))], none⟩, ⟨some 29, .ia 2 (.t 26) (.t 27), none⟩, ⟨none, .st 2 (.t 29) (.t 28), none⟩]) .skip))) (.reg false [⟨some 18, .mv (.t 7), none⟩, ⟨some 19, .bin .add (.t 18) (.c (.int .i64 1)), none⟩, ⟨some 7, .mv (.t 19), none⟩])))))) (.seq (.reg false [⟨some 30, .mv (.t 5), none⟩, ⟨some 4, .mv (.t 30), none⟩]) .ret)))), 31, [(.t 4)]⟩
theorem k_spec_l02Solution : compF Tryz.prog Tryz.f72 = some c_spec_l02Solution := by kernel_rfl
def c_spec_l02Told : F := ⟨(.seq (.reg false [⟨some 2, .mv (.c .nilsl), none⟩, ⟨some 3, .mv (.c (.int .i64 0)), none⟩]) (.seq (.seq (.reg false [⟨some 4, .mv (.c (.int .i64 0)), none⟩]) (.block 0 (.loop (.seq (.seq (.reg false [⟨some 5, .mv (.t 4), none⟩, ⟨some 6, .mv (.t 0), none⟩, ⟨some 7, .len (.t 6), none⟩, ⟨some 8, .bin .lss (.t 5) (.t 7), none⟩]) (.cond (.t 8) .skip (.exit 0))) (.seq (.block 1 (.seq (.reg false [⟨some 11, .mv (.t 0), none⟩, ⟨some 12, .mv (.t 4), none⟩, ⟨some 13, .ia 2 (.t 11) (.t 12), none⟩, ⟨some 14, .fa 0 (.t 13), none⟩, ⟨some 15, .ld1 (.t 14), none⟩, ⟨some 16, .call (.f 62) [(.t 15), (.c (.int .i64 (-1000000000))), (.c (.int .i64 1000000000))], none⟩, ⟨some 17, .un .not (.t 16), none⟩, ⟨some 18, .mv (.t 17), none⟩, ⟨some 19, .mv (.t 0), some (18, false)⟩, ⟨some 20, .mv (.t 4), some (18, false)⟩, ⟨some 21, .ia 2 (.t 19) (.t 20), some (18, false)⟩, ⟨some 22, .fa 1 (.t 21), some (18, false)⟩, ⟨some 23, .ld1 (.t 22), some (18, false)⟩, ⟨some 24, .bin .gtr (.t 23) (.c (.int .i64 1000000000)), some (18, false)⟩, ⟨some 25, .pick (.t 18) (.c (.bool true)) (.t 24), none⟩]) (.cond (.t 25) (.seq (.reg false [⟨some 2, .mv (.c .nilsl), none⟩, ⟨some 3, .mv (.c (.int .i64 3)), none⟩]) .ret) .skip))) (.reg false [⟨some 9, .mv (.t 4), none⟩, ⟨some 10, .bin .add (.t 9) (.c (.int .i64 1)), none⟩, ⟨some 4, .mv (.t 10), none⟩])))))) (.seq (.reg false [⟨some 26, .mv (.t 0), none⟩, ⟨some 2, .mv (.t 26), none⟩, ⟨some 3, .mv (.c (.int .i64 0)), none⟩]) .ret))), 27, [(.t 2), (.t 3)]⟩
theorem k_spec_l02Told : compF Tryz.prog Tryz.f33 = some c_spec_l02Told := by kernel_rfl
def c_spec_SolutionOfSet : F := ⟨(.seq (.reg false [⟨some 2, .box 30 (.t 0), none⟩, ⟨some 4, .mv (.c .nilsl), none⟩, ⟨some 5, .mv (.c (.int .i64 0)), none⟩]) (.seq (.seq (.reg false [⟨some 9, .ld 2 (.t 2), none⟩, ⟨some 10, .mv (.t 1), none⟩, ⟨some 11, .call (.f 124) [(.t 9), (.t 10)], none⟩, ⟨some 6, .mv (.t 11), none⟩]) (.seq (.reg false [⟨some 12, .mv (.t 6), none⟩, ⟨some 13, .bin .neq (.t 12) (.c (.int .i64 0)), none⟩]) (.cond (.t 13) (.seq (.reg false [⟨some 14, .mv (.t 6), none⟩, ⟨some 4, .mv (.c .nilsl), none⟩, ⟨some 5, .mv (.t 14), none⟩]) .ret) .skip))) (.seq (.seq (.reg false [⟨some 15, .ld 2 (.t 2), none⟩, ⟨some 16, .mv (.t 1), none⟩, ⟨some 17, .call (.f 71) [(.t 15), (.t 16)], none⟩, ⟨some 18, .un .not (.t 17), none⟩]) (.cond (.t 18) (.seq (.reg false [⟨some 4, .mv (.c .nilsl), none⟩, ⟨some 5, .mv (.c (.int .i64 5)), none⟩]) .ret) .skip)) (.seq (.reg false [⟨some 20, .ld 2 (.t 2), none⟩, ⟨some 21, .mv (.t 1), none⟩, ⟨some 22, .call (.f 72) [(.t 20), (.t 21)], none⟩, ⟨some 23, .call (.f 33) [(.t 22)], none⟩, ⟨some 19, .mv (.t 23), none⟩, ⟨some 24, .ext (.t 19) 0, none⟩, ⟨some 25, .ext (.t 19) 1, none⟩, ⟨some 7, .mv (.t 24), none⟩, ⟨some 8, .mv (.t 25), none⟩]) (.seq (.reg false [⟨some 26, .mv (.t 7), none⟩, ⟨some 27, .mv (.t 8), none⟩, ⟨some 4, .mv (.t 26), none⟩, ⟨some 5, .mv (.t 27), none⟩]) .ret))))), 28, [(.t 4), (.t 5)]⟩
theorem k_spec_SolutionOfSet : compF Tryz.prog Tryz.f88 = some c_spec_SolutionOfSet := by kernel_rfl

def wr2 (h : AH) (i o : Nat) (cs : List AV) : AH := upd h i ((h i).map fun b => { b with cells := putA b.cells o cs })
theorem wr2_other {h : AH} {i o j : Nat} {cs : List AV} (e : j ≠ i) : wr2 h i o cs j = h j := upd_other e
theorem putA_two {z : List AV} {o : Nat} {x y : AV} (h : o + 2 ≤ z.length) : putA (putA z o [x]) (o + 1) [y] = putA z o [x, y] := by
  rw [putA_eq_set (by rw [putA_len (by omega)]; omega), putA_eq_set (by omega)]
  refine List.ext_getElem? fun i => ?_
  simp only [putA, List.getElem?_set, List.length_set, List.getElem?_append, List.length_append, List.length_take, List.length_cons, List.length_nil, List.getElem?_take, List.getElem?_drop]
  by_cases h1 : i < o
  · rw [if_neg (by omega), if_neg (by omega), if_pos (by omega), if_pos (by omega), if_pos h1]
  · by_cases h2 : i = o
    · subst h2; rw [if_neg (by omega), if_pos rfl, if_pos (by omega), if_pos (by omega), if_neg (by omega), show i - min i z.length = 0 by omega]; rfl
    · by_cases h3 : i = o + 1
      · subst h3; rw [if_pos rfl, if_pos (by omega), if_pos (by omega), if_neg (by omega), show o + 1 - min o z.length = 1 by omega]; rfl
      · rw [if_neg (by omega), if_neg (by omega), if_neg (by omega)]
        congr 1; omega
section
variable {lo hi : Nat} {h : AH} {v : AV} {l : List (Int × Int)}
theorem Fracs.st2 (s : Fracs true lo hi h v l) {k : Nat} (hk : k < l.length) {x y : Int} {n0 n : Nat} {W : Nat → Prop} (hW : ∀ i, lo ≤ i → i < hi → n0 ≤ i ∨ W i) (hn : hi ≤ n) (K : AV → AH → Nat → Prop) :
    S1 n0 W 2 (.ptr (bid v) (boff v + k * 2)) (.agg [.int .i64 x, .int .i64 y]) K h n = K .any (wr2 h (bid v) (boff v + k * 2) [.int .i64 x, .int .i64 y]) n := by
  rcases Sl.shape s with rfl | ⟨hw, _⟩ | ⟨h1, h2, h3, ⟨ty, cells, w, op⟩, hb, hw, hl, hcc⟩
  · have h0 : (0 : Nat) = l.length := Fracs.slen s
    omega
  · cases hw
  · have hw' : w = true := hw rfl
    subst hw'
    have hfl := fracs_len l
    have hl : boff v + (fracs l).length ≤ cells.length := hl
    rw [s1, hb, s2]
    simp only [wr2, hb, Option.map_some, AV.storable, AV.cells]
    refine propext ⟨fun h => h.2.2.2.2.2, fun h => ⟨by simp [AV.storable, one_int], by simp [AV.cells], by omega, by omega, hW _ h2 h3, h⟩⟩
theorem Fracs.wr2 (s : Fracs true lo hi h v l) {k : Nat} (hk : k < l.length) (x y : Int) : Fracs true lo hi (L.wr2 h (bid v) (boff v + k * 2) [.int .i64 x, .int .i64 y]) v (l.set k (x, y)) := by
  have h1 := (s.wrn hk x).wrd (k := k) (by simpa using hk) y
  have e1 : (l.set k (x, (l.getD k (0, 0)).2)).set k (((l.set k (x, (l.getD k (0, 0)).2)).getD k (0, 0)).1, y) = l.set k (x, y) := by
    rw [List.set_set, getD_set, if_pos ⟨rfl, hk⟩]
  rw [e1] at h1
  rcases Sl.shape s with rfl | ⟨hw, _⟩ | ⟨h2, h3, h4, ⟨ty, cells, w, op⟩, hb, hw, hl, hcc⟩
  · have h0 : (0 : Nat) = l.length := Fracs.slen s
    omega
  · cases hw
  · have hfl := fracs_len l
    have hl : boff v + (fracs l).length ≤ cells.length := hl
    have e2 : L.wr2 h (bid v) (boff v + k * 2) [.int .i64 x, .int .i64 y] = wr (wr h (bid v) (boff v + k * 2) (.int .i64 x)) (bid v) (boff v + k * 2 + 1) (.int .i64 y) := by
      funext i
      by_cases hi : i = bid v
      · subst hi
        simp only [L.wr2, wr, upd_same, hb, Option.map_some]
        rw [putA_two (by omega)]
      · rw [wr2_other hi, wr_other hi, wr_other hi]
    rw [e2]; exact h1
end
def onlyL (l : List Int) (a : Int) : List Int := rowOf l.length fun k => if hasB a k = true then l.getD k 0 else 0
def onlyF (l : List (Int × Int)) (a : Int) : List (Int × Int) := (List.range l.length).map fun k => if hasB a k = true then l.getD k (0, 0) else (0, 1)
theorem onlyF_len (l : List (Int × Int)) (a : Int) : (onlyF l a).length = l.length := by simp [onlyF]
theorem onlyF_get {l : List (Int × Int)} {a : Int} {k : Nat} (hk : k < l.length) : (onlyF l a).getD k (0, 0) = if hasB a k = true then l.getD k (0, 0) else (0, 1) := by
  simp [onlyF, List.getD, hk]
def solV (ll : List (List Int)) (q : List Int) (a : Int) : List (Int × Int) × Int :=
  if codeP ll q a = 0 then (if setP ll q feasT a.toNat = true then (if allFr (onlyF (ptF ll q a) a) = true then (onlyF (ptF ll q a) a, 0) else ([], 3)) else ([], 5)) else ([], codeP ll q a)
theorem set_nat {n : Nat} {a : Int} (h : inSet n a = true) : ((a.toNat : Nat) : Int) = a := by
  have := of_decide_eq_true h; omega
theorem red_zero {d : Int} (hd : d ≠ 0) : red 0 d = (0, 1) := by
  simp only [red, Int.zero_mul, Int.gcd_zero_left]
  refine Prod.ext (by simp) ?_
  simp only
  exact Int.ediv_self (by omega)
theorem onlyF_sol {ll : List (List Int)} {q : List Int} {a : Int} (hd : dtS ll a ≠ 0) : ((onlyL (solL ll q a) a).map fun y => red y (dtS ll a).natAbs) = onlyF (ptF ll q a) a := by
  have h1 := ptF_sol ll q a hd
  have hl1 := solL_len ll q a
  have hl2 := ptF_len ll q a
  refine getD_ext (d := (0, 0)) (by simp [onlyL, rowOf_len, onlyF_len, hl1, hl2]) fun k hk => ?_
  simp only [List.length_map, onlyL, rowOf_len, hl1] at hk
  rw [getD_map _ _ _ 0 _ (by rw [onlyL, rowOf_len]; omega), onlyF_get (by omega), onlyL, rowOf_get (by omega)]
  have h2 : (ptF ll q a).getD k (0, 0) = red ((solL ll q a).getD k 0) (dtS ll a).natAbs := by rw [← h1, getD_map _ _ _ 0 _ (by omega)]
  split
  · exact h2.symm
  · exact red_zero (by omega)
def Low (p : Int × Int) : Prop := 1 ≤ p.2 ∧ Int.gcd p.1 p.2 = 1 ∧ in64 p.1 ∧ in64 p.2
theorem red_low {x d : Int} (hd : d ≠ 0) : 1 ≤ (red x d).2 ∧ Int.gcd (red x d).1 (red x d).2 = 1 := by
  have hg : 0 < (Int.gcd x d : Int) := by have := Int.gcd_pos_of_ne_zero_right x hd; omega
  have hgd : (Int.gcd x d : Int) ∣ (d.natAbs : Int) := Int.dvd_natAbs.2 (Int.gcd_dvd_right ..)
  have e1 : Int.gcd (x * d.sign) (d.natAbs : Int) = Int.gcd x d := by
    rcases Int.lt_or_gt_of_ne hd with h | h
    · rw [Int.sign_eq_neg_one_of_neg h]; simp [Int.gcd]
    · rw [Int.sign_eq_one_of_pos h]; simp [Int.gcd]
  constructor
  · simp only [red]
    obtain ⟨c, hc⟩ := hgd
    have h2 : ((d.natAbs / Int.gcd x d : Nat) : Int) = c := by rw [Int.natCast_ediv, hc, Int.mul_ediv_cancel_left _ (by omega)]
    have h3 : 0 < (Int.gcd x d : Int) * c := by omega
    have h4 : 0 < c := by
      rcases Int.lt_or_le 0 c with h | h
      · exact h
      · have := Int.mul_le_mul_of_nonneg_left h (show 0 ≤ (Int.gcd x d : Int) by omega)
        rw [Int.mul_zero] at this; omega
    omega
  · have := Int.gcd_ediv_gcd_ediv_gcd (i := x * d.sign) (j := (d.natAbs : Int)) (by rw [e1]; omega)
    rw [e1] at this
    simpa only [red, Int.natCast_ediv] using this
theorem ptF_low {ll : List (List Int)} {q : List Int} {a : Int} (hp : isProb ll q = true) (hd : dtS ll a ≠ 0) {k : Nat} (hk : k < ll.length) : Low ((ptF ll q a).getD k (0, 0)) := by
  have h1 := ptF_b (s := a) hk hp hd
  have h2 := dtS_b hp a
  have e : (ptF ll q a).getD k (0, 0) = red (dtK ll q a k) (dtS ll a) := by rw [ptF, getD_map _ _ _ 0 _ (by rw [ptL_len]; exact hk), ptL, rowOf_get hk]
  rw [e] at h1 ⊢
  obtain ⟨h3, h4⟩ := red_low (x := dtK ll q a k) hd
  refine ⟨h3, h4, h1, ?_⟩
  have h5 : ((red (dtK ll q a k) (dtS ll a)).2 : Int) ≤ ((dtS ll a).natAbs : Int) := by
    simp only [red]
    exact Int.ofNat_le.2 (Nat.div_le_self _ _)
  unfold in64; omega
theorem onlyF_low {ll : List (List Int)} {q : List Int} {a : Int} (hp : isProb ll q = true) (hd : dtS ll a ≠ 0) {k : Nat} (hk : k < ll.length) : Low ((onlyF (ptF ll q a) a).getD k (0, 0)) := by
  rw [onlyF_get (by rw [ptF_len]; exact hk)]
  split
  · exact ptF_low hp hd hk
  · exact ⟨by decide, by decide, by unfold in64; decide, by unfold in64; decide⟩
def stgL (l : List Int) (a : Int) (k : Nat) : List Int := rowOf l.length fun j => if j < k ∧ hasB a j = false then 0 else l.getD j 0
theorem stgL_len (l : List Int) (a : Int) (k : Nat) : (stgL l a k).length = l.length := rowOf_len _ _
theorem stgL_zero (l : List Int) (a : Int) : stgL l a 0 = l := getD_ext (d := 0) (stgL_len _ _ _) fun k hk => by
  rw [stgL, rowOf_get (by rw [stgL_len] at hk; exact hk), if_neg (by omega)]
theorem stgL_t {l : List Int} {a : Int} {k : Nat} (h : hasB a k = true) : stgL l a (k + 1) = stgL l a k := getD_ext (d := 0) (by simp [stgL_len]) fun j hj => by
  rw [stgL_len] at hj
  rw [stgL, stgL, rowOf_get hj, rowOf_get hj]
  by_cases e : j = k
  · subst e; rw [if_neg (by simp [h]), if_neg (by simp [h])]
  · by_cases e2 : j < k
    · simp [show j < k + 1 by omega, e2]
    · simp [show ¬ j < k + 1 by omega, e2]
theorem stgL_f {l : List Int} {a : Int} {k : Nat} (h : hasB a k = false) (hk : k < l.length) : stgL l a (k + 1) = (stgL l a k).set k 0 := getD_ext (d := 0) (by simp [stgL_len]) fun j hj => by
  rw [stgL_len] at hj
  rw [getD_set, stgL, stgL, rowOf_get hj, rowOf_get hj, rowOf_len]
  by_cases e : j = k
  · subst e; rw [if_pos ⟨by omega, h⟩, if_pos ⟨rfl, hk⟩]
  · rw [if_neg (c := k = j ∧ j < l.length) (fun h9 => e h9.1.symm)]
    by_cases e2 : j < k
    · simp [show j < k + 1 by omega, e2]
    · simp [show ¬ j < k + 1 by omega, e2]
theorem stgL_full (l : List Int) (a : Int) : stgL l a l.length = onlyL l a := getD_ext (d := 0) (by simp [stgL_len, onlyL, rowOf_len]) fun j hj => by
  rw [stgL_len] at hj
  rw [stgL, onlyL, rowOf_get hj, rowOf_get hj]
  cases h : hasB a j <;> simp [hj]
def stgF (l : List (Int × Int)) (a : Int) (k : Nat) : List (Int × Int) := (List.range l.length).map fun j => if j < k ∧ hasB a j = false then (0, 1) else l.getD j (0, 0)
theorem stgF_len (l : List (Int × Int)) (a : Int) (k : Nat) : (stgF l a k).length = l.length := by simp [stgF]
theorem stgF_get {l : List (Int × Int)} {a : Int} {k j : Nat} (hj : j < l.length) : (stgF l a k).getD j (0, 0) = if j < k ∧ hasB a j = false then (0, 1) else l.getD j (0, 0) := by
  simp [stgF, List.getD, hj]
theorem stgF_zero (l : List (Int × Int)) (a : Int) : stgF l a 0 = l := getD_ext (d := (0, 0)) (stgF_len _ _ _) fun k hk => by
  rw [stgF_get (by rw [stgF_len] at hk; exact hk), if_neg (by omega)]
theorem stgF_t {l : List (Int × Int)} {a : Int} {k : Nat} (h : hasB a k = true) : stgF l a (k + 1) = stgF l a k := getD_ext (d := (0, 0)) (by simp [stgF_len]) fun j hj => by
  rw [stgF_len] at hj
  rw [stgF_get hj, stgF_get hj]
  by_cases e : j = k
  · subst e; rw [if_neg (by simp [h]), if_neg (by simp [h])]
  · by_cases e2 : j < k
    · simp [show j < k + 1 by omega, e2]
    · simp [show ¬ j < k + 1 by omega, e2]
theorem stgF_f {l : List (Int × Int)} {a : Int} {k : Nat} (h : hasB a k = false) (hk : k < l.length) : stgF l a (k + 1) = (stgF l a k).set k (0, 1) := getD_ext (d := (0, 0)) (by simp [stgF_len]) fun j hj => by
  rw [stgF_len] at hj
  rw [getD_set, stgF_get hj, stgF_get hj, stgF_len]
  by_cases e : j = k
  · subst e; rw [if_pos ⟨by omega, h⟩, if_pos ⟨rfl, hk⟩]
  · rw [if_neg (c := k = j ∧ j < l.length) (fun h9 => e h9.1.symm)]
    by_cases e2 : j < k
    · simp [show j < k + 1 by omega, e2]
    · simp [show ¬ j < k + 1 by omega, e2]
theorem stgF_full (l : List (Int × Int)) (a : Int) : stgF l a l.length = onlyF l a := getD_ext (d := (0, 0)) (by simp [stgF_len, onlyF_len]) fun j hj => by
  rw [stgF_len] at hj
  rw [stgF_get hj, onlyF_get hj]
  cases h : hasB a j <;> simp [hj]
section
variable {w : Bool} {lo hi : Nat} {h : AH} {v u : AV} {vs : List AV} {ll : List (List Int)} {q : List Int} {l : List Int}
theorem impl_only (s : Ints true lo hi h v l) (hl : l.length ≤ 1048576) (a : Int) (n : Nat) (hn : hi ≤ n) :
    FQ Tryz.prog 83 [v, .int .i64 a] h n fun v' h' n' => Ints true n n' h' v' (onlyL l a) := by
  refine fq_intro Tryz.func83 k_impl_only ?_
  simp (maxSteps := 2000000) -implicitDefEqProofs (disch := omega) only [c_impl_only, xsW, xsC, xsD, xsE, fillA, reduceCtorEq, Nat.reduceAdd, Nat.reduceSub, Nat.reduceLeDiff, Nat.reduceMul, Int.reduceLT, Int.reduceLE, Int.reduceEq, Int.reduceNe, Int.reduceAdd, Int.reduceSub, Int.reduceMul, Int.reduceNeg, Int.reduceToNat]
  refine fq_use (slices_Clone s hl n hn) fun v1 h1 n1 hn1 hs1 hv1 => ?_
  simp (maxSteps := 2000000) -implicitDefEqProofs (disch := omega) only [xsW, xsC, xsD, xsE, fillA, reduceCtorEq, Nat.reduceAdd, Nat.reduceSub, Nat.reduceLeDiff, Nat.reduceMul, Int.reduceLT, Int.reduceLE, Int.reduceEq, Int.reduceNe, Int.reduceAdd, Int.reduceSub, Int.reduceMul, Int.reduceNeg, Int.reduceToNat,  hv1.ln]
  refine loop_for l.length 0 (fun k hp => [v, .int .i64 a, .any, .any, .nilsl, v1, .any, .any, .any, v1, .int .i64 l.length, .int .i64 k, .any, .any, .any, .any, .any, .any, .any, .any, .any, .any, .any]) (fun _ hp => hp)
    (fun k hp m => Ints true n n1 hp v1 (stgL l a k) ∧ (∀ j, j < n → hp j = h j)) h1 (Nat.zero_le _) ⟨by rw [stgL_zero]; exact hv1, hs1⟩ (by simp [LeL, Le1]) (fun _ _ h => h) ?_
  rintro k hp m - hk hm ⟨g1, g2⟩
  simp (maxSteps := 2000000) -implicitDefEqProofs (disch := omega) only [xsW, xsC, xsD, xsE, fillA, reduceCtorEq, Nat.reduceAdd, Nat.reduceSub, Nat.reduceLeDiff, Nat.reduceMul, Int.reduceLT, Int.reduceLE, Int.reduceEq, Int.reduceNe, Int.reduceAdd, Int.reduceSub, Int.reduceMul, Int.reduceNeg, Int.reduceToNat]
  (refine cd_dec (fun c1 => ?_) (fun c1 => ?_) <;> simp (maxSteps := 2000000) -implicitDefEqProofs (disch := omega) only [xsW, xsC, xsD, xsE, fillA, reduceCtorEq, Nat.reduceAdd, Nat.reduceSub, Nat.reduceLeDiff, Nat.reduceMul, Int.reduceLT, Int.reduceLE, Int.reduceEq, Int.reduceNe, Int.reduceAdd, Int.reduceSub, Int.reduceMul, Int.reduceNeg, Int.reduceToNat,  c1])
  · have hk2 : k < l.length := by omega
    refine q_use (impl_has _ _ _ _) fun n2 hn2 => ?_
    cases hb : hasB a k
    · have e1 := fun K => Ints.st g1 (k := k) (x := 0) (n0 := n) (n := n2) (W := none') (by rw [stgL_len]; exact hk2) (fun i a b => .inl (by omega)) (by omega) K
      have g3 := g1.wr (k := k) (by rw [stgL_len]; exact hk2) 0
      have hlen := stgL_len l a k
      have hown := Sl.below g1 (by rw [g1.slen]; omega)
      simp (maxSteps := 2000000) -implicitDefEqProofs (disch := omega) only [xsW, xsC, xsD, xsE, fillA, reduceCtorEq, Nat.reduceAdd, Nat.reduceSub, Nat.reduceLeDiff, Nat.reduceMul, Int.reduceLT, Int.reduceLE, Int.reduceEq, Int.reduceNe, Int.reduceAdd, Int.reduceSub, Int.reduceMul, Int.reduceNeg, Int.reduceToNat,  g1.ia, e1]
      exact ⟨_, ⟨by rw [stgL_f hb hk2]; exact g3, fun j hj => (wr_other (by omega)).trans (g2 j hj)⟩, by omega, by omega, (by simp [LeL, Le1]), fun _ _ h => h⟩
    · simp (maxSteps := 2000000) -implicitDefEqProofs (disch := omega) only [xsW, xsC, xsD, xsE, fillA, reduceCtorEq, Nat.reduceAdd, Nat.reduceSub, Nat.reduceLeDiff, Nat.reduceMul, Int.reduceLT, Int.reduceLE, Int.reduceEq, Int.reduceNe, Int.reduceAdd, Int.reduceSub, Int.reduceMul, Int.reduceNeg, Int.reduceToNat]
      exact ⟨hp, ⟨by rw [stgL_t hb]; exact g1, g2⟩, by omega, by omega, (by simp [LeL, Le1]), fun _ _ h => h⟩
  · have e : k = l.length := by omega
    subst e
    intro _ h2 hh
    rw [stgL_full] at g1
    exact (g1.keep fun i a b => hh i a (by omega)).wide (Nat.le_refl _) (by omega)
theorem impl_SolutionOfSet (s : Prob w lo hi h v u vs ll q) (hl : ll.length ≤ 1048576) (hll : ∀ l ∈ ll, l.length ≤ 1048576) (hq : q.length ≤ 1048576) (a : Int) (n : Nat) (hn : hi ≤ n) :
    FQ Tryz.prog 47 [.agg [v, u], .int .i64 a] h n fun x h' n' => ∃ v', x = .tup [v', .int .i64 (solV ll q a).2] ∧ Fracs true n n' h' v' (solV ll q a).1 := by
  refine fq_intro Tryz.func47 k_impl_SolutionOfSet ?_
  have o1 := one_any (Sl.any s.M.out)
  have o2 := one_any (Sl.any s.Q)
  simp (maxSteps := 2000000) -implicitDefEqProofs (disch := omega) only [c_impl_SolutionOfSet, o1, o2, xsW, xsC, xsD, xsE, fillA, reduceCtorEq, Nat.reduceAdd, Nat.reduceSub, Nat.reduceLeDiff, Nat.reduceMul, Int.reduceLT, Int.reduceLE, Int.reduceEq, Int.reduceNe, Int.reduceAdd, Int.reduceSub, Int.reduceMul, Int.reduceNeg, Int.reduceToNat]
  refine q_use (impl_setCode (s.keep (fun i _ hi9 => by simp (disch := omega) only [upd_other])) hl hll hq a _ (by omega)) fun n1 hn1 => ?_
  simp (maxSteps := 2000000) -implicitDefEqProofs (disch := omega) only [xsW, xsC, xsD, xsE, fillA, reduceCtorEq, Nat.reduceAdd, Nat.reduceSub, Nat.reduceLeDiff, Nat.reduceMul, Int.reduceLT, Int.reduceLE, Int.reduceEq, Int.reduceNe, Int.reduceAdd, Int.reduceSub, Int.reduceMul, Int.reduceNeg, Int.reduceToNat]
  (refine cd_dec (fun c1 => ?_) (fun c1 => ?_) <;> simp (maxSteps := 2000000) -implicitDefEqProofs (disch := omega) only [xsW, xsC, xsD, xsE, fillA, reduceCtorEq, Nat.reduceAdd, Nat.reduceSub, Nat.reduceLeDiff, Nat.reduceMul, Int.reduceLT, Int.reduceLE, Int.reduceEq, Int.reduceNe, Int.reduceAdd, Int.reduceSub, Int.reduceMul, Int.reduceNeg, Int.reduceToNat,  c1])
  · intro _ h2 _
    exact ⟨.nilsl, by simp [solV, c1], by simp only [solV, if_neg c1]; exact Sl.nil⟩
  · have c2 : codeP ll q a = 0 := Decidable.not_not.1 c1
    have hp := (codeP_zero.1 c2).1
    have ha := set_nat (codeP_zero.1 c2).2
    have hN := ((isMat_iff ll).1 (isProb_facts hp).1).2.1
    refine fq_use (impl_point (s.keep (fun i _ hi9 => by simp (disch := omega) only [upd_other])) hp a n1 (by omega)) fun x1 h1 n2 hn2 hs1 hx1 => ?_
    rcases hx1 with ⟨d1, rfl⟩ | ⟨d1, v1, rfl, hv1⟩
    · have hf : setP ll q feasT a.toNat = false := by simp [setP, ha, d1]
      simp (maxSteps := 2000000) -implicitDefEqProofs (disch := omega) only [xsW, xsC, xsD, xsE, fillA, reduceCtorEq, Nat.reduceAdd, Nat.reduceSub, Nat.reduceLeDiff, Nat.reduceMul, Int.reduceLT, Int.reduceLE, Int.reduceEq, Int.reduceNe, Int.reduceAdd, Int.reduceSub, Int.reduceMul, Int.reduceNeg, Int.reduceToNat]
      intro _ h2 _
      exact ⟨.nilsl, by simp [solV, c2, hf], by simp [solV, c2, hf]; exact Sl.nil⟩
    · have hlen := solL_len ll q a
      simp (maxSteps := 2000000) -implicitDefEqProofs (disch := omega) only [xsW, xsC, xsD, xsE, fillA, reduceCtorEq, Nat.reduceAdd, Nat.reduceSub, Nat.reduceLeDiff, Nat.reduceMul, Int.reduceLT, Int.reduceLE, Int.reduceEq, Int.reduceNe, Int.reduceAdd, Int.reduceSub, Int.reduceMul, Int.reduceNeg, Int.reduceToNat]
      refine q_use (impl_isFeasible hv1 (by omega) n2) fun n3 hn3 => ?_
      cases hft : feasT (solL ll q a)
      · have hf : setP ll q feasT a.toNat = false := by simp [setP, ha, hft]
        simp (maxSteps := 2000000) -implicitDefEqProofs (disch := omega) only [xsW, xsC, xsD, xsE, fillA, reduceCtorEq, Nat.reduceAdd, Nat.reduceSub, Nat.reduceLeDiff, Nat.reduceMul, Int.reduceLT, Int.reduceLE, Int.reduceEq, Int.reduceNe, Int.reduceAdd, Int.reduceSub, Int.reduceMul, Int.reduceNeg, Int.reduceToNat]
        intro _ h2 _
        exact ⟨.nilsl, by simp [solV, c2, hf], by simp [solV, c2, hf]; exact Sl.nil⟩
      · have hf : setP ll q feasT a.toNat = true := by simp [setP, ha, hft, d1]
        simp (maxSteps := 2000000) -implicitDefEqProofs (disch := omega) only [xsW, xsC, xsD, xsE, fillA, reduceCtorEq, Nat.reduceAdd, Nat.reduceSub, Nat.reduceLeDiff, Nat.reduceMul, Int.reduceLT, Int.reduceLE, Int.reduceEq, Int.reduceNe, Int.reduceAdd, Int.reduceSub, Int.reduceMul, Int.reduceNeg, Int.reduceToNat]
        refine fq_use (impl_only hv1 (by omega) a n3 (by omega)) fun v2 h2 n4 hn4 hs2 hv2 => ?_
        simp (maxSteps := 2000000) -implicitDefEqProofs (disch := omega) only [xsW, xsC, xsD, xsE, fillA, reduceCtorEq, Nat.reduceAdd, Nat.reduceSub, Nat.reduceLeDiff, Nat.reduceMul, Int.reduceLT, Int.reduceLE, Int.reduceEq, Int.reduceNe, Int.reduceAdd, Int.reduceSub, Int.reduceMul, Int.reduceNeg, Int.reduceToNat]
        have hol : (onlyL (solL ll q a) a).length = ll.length := by rw [onlyL, rowOf_len, hlen]
        have hdb := dtS_b hp a
        refine fq_use (impl_allReduced hv2 (by omega) (fun k hk => by
          rw [onlyL, rowOf_get (by omega)]
          have := solL_b hp a (k := k) (by omega)
          split <;> omega) ((dtS ll a).natAbs : Int) (by unfold in64; omega) (by omega) n4 (Nat.le_refl _)) fun x3 h3 n5 hn5 hs3 ⟨v3, hx3, hv3⟩ => ?_
        subst hx3
        simp (maxSteps := 2000000) -implicitDefEqProofs (disch := omega) only [xsW, xsC, xsD, xsE, fillA, reduceCtorEq, Nat.reduceAdd, Nat.reduceSub, Nat.reduceLeDiff, Nat.reduceMul, Int.reduceLT, Int.reduceLE, Int.reduceEq, Int.reduceNe, Int.reduceAdd, Int.reduceSub, Int.reduceMul, Int.reduceNeg, Int.reduceToNat]
        intro _ h4 hh
        rw [onlyF_sol d1] at hv3 ⊢
        rw [← allFr] at hv3 ⊢
        refine ⟨v3, ?_, ?_⟩
        · cases hff : allFr (onlyF (ptF ll q a) a) <;> simp [solV, c2, hf, hff]
        · have e : (solV ll q a).1 = if allFr (onlyF (ptF ll q a) a) = true then onlyF (ptF ll q a) a else [] := by cases hff : allFr (onlyF (ptF ll q a) a) <;> simp [solV, c2, hf, hff]
          rw [e]
          exact (hv3.keep fun i a b => hh i (by omega) b).wide (by omega) (Nat.le_refl _)
theorem spec_l02Solution (s : Prob w lo hi h v u vs ll q) (hp : isProb ll q = true) (a : Int) (hd : dtS ll a ≠ 0) (ha : inSet ll.length a = true) (n : Nat) (hn : hi ≤ n) :
    FQ Tryz.prog 72 [.agg [v, u], .int .i64 a] h n fun v' h' n' => Fracs true n n' h' v' (onlyF (ptF ll q a) a) := by
  refine fq_intro Tryz.func72 k_spec_l02Solution ?_
  have o1 := one_any (Sl.any s.M.out)
  have o2 := one_any (Sl.any s.Q)
  have hN := ((isMat_iff ll).1 (isProb_facts hp).1).2.1
  have hpl := ptF_len ll q a
  simp (maxSteps := 2000000) -implicitDefEqProofs (disch := omega) only [c_spec_l02Solution, o1, o2, xsW, xsC, xsD, xsE, fillA, reduceCtorEq, Nat.reduceAdd, Nat.reduceSub, Nat.reduceLeDiff, Nat.reduceMul, Int.reduceLT, Int.reduceLE, Int.reduceEq, Int.reduceNe, Int.reduceAdd, Int.reduceSub, Int.reduceMul, Int.reduceNeg, Int.reduceToNat]
  refine fq_use (spec_l01Point (s.keep (fun i _ hi9 => by simp (disch := omega) only [upd_other])) hp a _ (by omega)) fun x1 h1 n1 hn1 hs1 hx1 => ?_
  rcases hx1 with ⟨d1, rfl⟩ | ⟨d1, v1, rfl, hv1⟩
  · exact absurd d1 hd
  · simp (maxSteps := 2000000) -implicitDefEqProofs (disch := omega) only [xsW, xsC, xsD, xsE, fillA, reduceCtorEq, Nat.reduceAdd, Nat.reduceSub, Nat.reduceLeDiff, Nat.reduceMul, Int.reduceLT, Int.reduceLE, Int.reduceEq, Int.reduceNe, Int.reduceAdd, Int.reduceSub, Int.reduceMul, Int.reduceNeg, Int.reduceToNat]
    refine loop_for ll.length 0 (fun k hp => [.agg [v, u], .int .i64 a, .ptr n 0, .any, .nilsl, v1, .bool true, .int .i64 k, .any, .any, .any, .any, .any, .any, .any, .any, .any, .any, .any, .any, .any, .any, .any, .any, .any, .any, .any, .any, .any, .any, .any]) (fun _ hp => hp)
      (fun k hp m => Fracs true (n + 1) n1 hp v1 (stgF (ptF ll q a) a k)) h1 (Nat.zero_le _) (by rw [stgF_zero]; exact hv1) (by simp [LeL, Le1]) (fun _ _ h => h) ?_
    rintro k hp' m - hk hm g1
    have hlen := stgF_len (ptF ll q a) a k
    simp (maxSteps := 2000000) -implicitDefEqProofs (disch := omega) only [xsW, xsC, xsD, xsE, fillA, reduceCtorEq, Nat.reduceAdd, Nat.reduceSub, Nat.reduceLeDiff, Nat.reduceMul, Int.reduceLT, Int.reduceLE, Int.reduceEq, Int.reduceNe, Int.reduceAdd, Int.reduceSub, Int.reduceMul, Int.reduceNeg, Int.reduceToNat,  g1.ln, hlen, hpl, bitf]
    (refine cd_dec (fun c1 => ?_) (fun c1 => ?_) <;> simp (maxSteps := 2000000) -implicitDefEqProofs (disch := omega) only [xsW, xsC, xsD, xsE, fillA, reduceCtorEq, Nat.reduceAdd, Nat.reduceSub, Nat.reduceLeDiff, Nat.reduceMul, Int.reduceLT, Int.reduceLE, Int.reduceEq, Int.reduceNe, Int.reduceAdd, Int.reduceSub, Int.reduceMul, Int.reduceNeg, Int.reduceToNat,  c1])
    · have hk2 : k < ll.length := by omega
      by_cases hb : bitI a k = 0
      · have hb' : hasB a k = false := hasB_f.2 hb
        have e1 := fun K => Fracs.st2 g1 (k := k) (x := 0) (y := 1) (n0 := n) (n := m) (W := none') (by omega) (fun i a b => .inl (by omega)) (by omega) K
        have g3 := g1.wr2 (k := k) (by omega) 0 1
        simp (maxSteps := 2000000) -implicitDefEqProofs (disch := omega) only [xsW, xsC, xsD, xsE, fillA, reduceCtorEq, Nat.reduceAdd, Nat.reduceSub, Nat.reduceLeDiff, Nat.reduceMul, Int.reduceLT, Int.reduceLE, Int.reduceEq, Int.reduceNe, Int.reduceAdd, Int.reduceSub, Int.reduceMul, Int.reduceNeg, Int.reduceToNat,  g1.ia, e1, bitf, hb, hlen, hpl]
        exact ⟨_, by rw [stgF_f hb' (by omega)]; exact g3, by omega, by omega, (by simp [LeL, Le1]), fun _ _ h => h⟩
      · have hb' : hasB a k = true := hasB_t.2 ((bitI_or a k).resolve_left hb)
        simp (maxSteps := 2000000) -implicitDefEqProofs (disch := omega) only [xsW, xsC, xsD, xsE, fillA, reduceCtorEq, Nat.reduceAdd, Nat.reduceSub, Nat.reduceLeDiff, Nat.reduceMul, Int.reduceLT, Int.reduceLE, Int.reduceEq, Int.reduceNe, Int.reduceAdd, Int.reduceSub, Int.reduceMul, Int.reduceNeg, Int.reduceToNat,  bitf, hb]
        exact ⟨hp', by rw [stgF_t hb']; exact g1, by omega, by omega, (by simp [LeL, Le1]), fun _ _ h => h⟩
    · have e : k = (ptF ll q a).length := by omega
      rw [e, stgF_full] at g1
      intro _ h2 hh
      exact (g1.keep fun i a b => hh i (by omega) (by omega)).wide (by omega) (by omega)
theorem spec_l02Told {f : List (Int × Int)} (s : Fracs w lo hi h v f) (hl : f.length ≤ 1048576) (hf : ∀ k, k < f.length → Low (f.getD k (0, 0))) (n : Nat) :
    Q Tryz.prog 33 [v] h n (if allFr f = true then .tup [v, .int .i64 0] else .tup [.nilsl, .int .i64 3]) := by
  refine q_intro Tryz.func33 k_spec_l02Told ?_
  simp (maxSteps := 2000000) -implicitDefEqProofs (disch := omega) only [c_spec_l02Told, xsW, xsC, xsD, xsE, fillA, reduceCtorEq, Nat.reduceAdd, Nat.reduceSub, Nat.reduceLeDiff, Nat.reduceMul, Int.reduceLT, Int.reduceLE, Int.reduceEq, Int.reduceNe, Int.reduceAdd, Int.reduceSub, Int.reduceMul, Int.reduceNeg, Int.reduceToNat]
  refine loop_for f.length 0 (fun k (_ : Unit) => [v, .any, .nilsl, .int .i64 0, .int .i64 k, .any, .any, .any, .any, .any, .any, .any, .any, .any, .any, .any, .any, .any, .any, .any, .any, .any, .any, .any, .any, .any, .any]) (fun _ _ => h)
    (fun k _ m => ∀ j, j < k → isFr 1000000000 (f.getD j (0, 0)).1 (f.getD j (0, 0)).2 = true) () (Nat.zero_le _) (fun j hj => absurd hj (Nat.not_lt_zero _)) (by simp [LeL, Le1]) (fun _ _ h => h) ?_
  rintro k - m - hk hm hall
  simp (maxSteps := 2000000) -implicitDefEqProofs (disch := omega) only [xsW, xsC, xsD, xsE, fillA, reduceCtorEq, Nat.reduceAdd, Nat.reduceSub, Nat.reduceLeDiff, Nat.reduceMul, Int.reduceLT, Int.reduceLE, Int.reduceEq, Int.reduceNe, Int.reduceAdd, Int.reduceSub, Int.reduceMul, Int.reduceNeg, Int.reduceToNat,  s.ln]
  (refine cd_dec (fun c1 => ?_) (fun c1 => ?_) <;> simp (maxSteps := 2000000) -implicitDefEqProofs (disch := omega) only [xsW, xsC, xsD, xsE, fillA, reduceCtorEq, Nat.reduceAdd, Nat.reduceSub, Nat.reduceLeDiff, Nat.reduceMul, Int.reduceLT, Int.reduceLE, Int.reduceEq, Int.reduceNe, Int.reduceAdd, Int.reduceSub, Int.reduceMul, Int.reduceNeg, Int.reduceToNat,  c1])
  · have hk2 : k < f.length := by omega
    obtain ⟨b1, b2, b3, b4⟩ := hf k hk2
    have bad : ¬ ((-1000000000 ≤ (f.getD k (0, 0)).1 ∧ (f.getD k (0, 0)).1 ≤ 1000000000) ∧ (f.getD k (0, 0)).2 ≤ 1000000000) → allFr f = false := fun hb => by
      cases hx : allFr f
      · rfl
      · have := (allFr_iff f).1 hx k hk2
        simp only [isFr, decide_eq_true_eq] at this
        omega
    simp (maxSteps := 2000000) -implicitDefEqProofs (disch := omega) only [xsW, xsC, xsD, xsE, fillA, reduceCtorEq, Nat.reduceAdd, Nat.reduceSub, Nat.reduceLeDiff, Nat.reduceMul, Int.reduceLT, Int.reduceLE, Int.reduceEq, Int.reduceNe, Int.reduceAdd, Int.reduceSub, Int.reduceMul, Int.reduceNeg, Int.reduceToNat,  s.ia, s.ldn]
    refine q_use (spec_l01In _ _ _ _ _) fun n3 hn3 => ?_
    simp (maxSteps := 2000000) -implicitDefEqProofs (disch := omega) only [xsW, xsC, xsD, xsE, fillA, reduceCtorEq, Nat.reduceAdd, Nat.reduceSub, Nat.reduceLeDiff, Nat.reduceMul, Int.reduceLT, Int.reduceLE, Int.reduceEq, Int.reduceNe, Int.reduceAdd, Int.reduceSub, Int.reduceMul, Int.reduceNeg, Int.reduceToNat]
    (refine gd_dec (fun c2 => ?_) (fun c2 => ?_) <;> simp (maxSteps := 2000000) -implicitDefEqProofs (disch := omega) only [xsW, xsC, xsD, xsE, fillA, reduceCtorEq, Nat.reduceAdd, Nat.reduceSub, Nat.reduceLeDiff, Nat.reduceMul, Int.reduceLT, Int.reduceLE, Int.reduceEq, Int.reduceNe, Int.reduceAdd, Int.reduceSub, Int.reduceMul, Int.reduceNeg, Int.reduceToNat,  c2])
    · simp [bad (by omega)]
    · simp (maxSteps := 2000000) -implicitDefEqProofs (disch := omega) only [xsW, xsC, xsD, xsE, fillA, reduceCtorEq, Nat.reduceAdd, Nat.reduceSub, Nat.reduceLeDiff, Nat.reduceMul, Int.reduceLT, Int.reduceLE, Int.reduceEq, Int.reduceNe, Int.reduceAdd, Int.reduceSub, Int.reduceMul, Int.reduceNeg, Int.reduceToNat,  s.ia, s.ldd]
      (refine cd_dec (fun c3 => ?_) (fun c3 => ?_) <;> simp (maxSteps := 2000000) -implicitDefEqProofs (disch := omega) only [xsW, xsC, xsD, xsE, fillA, reduceCtorEq, Nat.reduceAdd, Nat.reduceSub, Nat.reduceLeDiff, Nat.reduceMul, Int.reduceLT, Int.reduceLE, Int.reduceEq, Int.reduceNe, Int.reduceAdd, Int.reduceSub, Int.reduceMul, Int.reduceNeg, Int.reduceToNat,  c3])
      · simp [bad (by omega)]
      · exact ⟨(), fun j hj => (Nat.lt_succ_iff_lt_or_eq.1 hj).elim (hall j) (fun e => by
          rw [e]; simp only [isFr, decide_eq_true_eq]; omega), by omega, by omega, (by simp [LeL, Le1])⟩
  · have hyes : allFr f = true := (allFr_iff f).2 fun j hj => hall j (by omega)
    simp [hyes]
theorem spec_SolutionOfSet (s : Prob w lo hi h v u vs ll q) (hl : ll.length ≤ 1048576) (hll : ∀ l ∈ ll, l.length ≤ 1048576) (hq : q.length ≤ 1048576) (a : Int) (n : Nat) (hn : hi ≤ n) :
    FQ Tryz.prog 88 [.agg [v, u], .int .i64 a] h n fun x h' n' => ∃ v', x = .tup [v', .int .i64 (solV ll q a).2] ∧ Fracs true n n' h' v' (solV ll q a).1 := by
  refine fq_intro Tryz.func88 k_spec_SolutionOfSet ?_
  have o1 := one_any (Sl.any s.M.out)
  have o2 := one_any (Sl.any s.Q)
  simp (maxSteps := 2000000) -implicitDefEqProofs (disch := omega) only [c_spec_SolutionOfSet, o1, o2, xsW, xsC, xsD, xsE, fillA, reduceCtorEq, Nat.reduceAdd, Nat.reduceSub, Nat.reduceLeDiff, Nat.reduceMul, Int.reduceLT, Int.reduceLE, Int.reduceEq, Int.reduceNe, Int.reduceAdd, Int.reduceSub, Int.reduceMul, Int.reduceNeg, Int.reduceToNat]
  refine q_use (spec_l02Code (s.keep (fun i _ hi9 => by simp (disch := omega) only [upd_other])) hl hll hq a _ (by omega)) fun n1 hn1 => ?_
  simp (maxSteps := 2000000) -implicitDefEqProofs (disch := omega) only [xsW, xsC, xsD, xsE, fillA, reduceCtorEq, Nat.reduceAdd, Nat.reduceSub, Nat.reduceLeDiff, Nat.reduceMul, Int.reduceLT, Int.reduceLE, Int.reduceEq, Int.reduceNe, Int.reduceAdd, Int.reduceSub, Int.reduceMul, Int.reduceNeg, Int.reduceToNat]
  (refine cd_dec (fun c1 => ?_) (fun c1 => ?_) <;> simp (maxSteps := 2000000) -implicitDefEqProofs (disch := omega) only [xsW, xsC, xsD, xsE, fillA, reduceCtorEq, Nat.reduceAdd, Nat.reduceSub, Nat.reduceLeDiff, Nat.reduceMul, Int.reduceLT, Int.reduceLE, Int.reduceEq, Int.reduceNe, Int.reduceAdd, Int.reduceSub, Int.reduceMul, Int.reduceNeg, Int.reduceToNat,  c1])
  · intro _ h2 _
    exact ⟨.nilsl, by simp [solV, c1], by simp only [solV, if_neg c1]; exact Sl.nil⟩
  · have c2 : codeP ll q a = 0 := Decidable.not_not.1 c1
    have hp := (codeP_zero.1 c2).1
    have hin := (codeP_zero.1 c2).2
    have ha := set_nat hin
    have hN := ((isMat_iff ll).1 (isProb_facts hp).1).2.1
    have hF := spec_l02Feasible (s.keep (h' := upd h n (some ⟨30, [v, u], true, 0⟩)) (fun i _ hi9 => by simp (disch := omega) only [upd_other])) hp a.toNat n1 (by omega)
    rw [ha] at hF
    refine q_use hF fun n2 hn2 => ?_
    cases hf : setP ll q feasT a.toNat
    · simp (maxSteps := 2000000) -implicitDefEqProofs (disch := omega) only [xsW, xsC, xsD, xsE, fillA, reduceCtorEq, Nat.reduceAdd, Nat.reduceSub, Nat.reduceLeDiff, Nat.reduceMul, Int.reduceLT, Int.reduceLE, Int.reduceEq, Int.reduceNe, Int.reduceAdd, Int.reduceSub, Int.reduceMul, Int.reduceNeg, Int.reduceToNat]
      intro _ h2 _
      exact ⟨.nilsl, by simp [solV, c2, hf], by simp [solV, c2, hf]; exact Sl.nil⟩
    · have hd : dtS ll a ≠ 0 := by
        have := hf
        simp only [setP, Bool.and_eq_true, decide_eq_true_eq, ha] at this
        exact this.1
      simp (maxSteps := 2000000) -implicitDefEqProofs (disch := omega) only [xsW, xsC, xsD, xsE, fillA, reduceCtorEq, Nat.reduceAdd, Nat.reduceSub, Nat.reduceLeDiff, Nat.reduceMul, Int.reduceLT, Int.reduceLE, Int.reduceEq, Int.reduceNe, Int.reduceAdd, Int.reduceSub, Int.reduceMul, Int.reduceNeg, Int.reduceToNat]
      refine fq_use (spec_l02Solution (s.keep (fun i _ hi9 => by simp (disch := omega) only [upd_other])) hp a hd hin n2 (by omega)) fun v1 h1 n3 hn3 hs1 hv1 => ?_
      simp (maxSteps := 2000000) -implicitDefEqProofs (disch := omega) only [xsW, xsC, xsD, xsE, fillA, reduceCtorEq, Nat.reduceAdd, Nat.reduceSub, Nat.reduceLeDiff, Nat.reduceMul, Int.reduceLT, Int.reduceLE, Int.reduceEq, Int.reduceNe, Int.reduceAdd, Int.reduceSub, Int.reduceMul, Int.reduceNeg, Int.reduceToNat]
      have hol : (onlyF (ptF ll q a) a).length = ll.length := by rw [onlyF_len, ptF_len]
      refine q_use (spec_l02Told hv1 (by omega) (fun k hk => onlyF_low hp hd (by omega)) n3) fun n4 hn4 => ?_
      cases hff : allFr (onlyF (ptF ll q a) a)
      · simp (maxSteps := 2000000) -implicitDefEqProofs (disch := omega) only [xsW, xsC, xsD, xsE, fillA, reduceCtorEq, Nat.reduceAdd, Nat.reduceSub, Nat.reduceLeDiff, Nat.reduceMul, Int.reduceLT, Int.reduceLE, Int.reduceEq, Int.reduceNe, Int.reduceAdd, Int.reduceSub, Int.reduceMul, Int.reduceNeg, Int.reduceToNat]
        intro _ h2 _
        exact ⟨.nilsl, by simp [solV, c2, hf, hff], by simp [solV, c2, hf, hff]; exact Sl.nil⟩
      · simp (maxSteps := 2000000) -implicitDefEqProofs (disch := omega) only [xsW, xsC, xsD, xsE, fillA, reduceCtorEq, Nat.reduceAdd, Nat.reduceSub, Nat.reduceLeDiff, Nat.reduceMul, Int.reduceLT, Int.reduceLE, Int.reduceEq, Int.reduceNe, Int.reduceAdd, Int.reduceSub, Int.reduceMul, Int.reduceNeg, Int.reduceToNat]
        intro _ h2 hh
        have e : solV ll q a = (onlyF (ptF ll q a) a, 0) := by simp [solV, c2, hf, hff]
        rw [e]
        exact ⟨v1, by simp, (hv1.keep fun i a b => hh i (by omega) (by omega)).wide (by omega) (by omega)⟩
end
def c_impl_fracsCode : F := ⟨(.seq (.reg false [⟨some 2, .box 30 (.t 0), none⟩, ⟨some 4, .mv (.c (.int .i64 0)), none⟩]) (.seq (.block 0 (.seq (.reg false [⟨some 6, .ld 2 (.t 2), none⟩, ⟨some 7, .call (.f 91) [(.t 6)], none⟩, ⟨some 8, .un .not (.t 7), none⟩, ⟨some 9, .mv (.t 8), none⟩, ⟨some 10, .mv (.t 1), some (9, false)⟩, ⟨some 11, .call (.f 92) [(.t 10)], some (9, false)⟩, ⟨some 12, .un .not (.t 11), some (9, false)⟩, ⟨some 13, .pick (.t 9) (.c (.bool true)) (.t 12), none⟩, ⟨some 5, .mv (.t 13), none⟩]) (.cond (.t 5) (.seq (.reg false [⟨some 4, .mv (.c (.int .i64 1)), none⟩]) .ret) (.seq (.reg false [⟨some 15, .mv (.t 1), none⟩, ⟨some 16, .len (.t 15), none⟩, ⟨some 17, .fa 1 (.t 2), none⟩, ⟨some 18, .ld1 (.t 17), none⟩, ⟨some 19, .len (.t 18), none⟩, ⟨some 20, .bin .neq (.t 16) (.t 19), none⟩, ⟨some 14, .mv (.t 20), none⟩]) (.cond (.t 14) (.seq (.reg false [⟨some 4, .mv (.c (.int .i64 2)), none⟩]) .ret) .skip))))) (.seq (.reg false [⟨some 4, .mv (.c (.int .i64 0)), none⟩]) .ret))), 21, [(.t 4)]⟩
theorem k_impl_fracsCode : compF Tryz.prog Tryz.f53 = some c_impl_fracsCode := by kernel_rfl
def c_spec_l01Fracs : F := ⟨(.seq (.reg false [⟨some 2, .box 30 (.t 0), none⟩, ⟨some 4, .mv (.c (.int .i64 0)), none⟩]) (.seq (.seq (.reg false [⟨some 6, .ld 2 (.t 2), none⟩, ⟨some 7, .call (.f 30) [(.t 6)], none⟩, ⟨some 8, .un .not (.t 7), none⟩]) (.cond (.t 8) (.seq (.reg false [⟨some 4, .mv (.c (.int .i64 1)), none⟩]) .ret) .skip)) (.seq (.seq (.reg false [⟨some 5, .mv (.c (.int .i64 0)), none⟩]) (.block 0 (.loop (.seq (.seq (.reg false [⟨some 9, .mv (.t 5), none⟩, ⟨some 10, .mv (.t 1), none⟩, ⟨some 11, .len (.t 10), none⟩, ⟨some 12, .bin .lss (.t 9) (.t 11), none⟩]) (.cond (.t 12) .skip (.exit 0))) (.seq (.block 1 (.seq (.reg false [⟨some 15, .mv (.t 1), none⟩, ⟨some 16, .mv (.t 5), none⟩, ⟨some 17, .ia 2 (.t 15) (.t 16), none⟩, ⟨some 18, .ld 2 (.t 17), none⟩, ⟨some 19, .call (.f 97) [(.t 18)], none⟩, ⟨some 20, .un .not (.t 19), none⟩]) (.cond (.t 20) (.seq (.reg false [⟨some 4, .mv (.c (.int .i64 1)), none⟩]) .ret) .skip))) (.reg false [⟨some 13, .mv (.t 5), none⟩, ⟨some 14, .bin .add (.t 13) (.c (.int .i64 1)), none⟩, ⟨some 5, .mv (.t 14), none⟩])))))) (.seq (.seq (.reg false [⟨some 21, .mv (.t 1), none⟩, ⟨some 22, .len (.t 21), none⟩, ⟨some 23, .fa 1 (.t 2), none⟩, ⟨some 24, .ld1 (.t 23), none⟩, ⟨some 25, .len (.t 24), none⟩, ⟨some 26, .bin .neq (.t 22) (.t 25), none⟩]) (.cond (.t 26) (.seq (.reg false [⟨some 4, .mv (.c (.int .i64 2)), none⟩]) .ret) .skip)) (.seq (.reg false [⟨some 4, .mv (.c (.int .i64 0)), none⟩]) .ret))))), 27, [(.t 4)]⟩
theorem k_spec_l01Fracs : compF Tryz.prog Tryz.f61 = some c_spec_l01Fracs := by kernel_rfl
def c_impl_together : F := ⟨(.seq (.reg false [⟨some 6, .mv (.c .nilsl), none⟩, ⟨some 7, .mv (.c (.int .i64 0)), none⟩, ⟨some 8, .mv (.c (.bool false)), none⟩]) (.seq (.reg false [⟨some 9, .mv (.c (.int .i64 1)), none⟩]) (.seq (.seq (.reg false [⟨some 16, .mv (.t 0), none⟩, ⟨some 17, .len (.t 16), none⟩, ⟨some 18, .mv (.c (.int .i64 0)), none⟩]) (.block 0 (.loop (.seq (.reg false [⟨some 19, .bin .lss (.t 18) (.t 17), none⟩]) (.seq (.cond (.t 19) .skip (.exit 0)) (.seq (.block 1 (.seq (.reg false [⟨some 20, .ia 2 (.t 16) (.t 18), none⟩, ⟨some 21, .ld 2 (.t 20), none⟩, ⟨some 11, .alloc 49 [(.int .i64 0), (.int .i64 0)], none⟩, ⟨none, .st 2 (.t 11) (.t 21), none⟩]) (.seq (.reg true [⟨some 22, .mv (.t 9), none⟩, ⟨some 23, .mv (.t 9), none⟩, ⟨some 24, .fa 1 (.t 11), none⟩, ⟨some 25, .ld1 (.t 24), none⟩, ⟨some 28, .fa 1 (.t 11), none⟩, ⟨some 29, .ld1 (.t 28), none⟩, ⟨some 26, .call (.f 95) [(.t 23), (.t 25)], none⟩, ⟨some 27, .bin .quo (.t 22) (.t 26), none⟩, ⟨some 30, .bin .mul (.t 27) (.t 29), none⟩, ⟨some 9, .mv (.t 30), none⟩]) (.seq (.reg false [⟨some 31, .mv (.t 9), none⟩, ⟨some 32, .mv (.t 1), none⟩, ⟨some 33, .bin .gtr (.t 31) (.t 32), none⟩]) (.cond (.t 33) (.seq (.reg false [⟨some 6, .mv (.c .nilsl), none⟩, ⟨some 7, .mv (.c (.int .i64 0)), none⟩, ⟨some 8, .mv (.c (.bool false)), none⟩]) .ret) .skip))))) (.reg false [⟨some 34, .bin .add (.t 18) (.c (.int .i64 1)), none⟩, ⟨some 18, .mv (.t 34), none⟩]))))))) (.seq (.reg false [⟨some 12, .mv (.c .nilsl), none⟩]) (.seq (.seq (.reg false [⟨some 35, .mv (.t 0), none⟩, ⟨some 36, .len (.t 35), none⟩, ⟨some 37, .mv (.c (.int .i64 0)), none⟩]) (.block 2 (.loop (.seq (.reg false [⟨some 38, .bin .lss (.t 37) (.t 36), none⟩]) (.seq (.cond (.t 38) .skip (.exit 2)) (.seq (.block 3 (.seq (.reg false [⟨some 39, .ia 2 (.t 35) (.t 37), none⟩, ⟨some 40, .ld 2 (.t 39), none⟩, ⟨some 14, .alloc 49 [(.int .i64 0), (.int .i64 0)], none⟩, ⟨none, .st 2 (.t 14) (.t 40), none⟩]) (.seq (.reg true [⟨some 41, .fa 0 (.t 14), none⟩, ⟨some 42, .ld1 (.t 41), none⟩, ⟨some 43, .mv (.t 9), none⟩, ⟨some 44, .fa 1 (.t 14), none⟩, ⟨some 45, .ld1 (.t 44), none⟩, ⟨some 46, .bin .quo (.t 43) (.t 45), none⟩, ⟨some 47, .bin .mul (.t 42) (.t 46), none⟩, ⟨some 15, .mv (.t 47), none⟩]) (.seq (.seq (.reg false [⟨some 48, .mv (.t 15), none⟩, ⟨some 49, .mv (.t 2), none⟩, ⟨some 50, .call (.f 56) [(.t 48), (.t 49)], none⟩, ⟨some 51, .un .not (.t 50), none⟩]) (.cond (.t 51) (.seq (.reg false [⟨some 6, .mv (.c .nilsl), none⟩, ⟨some 7, .mv (.c (.int .i64 0)), none⟩, ⟨some 8, .mv (.c (.bool false)), none⟩]) .ret) .skip)) (.reg false [⟨some 52, .mv (.t 12), none⟩, ⟨some 53, .mv (.t 15), none⟩, ⟨some 54, .lit 2 1 1 [(.int .i64 0)] [(0, (.t 53))], none⟩, ⟨some 55, .app 2 1 8 [(.int .i64 0)] (.t 52) (.t 54), none⟩, ⟨some 12, .mv (.t 55), none⟩]))))) (.reg false [⟨some 56, .bin .add (.t 37) (.c (.int .i64 1)), none⟩, ⟨some 37, .mv (.t 56), none⟩]))))))) (.seq (.reg false [⟨some 57, .mv (.t 12), none⟩, ⟨some 58, .mv (.t 9), none⟩, ⟨some 6, .mv (.t 57), none⟩, ⟨some 7, .mv (.t 58), none⟩, ⟨some 8, .mv (.c (.bool true)), none⟩]) .ret)))))), 59, [(.t 6), (.t 7), (.t 8)]⟩
theorem k_impl_together : compF Tryz.prog Tryz.f57 = some c_impl_together := by kernel_rfl
def c_spec_l01Common : F := ⟨(.seq (.reg false [⟨some 2, .mv (.c .nilsl), none⟩, ⟨some 3, .mv (.c (.int .i64 0)), none⟩, ⟨some 4, .mv (.c (.bool false)), none⟩]) (.seq (.reg false [⟨some 5, .mv (.c (.int .i64 1)), none⟩]) (.seq (.seq (.reg false [⟨some 6, .mv (.c (.int .i64 0)), none⟩]) (.block 0 (.loop (.seq (.seq (.reg false [⟨some 10, .mv (.t 6), none⟩, ⟨some 11, .mv (.t 0), none⟩, ⟨some 12, .len (.t 11), none⟩, ⟨some 13, .bin .lss (.t 10) (.t 12), none⟩]) (.cond (.t 13) .skip (.exit 0))) (.seq (.block 1 (.seq (.reg true [⟨some 16, .mv (.t 5), none⟩, ⟨some 17, .mv (.t 5), none⟩, ⟨some 18, .mv (.t 0), none⟩, ⟨some 19, .mv (.t 6), none⟩, ⟨some 20, .ia 2 (.t 18) (.t 19), none⟩, ⟨some 21, .fa 1 (.t 20), none⟩, ⟨some 22, .ld1 (.t 21), none⟩, ⟨some 25, .mv (.t 0), none⟩, ⟨some 26, .mv (.t 6), none⟩, ⟨some 27, .ia 2 (.t 25) (.t 26), none⟩, ⟨some 28, .fa 1 (.t 27), none⟩, ⟨some 29, .ld1 (.t 28), none⟩, ⟨some 23, .call (.f 98) [(.t 17), (.t 22)], none⟩, ⟨some 24, .bin .quo (.t 16) (.t 23), none⟩, ⟨some 30, .bin .mul (.t 24) (.t 29), none⟩, ⟨some 5, .mv (.t 30), none⟩]) (.seq (.reg false [⟨some 31, .mv (.t 5), none⟩, ⟨some 32, .bin .gtr (.t 31) (.c (.int .i64 1000000000)), none⟩]) (.cond (.t 32) (.seq (.reg false [⟨some 2, .mv (.c .nilsl), none⟩, ⟨some 3, .mv (.c (.int .i64 0)), none⟩, ⟨some 4, .mv (.c (.bool false)), none⟩]) .ret) .skip)))) (.reg false [⟨some 14, .mv (.t 6), none⟩, ⟨some 15, .bin .add (.t 14) (.c (.int .i64 1)), none⟩, ⟨some 6, .mv (.t 15), none⟩])))))) (.seq (.reg false [⟨some 33, .lit 2 1 0 [(.int .i64 0)] [], none⟩, ⟨some 7, .mv (.t 33), none⟩]) (.seq (.seq (.reg false [⟨some 8, .mv (.c (.int .i64 0)), none⟩]) (.block 2 (.loop (.seq (.seq (.reg false [⟨some 34, .mv (.t 8), none⟩, ⟨some 35, .mv (.t 0), none⟩, ⟨some 36, .len (.t 35), none⟩, ⟨some 37, .bin .lss (.t 34) (.t 36), none⟩]) (.cond (.t 37) .skip (.exit 2))) (.seq (.block 3 (.seq (.reg true [⟨some 40, .mv (.t 0), none⟩, ⟨some 41, .mv (.t 8), none⟩, ⟨some 42, .ia 2 (.t 40) (.t 41), none⟩, ⟨some 43, .fa 0 (.t 42), none⟩, ⟨some 44, .ld1 (.t 43), none⟩, ⟨some 45, .mv (.t 5), none⟩, ⟨some 46, .mv (.t 0), none⟩, ⟨some 47, .mv (.t 8), none⟩, ⟨some 48, .ia 2 (.t 46) (.t 47), none⟩, ⟨some 49, .fa 1 (.t 48), none⟩, ⟨some 50, .ld1 (.t 49), none⟩, ⟨some 51, .bin .quo (.t 45) (.t 50), none⟩, ⟨some 52, .bin .mul (.t 44) (.t 51), none⟩, ⟨some 9, .mv (.t 52), none⟩]) (.seq (.seq (.reg false [⟨some 53, .mv (.t 9), none⟩, ⟨some 54, .call (.f 62) [(.t 53), (.c (.int .i64 (-1000000000000))), (.c (.int .i64 1000000000000))], none⟩, ⟨some 55, .un .not (.t 54), none⟩]) (.cond (.t 55) (.seq (.reg false [⟨some 2, .mv (.c .nilsl), none⟩, ⟨some 3, .mv (.c (.int .i64 0)), none⟩, ⟨some 4, .mv (.c (.bool false)), none⟩]) .ret) .skip)) (.reg false [⟨some 56, .mv (.t 7), none⟩, ⟨some 57, .mv (.t 9), none⟩, ⟨some 58, .lit 2 1 1 [(.int .i64 0)] [(0, (.t 57))], none⟩, ⟨some 59, .app 2 1 8 [(.int .i64 0)] (.t 56) (.t 58), none⟩, ⟨some 7, .mv (.t 59), none⟩])))) (.reg false [⟨some 38, .mv (.t 8), none⟩, ⟨some 39, .bin .add (.t 38) (.c (.int .i64 1)), none⟩, ⟨some 8, .mv (.t 39), none⟩])))))) (.seq (.reg false [⟨some 60, .mv (.t 7), none⟩, ⟨some 61, .mv (.t 5), none⟩, ⟨some 2, .mv (.t 60), none⟩, ⟨some 3, .mv (.t 61), none⟩, ⟨some 4, .mv (.c (.bool true)), none⟩]) .ret)))))), 62, [(.t 2), (.t 3), (.t 4)]⟩
theorem k_spec_l01Common : compF Tryz.prog Tryz.f63 = some c_spec_l01Common := by kernel_rfl

def dkF (f : List (Int × Int)) : Nat → Int
  | 0 => 1
  | k + 1 => (dkF f k).tdiv (Int.gcd (dkF f k) (f.getD k (0, 0)).2 : Int) * (f.getD k (0, 0)).2
def okD (f : List (Int × Int)) : Bool := (List.range f.length).all fun k => decide (dkF f (k + 1) ≤ 1000000000)
def cmnD (f : List (Int × Int)) : Int := dkF f f.length
def cmnX (f : List (Int × Int)) (k : Nat) : Int := (f.getD k (0, 0)).1 * (cmnD f).tdiv (f.getD k (0, 0)).2
def cmnN (f : List (Int × Int)) : List Int := rowOf f.length (cmnX f)
def okN (f : List (Int × Int)) : Bool := (List.range f.length).all fun k => decide (-1000000000000 ≤ cmnX f k ∧ cmnX f k ≤ 1000000000000)
def cmnB (f : List (Int × Int)) : Bool := okD f && okN f
theorem okD_iff (f : List (Int × Int)) : okD f = true ↔ ∀ k, k < f.length → dkF f (k + 1) ≤ 1000000000 := by simp [okD]
theorem okN_iff (f : List (Int × Int)) : okN f = true ↔ ∀ k, k < f.length → -1000000000000 ≤ cmnX f k ∧ cmnX f k ≤ 1000000000000 := by simp only [okN, List.all_eq_true, List.mem_range, decide_eq_true_eq]
def okM (B : Int) (f : List (Int × Int)) : Bool := (List.range f.length).all fun k => decide (dkF f (k + 1) ≤ B)
def cmnM (B : Int) (f : List (Int × Int)) : Bool := okM B f && okN f
theorem okM_iff (B : Int) (f : List (Int × Int)) : okM B f = true ↔ ∀ k, k < f.length → dkF f (k + 1) ≤ B := by simp [okM]
theorem cmnN_len (f : List (Int × Int)) : (cmnN f).length = f.length := rowOf_len _ _
theorem tdiv_b {a b : Int} (ha : 0 ≤ a) (hb : 0 ≤ b) : 0 ≤ a.tdiv b ∧ a.tdiv b ≤ a := by
  have h1 := Int.tdiv_nonneg ha hb
  have h2 := Int.natAbs_tdiv_le_natAbs a b
  omega
theorem allFr_get {f : List (Int × Int)} (hf : allFr f = true) {k : Nat} (hk : k < f.length) : (-1000000000 ≤ (f.getD k (0, 0)).1 ∧ (f.getD k (0, 0)).1 ≤ 1000000000) ∧ (1 ≤ (f.getD k (0, 0)).2 ∧ (f.getD k (0, 0)).2 ≤ 1000000000) :=
  isFr_b ((allFr_iff f).1 hf k hk)
theorem dkF_pos {f : List (Int × Int)} (hf : allFr f = true) : ∀ k, k ≤ f.length → 1 ≤ dkF f k
  | 0, _ => by simp [dkF]
  | k + 1, hk => by
    have h1 := dkF_pos hf k (by omega)
    have h2 := (allFr_get hf (k := k) (by omega)).2
    have hg : 0 < (Int.gcd (dkF f k) (f.getD k (0, 0)).2 : Int) := by have := Int.gcd_pos_of_ne_zero_right (dkF f k) (show (f.getD k (0, 0)).2 ≠ 0 by omega); omega
    obtain ⟨c, hc⟩ := Int.gcd_dvd_left (dkF f k) (f.getD k (0, 0)).2
    have h3 : (dkF f k).tdiv (Int.gcd (dkF f k) (f.getD k (0, 0)).2 : Int) = c := by
      conv => lhs; arg 1; rw [hc]
      exact Int.mul_tdiv_cancel_left _ (by omega)
    have h4 : 1 ≤ c := by
      rcases Int.lt_or_le 0 c with h | h
      · omega
      · have := Int.mul_le_mul_of_nonneg_left h (show 0 ≤ (Int.gcd (dkF f k) (f.getD k (0, 0)).2 : Int) by omega)
        rw [Int.mul_zero] at this; omega
    simp only [dkF, h3]
    have := Int.mul_le_mul h4 h2.1 (by omega) (by omega)
    omega
theorem mul_nn {a b A B : Int} (h1 : 0 ≤ a) (h2 : a ≤ A) (h3 : 0 ≤ b) (h4 : b ≤ B) : 0 ≤ a * b ∧ a * b ≤ A * B := ⟨Int.mul_nonneg h1 h3, Int.mul_le_mul h2 h4 h3 (by omega)⟩
theorem mulb9 {a b : Int} (ha : -1000000000 ≤ a ∧ a ≤ 1000000000) (hb : 0 ≤ b ∧ b ≤ 1000000000) : -1000000000000000000 ≤ a * b ∧ a * b ≤ 1000000000000000000 := by
  have h1 : a.natAbs ≤ 1000000000 := by omega
  have h2 : b.natAbs ≤ 1000000000 := by omega
  have h3 := Nat.mul_le_mul h1 h2
  rw [← Int.natAbs_mul] at h3
  omega
section
variable {w : Bool} {lo hi : Nat} {h : AH} {v u : AV} {f : List (Int × Int)}
theorem impl_togetherB (B : Int) (hB1 : 1 ≤ B) (hB2 : B ≤ 1000000000) (s : Fracs w lo hi h v f) (hl : f.length ≤ 1048576) (hf : allFr f = true) (n : Nat) (hn : hi ≤ n) :
    FQ Tryz.prog 57 [v, .int .i64 B, .int .i64 1000000000000] h n fun x h' n' => (cmnM B f = false ∧ x = .tup [.nilsl, .int .i64 0, .bool false]) ∨ (cmnM B f = true ∧ ∃ v', x = .tup [v', .int .i64 (cmnD f), .bool true] ∧ Ints true n n' h' v' (cmnN f)) := by
  refine fq_intro Tryz.func57 k_impl_together ?_
  simp (maxSteps := 2000000) -implicitDefEqProofs (disch := omega) only [c_impl_together, s.ln, xsW, xsC, xsD, xsE, fillA, reduceCtorEq, Nat.reduceAdd, Nat.reduceSub, Nat.reduceLeDiff, Nat.reduceMul, Int.reduceLT, Int.reduceLE, Int.reduceEq, Int.reduceNe, Int.reduceAdd, Int.reduceSub, Int.reduceMul, Int.reduceNeg, Int.reduceToNat]
  refine loop_for f.length 0 (fun k hp => [v, .int .i64 B, .int .i64 1000000000000, .any, .any, .any, .nilsl, .int .i64 0, .bool false, .int .i64 (dkF f k), .any, .any, .any, .any, .any, .any, v, .int .i64 f.length, .int .i64 k, .any, .any, .any, .any, .any, .any, .any, .any, .any, .any, .any, .any, .any, .any, .any, .any, .any, .any, .any, .any, .any, .any, .any, .any, .any, .any, .any, .any, .any, .any, .any, .any, .any, .any, .any, .any, .any, .any, .any, .any]) (fun _ hp => hp)
    (fun k hp m => (∀ j, j < n → hp j = h j) ∧ ∀ j, j < k → dkF f (j + 1) ≤ B) h (Nat.zero_le _) ⟨fun _ _ => rfl, fun j hj => absurd hj (Nat.not_lt_zero _)⟩ (by simp [LeL, Le1, dkF]) (fun _ _ h => h) ?_
  rintro k hp m - hk hm ⟨g1, g2⟩
  have hpos := dkF_pos hf k hk
  have hub : dkF f k ≤ B := by
    cases k with
    | zero => simpa [dkF] using hB1
    | succ k => exact g2 k (by omega)
  simp (maxSteps := 2000000) -implicitDefEqProofs (disch := omega) only [xsW, xsC, xsD, xsE, fillA, reduceCtorEq, Nat.reduceAdd, Nat.reduceSub, Nat.reduceLeDiff, Nat.reduceMul, Int.reduceLT, Int.reduceLE, Int.reduceEq, Int.reduceNe, Int.reduceAdd, Int.reduceSub, Int.reduceMul, Int.reduceNeg, Int.reduceToNat]
  (refine cd_dec (fun c1 => ?_) (fun c1 => ?_) <;> simp (maxSteps := 2000000) -implicitDefEqProofs (disch := omega) only [xsW, xsC, xsD, xsE, fillA, reduceCtorEq, Nat.reduceAdd, Nat.reduceSub, Nat.reduceLeDiff, Nat.reduceMul, Int.reduceLT, Int.reduceLE, Int.reduceEq, Int.reduceNe, Int.reduceAdd, Int.reduceSub, Int.reduceMul, Int.reduceNeg, Int.reduceToNat,  c1])
  · have hk2 : k < f.length := by omega
    have hb := Fracs.below s (by intro e; rw [e] at hk2; simp at hk2)
    obtain ⟨hnum, hden⟩ := allFr_get hf hk2
    have hg : 0 < (Int.gcd (dkF f k) (f.getD k (0, 0)).2 : Int) := by have := Int.gcd_pos_of_ne_zero_right (dkF f k) (show (f.getD k (0, 0)).2 ≠ 0 by omega); omega
    have hq := tdiv_b (a := dkF f k) (b := (Int.gcd (dkF f k) (f.getD k (0, 0)).2 : Int)) (by omega) (by omega)
    have hm2 := mul_nn hq.1 (show _ ≤ 1000000000 by omega) (show 0 ≤ (f.getD k (0, 0)).2 by omega) hden.2
    simp (maxSteps := 2000000) -implicitDefEqProofs (disch := omega) only [xsW, xsC, xsD, xsE, fillA, reduceCtorEq, Nat.reduceAdd, Nat.reduceSub, Nat.reduceLeDiff, Nat.reduceMul, Int.reduceLT, Int.reduceLE, Int.reduceEq, Int.reduceNe, Int.reduceAdd, Int.reduceSub, Int.reduceMul, Int.reduceNeg, Int.reduceToNat,  s.ia, g1, s.ld, frA]
    refine q_use (impl_common _ _ (by unfold in64; omega) (by unfold in64; omega) _ _) fun n2 hn2 => ?_
    simp (maxSteps := 2000000) -implicitDefEqProofs (disch := omega) only [xsW, xsC, xsD, xsE, fillA, reduceCtorEq, Nat.reduceAdd, Nat.reduceSub, Nat.reduceLeDiff, Nat.reduceMul, Int.reduceLT, Int.reduceLE, Int.reduceEq, Int.reduceNe, Int.reduceAdd, Int.reduceSub, Int.reduceMul, Int.reduceNeg, Int.reduceToNat]
    have e : (dkF f k).tdiv (Int.gcd (dkF f k) (f.getD k (0, 0)).2 : Int) * (f.getD k (0, 0)).2 = dkF f (k + 1) := rfl
    rw [e]
    (refine cd_dec (fun c2 => ?_) (fun c2 => ?_) <;> simp (maxSteps := 2000000) -implicitDefEqProofs (disch := omega) only [xsW, xsC, xsD, xsE, fillA, reduceCtorEq, Nat.reduceAdd, Nat.reduceSub, Nat.reduceLeDiff, Nat.reduceMul, Int.reduceLT, Int.reduceLE, Int.reduceEq, Int.reduceNe, Int.reduceAdd, Int.reduceSub, Int.reduceMul, Int.reduceNeg, Int.reduceToNat,  c2])
    · intro _ h2 _
      have : cmnM B f = false := by
        cases hx : cmnM B f
        · rfl
        · simp only [cmnM, Bool.and_eq_true] at hx
          have := (okM_iff B f).1 hx.1 k hk2
          omega
      exact .inl this
    · exact ⟨_, ⟨fun j hj => (upd_other (by omega)).trans (g1 j hj), fun j hj => (Nat.lt_succ_iff_lt_or_eq.1 hj).elim (g2 j) (fun e => by rw [e]; omega)⟩, by omega, by omega, (by simp [LeL, Le1]), fun _ _ h => h⟩
  · have e : k = f.length := by omega
    subst e
    have hD : okM B f = true := (okM_iff B f).2 g2
    have ed : dkF f f.length = cmnD f := rfl
    rw [ed] at hpos hub ⊢
    simp (maxSteps := 2000000) -implicitDefEqProofs (disch := omega) only [xsW, xsC, xsD, xsE, fillA, reduceCtorEq, Nat.reduceAdd, Nat.reduceSub, Nat.reduceLeDiff, Nat.reduceMul, Int.reduceLT, Int.reduceLE, Int.reduceEq, Int.reduceNe, Int.reduceAdd, Int.reduceSub, Int.reduceMul, Int.reduceNeg, Int.reduceToNat,  s.ln]
    refine loop_for f.length 0 (fun k p => [v, .int .i64 B, .int .i64 1000000000000, .any, .any, .any, .nilsl, .int .i64 0, .bool false, .int .i64 (cmnD f), .any, .any, p.1, .any, .any, .any, .any, .any, .any, .any, .any, .any, .any, .any, .any, .any, .any, .any, .any, .any, .any, .any, .any, .any, .any, v, .int .i64 f.length, .int .i64 k, .any, .any, .any, .any, .any, .any, .any, .any, .any, .any, .any, .any, .any, .any, .any, .any, .any, .any, .any, .any, .any]) (fun _ (p : AV × AH) => p.2)
      (fun k p m' => Acc m m' p.2 2 1 p.1 (ints (rowOf k (cmnX f))) ∧ m ≤ m' ∧ (∀ j, j < n → p.2 j = h j) ∧ ∀ j, j < k → -1000000000000 ≤ cmnX f j ∧ cmnX f j ≤ 1000000000000) (.nilsl, hp) (Nat.zero_le _) ⟨Acc.nil, by omega, g1, fun j hj => absurd hj (Nat.not_lt_zero _)⟩ (by simp [LeL, Le1]) (fun _ _ h => h) ?_
    rintro k ⟨out, hp2⟩ m2 - hk2 hm2 ⟨acc, hle, hold, hall⟩
    simp only at acc hold
    simp (maxSteps := 2000000) -implicitDefEqProofs (disch := omega) only [xsW, xsC, xsD, xsE, fillA, reduceCtorEq, Nat.reduceAdd, Nat.reduceSub, Nat.reduceLeDiff, Nat.reduceMul, Int.reduceLT, Int.reduceLE, Int.reduceEq, Int.reduceNe, Int.reduceAdd, Int.reduceSub, Int.reduceMul, Int.reduceNeg, Int.reduceToNat]
    (refine cd_dec (fun c3 => ?_) (fun c3 => ?_) <;> simp (maxSteps := 2000000) -implicitDefEqProofs (disch := omega) only [xsW, xsC, xsD, xsE, fillA, reduceCtorEq, Nat.reduceAdd, Nat.reduceSub, Nat.reduceLeDiff, Nat.reduceMul, Int.reduceLT, Int.reduceLE, Int.reduceEq, Int.reduceNe, Int.reduceAdd, Int.reduceSub, Int.reduceMul, Int.reduceNeg, Int.reduceToNat,  c3])
    · have hk3 : k < f.length := by omega
      have hb := Fracs.below s (by intro e; rw [e] at hk3; simp at hk3)
      obtain ⟨hnum, hden⟩ := allFr_get hf hk3
      have hq := tdiv_b (a := cmnD f) (b := (f.getD k (0, 0)).2) (by omega) (by omega)
      have hm3 := mulb9 hnum (b := (cmnD f).tdiv (f.getD k (0, 0)).2) (by omega)
      simp (maxSteps := 2000000) -implicitDefEqProofs (disch := omega) only [xsW, xsC, xsD, xsE, fillA, reduceCtorEq, Nat.reduceAdd, Nat.reduceSub, Nat.reduceLeDiff, Nat.reduceMul, Int.reduceLT, Int.reduceLE, Int.reduceEq, Int.reduceNe, Int.reduceAdd, Int.reduceSub, Int.reduceMul, Int.reduceNeg, Int.reduceToNat,  s.ia, hold, s.ld, frA]
      have e : (f.getD k (0, 0)).1 * (cmnD f).tdiv (f.getD k (0, 0)).2 = cmnX f k := rfl
      rw [e]
      refine q_use (impl_upTo _ _ (by unfold in64; omega) _ _) fun n3 hn3 => ?_
      simp (maxSteps := 2000000) -implicitDefEqProofs (disch := omega) only [xsW, xsC, xsD, xsE, fillA, reduceCtorEq, Nat.reduceAdd, Nat.reduceSub, Nat.reduceLeDiff, Nat.reduceMul, Int.reduceLT, Int.reduceLE, Int.reduceEq, Int.reduceNe, Int.reduceAdd, Int.reduceSub, Int.reduceMul, Int.reduceNeg, Int.reduceToNat]
      (refine cd_dec (fun c4 => ?_) (fun c4 => ?_) <;> simp (maxSteps := 2000000) -implicitDefEqProofs (disch := omega) only [xsW, xsC, xsD, xsE, fillA, reduceCtorEq, Nat.reduceAdd, Nat.reduceSub, Nat.reduceLeDiff, Nat.reduceMul, Int.reduceLT, Int.reduceLE, Int.reduceEq, Int.reduceNe, Int.reduceAdd, Int.reduceSub, Int.reduceMul, Int.reduceNeg, Int.reduceToNat,  c4])
      · intro _ h2 _
        have : cmnM B f = false := by
          cases hx : cmnM B f
          · rfl
          · simp only [cmnM, Bool.and_eq_true] at hx
            have := (okN_iff f).1 hx.2 k hk3
            omega
        exact .inl this
      · refine app_int (y := cmnX f k) (acc.keep (fun i _ hi9 => by simp (disch := omega) only [upd_other]) |>.wide (Nat.le_refl _) (by omega)) (by omega) (by omega) ⟨rfl, _, upd_same _ _ _, by simp, by simp [cutA]⟩ (by rw [rowOf_len]; omega) fun v' h' n' q1 q2 q3 => ?_
        simp (maxSteps := 2000000) -implicitDefEqProofs (disch := omega) only [xsW, xsC, xsD, xsE, fillA, reduceCtorEq, Nat.reduceAdd, Nat.reduceSub, Nat.reduceLeDiff, Nat.reduceMul, Int.reduceLT, Int.reduceLE, Int.reduceEq, Int.reduceNe, Int.reduceAdd, Int.reduceSub, Int.reduceMul, Int.reduceNeg, Int.reduceToNat]
        exact ⟨(v', h'), ⟨by rw [rowOf_succ]; exact q2, by omega, fun j hj => (q3 j (by omega)).trans (by rw [upd_other (by omega), upd_other (by omega), hold j hj]), fun j hj => (Nat.lt_succ_iff_lt_or_eq.1 hj).elim (hall j) (fun e => by rw [e]; omega)⟩, by omega, by omega, (by simp [LeL, Le1]), fun _ _ h => h⟩
    · have e : k = f.length := by omega
      subst e
      have hN : okN f = true := (okN_iff f).2 hall
      intro _ h2 hh
      exact .inr ⟨by simp [cmnM, hD, hN], out, by first | rfl | exact ⟨rfl, rfl, rfl⟩, (Acc.sl (acc.keep fun i a b => hh i (by omega) b)).wide (by omega) (Nat.le_refl _)⟩
theorem impl_together (s : Fracs w lo hi h v f) (hl : f.length ≤ 1048576) (hf : allFr f = true) (n : Nat) (hn : hi ≤ n) :
    FQ Tryz.prog 57 [v, .int .i64 1000000000, .int .i64 1000000000000] h n fun x h' n' => (cmnB f = false ∧ x = .tup [.nilsl, .int .i64 0, .bool false]) ∨ (cmnB f = true ∧ ∃ v', x = .tup [v', .int .i64 (cmnD f), .bool true] ∧ Ints true n n' h' v' (cmnN f)) := impl_togetherB 1000000000 (by omega) (by omega) s hl hf n hn
theorem spec_l01Common (s : Fracs w lo hi h v f) (hl : f.length ≤ 1048576) (hf : allFr f = true) (n : Nat) (hn : hi ≤ n) :
    FQ Tryz.prog 63 [v] h n fun x h' n' => (cmnB f = false ∧ x = .tup [.nilsl, .int .i64 0, .bool false]) ∨ (cmnB f = true ∧ ∃ v', x = .tup [v', .int .i64 (cmnD f), .bool true] ∧ Ints true n n' h' v' (cmnN f)) := by
  refine fq_intro Tryz.func63 k_spec_l01Common ?_
  simp (maxSteps := 2000000) -implicitDefEqProofs (disch := omega) only [c_spec_l01Common, xsW, xsC, xsD, xsE, fillA, reduceCtorEq, Nat.reduceAdd, Nat.reduceSub, Nat.reduceLeDiff, Nat.reduceMul, Int.reduceLT, Int.reduceLE, Int.reduceEq, Int.reduceNe, Int.reduceAdd, Int.reduceSub, Int.reduceMul, Int.reduceNeg, Int.reduceToNat]
  refine loop_for f.length 0 (fun k (_ : Unit) => [v, .any, .nilsl, .int .i64 0, .bool false, .int .i64 (dkF f k), .int .i64 k, .any, .any, .any, .any, .any, .any, .any, .any, .any, .any, .any, .any, .any, .any, .any, .any, .any, .any, .any, .any, .any, .any, .any, .any, .any, .any, .any, .any, .any, .any, .any, .any, .any, .any, .any, .any, .any, .any, .any, .any, .any, .any, .any, .any, .any, .any, .any, .any, .any, .any, .any, .any, .any, .any, .any]) (fun _ _ => h)
    (fun k _ m => ∀ j, j < k → dkF f (j + 1) ≤ 1000000000) () (Nat.zero_le _) (fun j hj => absurd hj (Nat.not_lt_zero _)) (by simp [LeL, Le1, dkF]) (fun _ _ h => h) ?_
  rintro k - m - hk hm g2
  have hpos := dkF_pos hf k hk
  have hub : dkF f k ≤ 1000000000 := by
    cases k with
    | zero => simp [dkF]
    | succ k => exact g2 k (by omega)
  simp (maxSteps := 2000000) -implicitDefEqProofs (disch := omega) only [xsW, xsC, xsD, xsE, fillA, reduceCtorEq, Nat.reduceAdd, Nat.reduceSub, Nat.reduceLeDiff, Nat.reduceMul, Int.reduceLT, Int.reduceLE, Int.reduceEq, Int.reduceNe, Int.reduceAdd, Int.reduceSub, Int.reduceMul, Int.reduceNeg, Int.reduceToNat,  s.ln]
  (refine cd_dec (fun c1 => ?_) (fun c1 => ?_) <;> simp (maxSteps := 2000000) -implicitDefEqProofs (disch := omega) only [xsW, xsC, xsD, xsE, fillA, reduceCtorEq, Nat.reduceAdd, Nat.reduceSub, Nat.reduceLeDiff, Nat.reduceMul, Int.reduceLT, Int.reduceLE, Int.reduceEq, Int.reduceNe, Int.reduceAdd, Int.reduceSub, Int.reduceMul, Int.reduceNeg, Int.reduceToNat,  c1])
  · have hk2 : k < f.length := by omega
    obtain ⟨hnum, hden⟩ := allFr_get hf hk2
    have hg : 0 < (Int.gcd (dkF f k) (f.getD k (0, 0)).2 : Int) := by have := Int.gcd_pos_of_ne_zero_right (dkF f k) (show (f.getD k (0, 0)).2 ≠ 0 by omega); omega
    have hq := tdiv_b (a := dkF f k) (b := (Int.gcd (dkF f k) (f.getD k (0, 0)).2 : Int)) (by omega) (by omega)
    have hm2 := mul_nn hq.1 (show _ ≤ 1000000000 by omega) (show 0 ≤ (f.getD k (0, 0)).2 by omega) hden.2
    simp (maxSteps := 2000000) -implicitDefEqProofs (disch := omega) only [xsW, xsC, xsD, xsE, fillA, reduceCtorEq, Nat.reduceAdd, Nat.reduceSub, Nat.reduceLeDiff, Nat.reduceMul, Int.reduceLT, Int.reduceLE, Int.reduceEq, Int.reduceNe, Int.reduceAdd, Int.reduceSub, Int.reduceMul, Int.reduceNeg, Int.reduceToNat,  s.ia, s.ldd]
    refine q_use (spec_l01Gcd _ _ (by unfold in64; omega) (by unfold in64; omega) _ _) fun n2 hn2 => ?_
    simp (maxSteps := 2000000) -implicitDefEqProofs (disch := omega) only [xsW, xsC, xsD, xsE, fillA, reduceCtorEq, Nat.reduceAdd, Nat.reduceSub, Nat.reduceLeDiff, Nat.reduceMul, Int.reduceLT, Int.reduceLE, Int.reduceEq, Int.reduceNe, Int.reduceAdd, Int.reduceSub, Int.reduceMul, Int.reduceNeg, Int.reduceToNat]
    have e : (dkF f k).tdiv (Int.gcd (dkF f k) (f.getD k (0, 0)).2 : Int) * (f.getD k (0, 0)).2 = dkF f (k + 1) := rfl
    rw [e]
    (refine cd_dec (fun c2 => ?_) (fun c2 => ?_) <;> simp (maxSteps := 2000000) -implicitDefEqProofs (disch := omega) only [xsW, xsC, xsD, xsE, fillA, reduceCtorEq, Nat.reduceAdd, Nat.reduceSub, Nat.reduceLeDiff, Nat.reduceMul, Int.reduceLT, Int.reduceLE, Int.reduceEq, Int.reduceNe, Int.reduceAdd, Int.reduceSub, Int.reduceMul, Int.reduceNeg, Int.reduceToNat,  c2])
    · intro _ h2 _
      have : cmnB f = false := by
        cases hx : cmnB f
        · rfl
        · simp only [cmnB, Bool.and_eq_true] at hx
          have := (okD_iff f).1 hx.1 k hk2
          omega
      exact .inl this
    · exact ⟨(), fun j hj => (Nat.lt_succ_iff_lt_or_eq.1 hj).elim (g2 j) (fun e => by rw [e]; omega), by omega, by omega, (by simp [LeL, Le1])⟩
  · have e : k = f.length := by omega
    subst e
    have hD : okD f = true := (okD_iff f).2 g2
    have ed : dkF f f.length = cmnD f := rfl
    rw [ed] at hpos hub ⊢
    refine loop_for f.length 0 (fun k p => [v, .any, .nilsl, .int .i64 0, .bool false, .int .i64 (cmnD f), .any, p.1, .int .i64 k, .any, .any, .any, .any, .any, .any, .any, .any, .any, .any, .any, .any, .any, .any, .any, .any, .any, .any, .any, .any, .any, .any, .any, .any, .any, .any, .any, .any, .any, .any, .any, .any, .any, .any, .any, .any, .any, .any, .any, .any, .any, .any, .any, .any, .any, .any, .any, .any, .any, .any, .any, .any, .any]) (fun _ (p : AV × AH) => p.2)
      (fun k p m' => Acc m m' p.2 2 1 p.1 (ints (rowOf k (cmnX f))) ∧ m ≤ m' ∧ (∀ j, j < n → p.2 j = h j) ∧ ∀ j, j < k → -1000000000000 ≤ cmnX f j ∧ cmnX f j ≤ 1000000000000) (.sl m 0 0 0, _) (Nat.zero_le _) ⟨Acc.empty (upd_same _ _ _) rfl (Nat.le_refl _) (by omega), by omega, fun j hj => upd_other (by omega), fun j hj => absurd hj (Nat.not_lt_zero _)⟩ (by simp [LeL, Le1]) (fun _ _ h => h) ?_
    rintro k ⟨out, hp2⟩ m2 - hk2 hm2 ⟨acc, hle, hold, hall⟩
    simp only at acc hold
    simp (maxSteps := 2000000) -implicitDefEqProofs (disch := omega) only [xsW, xsC, xsD, xsE, fillA, reduceCtorEq, Nat.reduceAdd, Nat.reduceSub, Nat.reduceLeDiff, Nat.reduceMul, Int.reduceLT, Int.reduceLE, Int.reduceEq, Int.reduceNe, Int.reduceAdd, Int.reduceSub, Int.reduceMul, Int.reduceNeg, Int.reduceToNat,  s.ln]
    (refine cd_dec (fun c3 => ?_) (fun c3 => ?_) <;> simp (maxSteps := 2000000) -implicitDefEqProofs (disch := omega) only [xsW, xsC, xsD, xsE, fillA, reduceCtorEq, Nat.reduceAdd, Nat.reduceSub, Nat.reduceLeDiff, Nat.reduceMul, Int.reduceLT, Int.reduceLE, Int.reduceEq, Int.reduceNe, Int.reduceAdd, Int.reduceSub, Int.reduceMul, Int.reduceNeg, Int.reduceToNat,  c3])
    · have hk3 : k < f.length := by omega
      have hb := Fracs.below s (by intro e; rw [e] at hk3; simp at hk3)
      obtain ⟨hnum, hden⟩ := allFr_get hf hk3
      have hq := tdiv_b (a := cmnD f) (b := (f.getD k (0, 0)).2) (by omega) (by omega)
      have hm3 := mulb9 hnum (b := (cmnD f).tdiv (f.getD k (0, 0)).2) (by omega)
      simp (maxSteps := 2000000) -implicitDefEqProofs (disch := omega) only [xsW, xsC, xsD, xsE, fillA, reduceCtorEq, Nat.reduceAdd, Nat.reduceSub, Nat.reduceLeDiff, Nat.reduceMul, Int.reduceLT, Int.reduceLE, Int.reduceEq, Int.reduceNe, Int.reduceAdd, Int.reduceSub, Int.reduceMul, Int.reduceNeg, Int.reduceToNat,  s.ia, hold, s.ldn, s.ldd]
      have e : (f.getD k (0, 0)).1 * (cmnD f).tdiv (f.getD k (0, 0)).2 = cmnX f k := rfl
      rw [e]
      refine q_use (spec_l01In _ _ _ _ _) fun n3 hn3 => ?_
      simp (maxSteps := 2000000) -implicitDefEqProofs (disch := omega) only [xsW, xsC, xsD, xsE, fillA, reduceCtorEq, Nat.reduceAdd, Nat.reduceSub, Nat.reduceLeDiff, Nat.reduceMul, Int.reduceLT, Int.reduceLE, Int.reduceEq, Int.reduceNe, Int.reduceAdd, Int.reduceSub, Int.reduceMul, Int.reduceNeg, Int.reduceToNat]
      (refine cd_dec (fun c4 => ?_) (fun c4 => ?_) <;> simp (maxSteps := 2000000) -implicitDefEqProofs (disch := omega) only [xsW, xsC, xsD, xsE, fillA, reduceCtorEq, Nat.reduceAdd, Nat.reduceSub, Nat.reduceLeDiff, Nat.reduceMul, Int.reduceLT, Int.reduceLE, Int.reduceEq, Int.reduceNe, Int.reduceAdd, Int.reduceSub, Int.reduceMul, Int.reduceNeg, Int.reduceToNat,  c4])
      · intro _ h2 _
        have : cmnB f = false := by
          cases hx : cmnB f
          · rfl
          · simp only [cmnB, Bool.and_eq_true] at hx
            have := (okN_iff f).1 hx.2 k hk3
            omega
        exact .inl this
      · refine app_int (y := cmnX f k) (acc.keep (fun i _ hi9 => by simp (disch := omega) only [upd_other]) |>.wide (Nat.le_refl _) (by omega)) (by omega) (by omega) ⟨rfl, _, upd_same _ _ _, by simp, by simp [cutA]⟩ (by rw [rowOf_len]; omega) fun v' h' n' q1 q2 q3 => ?_
        simp (maxSteps := 2000000) -implicitDefEqProofs (disch := omega) only [xsW, xsC, xsD, xsE, fillA, reduceCtorEq, Nat.reduceAdd, Nat.reduceSub, Nat.reduceLeDiff, Nat.reduceMul, Int.reduceLT, Int.reduceLE, Int.reduceEq, Int.reduceNe, Int.reduceAdd, Int.reduceSub, Int.reduceMul, Int.reduceNeg, Int.reduceToNat]
        exact ⟨(v', h'), ⟨by rw [rowOf_succ]; exact q2, by omega, fun j hj => (q3 j (by omega)).trans (by rw [upd_other (by omega), hold j hj]), fun j hj => (Nat.lt_succ_iff_lt_or_eq.1 hj).elim (hall j) (fun e => by rw [e]; omega)⟩, by omega, by omega, (by simp [LeL, Le1]), fun _ _ h => h⟩
    · have e : k = f.length := by omega
      subst e
      have hN : okN f = true := (okN_iff f).2 hall
      intro _ h2 hh
      exact .inr ⟨by simp [cmnB, hD, hN], out, by first | rfl | exact ⟨rfl, rfl, rfl⟩, (Acc.sl (acc.keep fun i a b => hh i (by omega) b)).wide (by omega) (Nat.le_refl _)⟩
end
def frcV (ll : List (List Int)) (q : List Int) (f : List (Int × Int)) : Int := if isProb ll q = true ∧ allFr f = true then (if f.length = ll.length then 0 else 2) else 1
theorem frcV_zero {ll : List (List Int)} {q : List Int} {f : List (Int × Int)} (h : frcV ll q f = 0) : isProb ll q = true ∧ allFr f = true ∧ f.length = ll.length := by
  unfold frcV at h
  split at h
  · rename_i hx
    split at h
    · exact ⟨hx.1, hx.2, by assumption⟩
    · omega
  · omega
section
variable {w w' : Bool} {lo hi lo' hi' : Nat} {h : AH} {v u v' : AV} {vs : List AV} {ll : List (List Int)} {q : List Int} {f : List (Int × Int)}
theorem impl_fracsCode (s : Prob w lo hi h v u vs ll q) (hl : ll.length ≤ 1048576) (hll : ∀ l ∈ ll, l.length ≤ 1048576) (hq : q.length ≤ 1048576) (sf : Fracs w' lo' hi' h v' f) (hf : f.length ≤ 1048576) (n : Nat) (hn : hi ≤ n) (hn' : hi' ≤ n) :
    Q Tryz.prog 53 [.agg [v, u], v'] h n (.int .i64 (frcV ll q f)) := by
  refine q_intro Tryz.func53 k_impl_fracsCode ?_
  have o1 := one_any (Sl.any s.M.out)
  have o2 := one_any (Sl.any s.Q)
  simp (maxSteps := 2000000) -implicitDefEqProofs (disch := omega) only [c_impl_fracsCode, o1, o2, xsW, xsC, xsD, xsE, fillA, reduceCtorEq, Nat.reduceAdd, Nat.reduceSub, Nat.reduceLeDiff, Nat.reduceMul, Int.reduceLT, Int.reduceLE, Int.reduceEq, Int.reduceNe, Int.reduceAdd, Int.reduceSub, Int.reduceMul, Int.reduceNeg, Int.reduceToNat]
  refine q_use (impl_IsProblem (s.keep (fun i _ hi9 => by simp (disch := omega) only [upd_other])) hl hll hq _ (by omega)) fun n1 hn1 => ?_
  cases hp : isProb ll q
  · simp (maxSteps := 2000000) -implicitDefEqProofs (disch := omega) only [xsW, xsC, xsD, xsE, fillA, reduceCtorEq, Nat.reduceAdd, Nat.reduceSub, Nat.reduceLeDiff, Nat.reduceMul, Int.reduceLT, Int.reduceLE, Int.reduceEq, Int.reduceNe, Int.reduceAdd, Int.reduceSub, Int.reduceMul, Int.reduceNeg, Int.reduceToNat]
    simp [frcV, hp]
  · have hql := (isProb_facts hp).2.1
    simp (maxSteps := 2000000) -implicitDefEqProofs (disch := omega) only [xsW, xsC, xsD, xsE, fillA, reduceCtorEq, Nat.reduceAdd, Nat.reduceSub, Nat.reduceLeDiff, Nat.reduceMul, Int.reduceLT, Int.reduceLE, Int.reduceEq, Int.reduceNe, Int.reduceAdd, Int.reduceSub, Int.reduceMul, Int.reduceNeg, Int.reduceToNat]
    refine q_use (impl_areFracs (Fracs.keep (h' := upd h n (some ⟨30, [v, u], true, 0⟩)) sf (fun i _ hi9 => by simp (disch := omega) only [upd_other])) hf _) fun n2 hn2 => ?_
    rw [← allFr]
    cases ha : allFr f
    · simp (maxSteps := 2000000) -implicitDefEqProofs (disch := omega) only [xsW, xsC, xsD, xsE, fillA, reduceCtorEq, Nat.reduceAdd, Nat.reduceSub, Nat.reduceLeDiff, Nat.reduceMul, Int.reduceLT, Int.reduceLE, Int.reduceEq, Int.reduceNe, Int.reduceAdd, Int.reduceSub, Int.reduceMul, Int.reduceNeg, Int.reduceToNat]
      simp [frcV, hp, ha]
    · simp (maxSteps := 2000000) -implicitDefEqProofs (disch := omega) only [xsW, xsC, xsD, xsE, fillA, reduceCtorEq, Nat.reduceAdd, Nat.reduceSub, Nat.reduceLeDiff, Nat.reduceMul, Int.reduceLT, Int.reduceLE, Int.reduceEq, Int.reduceNe, Int.reduceAdd, Int.reduceSub, Int.reduceMul, Int.reduceNeg, Int.reduceToNat,  sf.ln, s.Q.ln, hql]
      (refine cd_dec (fun c1 => ?_) (fun c1 => ?_) <;> simp (maxSteps := 2000000) -implicitDefEqProofs (disch := omega) only [xsW, xsC, xsD, xsE, fillA, reduceCtorEq, Nat.reduceAdd, Nat.reduceSub, Nat.reduceLeDiff, Nat.reduceMul, Int.reduceLT, Int.reduceLE, Int.reduceEq, Int.reduceNe, Int.reduceAdd, Int.reduceSub, Int.reduceMul, Int.reduceNeg, Int.reduceToNat,  c1])
      · simp [frcV, hp, ha]; omega
      · simp [frcV, hp, ha]; omega
theorem spec_l01Fracs (s : Prob w lo hi h v u vs ll q) (hl : ll.length ≤ 1048576) (hll : ∀ l ∈ ll, l.length ≤ 1048576) (hq : q.length ≤ 1048576) (sf : Fracs w' lo' hi' h v' f) (hf : f.length ≤ 1048576) (n : Nat) (hn : hi ≤ n) (hn' : hi' ≤ n) :
    Q Tryz.prog 61 [.agg [v, u], v'] h n (.int .i64 (frcV ll q f)) := by
  refine q_intro Tryz.func61 k_spec_l01Fracs ?_
  have o1 := one_any (Sl.any s.M.out)
  have o2 := one_any (Sl.any s.Q)
  simp (maxSteps := 2000000) -implicitDefEqProofs (disch := omega) only [c_spec_l01Fracs, o1, o2, xsW, xsC, xsD, xsE, fillA, reduceCtorEq, Nat.reduceAdd, Nat.reduceSub, Nat.reduceLeDiff, Nat.reduceMul, Int.reduceLT, Int.reduceLE, Int.reduceEq, Int.reduceNe, Int.reduceAdd, Int.reduceSub, Int.reduceMul, Int.reduceNeg, Int.reduceToNat]
  refine q_use (spec_l01Is (s.keep (fun i _ hi9 => by simp (disch := omega) only [upd_other])) hl hll hq _ (by omega)) fun n1 hn1 => ?_
  cases hp : isProb ll q
  · simp (maxSteps := 2000000) -implicitDefEqProofs (disch := omega) only [xsW, xsC, xsD, xsE, fillA, reduceCtorEq, Nat.reduceAdd, Nat.reduceSub, Nat.reduceLeDiff, Nat.reduceMul, Int.reduceLT, Int.reduceLE, Int.reduceEq, Int.reduceNe, Int.reduceAdd, Int.reduceSub, Int.reduceMul, Int.reduceNeg, Int.reduceToNat]
    simp [frcV, hp]
  · have hql := (isProb_facts hp).2.1
    simp (maxSteps := 2000000) -implicitDefEqProofs (disch := omega) only [xsW, xsC, xsD, xsE, fillA, reduceCtorEq, Nat.reduceAdd, Nat.reduceSub, Nat.reduceLeDiff, Nat.reduceMul, Int.reduceLT, Int.reduceLE, Int.reduceEq, Int.reduceNe, Int.reduceAdd, Int.reduceSub, Int.reduceMul, Int.reduceNeg, Int.reduceToNat]
    have sf1 := Fracs.keep (h' := upd h n (some ⟨30, [v, u], true, 0⟩)) sf (fun i _ hi9 => by simp (disch := omega) only [upd_other])
    refine loop_for f.length 0 (fun k (_ : Unit) => [.agg [v, u], v', .ptr n 0, .any, .int .i64 0, .int .i64 k, .any, .any, .any, .any, .any, .any, .any, .any, .any, .any, .any, .any, .any, .any, .any, .any, .any, .any, .any, .any, .any]) (fun _ _ => upd h n (some ⟨30, [v, u], true, 0⟩))
      (fun k _ _ => ∀ j, j < k → isFr 1000000000 (f.getD j (0, 0)).1 (f.getD j (0, 0)).2 = true) () (Nat.zero_le _) (fun j hj => absurd hj (Nat.not_lt_zero _)) (by simp [LeL, Le1]) (fun _ _ h => h) ?_
    rintro k - m - hk hm hall
    simp (maxSteps := 2000000) -implicitDefEqProofs (disch := omega) only [xsW, xsC, xsD, xsE, fillA, reduceCtorEq, Nat.reduceAdd, Nat.reduceSub, Nat.reduceLeDiff, Nat.reduceMul, Int.reduceLT, Int.reduceLE, Int.reduceEq, Int.reduceNe, Int.reduceAdd, Int.reduceSub, Int.reduceMul, Int.reduceNeg, Int.reduceToNat,  sf1.ln]
    (refine cd_dec (fun c1 => ?_) (fun c1 => ?_) <;> simp (maxSteps := 2000000) -implicitDefEqProofs (disch := omega) only [xsW, xsC, xsD, xsE, fillA, reduceCtorEq, Nat.reduceAdd, Nat.reduceSub, Nat.reduceLeDiff, Nat.reduceMul, Int.reduceLT, Int.reduceLE, Int.reduceEq, Int.reduceNe, Int.reduceAdd, Int.reduceSub, Int.reduceMul, Int.reduceNeg, Int.reduceToNat,  c1])
    · have hk2 : k < f.length := by omega
      have hbf := Fracs.below sf1 (by intro e; rw [e] at hk2; simp at hk2)
      simp (maxSteps := 2000000) -implicitDefEqProofs (disch := omega) only [xsW, xsC, xsD, xsE, fillA, reduceCtorEq, Nat.reduceAdd, Nat.reduceSub, Nat.reduceLeDiff, Nat.reduceMul, Int.reduceLT, Int.reduceLE, Int.reduceEq, Int.reduceNe, Int.reduceAdd, Int.reduceSub, Int.reduceMul, Int.reduceNeg, Int.reduceToNat,  sf1.ia, sf.ld, frA]
      refine q_use (spec_IsFrac _ _ _ _) fun n3 hn3 => ?_
      cases hx : isFr 1000000000 (f.getD k (0, 0)).1 (f.getD k (0, 0)).2
      · simp (maxSteps := 2000000) -implicitDefEqProofs (disch := omega) only [xsW, xsC, xsD, xsE, fillA, reduceCtorEq, Nat.reduceAdd, Nat.reduceSub, Nat.reduceLeDiff, Nat.reduceMul, Int.reduceLT, Int.reduceLE, Int.reduceEq, Int.reduceNe, Int.reduceAdd, Int.reduceSub, Int.reduceMul, Int.reduceNeg, Int.reduceToNat]
        have : allFr f = false := by
          cases hy : allFr f
          · rfl
          · have := (allFr_iff f).1 hy k hk2
            rw [hx] at this; cases this
        simp [frcV, this]
      · simp (maxSteps := 2000000) -implicitDefEqProofs (disch := omega) only [xsW, xsC, xsD, xsE, fillA, reduceCtorEq, Nat.reduceAdd, Nat.reduceSub, Nat.reduceLeDiff, Nat.reduceMul, Int.reduceLT, Int.reduceLE, Int.reduceEq, Int.reduceNe, Int.reduceAdd, Int.reduceSub, Int.reduceMul, Int.reduceNeg, Int.reduceToNat]
        exact ⟨(), fun j hj => (Nat.lt_succ_iff_lt_or_eq.1 hj).elim (hall j) (fun e => by rw [e]; exact hx), by omega, by omega, (by simp [LeL, Le1])⟩
    · have ha : allFr f = true := (allFr_iff f).2 fun j hj => hall j (by omega)
      simp (maxSteps := 2000000) -implicitDefEqProofs (disch := omega) only [xsW, xsC, xsD, xsE, fillA, reduceCtorEq, Nat.reduceAdd, Nat.reduceSub, Nat.reduceLeDiff, Nat.reduceMul, Int.reduceLT, Int.reduceLE, Int.reduceEq, Int.reduceNe, Int.reduceAdd, Int.reduceSub, Int.reduceMul, Int.reduceNeg, Int.reduceToNat,  sf1.ln, s.Q.ln, hql]
      (refine cd_dec (fun c2 => ?_) (fun c2 => ?_) <;> simp (maxSteps := 2000000) -implicitDefEqProofs (disch := omega) only [xsW, xsC, xsD, xsE, fillA, reduceCtorEq, Nat.reduceAdd, Nat.reduceSub, Nat.reduceLeDiff, Nat.reduceMul, Int.reduceLT, Int.reduceLE, Int.reduceEq, Int.reduceNe, Int.reduceAdd, Int.reduceSub, Int.reduceMul, Int.reduceNeg, Int.reduceToNat,  c2])
      · simp [frcV, hp, ha]; omega
      · simp [frcV, hp, ha]; omega
end
def c_impl_Problem_rest : F := ⟨(.seq (.reg false [⟨some 3, .box 30 (.t 0), none⟩, ⟨some 6, .mv (.c .nilsl), none⟩]) (.seq (.reg false [⟨some 10, .mv (.t 1), none⟩, ⟨some 11, .len (.t 10), none⟩, ⟨some 12, .mks 2 1 [(.int .i64 0)] (.t 11) (.t 11), none⟩, ⟨some 7, .mv (.t 12), none⟩]) (.seq (.seq (.reg false [⟨some 13, .fa 0 (.t 3), none⟩, ⟨some 14, .ld1 (.t 13), none⟩, ⟨some 15, .len (.t 14), none⟩, ⟨some 16, .mv (.c (.int .i64 0)), none⟩]) (.block 0 (.loop (.seq (.reg false [⟨some 17, .bin .lss (.t 16) (.t 15), none⟩]) (.seq (.cond (.t 17) .skip (.exit 0)) (.seq (.block 1 (.seq (.reg false [⟨some 18, .mv (.t 16), none⟩, ⟨some 19, .ia 1 (.t 14) (.t 16), none⟩, ⟨some 20, .ld1 (.t 19), none⟩, ⟨some 8, .mv (.t 18), none⟩, ⟨some 9, .mv (.t 20), none⟩]) (.reg true [⟨some 21, .mv (.t 7), none⟩, ⟨some 22, .mv (.t 8), none⟩, ⟨some 23, .fa 1 (.t 3), none⟩, ⟨some 24, .ld1 (.t 23), none⟩, ⟨some 25, .mv (.t 8), none⟩, ⟨some 26, .ia 1 (.t 24) (.t 25), none⟩, ⟨some 27, .ld1 (.t 26), none⟩, ⟨some 28, .mv (.t 2), none⟩, ⟨some 29, .bin .mul (.t 27) (.t 28), none⟩, ⟨some 30, .mv (.t 9), none⟩, ⟨some 31, .mv (.t 1), none⟩, ⟨some 32, .call (.f 59) [(.t 30), (.t 31)], none⟩, ⟨some 33, .bin .add (.t 29) (.t 32), none⟩, ⟨some 34, .ia 1 (.t 21) (.t 22), none⟩, ⟨none, .st 1 (.t 34) (.t 33), none⟩]))) (.reg false [⟨some 35, .bin .add (.t 16) (.c (.int .i64 1)), none⟩, ⟨some 16, .mv (.t 35), none⟩]))))))) (.seq (.reg false [⟨some 36, .mv (.t 7), none⟩, ⟨some 6, .mv (.t 36), none⟩]) .ret)))), 37, [(.t 6)]⟩
theorem k_impl_Problem_rest : compF Tryz.prog Tryz.f60 = some c_impl_Problem_rest := by kernel_rfl
def c_spec_l01Remainder : F := ⟨(.seq (.reg false [⟨some 3, .box 30 (.t 0), none⟩, ⟨some 6, .mv (.c .nilsl), none⟩]) (.seq (.reg false [⟨some 11, .lit 2 1 0 [(.int .i64 0)] [], none⟩, ⟨some 7, .mv (.t 11), none⟩]) (.seq (.seq (.reg false [⟨some 8, .mv (.c (.int .i64 0)), none⟩]) (.block 0 (.loop (.seq (.seq (.reg false [⟨some 12, .mv (.t 8), none⟩, ⟨some 13, .fa 1 (.t 3), none⟩, ⟨some 14, .ld1 (.t 13), none⟩, ⟨some 15, .len (.t 14), none⟩, ⟨some 16, .bin .lss (.t 12) (.t 15), none⟩]) (.cond (.t 16) .skip (.exit 0))) (.seq (.block 1 (.seq (.reg false [⟨some 19, .fa 1 (.t 3), none⟩, ⟨some 20, .ld1 (.t 19), none⟩, ⟨some 21, .mv (.t 8), none⟩, ⟨some 22, .ia 1 (.t 20) (.t 21), none⟩, ⟨some 23, .ld1 (.t 22), none⟩, ⟨some 24, .mv (.t 2), none⟩, ⟨some 25, .bin .mul (.t 23) (.t 24), none⟩, ⟨some 9, .mv (.t 25), none⟩]) (.seq (.seq (.reg false [⟨some 10, .mv (.c (.int .i64 0)), none⟩]) (.block 2 (.loop (.seq (.seq (.reg false [⟨some 26, .mv (.t 10), none⟩, ⟨some 27, .mv (.t 1), none⟩, ⟨some 28, .len (.t 27), none⟩, ⟨some 29, .bin .lss (.t 26) (.t 28), none⟩]) (.cond (.t 29) .skip (.exit 2))) (.seq (.block 3 (.reg true [⟨some 32, .mv (.t 9), none⟩, ⟨some 33, .fa 0 (.t 3), none⟩, ⟨some 34, .ld1 (.t 33), none⟩, ⟨some 35, .mv (.t 8), none⟩, ⟨some 36, .ia 1 (.t 34) (.t 35), none⟩, ⟨some 37, .ld1 (.t 36), none⟩, ⟨some 38, .mv (.t 10), none⟩, ⟨some 39, .ia 1 (.t 37) (.t 38), none⟩, ⟨some 40, .ld1 (.t 39), none⟩, ⟨some 41, .mv (.t 1), none⟩, ⟨some 42, .mv (.t 10), none⟩, ⟨some 43, .ia 1 (.t 41) (.t 42), none⟩, ⟨some 44, .ld1 (.t 43), none⟩, ⟨some 45, .bin .mul (.t 40) (.t 44), none⟩, ⟨some 46, .bin .add (.t 32) (.t 45), none⟩, ⟨some 9, .mv (.t 46), none⟩])) (.reg false [⟨some 30, .mv (.t 10), none⟩, ⟨some 31, .bin .add (.t 30) (.c (.int .i64 1)), none⟩, ⟨some 10, .mv (.t 31), none⟩])))))) (.reg false [⟨some 47, .mv (.t 7), none⟩, ⟨some 48, .mv (.t 9), none⟩, ⟨some 49, .lit 2 1 1 [(.int .i64 0)] [(0, (.t 48))], none⟩, ⟨some 50, .app 2 1 8 [(.int .i64 0)] (.t 47) (.t 49), none⟩, ⟨some 7, .mv (.t 50), none⟩])))) (.reg false [⟨some 17, .mv (.t 8), none⟩, ⟨some 18, .bin .add (.t 17) (.c (.int .i64 1)), none⟩, ⟨some 8, .mv (.t 18), none⟩])))))) (.seq (.reg false [⟨some 51, .mv (.t 7), none⟩, ⟨some 6, .mv (.t 51), none⟩]) .ret)))), 52, [(.t 6)]⟩
theorem k_spec_l01Remainder : compF Tryz.prog Tryz.f64 = some c_spec_l01Remainder := by kernel_rfl
def c_impl_IsSolution : F := ⟨(.seq (.reg false [⟨some 2, .box 30 (.t 0), none⟩, ⟨some 4, .mv (.c (.bool false)), none⟩, ⟨some 5, .mv (.c (.int .i64 0)), none⟩]) (.seq (.seq (.reg false [⟨some 12, .ld 2 (.t 2), none⟩, ⟨some 13, .mv (.t 1), none⟩, ⟨some 14, .call (.f 53) [(.t 12), (.t 13)], none⟩, ⟨some 6, .mv (.t 14), none⟩]) (.seq (.reg false [⟨some 15, .mv (.t 6), none⟩, ⟨some 16, .bin .neq (.t 15) (.c (.int .i64 0)), none⟩]) (.cond (.t 16) (.seq (.reg false [⟨some 17, .mv (.t 6), none⟩, ⟨some 4, .mv (.c (.bool false)), none⟩, ⟨some 5, .mv (.t 17), none⟩]) .ret) .skip))) (.seq (.reg false [⟨some 19, .mv (.t 1), none⟩, ⟨some 20, .call (.f 57) [(.t 19), (.c (.int .i64 1000000000)), (.c (.int .i64 1000000000000))], none⟩, ⟨some 18, .mv (.t 20), none⟩, ⟨some 21, .ext (.t 18) 0, none⟩, ⟨some 22, .ext (.t 18) 1, none⟩, ⟨some 23, .ext (.t 18) 2, none⟩, ⟨some 7, .mv (.t 21), none⟩, ⟨some 8, .mv (.t 22), none⟩, ⟨some 9, .mv (.t 23), none⟩]) (.seq (.seq (.reg false [⟨some 24, .mv (.t 9), none⟩, ⟨some 25, .un .not (.t 24), none⟩]) (.cond (.t 25) (.seq (.reg false [⟨some 4, .mv (.c (.bool false)), none⟩, ⟨some 5, .mv (.c (.int .i64 3)), none⟩]) .ret) .skip)) (.seq (.seq (.reg false [⟨some 26, .ld 2 (.t 2), none⟩, ⟨some 27, .mv (.t 7), none⟩, ⟨some 28, .mv (.t 8), none⟩, ⟨some 29, .call (.f 60) [(.t 26), (.t 27), (.t 28)], none⟩, ⟨some 30, .len (.t 29), none⟩, ⟨some 31, .mv (.c (.int .i64 0)), none⟩]) (.block 0 (.loop (.seq (.reg false [⟨some 32, .bin .lss (.t 31) (.t 30), none⟩]) (.seq (.cond (.t 32) .skip (.exit 0)) (.seq (.block 1 (.seq (.reg false [⟨some 33, .mv (.t 31), none⟩, ⟨some 34, .ia 1 (.t 29) (.t 31), none⟩, ⟨some 35, .ld1 (.t 34), none⟩, ⟨some 10, .mv (.t 33), none⟩, ⟨some 11, .mv (.t 35), none⟩]) (.seq (.reg false [⟨some 36, .mv (.t 11), none⟩, ⟨some 37, .bin .lss (.t 36) (.c (.int .i64 0)), none⟩, ⟨some 38, .mv (.t 37), none⟩, ⟨some 39, .mv (.t 7), some (38, false)⟩, ⟨some 40, .mv (.t 10), some (38, false)⟩, ⟨some 41, .ia 1 (.t 39) (.t 40), some (38, false)⟩, ⟨some 42, .ld1 (.t 41), some (38, false)⟩, ⟨some 43, .bin .lss (.t 42) (.c (.int .i64 0)), some (38, false)⟩, ⟨some 44, .pick (.t 38) (.c (.bool true)) (.t 43), none⟩, ⟨some 45, .mv (.t 44), none⟩, ⟨some 46, .mv (.t 11), some (45, false)⟩, ⟨some 47, .bin .gtr (.t 46) (.c (.int .i64 0)), some (45, false)⟩, ⟨some 48, .mv (.t 47), some (45, false)⟩, ⟨some 49, .mv (.t 7), some (48, true)⟩, ⟨some 50, .mv (.t 10), some (48, true)⟩, ⟨some 51, .ia 1 (.t 49) (.t 50), some (48, true)⟩, ⟨some 52, .ld1 (.t 51), some (48, true)⟩, ⟨some 53, .bin .gtr (.t 52) (.c (.int .i64 0)), some (48, true)⟩, ⟨some 54, .pick (.t 48) (.t 53) (.c (.bool false)), some (45, false)⟩, ⟨some 55, .pick (.t 45) (.c (.bool true)) (.t 54), none⟩]) (.cond (.t 55) (.seq (.reg false [⟨some 4, .mv (.c (.bool false)), none⟩, ⟨some 5, .mv (.c (.int .i64 0)), none⟩]) .ret) .skip)))) (.reg false [⟨some 56, .bin .add (.t 31) (.c (.int .i64 1)), none⟩, ⟨some 31, .mv (.t 56), none⟩]))))))) (.seq (.reg false [⟨some 4, .mv (.c (.bool true)), none⟩, ⟨some 5, .mv (.c (.int .i64 0)), none⟩]) .ret)))))), 57, [(.t 4), (.t 5)]⟩
theorem k_impl_IsSolution : compF Tryz.prog Tryz.f27 = some c_impl_IsSolution := by kernel_rfl

def remT (ll : List (List Int)) (xs : List Int) (i j : Nat) : Int := (ll.getD i []).getD j 0 * xs.getD j 0
def remX (ll : List (List Int)) (q xs : List Int) (d : Int) (i : Nat) : Int := q.getD i 0 * d + sumTo ll.length (remT ll xs i)
def remL (ll : List (List Int)) (q xs : List Int) (d : Int) : List Int := rowOf ll.length (remX ll q xs d)
theorem remL_len (ll : List (List Int)) (q xs : List Int) (d : Int) : (remL ll q xs d).length = ll.length := rowOf_len _ _
theorem remT_b {ll : List (List Int)} {q xs : List Int} (hp : isProb ll q = true) (hx : xs.length = ll.length) (hb : ∀ k, k < xs.length → -1000000000000 ≤ xs.getD k 0 ∧ xs.getD k 0 ≤ 1000000000000) {i : Nat} (hi : i < ll.length) :
    ∀ j, j < ll.length → -20000000000000 ≤ remT ll xs i j ∧ remT ll xs i j ≤ 20000000000000 := fun j hj => by
  obtain ⟨hm, hq, hw⟩ := isProb_facts hp
  have h1 := ((isMat_iff ll).1 hm).2.2 i hi
  rw [within_iff] at h1
  exact mul_bound (A := 20) (B := 1000000000000) (h1.2 j (by rw [h1.1]; exact hj)) (hb j (by omega))
theorem remS_b {ll : List (List Int)} {q xs : List Int} (hp : isProb ll q = true) (hx : xs.length = ll.length) (hb : ∀ k, k < xs.length → -1000000000000 ≤ xs.getD k 0 ∧ xs.getD k 0 ≤ 1000000000000) {i : Nat} (hi : i < ll.length) {k : Nat} (hk : k ≤ ll.length) :
    -100000000000000 ≤ sumTo k (remT ll xs i) ∧ sumTo k (remT ll xs i) ≤ 100000000000000 := by
  have hN := ((isMat_iff ll).1 (isProb_facts hp).1).2.1
  exact sumTo_small (n := ll.length) (B := 20000000000000) (remT_b hp hx hb hi) hk (by omega) (by omega)
theorem qd_b {ll : List (List Int)} {q : List Int} (hp : isProb ll q = true) {d : Int} (hd : 0 ≤ d ∧ d ≤ 1000000000) {i : Nat} (hi : i < ll.length) : -100000000000 ≤ q.getD i 0 * d ∧ q.getD i 0 * d ≤ 100000000000 := by
  obtain ⟨hm, hq, hw⟩ := isProb_facts hp
  exact mul_bound (A := 100) (B := 1000000000) ((within_iff _ _).1 hw i (by omega)) (by omega)
theorem remX_b {ll : List (List Int)} {q xs : List Int} (hp : isProb ll q = true) (hx : xs.length = ll.length) (hb : ∀ k, k < xs.length → -1000000000000 ≤ xs.getD k 0 ∧ xs.getD k 0 ≤ 1000000000000) {d : Int} (hd : 0 ≤ d ∧ d ≤ 1000000000) {i : Nat} (hi : i < ll.length) :
    -200000000000000 ≤ remX ll q xs d i ∧ remX ll q xs d i ≤ 200000000000000 := by
  have h1 := remS_b hp hx hb hi (Nat.le_refl _)
  have h2 := qd_b hp hd hi
  unfold remX; omega
section
variable {w w' : Bool} {lo hi lo' hi' : Nat} {h : AH} {v u v' : AV} {vs : List AV} {ll : List (List Int)} {q xs : List Int} {f : List (Int × Int)}
theorem impl_rest (s : Prob w lo hi h v u vs ll q) (hp : isProb ll q = true) (sx : Ints w' lo' hi' h v' xs) (hx : xs.length = ll.length) (hb : ∀ k, k < xs.length → -1000000000000 ≤ xs.getD k 0 ∧ xs.getD k 0 ≤ 1000000000000) (d : Int) (hd : 0 ≤ d ∧ d ≤ 1000000000) (n : Nat) (hn : hi ≤ n) (hn' : hi' ≤ n) :
    FQ Tryz.prog 60 [.agg [v, u], v', .int .i64 d] h n fun y h' n' => Ints true n n' h' y (remL ll q xs d) := by
  refine fq_intro Tryz.func60 k_impl_Problem_rest ?_
  have o1 := one_any (Sl.any s.M.out)
  have o2 := one_any (Sl.any s.Q)
  obtain ⟨hm, hql, hw⟩ := isProb_facts hp
  have hN := ((isMat_iff ll).1 hm).2.1
  have hrl := remL_len ll q xs d
  simp (maxSteps := 2000000) -implicitDefEqProofs (disch := omega) only [c_impl_Problem_rest, o1, o2, sx.ln, hx, xsW, xsC, xsD, xsE, fillA, reduceCtorEq, Nat.reduceAdd, Nat.reduceSub, Nat.reduceLeDiff, Nat.reduceMul, Int.reduceLT, Int.reduceLE, Int.reduceEq, Int.reduceNe, Int.reduceAdd, Int.reduceSub, Int.reduceMul, Int.reduceNeg, Int.reduceToNat]
  simp (maxSteps := 2000000) -implicitDefEqProofs (disch := omega) only [xsW, xsC, xsD, xsE, fillA, reduceCtorEq, Nat.reduceAdd, Nat.reduceSub, Nat.reduceLeDiff, Nat.reduceMul, Int.reduceLT, Int.reduceLE, Int.reduceEq, Int.reduceNe, Int.reduceAdd, Int.reduceSub, Int.reduceMul, Int.reduceNeg, Int.reduceToNat,  s.M.ln]
  refine loop_for ll.length 0 (fun k (_ : Unit) => [.agg [v, u], v', .int .i64 d, .ptr n 0, .any, .any, .nilsl, .sl (n + 1) 0 ll.length ll.length, .any, .any, .any, .any, .any, .any, v, .int .i64 ll.length, .int .i64 k, .any, .any, .any, .any, .any, .any, .any, .any, .any, .any, .any, .any, .any, .any, .any, .any, .any, .any, .any, .any]) (fun k _ => upd (upd h n (some ⟨30, [v, u], true, 0⟩)) (n + 1) (some ⟨2, (ints (remL ll q xs d)).take k ++ List.replicate ((remL ll q xs d).length - k) (.int .i64 0), true, 0⟩))
    (fun _ _ _ => True) () (Nat.zero_le _) trivial (by simp [LeL, Le1]) (by simp [hrl]) ?_
  rintro k - m - hk hm1 -
  simp (maxSteps := 2000000) -implicitDefEqProofs (disch := omega) only [xsW, xsC, xsD, xsE, fillA, reduceCtorEq, Nat.reduceAdd, Nat.reduceSub, Nat.reduceLeDiff, Nat.reduceMul, Int.reduceLT, Int.reduceLE, Int.reduceEq, Int.reduceNe, Int.reduceAdd, Int.reduceSub, Int.reduceMul, Int.reduceNeg, Int.reduceToNat]
  (refine cd_dec (fun c1 => ?_) (fun c1 => ?_) <;> simp (maxSteps := 2000000) -implicitDefEqProofs (disch := omega) only [xsW, xsC, xsD, xsE, fillA, reduceCtorEq, Nat.reduceAdd, Nat.reduceSub, Nat.reduceLeDiff, Nat.reduceMul, Int.reduceLT, Int.reduceLE, Int.reduceEq, Int.reduceNe, Int.reduceAdd, Int.reduceSub, Int.reduceMul, Int.reduceNeg, Int.reduceToNat,  c1])
  · have hk2 : k < ll.length := by omega
    have hbl := s.M.out.below (by rw [s.M.slen]; omega)
    have hbq := Sl.below s.Q (by rw [s.Q.slen]; omega)
    have hri := s.M.row k hk2
    have li := (((isMat_iff ll).1 hm).2.2 k hk2).1
    have hqd := qd_b hp hd hk2
    have hrx := remX_b hp hx hb hd hk2
    have hrs := remS_b hp hx hb hk2 (Nat.le_refl _)
    simp (maxSteps := 2000000) -implicitDefEqProofs (disch := omega) only [xsW, xsC, xsD, xsE, fillA, reduceCtorEq, Nat.reduceAdd, Nat.reduceSub, Nat.reduceLeDiff, Nat.reduceMul, Int.reduceLT, Int.reduceLE, Int.reduceEq, Int.reduceNe, Int.reduceAdd, Int.reduceSub, Int.reduceMul, Int.reduceNeg, Int.reduceToNat,  s.M.ia, s.M.ld, s.Q.ia, s.Q.ld, hql]
    refine q_use (impl_sum (hri.keep (fun i _ hi9 => by simp (disch := omega) only [upd_other])) (sx.keep (fun i _ hi9 => by simp (disch := omega) only [upd_other])) (by omega) 20000000000000 (by omega) (by omega) (by omega) (fun j hj => remT_b hp hx hb hk2 j (by omega)) m) fun n2 hn2 => ?_
    have e : q.getD k 0 * d + (sumTo (ll.getD k []).length fun j => (ll.getD k []).getD j 0 * xs.getD j 0) = (remL ll q xs d).getD k 0 := by rw [remL, rowOf_get hk2, li]; rfl
    have e2 : (sumTo (ll.getD k []).length fun j => (ll.getD k []).getD j 0 * xs.getD j 0) = sumTo ll.length (remT ll xs k) := by rw [li]; rfl
    have e3 : (remL ll q xs d).getD k 0 = remX ll q xs d k := by rw [remL, rowOf_get hk2]
    rw [e2] at e ⊢
    have hfi := fill_ints (remL ll q xs d) (.int .i64 0) k (by omega)
    rw [hrl] at hfi
    simp (maxSteps := 2000000) -implicitDefEqProofs (disch := omega) only [xsW, xsC, xsD, xsE, fillA, reduceCtorEq, Nat.reduceAdd, Nat.reduceSub, Nat.reduceLeDiff, Nat.reduceMul, Int.reduceLT, Int.reduceLE, Int.reduceEq, Int.reduceNe, Int.reduceAdd, Int.reduceSub, Int.reduceMul, Int.reduceNeg, Int.reduceToNat,  e, hfi, hrl]
    exact ⟨by omega, (), by omega, by omega, (by simp [LeL, Le1])⟩
  · have e : k = ll.length := by omega
    subst e
    intro _ h2 hh
    refine Sl.of_sl (ty := 2) (op := 0) ?_ (by simp [ints, hrl]) (Nat.le_refl _) (by omega) (by omega)
    rw [hh (n + 1) (by omega) (by omega), upd_same]
    simp [hrl, List.take_of_length_le, ints]
theorem spec_l01Remainder (s : Prob w lo hi h v u vs ll q) (hp : isProb ll q = true) (sx : Ints w' lo' hi' h v' xs) (hx : xs.length = ll.length) (hb : ∀ k, k < xs.length → -1000000000000 ≤ xs.getD k 0 ∧ xs.getD k 0 ≤ 1000000000000) (d : Int) (hd : 0 ≤ d ∧ d ≤ 1000000000) (n : Nat) (hn : hi ≤ n) (hn' : hi' ≤ n) :
    FQ Tryz.prog 64 [.agg [v, u], v', .int .i64 d] h n fun y h' n' => Ints true n n' h' y (remL ll q xs d) := by
  refine fq_intro Tryz.func64 k_spec_l01Remainder ?_
  have o1 := one_any (Sl.any s.M.out)
  have o2 := one_any (Sl.any s.Q)
  obtain ⟨hm, hql, hw⟩ := isProb_facts hp
  have hN := ((isMat_iff ll).1 hm).2.1
  simp (maxSteps := 2000000) -implicitDefEqProofs (disch := omega) only [c_spec_l01Remainder, o1, o2, xsW, xsC, xsD, xsE, fillA, reduceCtorEq, Nat.reduceAdd, Nat.reduceSub, Nat.reduceLeDiff, Nat.reduceMul, Int.reduceLT, Int.reduceLE, Int.reduceEq, Int.reduceNe, Int.reduceAdd, Int.reduceSub, Int.reduceMul, Int.reduceNeg, Int.reduceToNat]
  refine loop_for ll.length 0 (fun k p => [.agg [v, u], v', .int .i64 d, .ptr n 0, .any, .any, .nilsl, p.1, .int .i64 k, .any, .any, .any, .any, .any, .any, .any, .any, .any, .any, .any, .any, .any, .any, .any, .any, .any, .any, .any, .any, .any, .any, .any, .any, .any, .any, .any, .any, .any, .any, .any, .any, .any, .any, .any, .any, .any, .any, .any, .any, .any, .any, .any]) (fun _ (p : AV × AH) => p.2)
    (fun k p m => Acc (n + 1) m p.2 2 1 p.1 (ints (rowOf k (remX ll q xs d))) ∧ n + 1 ≤ m ∧ ∀ j, j < n + 1 → p.2 j = upd h n (some ⟨30, [v, u], true, 0⟩) j) (.sl (n + 1) 0 0 0, _) (Nat.zero_le _) ⟨Acc.empty (upd_same _ _ _) rfl (Nat.le_refl _) (by omega), by omega, fun j hj => upd_other (by omega)⟩ (by simp [LeL, Le1]) (fun _ _ h => h) ?_
  rintro k ⟨out, hp'⟩ m - hk hm1 ⟨acc, hle, hold⟩
  simp only at acc hold
  have hbox : hp' n = some ⟨30, [v, u], true, 0⟩ := by rw [hold n (by omega), upd_same]
  simp (maxSteps := 2000000) -implicitDefEqProofs (disch := omega) only [xsW, xsC, xsD, xsE, fillA, reduceCtorEq, Nat.reduceAdd, Nat.reduceSub, Nat.reduceLeDiff, Nat.reduceMul, Int.reduceLT, Int.reduceLE, Int.reduceEq, Int.reduceNe, Int.reduceAdd, Int.reduceSub, Int.reduceMul, Int.reduceNeg, Int.reduceToNat,  hbox, s.Q.ln, hql]
  (refine cd_dec (fun c1 => ?_) (fun c1 => ?_) <;> simp (maxSteps := 2000000) -implicitDefEqProofs (disch := omega) only [xsW, xsC, xsD, xsE, fillA, reduceCtorEq, Nat.reduceAdd, Nat.reduceSub, Nat.reduceLeDiff, Nat.reduceMul, Int.reduceLT, Int.reduceLE, Int.reduceEq, Int.reduceNe, Int.reduceAdd, Int.reduceSub, Int.reduceMul, Int.reduceNeg, Int.reduceToNat,  c1])
  · have hk2 : k < ll.length := by omega
    have hbl := s.M.out.below (by rw [s.M.slen]; omega)
    have hbq := Sl.below s.Q (by rw [s.Q.slen]; omega)
    have hri := s.M.row k hk2
    have li := (((isMat_iff ll).1 hm).2.2 k hk2).1
    have hqd := qd_b hp hd hk2
    simp (maxSteps := 2000000) -implicitDefEqProofs (disch := omega) only [xsW, xsC, xsD, xsE, fillA, reduceCtorEq, Nat.reduceAdd, Nat.reduceSub, Nat.reduceLeDiff, Nat.reduceMul, Int.reduceLT, Int.reduceLE, Int.reduceEq, Int.reduceNe, Int.reduceAdd, Int.reduceSub, Int.reduceMul, Int.reduceNeg, Int.reduceToNat,  hbox, hold, s.Q.ia, s.Q.ld, hql]
    refine loop_for ll.length 0 (fun j (_ : Unit) => [.agg [v, u], v', .int .i64 d, .ptr n 0, .any, .any, .nilsl, out, .int .i64 k, .int .i64 (q.getD k 0 * d + sumTo j (remT ll xs k)), .int .i64 j, .any, .any, .any, .any, .any, .any, .any, .any, .any, .any, .any, .any, .any, .any, .any, .any, .any, .any, .any, .any, .any, .any, .any, .any, .any, .any, .any, .any, .any, .any, .any, .any, .any, .any, .any, .any, .any, .any, .any, .any, .any]) (fun _ _ => hp')
      (fun _ _ _ => True) () (Nat.zero_le _) trivial (by simp [LeL, Le1, sumTo]) (fun _ _ h => h) ?_
    rintro j - m2 - hj hm2 -
    simp (maxSteps := 2000000) -implicitDefEqProofs (disch := omega) only [xsW, xsC, xsD, xsE, fillA, reduceCtorEq, Nat.reduceAdd, Nat.reduceSub, Nat.reduceLeDiff, Nat.reduceMul, Int.reduceLT, Int.reduceLE, Int.reduceEq, Int.reduceNe, Int.reduceAdd, Int.reduceSub, Int.reduceMul, Int.reduceNeg, Int.reduceToNat,  sx.ln, hx]
    (refine cd_dec (fun c2 => ?_) (fun c2 => ?_) <;> simp (maxSteps := 2000000) -implicitDefEqProofs (disch := omega) only [xsW, xsC, xsD, xsE, fillA, reduceCtorEq, Nat.reduceAdd, Nat.reduceSub, Nat.reduceLeDiff, Nat.reduceMul, Int.reduceLT, Int.reduceLE, Int.reduceEq, Int.reduceNe, Int.reduceAdd, Int.reduceSub, Int.reduceMul, Int.reduceNeg, Int.reduceToNat,  c2])
    · have hj2 : j < ll.length := by omega
      have hbx := Sl.below sx (by rw [sx.slen]; omega)
      have hbr := Sl.below hri (by rw [hri.slen]; omega)
      have b1 := remT_b hp hx hb hk2 j hj2
      have b2 := remS_b hp hx hb hk2 (k := j) (by omega)
      have b3 := remS_b hp hx hb hk2 (k := j + 1) (by omega)
      rw [sumTo_succ] at b3
      have et : (ll.getD k []).getD j 0 * xs.getD j 0 = remT ll xs k j := rfl
      simp (maxSteps := 2000000) -implicitDefEqProofs (disch := omega) only [xsW, xsC, xsD, xsE, fillA, reduceCtorEq, Nat.reduceAdd, Nat.reduceSub, Nat.reduceLeDiff, Nat.reduceMul, Int.reduceLT, Int.reduceLE, Int.reduceEq, Int.reduceNe, Int.reduceAdd, Int.reduceSub, Int.reduceMul, Int.reduceNeg, Int.reduceToNat,  hbox, hold, s.M.ia, s.M.ld, hri.ia, hri.ld, li, sx.ia, sx.ld, hx]
      rw [et]
      exact ⟨(), by omega, by omega, by simp [LeL, Le1, sumTo, Int.add_assoc]⟩
    · have e : j = ll.length := by omega
      subst e
      have e2 : q.getD k 0 * d + sumTo ll.length (remT ll xs k) = remX ll q xs d k := rfl
      rw [e2]
      refine app_int (y := remX ll q xs d k) (acc.keep (fun i _ hi9 => by simp (disch := omega) only [upd_other]) |>.wide (Nat.le_refl _) (by omega)) (by omega) (by omega) ⟨rfl, _, upd_same _ _ _, by simp, by simp [cutA]⟩ (by rw [rowOf_len]; omega) fun v' h' n' q1 q2 q3 => ?_
      simp (maxSteps := 2000000) -implicitDefEqProofs (disch := omega) only [xsW, xsC, xsD, xsE, fillA, reduceCtorEq, Nat.reduceAdd, Nat.reduceSub, Nat.reduceLeDiff, Nat.reduceMul, Int.reduceLT, Int.reduceLE, Int.reduceEq, Int.reduceNe, Int.reduceAdd, Int.reduceSub, Int.reduceMul, Int.reduceNeg, Int.reduceToNat]
      exact ⟨(v', h'), ⟨by rw [rowOf_succ]; exact q2, by omega, fun j hj => (q3 j hj).trans (by rw [upd_other (by omega), hold j hj])⟩, by omega, by omega, (by simp [LeL, Le1]), fun _ _ h => h⟩
  · have e : k = ll.length := by omega
    subst e
    intro _ h2 hh
    exact (Acc.sl (acc.keep fun i a b => hh i (by omega) b)).wide (by omega) (Nat.le_refl _)
end
def okYX (y x : Int) : Bool := decide (0 ≤ y ∧ 0 ≤ x ∧ (y = 0 ∨ x = 0))
def solvB (ys xs : List Int) : Bool := (List.range ys.length).all fun k => okYX (ys.getD k 0) (xs.getD k 0)
theorem solvB_iff (ys xs : List Int) : solvB ys xs = true ↔ ∀ k, k < ys.length → okYX (ys.getD k 0) (xs.getD k 0) = true := by simp only [solvB, List.all_eq_true, List.mem_range]
theorem solvB_no {ys xs : List Int} {k : Nat} (hk : k < ys.length) (h : ¬ (0 ≤ ys.getD k 0 ∧ 0 ≤ xs.getD k 0 ∧ (ys.getD k 0 = 0 ∨ xs.getD k 0 = 0))) : solvB ys xs = false := by
  cases hx : solvB ys xs
  · rfl
  · have := (solvB_iff ys xs).1 hx k hk
    simp only [okYX, decide_eq_true_eq] at this
    exact absurd this h
def isSolV (ll : List (List Int)) (q : List Int) (f : List (Int × Int)) : Bool × Int :=
  if frcV ll q f = 0 then (if cmnB f = true then (solvB (remL ll q (cmnN f) (cmnD f)) (cmnN f), 0) else (false, 3)) else (false, frcV ll q f)
theorem cmn_facts {ll : List (List Int)} {q : List Int} {f : List (Int × Int)} (hz : frcV ll q f = 0) (hB : cmnB f = true) :
    (cmnN f).length = ll.length ∧ (∀ k, k < (cmnN f).length → -1000000000000 ≤ (cmnN f).getD k 0 ∧ (cmnN f).getD k 0 ≤ 1000000000000) ∧ 1 ≤ cmnD f ∧ cmnD f ≤ 1000000000 := by
  obtain ⟨hp, ha, hl⟩ := frcV_zero hz
  simp only [cmnB, Bool.and_eq_true] at hB
  refine ⟨by rw [cmnN_len, hl], fun k hk => ?_, dkF_pos ha _ (Nat.le_refl _), ?_⟩
  · rw [cmnN_len] at hk
    rw [cmnN, rowOf_get hk]
    exact (okN_iff f).1 hB.2 k hk
  · unfold cmnD
    rcases Nat.eq_zero_or_pos f.length with h0 | h0
    · rw [h0]; simp [dkF]
    · have := (okD_iff f).1 hB.1 (f.length - 1) (by omega)
      rwa [show f.length - 1 + 1 = f.length by omega] at this
section
variable {w w' : Bool} {lo hi lo' hi' : Nat} {h : AH} {v u v' : AV} {vs : List AV} {ll : List (List Int)} {q xs : List Int} {f : List (Int × Int)}
theorem impl_IsSolution (s : Prob w lo hi h v u vs ll q) (hl : ll.length ≤ 1048576) (hll : ∀ l ∈ ll, l.length ≤ 1048576) (hq : q.length ≤ 1048576) (sf : Fracs w' lo' hi' h v' f) (hf : f.length ≤ 1048576) (n : Nat) (hn : hi ≤ n) (hn' : hi' ≤ n) :
    Q Tryz.prog 27 [.agg [v, u], v'] h n (.tup [.bool (isSolV ll q f).1, .int .i64 (isSolV ll q f).2]) := by
  refine q_intro Tryz.func27 k_impl_IsSolution ?_
  have o1 := one_any (Sl.any s.M.out)
  have o2 := one_any (Sl.any s.Q)
  simp (maxSteps := 2000000) -implicitDefEqProofs (disch := omega) only [c_impl_IsSolution, o1, o2, xsW, xsC, xsD, xsE, fillA, reduceCtorEq, Nat.reduceAdd, Nat.reduceSub, Nat.reduceLeDiff, Nat.reduceMul, Int.reduceLT, Int.reduceLE, Int.reduceEq, Int.reduceNe, Int.reduceAdd, Int.reduceSub, Int.reduceMul, Int.reduceNeg, Int.reduceToNat]
  refine q_use (impl_fracsCode (s.keep (fun i _ hi9 => by simp (disch := omega) only [upd_other])) hl hll hq (Fracs.keep sf (fun i _ hi9 => by simp (disch := omega) only [upd_other])) hf _ (by omega) (by omega)) fun n1 hn1 => ?_
  simp (maxSteps := 2000000) -implicitDefEqProofs (disch := omega) only [xsW, xsC, xsD, xsE, fillA, reduceCtorEq, Nat.reduceAdd, Nat.reduceSub, Nat.reduceLeDiff, Nat.reduceMul, Int.reduceLT, Int.reduceLE, Int.reduceEq, Int.reduceNe, Int.reduceAdd, Int.reduceSub, Int.reduceMul, Int.reduceNeg, Int.reduceToNat]
  (refine cd_dec (fun c1 => ?_) (fun c1 => ?_) <;> simp (maxSteps := 2000000) -implicitDefEqProofs (disch := omega) only [xsW, xsC, xsD, xsE, fillA, reduceCtorEq, Nat.reduceAdd, Nat.reduceSub, Nat.reduceLeDiff, Nat.reduceMul, Int.reduceLT, Int.reduceLE, Int.reduceEq, Int.reduceNe, Int.reduceAdd, Int.reduceSub, Int.reduceMul, Int.reduceNeg, Int.reduceToNat,  c1])
  · simp [isSolV, c1]
  · have c2 : frcV ll q f = 0 := Decidable.not_not.1 c1
    obtain ⟨hp, ha, hfl⟩ := frcV_zero c2
    refine fq_use (impl_together (Fracs.keep (h' := upd h n (some ⟨30, [v, u], true, 0⟩)) sf (fun i _ hi9 => by simp (disch := omega) only [upd_other])) hf ha n1 (by omega)) fun x1 h1 n2 hn2 hs1 hx1 => ?_
    rcases hx1 with ⟨d1, rfl⟩ | ⟨d1, v1, rfl, hv1⟩
    · simp (maxSteps := 2000000) -implicitDefEqProofs (disch := omega) only [xsW, xsC, xsD, xsE, fillA, reduceCtorEq, Nat.reduceAdd, Nat.reduceSub, Nat.reduceLeDiff, Nat.reduceMul, Int.reduceLT, Int.reduceLE, Int.reduceEq, Int.reduceNe, Int.reduceAdd, Int.reduceSub, Int.reduceMul, Int.reduceNeg, Int.reduceToNat]
      simp [isSolV, c2, d1]
    · obtain ⟨e1, e2, e3, e4⟩ := cmn_facts c2 d1
      have hrl := remL_len ll q (cmnN f) (cmnD f)
      have hN := ((isMat_iff ll).1 (isProb_facts hp).1).2.1
      have hbox : h1 n = some ⟨30, [v, u], true, 0⟩ := by rw [hs1 n (by omega), upd_same]
      simp (maxSteps := 2000000) -implicitDefEqProofs (disch := omega) only [xsW, xsC, xsD, xsE, fillA, reduceCtorEq, Nat.reduceAdd, Nat.reduceSub, Nat.reduceLeDiff, Nat.reduceMul, Int.reduceLT, Int.reduceLE, Int.reduceEq, Int.reduceNe, Int.reduceAdd, Int.reduceSub, Int.reduceMul, Int.reduceNeg, Int.reduceToNat,  hbox]
      refine fq_use (impl_rest (s.keep (h' := h1) (fun i _ hi9 => by simp (disch := omega) only [upd_other, hs1])) hp hv1 e1 e2 (cmnD f) (by omega) n2 (by omega) (by omega)) fun v2 h2 n3 hn3 hs2 hv2 => ?_
      simp (maxSteps := 2000000) -implicitDefEqProofs (disch := omega) only [xsW, xsC, xsD, xsE, fillA, reduceCtorEq, Nat.reduceAdd, Nat.reduceSub, Nat.reduceLeDiff, Nat.reduceMul, Int.reduceLT, Int.reduceLE, Int.reduceEq, Int.reduceNe, Int.reduceAdd, Int.reduceSub, Int.reduceMul, Int.reduceNeg, Int.reduceToNat,  hv2.ln, hrl]
      refine loop_for ll.length 0 (fun k (_ : Unit) => [.agg [v, u], v', .ptr n 0, .any, .bool false, .int .i64 0, .int .i64 (frcV ll q f), v1, .int .i64 (cmnD f), .bool true, .any, .any, .any, .any, .any, .any, .any, .any, .any, .any, .any, .any, .any, .any, .any, .any, .any, .any, .any, v2, .int .i64 ll.length, .int .i64 k, .any, .any, .any, .any, .any, .any, .any, .any, .any, .any, .any, .any, .any, .any, .any, .any, .any, .any, .any, .any, .any, .any, .any, .any, .any]) (fun _ _ => h2)
        (fun k _ _ => ∀ j, j < k → okYX ((remL ll q (cmnN f) (cmnD f)).getD j 0) ((cmnN f).getD j 0) = true) () (Nat.zero_le _) (fun j hj => absurd hj (Nat.not_lt_zero _)) (by simp [LeL, Le1]) (fun _ _ h => h) ?_
      rintro k - m - hk hm hall
      simp (maxSteps := 2000000) -implicitDefEqProofs (disch := omega) only [xsW, xsC, xsD, xsE, fillA, reduceCtorEq, Nat.reduceAdd, Nat.reduceSub, Nat.reduceLeDiff, Nat.reduceMul, Int.reduceLT, Int.reduceLE, Int.reduceEq, Int.reduceNe, Int.reduceAdd, Int.reduceSub, Int.reduceMul, Int.reduceNeg, Int.reduceToNat]
      (refine cd_dec (fun c3 => ?_) (fun c3 => ?_) <;> simp (maxSteps := 2000000) -implicitDefEqProofs (disch := omega) only [xsW, xsC, xsD, xsE, fillA, reduceCtorEq, Nat.reduceAdd, Nat.reduceSub, Nat.reduceLeDiff, Nat.reduceMul, Int.reduceLT, Int.reduceLE, Int.reduceEq, Int.reduceNe, Int.reduceAdd, Int.reduceSub, Int.reduceMul, Int.reduceNeg, Int.reduceToNat,  c3])
      · have hk2 : k < ll.length := by omega
        have hkr : k < (remL ll q (cmnN f) (cmnD f)).length := by omega
        have hbx := Sl.below hv1 (by rw [hv1.slen]; omega)
        have more : 0 ≤ (remL ll q (cmnN f) (cmnD f)).getD k 0 ∧ 0 ≤ (cmnN f).getD k 0 ∧ ((remL ll q (cmnN f) (cmnD f)).getD k 0 = 0 ∨ (cmnN f).getD k 0 = 0) → ∀ j, j < k + 1 → okYX ((remL ll q (cmnN f) (cmnD f)).getD j 0) ((cmnN f).getD j 0) = true := fun hy j hj =>
          (Nat.lt_succ_iff_lt_or_eq.1 hj).elim (hall j) (fun e => by rw [e]; exact decide_eq_true hy)
        simp (maxSteps := 2000000) -implicitDefEqProofs (disch := omega) only [xsW, xsC, xsD, xsE, fillA, reduceCtorEq, Nat.reduceAdd, Nat.reduceSub, Nat.reduceLeDiff, Nat.reduceMul, Int.reduceLT, Int.reduceLE, Int.reduceEq, Int.reduceNe, Int.reduceAdd, Int.reduceSub, Int.reduceMul, Int.reduceNeg, Int.reduceToNat,  hs2, hv2.ia, hv2.ld, hrl]
        (refine gd_dec (fun c4 => ?_) (fun c4 => ?_) <;> simp (maxSteps := 2000000) -implicitDefEqProofs (disch := omega) only [xsW, xsC, xsD, xsE, fillA, reduceCtorEq, Nat.reduceAdd, Nat.reduceSub, Nat.reduceLeDiff, Nat.reduceMul, Int.reduceLT, Int.reduceLE, Int.reduceEq, Int.reduceNe, Int.reduceAdd, Int.reduceSub, Int.reduceMul, Int.reduceNeg, Int.reduceToNat,  c4])
        · simp [isSolV, c2, d1, solvB_no (xs := cmnN f) hkr (by omega)]
        · simp (maxSteps := 2000000) -implicitDefEqProofs (disch := omega) only [xsW, xsC, xsD, xsE, fillA, reduceCtorEq, Nat.reduceAdd, Nat.reduceSub, Nat.reduceLeDiff, Nat.reduceMul, Int.reduceLT, Int.reduceLE, Int.reduceEq, Int.reduceNe, Int.reduceAdd, Int.reduceSub, Int.reduceMul, Int.reduceNeg, Int.reduceToNat,  hs2, hv1.ia, hv1.ld, e1]
          (refine gd_dec (fun c5 => ?_) (fun c5 => ?_) <;> simp (maxSteps := 2000000) -implicitDefEqProofs (disch := omega) only [xsW, xsC, xsD, xsE, fillA, reduceCtorEq, Nat.reduceAdd, Nat.reduceSub, Nat.reduceLeDiff, Nat.reduceMul, Int.reduceLT, Int.reduceLE, Int.reduceEq, Int.reduceNe, Int.reduceAdd, Int.reduceSub, Int.reduceMul, Int.reduceNeg, Int.reduceToNat,  c5])
          · simp [isSolV, c2, d1, solvB_no (xs := cmnN f) hkr (by omega)]
          · (refine gd_dec (fun c6 => ?_) (fun c6 => ?_) <;> simp (maxSteps := 2000000) -implicitDefEqProofs (disch := omega) only [xsW, xsC, xsD, xsE, fillA, reduceCtorEq, Nat.reduceAdd, Nat.reduceSub, Nat.reduceLeDiff, Nat.reduceMul, Int.reduceLT, Int.reduceLE, Int.reduceEq, Int.reduceNe, Int.reduceAdd, Int.reduceSub, Int.reduceMul, Int.reduceNeg, Int.reduceToNat,  c6])
            · simp (maxSteps := 2000000) -implicitDefEqProofs (disch := omega) only [xsW, xsC, xsD, xsE, fillA, reduceCtorEq, Nat.reduceAdd, Nat.reduceSub, Nat.reduceLeDiff, Nat.reduceMul, Int.reduceLT, Int.reduceLE, Int.reduceEq, Int.reduceNe, Int.reduceAdd, Int.reduceSub, Int.reduceMul, Int.reduceNeg, Int.reduceToNat,  hs2, hv1.ia, hv1.ld, e1]
              (refine cd_dec (fun c7 => ?_) (fun c7 => ?_) <;> simp (maxSteps := 2000000) -implicitDefEqProofs (disch := omega) only [xsW, xsC, xsD, xsE, fillA, reduceCtorEq, Nat.reduceAdd, Nat.reduceSub, Nat.reduceLeDiff, Nat.reduceMul, Int.reduceLT, Int.reduceLE, Int.reduceEq, Int.reduceNe, Int.reduceAdd, Int.reduceSub, Int.reduceMul, Int.reduceNeg, Int.reduceToNat,  c7])
              · simp [isSolV, c2, d1, solvB_no (xs := cmnN f) hkr (by omega)]
              · exact ⟨(), more (by omega), by omega, by omega, (by simp [LeL, Le1])⟩
            · exact ⟨(), more (by omega), by omega, by omega, (by simp [LeL, Le1])⟩
      · have : solvB (remL ll q (cmnN f) (cmnD f)) (cmnN f) = true := (solvB_iff _ _).2 fun j hj => hall j (by omega)
        simp [isSolV, c2, d1, this]
end
def c_impl_RemainderOf : F := ⟨(.seq (.reg false [⟨some 2, .box 30 (.t 0), none⟩, ⟨some 4, .mv (.c .nilsl), none⟩, ⟨some 5, .mv (.c (.int .i64 0)), none⟩]) (.seq (.seq (.reg false [⟨some 10, .ld 2 (.t 2), none⟩, ⟨some 11, .mv (.t 1), none⟩, ⟨some 12, .call (.f 53) [(.t 10), (.t 11)], none⟩, ⟨some 6, .mv (.t 12), none⟩]) (.seq (.reg false [⟨some 13, .mv (.t 6), none⟩, ⟨some 14, .bin .neq (.t 13) (.c (.int .i64 0)), none⟩]) (.cond (.t 14) (.seq (.reg false [⟨some 15, .mv (.t 6), none⟩, ⟨some 4, .mv (.c .nilsl), none⟩, ⟨some 5, .mv (.t 15), none⟩]) .ret) .skip))) (.seq (.reg false [⟨some 17, .mv (.t 1), none⟩, ⟨some 18, .call (.f 57) [(.t 17), (.c (.int .i64 1000000000)), (.c (.int .i64 1000000000000))], none⟩, ⟨some 16, .mv (.t 18), none⟩, ⟨some 19, .ext (.t 16) 0, none⟩, ⟨some 20, .ext (.t 16) 1, none⟩, ⟨some 21, .ext (.t 16) 2, none⟩, ⟨some 7, .mv (.t 19), none⟩, ⟨some 8, .mv (.t 20), none⟩, ⟨some 9, .mv (.t 21), none⟩]) (.seq (.seq (.reg false [⟨some 22, .mv (.t 9), none⟩, ⟨some 23, .un .not (.t 22), none⟩]) (.cond (.t 23) (.seq (.reg false [⟨some 4, .mv (.c .nilsl), none⟩, ⟨some 5, .mv (.c (.int .i64 3)), none⟩]) .ret) .skip)) (.seq (.reg false [⟨some 24, .ld 2 (.t 2), none⟩, ⟨some 25, .mv (.t 7), none⟩, ⟨some 26, .mv (.t 8), none⟩, ⟨some 27, .call (.f 60) [(.t 24), (.t 25), (.t 26)], none⟩, ⟨some 28, .mv (.t 8), none⟩, ⟨some 29, .call (.f 82) [(.t 27), (.t 28)], none⟩, ⟨some 30, .ext (.t 29) 0, none⟩, ⟨some 31, .ext (.t 29) 1, none⟩, ⟨some 4, .mv (.t 30), none⟩, ⟨some 5, .mv (.t 31), none⟩]) .ret))))), 32, [(.t 4), (.t 5)]⟩
theorem k_impl_RemainderOf : compF Tryz.prog Tryz.f66 = some c_impl_RemainderOf := by kernel_rfl
def c_spec_RemainderOf : F := ⟨(.seq (.reg false [⟨some 2, .box 30 (.t 0), none⟩, ⟨some 4, .mv (.c .nilsl), none⟩, ⟨some 5, .mv (.c (.int .i64 0)), none⟩]) (.seq (.seq (.reg false [⟨some 15, .ld 2 (.t 2), none⟩, ⟨some 16, .mv (.t 1), none⟩, ⟨some 17, .call (.f 61) [(.t 15), (.t 16)], none⟩, ⟨some 6, .mv (.t 17), none⟩]) (.seq (.reg false [⟨some 18, .mv (.t 6), none⟩, ⟨some 19, .bin .neq (.t 18) (.c (.int .i64 0)), none⟩]) (.cond (.t 19) (.seq (.reg false [⟨some 20, .mv (.t 6), none⟩, ⟨some 4, .mv (.c .nilsl), none⟩, ⟨some 5, .mv (.t 20), none⟩]) .ret) .skip))) (.seq (.reg false [⟨some 22, .mv (.t 1), none⟩, ⟨some 23, .call (.f 63) [(.t 22)], none⟩, ⟨some 21, .mv (.t 23), none⟩, ⟨some 24, .ext (.t 21) 0, none⟩, ⟨some 25, .ext (.t 21) 1, none⟩, ⟨some 26, .ext (.t 21) 2, none⟩, ⟨some 7, .mv (.t 24), none⟩, ⟨some 8, .mv (.t 25), none⟩, ⟨some 9, .mv (.t 26), none⟩]) (.seq (.seq (.reg false [⟨some 27, .mv (.t 9), none⟩, ⟨some 28, .un .not (.t 27), none⟩]) (.cond (.t 28) (.seq (.reg false [⟨some 4, .mv (.c .nilsl), none⟩, ⟨some 5, .mv (.c (.int .i64 3)), none⟩]) .ret) .skip)) (.seq (.reg false [⟨some 29, .ld 2 (.t 2), none⟩, ⟨some 30, .mv (.t 7), none⟩, ⟨some 31, .mv (.t 8), none⟩, ⟨some 32, .call (.f 64) [(.t 29), (.t 30), (.t 31)], none⟩, ⟨some 33, .lit 49 2 0 [(.int .i64 0), (.int .i64 0)] [], none⟩, ⟨some 10, .mv (.t 32), none⟩, ⟨some 11, .mv (.t 33), none⟩]) (.seq (.seq (.reg false [⟨some 12, .mv (.c (.int .i64 0)), none⟩]) (.block 0 (.loop (.seq (.seq (.reg false [⟨some 34, .mv (.t 12), none⟩, ⟨some 35, .mv (.t 10), none⟩, ⟨some 36, .len (.t 35), none⟩, ⟨some 37, .bin .lss (.t 34) (.t 36), none⟩]) (.cond (.t 37) .skip (.exit 0))) (.seq (.block 1 (.seq (.reg false [⟨some 41, .mv (.t 10), none⟩, ⟨some 42, .mv (.t 12), none⟩, ⟨some 43, .ia 1 (.t 41) (.t 42), none⟩, ⟨some 44, .ld1 (.t 43), none⟩, ⟨some 45, .mv (.t 8), none⟩, ⟨some 46, .call (.f 65) [(.t 44), (.t 45)], none⟩, ⟨some 47, .call (.f 100) [(.t 46)], none⟩, ⟨some 40, .mv (.t 47), none⟩, ⟨some 48, .ext (.t 40) 0, none⟩, ⟨some 49, .ext (.t 40) 1, none⟩, ⟨some 13, .alloc 49 [(.int .i64 0), (.int .i64 0)], none⟩, ⟨none, .st 2 (.t 13) (.t 48), none⟩, ⟨some 14, .mv (.t 49), none⟩]) (.seq (.seq (.reg false [⟨some 50, .mv (.t 14), none⟩, ⟨some 51, .bin .neq (.t 50) (.c (.int .i64 0)), none⟩]) (.cond (.t 51) (.seq (.reg false [⟨some 52, .mv (.t 14), none⟩, ⟨some 4, .mv (.c .nilsl), none⟩, ⟨some 5, .mv (.t 52), none⟩]) .ret) .skip)) (.reg false [⟨some 53, .mv (.t 11), none⟩, ⟨some 54, .ld 2 (.t 13), none⟩, ⟨some 55, .lit 49 2 1 [(.int .i64 0), (.int .i64 0)] [(0, (.t 54))], none⟩, ⟨some 56, .app 49 2 16 [(.int .i64 0), (.int .i64 0)] (.t 53) (.t 55), none⟩, ⟨some 11, .mv (.t 56), none⟩])))) (.reg false [⟨some 38, .mv (.t 12), none⟩, ⟨some 39, .bin .add (.t 38) (.c (.int .i64 1)), none⟩, ⟨some 12, .mv (.t 39), none⟩])))))) (.seq (.reg false [⟨some 57, .mv (.t 11), none⟩, ⟨some 4, .mv (.t 57), none⟩, ⟨some 5, .mv (.c (.int .i64 0)), none⟩]) .ret))))))), 58, [(.t 4), (.t 5)]⟩
theorem k_spec_RemainderOf : compF Tryz.prog Tryz.f69 = some c_spec_RemainderOf := by kernel_rfl

def remF (ll : List (List Int)) (q : List Int) (f : List (Int × Int)) : List (Int × Int) := (remL ll q (cmnN f) (cmnD f)).map fun y => red y (cmnD f)
def remV (ll : List (List Int)) (q : List Int) (f : List (Int × Int)) : List (Int × Int) × Int :=
  if frcV ll q f = 0 then (if cmnB f = true then (if allFr (remF ll q f) = true then (remF ll q f, 0) else ([], 3)) else ([], 3)) else ([], frcV ll q f)
theorem remF_len (ll : List (List Int)) (q : List Int) (f : List (Int × Int)) : (remF ll q f).length = ll.length := by simp [remF, remL_len]
theorem remV_small (ll : List (List Int)) (q : List Int) (f : List (Int × Int)) : (remV ll q f).1.length ≤ 1048576 := by
  unfold remV
  split
  · rename_i hc
    have := ((isMat_iff ll).1 (isProb_facts (frcV_zero hc).1).1).2.1
    split
    · split
      · simp only [remF_len]; omega
      · simp
    · simp
  · simp
section
variable {w w' : Bool} {lo hi lo' hi' : Nat} {h : AH} {v u v' : AV} {vs : List AV} {ll : List (List Int)} {q xs : List Int} {f : List (Int × Int)}
theorem impl_RemainderOf (s : Prob w lo hi h v u vs ll q) (hl : ll.length ≤ 1048576) (hll : ∀ l ∈ ll, l.length ≤ 1048576) (hq : q.length ≤ 1048576) (sf : Fracs w' lo' hi' h v' f) (hf : f.length ≤ 1048576) (n : Nat) (hn : hi ≤ n) (hn' : hi' ≤ n) :
    FQ Tryz.prog 66 [.agg [v, u], v'] h n fun x h' n' => ∃ y, x = .tup [y, .int .i64 (remV ll q f).2] ∧ Fracs true n n' h' y (remV ll q f).1 := by
  refine fq_intro Tryz.func66 k_impl_RemainderOf ?_
  have o1 := one_any (Sl.any s.M.out)
  have o2 := one_any (Sl.any s.Q)
  simp (maxSteps := 2000000) -implicitDefEqProofs (disch := omega) only [c_impl_RemainderOf, o1, o2, xsW, xsC, xsD, xsE, fillA, reduceCtorEq, Nat.reduceAdd, Nat.reduceSub, Nat.reduceLeDiff, Nat.reduceMul, Int.reduceLT, Int.reduceLE, Int.reduceEq, Int.reduceNe, Int.reduceAdd, Int.reduceSub, Int.reduceMul, Int.reduceNeg, Int.reduceToNat]
  refine q_use (impl_fracsCode (s.keep (fun i _ hi9 => by simp (disch := omega) only [upd_other])) hl hll hq (Fracs.keep sf (fun i _ hi9 => by simp (disch := omega) only [upd_other])) hf _ (by omega) (by omega)) fun n1 hn1 => ?_
  simp (maxSteps := 2000000) -implicitDefEqProofs (disch := omega) only [xsW, xsC, xsD, xsE, fillA, reduceCtorEq, Nat.reduceAdd, Nat.reduceSub, Nat.reduceLeDiff, Nat.reduceMul, Int.reduceLT, Int.reduceLE, Int.reduceEq, Int.reduceNe, Int.reduceAdd, Int.reduceSub, Int.reduceMul, Int.reduceNeg, Int.reduceToNat]
  (refine cd_dec (fun c1 => ?_) (fun c1 => ?_) <;> simp (maxSteps := 2000000) -implicitDefEqProofs (disch := omega) only [xsW, xsC, xsD, xsE, fillA, reduceCtorEq, Nat.reduceAdd, Nat.reduceSub, Nat.reduceLeDiff, Nat.reduceMul, Int.reduceLT, Int.reduceLE, Int.reduceEq, Int.reduceNe, Int.reduceAdd, Int.reduceSub, Int.reduceMul, Int.reduceNeg, Int.reduceToNat,  c1])
  · intro _ h2 _
    exact ⟨.nilsl, by simp [remV, c1], by simp only [remV, if_neg c1]; exact Sl.nil⟩
  · have c2 : frcV ll q f = 0 := Decidable.not_not.1 c1
    obtain ⟨hp, ha, hfl⟩ := frcV_zero c2
    have hN := ((isMat_iff ll).1 (isProb_facts hp).1).2.1
    refine fq_use (impl_together (Fracs.keep (h' := upd h n (some ⟨30, [v, u], true, 0⟩)) sf (fun i _ hi9 => by simp (disch := omega) only [upd_other])) hf ha n1 (by omega)) fun x1 h1 n2 hn2 hs1 hx1 => ?_
    rcases hx1 with ⟨d1, rfl⟩ | ⟨d1, v1, rfl, hv1⟩
    · simp (maxSteps := 2000000) -implicitDefEqProofs (disch := omega) only [xsW, xsC, xsD, xsE, fillA, reduceCtorEq, Nat.reduceAdd, Nat.reduceSub, Nat.reduceLeDiff, Nat.reduceMul, Int.reduceLT, Int.reduceLE, Int.reduceEq, Int.reduceNe, Int.reduceAdd, Int.reduceSub, Int.reduceMul, Int.reduceNeg, Int.reduceToNat]
      intro _ h2 _
      exact ⟨.nilsl, by simp [remV, c2, d1], by simp [remV, c2, d1]; exact Sl.nil⟩
    · obtain ⟨e1, e2, e3, e4⟩ := cmn_facts c2 d1
      have hrl := remL_len ll q (cmnN f) (cmnD f)
      have hbox : h1 n = some ⟨30, [v, u], true, 0⟩ := by rw [hs1 n (by omega), upd_same]
      simp (maxSteps := 2000000) -implicitDefEqProofs (disch := omega) only [xsW, xsC, xsD, xsE, fillA, reduceCtorEq, Nat.reduceAdd, Nat.reduceSub, Nat.reduceLeDiff, Nat.reduceMul, Int.reduceLT, Int.reduceLE, Int.reduceEq, Int.reduceNe, Int.reduceAdd, Int.reduceSub, Int.reduceMul, Int.reduceNeg, Int.reduceToNat,  hbox]
      refine fq_use (impl_rest (s.keep (h' := h1) (fun i _ hi9 => by simp (disch := omega) only [upd_other, hs1])) hp hv1 e1 e2 (cmnD f) (by omega) n2 (by omega) (by omega)) fun v2 h2 n3 hn3 hs2 hv2 => ?_
      simp (maxSteps := 2000000) -implicitDefEqProofs (disch := omega) only [xsW, xsC, xsD, xsE, fillA, reduceCtorEq, Nat.reduceAdd, Nat.reduceSub, Nat.reduceLeDiff, Nat.reduceMul, Int.reduceLT, Int.reduceLE, Int.reduceEq, Int.reduceNe, Int.reduceAdd, Int.reduceSub, Int.reduceMul, Int.reduceNeg, Int.reduceToNat]
      refine fq_use (impl_allReduced hv2 (by omega) (fun k hk => by
        rw [remL, rowOf_get (by omega)]
        have := remX_b hp e1 e2 (d := cmnD f) (by omega) (i := k) (by omega)
        omega) (cmnD f) (by unfold in64; omega) (by omega) n3 (Nat.le_refl _)) fun x3 h3 n4 hn4 hs3 ⟨v3, hx3, hv3⟩ => ?_
      subst hx3
      simp (maxSteps := 2000000) -implicitDefEqProofs (disch := omega) only [xsW, xsC, xsD, xsE, fillA, reduceCtorEq, Nat.reduceAdd, Nat.reduceSub, Nat.reduceLeDiff, Nat.reduceMul, Int.reduceLT, Int.reduceLE, Int.reduceEq, Int.reduceNe, Int.reduceAdd, Int.reduceSub, Int.reduceMul, Int.reduceNeg, Int.reduceToNat]
      intro _ h4 hh
      rw [← allFr, ← remF] at hv3 ⊢
      refine ⟨v3, ?_, ?_⟩
      · cases hff : allFr (remF ll q f) <;> simp [remV, c2, d1, hff]
      · have e : (remV ll q f).1 = if allFr (remF ll q f) = true then remF ll q f else [] := by cases hff : allFr (remF ll q f) <;> simp [remV, c2, d1, hff]
        rw [e]
        exact (hv3.keep fun i a b => hh i (by omega) b).wide (by omega) (Nat.le_refl _)
theorem spec_RemainderOf (s : Prob w lo hi h v u vs ll q) (hl : ll.length ≤ 1048576) (hll : ∀ l ∈ ll, l.length ≤ 1048576) (hq : q.length ≤ 1048576) (sf : Fracs w' lo' hi' h v' f) (hf : f.length ≤ 1048576) (n : Nat) (hn : hi ≤ n) (hn' : hi' ≤ n) :
    FQ Tryz.prog 69 [.agg [v, u], v'] h n fun x h' n' => ∃ y, x = .tup [y, .int .i64 (remV ll q f).2] ∧ Fracs true n n' h' y (remV ll q f).1 := by
  refine fq_intro Tryz.func69 k_spec_RemainderOf ?_
  have o1 := one_any (Sl.any s.M.out)
  have o2 := one_any (Sl.any s.Q)
  simp (maxSteps := 2000000) -implicitDefEqProofs (disch := omega) only [c_spec_RemainderOf, o1, o2, xsW, xsC, xsD, xsE, fillA, reduceCtorEq, Nat.reduceAdd, Nat.reduceSub, Nat.reduceLeDiff, Nat.reduceMul, Int.reduceLT, Int.reduceLE, Int.reduceEq, Int.reduceNe, Int.reduceAdd, Int.reduceSub, Int.reduceMul, Int.reduceNeg, Int.reduceToNat]
  refine q_use (spec_l01Fracs (s.keep (fun i _ hi9 => by simp (disch := omega) only [upd_other])) hl hll hq (Fracs.keep sf (fun i _ hi9 => by simp (disch := omega) only [upd_other])) hf _ (by omega) (by omega)) fun n1 hn1 => ?_
  simp (maxSteps := 2000000) -implicitDefEqProofs (disch := omega) only [xsW, xsC, xsD, xsE, fillA, reduceCtorEq, Nat.reduceAdd, Nat.reduceSub, Nat.reduceLeDiff, Nat.reduceMul, Int.reduceLT, Int.reduceLE, Int.reduceEq, Int.reduceNe, Int.reduceAdd, Int.reduceSub, Int.reduceMul, Int.reduceNeg, Int.reduceToNat]
  (refine cd_dec (fun c1 => ?_) (fun c1 => ?_) <;> simp (maxSteps := 2000000) -implicitDefEqProofs (disch := omega) only [xsW, xsC, xsD, xsE, fillA, reduceCtorEq, Nat.reduceAdd, Nat.reduceSub, Nat.reduceLeDiff, Nat.reduceMul, Int.reduceLT, Int.reduceLE, Int.reduceEq, Int.reduceNe, Int.reduceAdd, Int.reduceSub, Int.reduceMul, Int.reduceNeg, Int.reduceToNat,  c1])
  · intro _ h2 _
    exact ⟨.nilsl, by simp [remV, c1], by simp only [remV, if_neg c1]; exact Sl.nil⟩
  · have c2 : frcV ll q f = 0 := Decidable.not_not.1 c1
    obtain ⟨hp, ha, hfl⟩ := frcV_zero c2
    have hN := ((isMat_iff ll).1 (isProb_facts hp).1).2.1
    refine fq_use (spec_l01Common (Fracs.keep (h' := upd h n (some ⟨30, [v, u], true, 0⟩)) sf (fun i _ hi9 => by simp (disch := omega) only [upd_other])) hf ha n1 (by omega)) fun x1 h1 n2 hn2 hs1 hx1 => ?_
    rcases hx1 with ⟨d1, rfl⟩ | ⟨d1, v1, rfl, hv1⟩
    · simp (maxSteps := 2000000) -implicitDefEqProofs (disch := omega) only [xsW, xsC, xsD, xsE, fillA, reduceCtorEq, Nat.reduceAdd, Nat.reduceSub, Nat.reduceLeDiff, Nat.reduceMul, Int.reduceLT, Int.reduceLE, Int.reduceEq, Int.reduceNe, Int.reduceAdd, Int.reduceSub, Int.reduceMul, Int.reduceNeg, Int.reduceToNat]
      intro _ h2 _
      exact ⟨.nilsl, by simp [remV, c2, d1], by simp [remV, c2, d1]; exact Sl.nil⟩
    · obtain ⟨e1, e2, e3, e4⟩ := cmn_facts c2 d1
      have hrl := remL_len ll q (cmnN f) (cmnD f)
      have hbox : h1 n = some ⟨30, [v, u], true, 0⟩ := by rw [hs1 n (by omega), upd_same]
      simp (maxSteps := 2000000) -implicitDefEqProofs (disch := omega) only [xsW, xsC, xsD, xsE, fillA, reduceCtorEq, Nat.reduceAdd, Nat.reduceSub, Nat.reduceLeDiff, Nat.reduceMul, Int.reduceLT, Int.reduceLE, Int.reduceEq, Int.reduceNe, Int.reduceAdd, Int.reduceSub, Int.reduceMul, Int.reduceNeg, Int.reduceToNat,  hbox]
      refine fq_use (spec_l01Remainder (s.keep (h' := h1) (fun i _ hi9 => by simp (disch := omega) only [upd_other, hs1])) hp hv1 e1 e2 (cmnD f) (by omega) n2 (by omega) (by omega)) fun v2 h2 n3 hn3 hs2 hv2 => ?_
      simp (maxSteps := 2000000) -implicitDefEqProofs (disch := omega) only [xsW, xsC, xsD, xsE, fillA, reduceCtorEq, Nat.reduceAdd, Nat.reduceSub, Nat.reduceLeDiff, Nat.reduceMul, Int.reduceLT, Int.reduceLE, Int.reduceEq, Int.reduceNe, Int.reduceAdd, Int.reduceSub, Int.reduceMul, Int.reduceNeg, Int.reduceToNat]
      have hfl2 := remF_len ll q f
      refine loop_for ll.length 0 (fun k p => [.agg [v, u], v', .ptr n 0, .any, .nilsl, .int .i64 0, .int .i64 (frcV ll q f), v1, .int .i64 (cmnD f), .bool true, v2, p.1, .int .i64 k, .any, .any, .any, .any, .any, .any, .any, .any, .any, .any, .any, .any, .any, .any, .any, .any, .any, .any, .any, .any, .any, .any, .any, .any, .any, .any, .any, .any, .any, .any, .any, .any, .any, .any, .any, .any, .any, .any, .any, .any, .any, .any, .any, .any, .any]) (fun _ (p : AV × AH) => p.2)
        (fun k p m => Acc n3 m p.2 49 2 p.1 (fracs ((remF ll q f).take k)) ∧ n3 ≤ m ∧ (∀ j, j < n3 → p.2 j = h2 j) ∧ ∀ j, j < k → isFr 1000000000 ((remF ll q f).getD j (0, 0)).1 ((remF ll q f).getD j (0, 0)).2 = true) (.sl n3 0 0 0, _) (Nat.zero_le _) ⟨Acc.empty (upd_same _ _ _) rfl (Nat.le_refl _) (by omega), by omega, fun j hj => upd_other (by omega), fun j hj => absurd hj (Nat.not_lt_zero _)⟩ (by simp [LeL, Le1]) (fun _ _ h => h) ?_
      rintro k ⟨out, hp'⟩ m - hk hm1 ⟨acc, hle, hold, hall⟩
      simp only at acc hold
      simp (maxSteps := 2000000) -implicitDefEqProofs (disch := omega) only [xsW, xsC, xsD, xsE, fillA, reduceCtorEq, Nat.reduceAdd, Nat.reduceSub, Nat.reduceLeDiff, Nat.reduceMul, Int.reduceLT, Int.reduceLE, Int.reduceEq, Int.reduceNe, Int.reduceAdd, Int.reduceSub, Int.reduceMul, Int.reduceNeg, Int.reduceToNat,  hv2.ln, hrl]
      (refine cd_dec (fun c3 => ?_) (fun c3 => ?_) <;> simp (maxSteps := 2000000) -implicitDefEqProofs (disch := omega) only [xsW, xsC, xsD, xsE, fillA, reduceCtorEq, Nat.reduceAdd, Nat.reduceSub, Nat.reduceLeDiff, Nat.reduceMul, Int.reduceLT, Int.reduceLE, Int.reduceEq, Int.reduceNe, Int.reduceAdd, Int.reduceSub, Int.reduceMul, Int.reduceNeg, Int.reduceToNat,  c3])
      · have hk2 : k < ll.length := by omega
        have hb2 := Sl.below hv2 (by rw [hv2.slen]; omega)
        have eb : (remL ll q (cmnN f) (cmnD f)).getD k 0 = remX ll q (cmnN f) (cmnD f) k := by rw [remL, rowOf_get hk2]
        have ebb := remX_b hp e1 e2 (d := cmnD f) (by omega) hk2
        have ef : (remF ll q f).getD k (0, 0) = red (remX ll q (cmnN f) (cmnD f) k) (cmnD f) := by
          rw [remF, getD_map _ _ _ 0 _ (by omega), eb]
        simp (maxSteps := 2000000) -implicitDefEqProofs (disch := omega) only [xsW, xsC, xsD, xsE, fillA, reduceCtorEq, Nat.reduceAdd, Nat.reduceSub, Nat.reduceLeDiff, Nat.reduceMul, Int.reduceLT, Int.reduceLE, Int.reduceEq, Int.reduceNe, Int.reduceAdd, Int.reduceSub, Int.reduceMul, Int.reduceNeg, Int.reduceToNat,  hold, hv2.ia, hv2.ld, hrl, eb]
        refine q_use (spec_l01Frac _ _ (by unfold in64; omega) (by unfold in64; omega) (by omega) _ _) fun n5 hn5 => ?_
        simp (maxSteps := 2000000) -implicitDefEqProofs (disch := omega) only [xsW, xsC, xsD, xsE, fillA, reduceCtorEq, Nat.reduceAdd, Nat.reduceSub, Nat.reduceLeDiff, Nat.reduceMul, Int.reduceLT, Int.reduceLE, Int.reduceEq, Int.reduceNe, Int.reduceAdd, Int.reduceSub, Int.reduceMul, Int.reduceNeg, Int.reduceToNat]
        refine q_use (spec_l01Told _ _ _ _) fun n6 hn6 => ?_
        cases hff : isFr 1000000000 (red (remX ll q (cmnN f) (cmnD f) k) (cmnD f)).1 (red (remX ll q (cmnN f) (cmnD f) k) (cmnD f)).2
        · rw [if_neg (show ¬ (false = true) by simp)]
          simp (maxSteps := 2000000) -implicitDefEqProofs (disch := omega) only [xsW, xsC, xsD, xsE, fillA, reduceCtorEq, Nat.reduceAdd, Nat.reduceSub, Nat.reduceLeDiff, Nat.reduceMul, Int.reduceLT, Int.reduceLE, Int.reduceEq, Int.reduceNe, Int.reduceAdd, Int.reduceSub, Int.reduceMul, Int.reduceNeg, Int.reduceToNat,  fr]
          have hno : allFr (remF ll q f) = false := by
            cases hx : allFr (remF ll q f)
            · rfl
            · have := (allFr_iff _).1 hx k (by omega)
              rw [ef, hff] at this; cases this
          intro _ h4 _
          exact ⟨.nilsl, by simp [remV, c2, d1, hno], by simp [remV, c2, d1, hno]; exact Sl.nil⟩
        · rw [if_pos (show true = true from rfl)]
          simp (maxSteps := 2000000) -implicitDefEqProofs (disch := omega) only [xsW, xsC, xsD, xsE, fillA, reduceCtorEq, Nat.reduceAdd, Nat.reduceSub, Nat.reduceLeDiff, Nat.reduceMul, Int.reduceLT, Int.reduceLE, Int.reduceEq, Int.reduceNe, Int.reduceAdd, Int.reduceSub, Int.reduceMul, Int.reduceNeg, Int.reduceToNat,  fr]
          refine app_frac (p := (remF ll q f).getD k (0, 0)) (acc.keep (fun i _ hi9 => by simp (disch := omega) only [upd_other]) |>.wide (Nat.le_refl _) (by omega)) (by omega) (by omega) ⟨rfl, _, upd_same _ _ _, by simp, by rw [ef]; simp [cutA]⟩ (by simp; omega) fun v' h' n' q1 q2 q3 => ?_
          simp (maxSteps := 2000000) -implicitDefEqProofs (disch := omega) only [xsW, xsC, xsD, xsE, fillA, reduceCtorEq, Nat.reduceAdd, Nat.reduceSub, Nat.reduceLeDiff, Nat.reduceMul, Int.reduceLT, Int.reduceLE, Int.reduceEq, Int.reduceNe, Int.reduceAdd, Int.reduceSub, Int.reduceMul, Int.reduceNeg, Int.reduceToNat]
          exact ⟨(v', h'), ⟨by rw [take_succ_getD (d := (0, 0)) (by omega)]; exact q2, by omega, fun j hj => (q3 j hj).trans (by rw [upd_other (by omega), upd_other (by omega), hold j hj]), fun j hj => (Nat.lt_succ_iff_lt_or_eq.1 hj).elim (hall j) (fun e => by rw [e, ef]; exact hff)⟩, by omega, by omega, (by simp [LeL, Le1]), fun _ _ h => h⟩
      · have e : k = ll.length := by omega
        rw [List.take_of_length_le (by omega)] at acc
        have hyes : allFr (remF ll q f) = true := (allFr_iff _).2 fun j hj => hall j (by omega)
        have e : remV ll q f = (remF ll q f, 0) := by simp [remV, c2, d1, hyes]
        intro _ h4 hh
        rw [e]
        exact ⟨out, by first | rfl | exact ⟨rfl, rfl⟩, (Acc.sl (acc.keep fun i a b => hh i (by omega) b)).wide (by omega) (Nat.le_refl _)⟩
end
def c_impl_GapOf_1 : F := ⟨(.seq (.reg false [⟨some 1, .box 49 (.t 0), none⟩, ⟨some 2, .mv (.c (.bool false)), none⟩]) (.seq (.reg false [⟨some 3, .fa 0 (.t 1), none⟩, ⟨some 4, .ld1 (.t 3), none⟩, ⟨some 5, .call (.f 56) [(.t 4), (.c (.int .i64 1000))], none⟩, ⟨some 6, .un .not (.t 5), none⟩, ⟨some 7, .mv (.t 6), none⟩, ⟨some 8, .fa 1 (.t 1), some (7, false)⟩, ⟨some 9, .ld1 (.t 8), some (7, false)⟩, ⟨some 10, .bin .gtr (.t 9) (.c (.int .i64 1000)), some (7, false)⟩, ⟨some 11, .pick (.t 7) (.c (.bool true)) (.t 10), none⟩, ⟨some 2, .mv (.t 11), none⟩]) .ret)), 12, [(.t 2)]⟩
theorem k_impl_GapOf_1 : compF Tryz.prog Tryz.f55 = some c_impl_GapOf_1 := by kernel_rfl
def c_impl_GapOf : F := ⟨(.seq (.reg false [⟨some 2, .box 30 (.t 0), none⟩, ⟨some 4, .alloc 49 [(.int .i64 0), (.int .i64 0)], none⟩, ⟨some 5, .mv (.c (.int .i64 0)), none⟩]) (.seq (.seq (.reg false [⟨some 10, .ld 2 (.t 2), none⟩, ⟨some 11, .mv (.t 1), none⟩, ⟨some 12, .call (.f 53) [(.t 10), (.t 11)], none⟩, ⟨some 6, .mv (.t 12), none⟩]) (.seq (.reg false [⟨some 13, .mv (.t 6), none⟩, ⟨some 14, .bin .neq (.t 13) (.c (.int .i64 0)), none⟩]) (.cond (.t 14) (.seq (.reg false [⟨some 15, .build [(.int .i64 0), (.int .i64 0)] [], none⟩, ⟨some 16, .mv (.t 6), none⟩, ⟨none, .st 2 (.t 4) (.t 15), none⟩, ⟨some 5, .mv (.t 16), none⟩]) .ret) .skip))) (.seq (.seq (.reg false [⟨some 17, .mv (.t 1), none⟩, ⟨some 18, .call (.f 54) [(.t 17), (.f 55)], none⟩]) (.cond (.t 18) (.seq (.reg false [⟨some 19, .build [(.int .i64 0), (.int .i64 0)] [], none⟩, ⟨none, .st 2 (.t 4) (.t 19), none⟩, ⟨some 5, .mv (.c (.int .i64 2)), none⟩]) .ret) .skip)) (.seq (.reg false [⟨some 21, .mv (.t 1), none⟩, ⟨some 22, .call (.f 57) [(.t 21), (.c (.int .i64 1000)), (.c (.int .i64 1000000000000))], none⟩, ⟨some 20, .mv (.t 22), none⟩, ⟨some 23, .ext (.t 20) 0, none⟩, ⟨some 24, .ext (.t 20) 1, none⟩, ⟨some 25, .ext (.t 20) 2, none⟩, ⟨some 7, .mv (.t 23), none⟩, ⟨some 8, .mv (.t 24), none⟩, ⟨some 9, .mv (.t 25), none⟩]) (.seq (.seq (.reg false [⟨some 26, .mv (.t 9), none⟩, ⟨some 27, .un .not (.t 26), none⟩]) (.cond (.t 27) (.seq (.reg false [⟨some 28, .build [(.int .i64 0), (.int .i64 0)] [], none⟩, ⟨none, .st 2 (.t 4) (.t 28), none⟩, ⟨some 5, .mv (.c (.int .i64 2)), none⟩]) .ret) .skip)) (.seq (.reg false [⟨some 29, .mv (.t 7), none⟩, ⟨some 30, .ld 2 (.t 2), none⟩, ⟨some 31, .mv (.t 7), none⟩, ⟨some 32, .mv (.t 8), none⟩, ⟨some 33, .call (.f 60) [(.t 30), (.t 31), (.t 32)], none⟩, ⟨some 34, .call (.f 59) [(.t 29), (.t 33)], none⟩, ⟨some 35, .mv (.t 8), none⟩, ⟨some 36, .mv (.t 8), none⟩, ⟨some 37, .bin .mul (.t 35) (.t 36), none⟩, ⟨some 38, .call (.f 58) [(.t 34), (.t 37)], none⟩, ⟨some 39, .ext (.t 38) 0, none⟩, ⟨some 40, .ext (.t 38) 1, none⟩, ⟨none, .st 2 (.t 4) (.t 39), none⟩, ⟨some 5, .mv (.t 40), none⟩]) .ret)))))), 41, [(.ca 4 2), (.t 5)]⟩
theorem k_impl_GapOf : compF Tryz.prog Tryz.f23 = some c_impl_GapOf := by kernel_rfl
def c_spec_GapOf : F := ⟨(.seq (.reg false [⟨some 2, .box 30 (.t 0), none⟩, ⟨some 4, .alloc 49 [(.int .i64 0), (.int .i64 0)], none⟩, ⟨some 5, .mv (.c (.int .i64 0)), none⟩]) (.seq (.seq (.reg false [⟨some 17, .ld 2 (.t 2), none⟩, ⟨some 18, .mv (.t 1), none⟩, ⟨some 19, .call (.f 61) [(.t 17), (.t 18)], none⟩, ⟨some 6, .mv (.t 19), none⟩]) (.seq (.reg false [⟨some 20, .mv (.t 6), none⟩, ⟨some 21, .bin .neq (.t 20) (.c (.int .i64 0)), none⟩]) (.cond (.t 21) (.seq (.reg false [⟨some 22, .build [(.int .i64 0), (.int .i64 0)] [], none⟩, ⟨some 23, .mv (.t 6), none⟩, ⟨none, .st 2 (.t 4) (.t 22), none⟩, ⟨some 5, .mv (.t 23), none⟩]) .ret) .skip))) (.seq (.seq (.reg false [⟨some 7, .mv (.c (.int .i64 0)), none⟩]) (.block 0 (.loop (.seq (.seq (.reg false [⟨some 24, .mv (.t 7), none⟩, ⟨some 25, .mv (.t 1), none⟩, ⟨some 26, .len (.t 25), none⟩, ⟨some 27, .bin .lss (.t 24) (.t 26), none⟩]) (.cond (.t 27) .skip (.exit 0))) (.seq (.block 1 (.seq (.reg false [⟨some 30, .mv (.t 1), none⟩, ⟨some 31, .mv (.t 7), none⟩, ⟨some 32, .ia 2 (.t 30) (.t 31), none⟩, ⟨some 33, .fa 0 (.t 32), none⟩, ⟨some 34, .ld1 (.t 33), none⟩, ⟨some 35, .call (.f 62) [(.t 34), (.c (.int .i64 (-1000))), (.c (.int .i64 1000))], none⟩, ⟨some 36, .un .not (.t 35), none⟩, ⟨some 37, .mv (.t 36), none⟩, ⟨some 38, .mv (.t 1), some (37, false)⟩, ⟨some 39, .mv (.t 7), some (37, false)⟩, ⟨some 40, .ia 2 (.t 38) (.t 39), some (37, false)⟩, ⟨some 41, .fa 1 (.t 40), some (37, false)⟩, ⟨some 42, .ld1 (.t 41), some (37, false)⟩, ⟨some 43, .bin .gtr (.t 42) (.c (.int .i64 1000)), some (37, false)⟩, ⟨some 44, .pick (.t 37) (.c (.bool true)) (.t 43), none⟩]) (.cond (.t 44) (.seq (.reg false [⟨some 45, .build [(.int .i64 0), (.int .i64 0)] [], none⟩, ⟨none, .st 2 (.t 4) (.t 45), none⟩, ⟨some 5, .mv (.c (.int .i64 2)), none⟩]) .ret) .skip))) (.reg false [⟨some 28, .mv (.t 7), none⟩, ⟨some 29, .bin .add (.t 28) (.c (.int .i64 1)), none⟩, ⟨some 7, .mv (.t 29), none⟩])))))) (.seq (.reg false [⟨some 47, .mv (.t 1), none⟩, ⟨some 48, .call (.f 63) [(.t 47)], none⟩, ⟨some 46, .mv (.t 48), none⟩, ⟨some 49, .ext (.t 46) 0, none⟩, ⟨some 50, .ext (.t 46) 1, none⟩, ⟨some 51, .ext (.t 46) 2, none⟩, ⟨some 8, .mv (.t 49), none⟩, ⟨some 9, .mv (.t 50), none⟩, ⟨some 10, .mv (.t 51), none⟩]) (.seq (.seq (.reg false [⟨some 52, .mv (.t 10), none⟩, ⟨some 53, .un .not (.t 52), none⟩, ⟨some 54, .mv (.t 53), none⟩, ⟨some 55, .mv (.t 9), some (54, false)⟩, ⟨some 56, .bin .gtr (.t 55) (.c (.int .i64 1000)), some (54, false)⟩, ⟨some 57, .pick (.t 54) (.c (.bool true)) (.t 56), none⟩]) (.cond (.t 57) (.seq (.reg false [⟨some 58, .build [(.int .i64 0), (.int .i64 0)] [], none⟩, ⟨none, .st 2 (.t 4) (.t 58), none⟩, ⟨some 5, .mv (.c (.int .i64 2)), none⟩]) .ret) .skip)) (.seq (.reg false [⟨some 59, .ld 2 (.t 2), none⟩, ⟨some 60, .mv (.t 8), none⟩, ⟨some 61, .mv (.t 9), none⟩, ⟨some 62, .call (.f 64) [(.t 59), (.t 60), (.t 61)], none⟩, ⟨some 11, .mv (.t 62), none⟩, ⟨some 12, .mv (.c (.int .i64 0)), none⟩]) (.seq (.seq (.reg false [⟨some 13, .mv (.c (.int .i64 0)), none⟩]) (.block 2 (.loop (.seq (.seq (.reg false [⟨some 63, .mv (.t 13), none⟩, ⟨some 64, .mv (.t 8), none⟩, ⟨some 65, .len (.t 64), none⟩, ⟨some 66, .bin .lss (.t 63) (.t 65), none⟩]) (.cond (.t 66) .skip (.exit 2))) (.seq (.block 3 (.reg true [⟨some 69, .mv (.t 12), none⟩, ⟨some 70, .mv (.t 8), none⟩, ⟨some 71, .mv (.t 13), none⟩, ⟨some 72, .ia 1 (.t 70) (.t 71), none⟩, ⟨some 73, .ld1 (.t 72), none⟩, ⟨some 74, .mv (.t 11), none⟩, ⟨some 75, .mv (.t 13), none⟩, ⟨some 76, .ia 1 (.t 74) (.t 75), none⟩, ⟨some 77, .ld1 (.t 76), none⟩, ⟨some 78, .bin .mul (.t 73) (.t 77), none⟩, ⟨some 79, .bin .add (.t 69) (.t 78), none⟩, ⟨some 12, .mv (.t 79), none⟩])) (.reg false [⟨some 67, .mv (.t 13), none⟩, ⟨some 68, .bin .add (.t 67) (.c (.int .i64 1)), none⟩, ⟨some 13, .mv (.t 68), none⟩])))))) (.seq (.reg false [⟨some 80, .mv (.t 12), none⟩, ⟨some 81, .mv (.t 9), none⟩, ⟨some 82, .mv (.t 9), none⟩, ⟨some 83, .bin .mul (.t 81) (.t 82), none⟩, ⟨some 84, .call (.f 65) [(.t 80), (.t 83)], none⟩, ⟨some 14, .alloc 49 [(.int .i64 0), (.int .i64 0)], none⟩, ⟨none, .st 2 (.t 14) (.t 84), none⟩]) (.seq (.seq (.reg false [⟨some 86, .ld 2 (.t 14), none⟩, ⟨some 87, .lit 49 2 1 [(.int .i64 0), (.int .i64 0)] [(0, (.t 86))], none⟩, ⟨some 88, .call (.f 33) [(.t 87)], none⟩, ⟨some 85, .mv (.t 88), none⟩, ⟨some 89, .ext (.t 85) 0, none⟩, ⟨some 90, .ext (.t 85) 1, none⟩, ⟨some 15, .mv (.t 89), none⟩, ⟨some 16, .mv (.t 90), none⟩]) (.seq (.reg false [⟨some 91, .mv (.t 16), none⟩, ⟨some 92, .bin .neq (.t 91) (.c (.int .i64 0)), none⟩]) (.cond (.t 92) (.seq (.reg false [⟨some 93, .build [(.int .i64 0), (.int .i64 0)] [], none⟩, ⟨some 94, .mv (.t 16), none⟩, ⟨none, .st 2 (.t 4) (.t 93), none⟩, ⟨some 5, .mv (.t 94), none⟩]) .ret) .skip))) (.seq (.reg false [⟨some 95, .ld 2 (.t 14), none⟩, ⟨none, .st 2 (.t 4) (.t 95), none⟩, ⟨some 5, .mv (.c (.int .i64 0)), none⟩]) .ret)))))))))), 96, [(.ca 4 2), (.t 5)]⟩
theorem k_spec_GapOf : compF Tryz.prog Tryz.f24 = some c_spec_GapOf := by kernel_rfl

def smT (p : Int × Int) : Bool := decide ((-1000 ≤ p.1 ∧ p.1 ≤ 1000) ∧ p.2 ≤ 1000)
def smB (f : List (Int × Int)) : Bool := (List.range f.length).all fun k => smT (f.getD k (0, 0))
theorem smB_iff (f : List (Int × Int)) : smB f = true ↔ ∀ k, k < f.length → (-1000 ≤ (f.getD k (0, 0)).1 ∧ (f.getD k (0, 0)).1 ≤ 1000) ∧ (f.getD k (0, 0)).2 ≤ 1000 := by simp only [smB, smT, List.all_eq_true, List.mem_range, decide_eq_true_eq]
def gapT (ll : List (List Int)) (q : List Int) (f : List (Int × Int)) (k : Nat) : Int := (cmnN f).getD k 0 * (remL ll q (cmnN f) (cmnD f)).getD k 0
def gapS (ll : List (List Int)) (q : List Int) (f : List (Int × Int)) : Int := sumTo ll.length (gapT ll q f)
def gapR (ll : List (List Int)) (q : List Int) (f : List (Int × Int)) : Int × Int := red (gapS ll q f) (cmnD f * cmnD f)
def gapV (ll : List (List Int)) (q : List Int) (f : List (Int × Int)) : (Int × Int) × Int :=
  if frcV ll q f = 0 then (if smB f = true ∧ okM 1000 f = true then (if isFr 1000000000 (gapR ll q f).1 (gapR ll q f).2 = true then (gapR ll q f, 0) else ((0, 0), 3)) else ((0, 0), 2)) else ((0, 0), frcV ll q f)
theorem dkF_mono {f : List (Int × Int)} (hf : allFr f = true) {k : Nat} (hk : k < f.length) : dkF f k ≤ dkF f (k + 1) := by
  have h1 := dkF_pos hf k (by omega)
  have h2 := (allFr_get hf (k := k) hk).2
  have hg : 0 < (Int.gcd (dkF f k) (f.getD k (0, 0)).2 : Int) := by have := Int.gcd_pos_of_ne_zero_right (dkF f k) (show (f.getD k (0, 0)).2 ≠ 0 by omega); omega
  obtain ⟨c, hc⟩ := Int.gcd_dvd_left (dkF f k) (f.getD k (0, 0)).2
  have h3 : (dkF f k).tdiv (Int.gcd (dkF f k) (f.getD k (0, 0)).2 : Int) = c := by
    conv => lhs; arg 1; rw [hc]
    exact Int.mul_tdiv_cancel_left _ (by omega)
  have hc0 : 0 ≤ c := by
    rcases Int.lt_or_le c 0 with h | h
    · have := Int.mul_le_mul_of_nonneg_left (show c ≤ 0 by omega) (show 0 ≤ (Int.gcd (dkF f k) (f.getD k (0, 0)).2 : Int) by omega)
      rw [Int.mul_zero] at this; omega
    · exact h
  have h4 : (Int.gcd (dkF f k) (f.getD k (0, 0)).2 : Int) ≤ (f.getD k (0, 0)).2 := Int.le_of_dvd (by omega) (Int.gcd_dvd_right ..)
  simp only [dkF, h3]
  calc dkF f k = (Int.gcd (dkF f k) (f.getD k (0, 0)).2 : Int) * c := hc
    _ ≤ (f.getD k (0, 0)).2 * c := Int.mul_le_mul_of_nonneg_right h4 hc0
    _ = c * (f.getD k (0, 0)).2 := Int.mul_comm _ _
theorem dkF_le {f : List (Int × Int)} (hf : allFr f = true) {k : Nat} (hk : k ≤ f.length) : dkF f k ≤ cmnD f := by
  obtain ⟨j, hj⟩ := Nat.le.dest hk
  unfold cmnD
  rw [← hj]
  have : ∀ j, k + j ≤ f.length → dkF f k ≤ dkF f (k + j) := by
    intro j
    induction j with
    | zero => intro _; exact Int.le_refl _
    | succ j ih => intro h; exact Int.le_trans (ih (by omega)) (dkF_mono hf (by omega))
  exact this j (by omega)
theorem okM_last {f : List (Int × Int)} (hf : allFr f = true) (B : Int) (hB : 1 ≤ B) : okM B f = true ↔ cmnD f ≤ B := by
  rw [okM_iff]
  constructor
  · intro h
    unfold cmnD
    rcases Nat.eq_zero_or_pos f.length with h0 | h0
    · rw [h0]; simpa [dkF] using hB
    · have := h (f.length - 1) (by omega)
      rwa [show f.length - 1 + 1 = f.length by omega] at this
  · intro h k hk
    exact Int.le_trans (dkF_le hf (by omega)) h
theorem cmnX_sm {f : List (Int × Int)} (hf : allFr f = true) (hs : smB f = true) (hd : cmnD f ≤ 1000) {k : Nat} (hk : k < f.length) : -1000000 ≤ cmnX f k ∧ cmnX f k ≤ 1000000 := by
  have h1 := (smB_iff f).1 hs k hk
  have h2 := dkF_pos hf _ (Nat.le_refl _)
  have h2' : 1 ≤ cmnD f := h2
  have h3 := (allFr_get hf hk).2
  have h4 := tdiv_b (a := cmnD f) (b := (f.getD k (0, 0)).2) (by omega) (by omega)
  exact mul_bound (A := 1000) (B := 1000) h1.1 (by omega)
theorem gap_facts {ll : List (List Int)} {q : List Int} {f : List (Int × Int)} (hz : frcV ll q f = 0) (hs : smB f = true) (hM : okM 1000 f = true) :
    cmnM 1000 f = true ∧ cmnB f = true ∧ 1 ≤ cmnD f ∧ cmnD f ≤ 1000 ∧ ∀ k, k < ll.length → -1000000000000000 ≤ gapT ll q f k ∧ gapT ll q f k ≤ 1000000000000000 := by
  obtain ⟨hp, ha, hl⟩ := frcV_zero hz
  have hd := (okM_last ha 1000 (by omega)).1 hM
  have hN : okN f = true := (okN_iff f).2 fun k hk => by have := cmnX_sm ha hs hd hk; omega
  have hB : cmnB f = true := by
    simp only [cmnB, Bool.and_eq_true]
    exact ⟨(okD_iff f).2 fun k hk => by have := (okM_iff 1000 f).1 hM k hk; omega, hN⟩
  have hpos : 1 ≤ cmnD f := dkF_pos ha _ (Nat.le_refl _)
  refine ⟨by simp only [cmnM, hM, hN, Bool.and_self], hB, hpos, hd, fun k hk => ?_⟩
  obtain ⟨e1, e2, e3, e4⟩ := cmn_facts hz hB
  have h1 := cmnX_sm ha hs hd (k := k) (by omega)
  have h2 : (cmnN f).getD k 0 = cmnX f k := rowOf_get (by omega)
  have h3 : -1000000000 ≤ (remL ll q (cmnN f) (cmnD f)).getD k 0 ∧ (remL ll q (cmnN f) (cmnD f)).getD k 0 ≤ 1000000000 := by
    rw [remL, rowOf_get hk]
    obtain ⟨hm, hq, hw⟩ := isProb_facts hp
    have hN5 := ((isMat_iff ll).1 hm).2.1
    have b1 : -100000 ≤ q.getD k 0 * cmnD f ∧ q.getD k 0 * cmnD f ≤ 100000 := mul_bound (A := 100) (B := 1000) ((within_iff _ _).1 hw k (by omega)) (by omega)
    have b2 : -100000000 ≤ sumTo ll.length (remT ll (cmnN f) k) ∧ sumTo ll.length (remT ll (cmnN f) k) ≤ 100000000 :=
      sumTo_small (n := ll.length) (B := 20000000) (fun j hj => by
        have g1 := ((isMat_iff ll).1 hm).2.2 k hk
        rw [within_iff] at g1
        have g2 := cmnX_sm ha hs hd (k := j) (by omega)
        have g3 : (cmnN f).getD j 0 = cmnX f j := rowOf_get (by omega)
        unfold remT
        rw [g3]
        exact mul_bound (A := 20) (B := 1000000) (g1.2 j (by rw [g1.1]; exact hj)) g2) (Nat.le_refl _) (by omega) (by omega)
    unfold remX; omega
  unfold gapT
  rw [h2]
  exact mul_bound (A := 1000000) (B := 1000000000) h1 h3
theorem red_nb {x d : Int} (hd : d ≠ 0) : (red x d).1.natAbs ≤ x.natAbs ∧ (red x d).2.natAbs ≤ d.natAbs := by
  simp only [red]
  constructor
  · have h2 : (Int.gcd x d : Int) ∣ x * d.sign := Int.dvd_trans (Int.gcd_dvd_left ..) (Int.dvd_mul_right ..)
    rw [← Int.tdiv_eq_ediv_of_dvd h2]
    refine Nat.le_trans (Int.natAbs_tdiv_le_natAbs _ _) ?_
    rw [Int.natAbs_mul, Int.natAbs_sign_of_ne_zero hd, Nat.mul_one]
    exact Nat.le_refl _
  · rw [← Int.natCast_ediv, Int.natAbs_natCast]
    exact Nat.div_le_self _ _
section
variable {w w' : Bool} {lo hi lo' hi' : Nat} {h : AH} {v u v' : AV} {vs : List AV} {ll : List (List Int)} {q xs : List Int} {f : List (Int × Int)}
theorem impl_GapOf_1 (p : Int × Int) (h : AH) (n : Nat) : Q Tryz.prog 55 [frA p] h n (.bool (!smT p)) := by
  refine q_intro Tryz.func55 k_impl_GapOf_1 ?_
  simp (maxSteps := 2000000) -implicitDefEqProofs (disch := omega) only [c_impl_GapOf_1, frA, xsW, xsC, xsD, xsE, fillA, reduceCtorEq, Nat.reduceAdd, Nat.reduceSub, Nat.reduceLeDiff, Nat.reduceMul, Int.reduceLT, Int.reduceLE, Int.reduceEq, Int.reduceNe, Int.reduceAdd, Int.reduceSub, Int.reduceMul, Int.reduceNeg, Int.reduceToNat]
  refine q_use (impl_upTo _ _ (by unfold in64; omega) _ _) fun n1 hn1 => ?_
  simp (maxSteps := 2000000) -implicitDefEqProofs (disch := omega) only [xsW, xsC, xsD, xsE, fillA, reduceCtorEq, Nat.reduceAdd, Nat.reduceSub, Nat.reduceLeDiff, Nat.reduceMul, Int.reduceLT, Int.reduceLE, Int.reduceEq, Int.reduceNe, Int.reduceAdd, Int.reduceSub, Int.reduceMul, Int.reduceNeg, Int.reduceToNat]
  (refine gd_dec (fun c1 => ?_) (fun c1 => ?_) <;> simp (maxSteps := 2000000) -implicitDefEqProofs (disch := omega) only [xsW, xsC, xsD, xsE, fillA, reduceCtorEq, Nat.reduceAdd, Nat.reduceSub, Nat.reduceLeDiff, Nat.reduceMul, Int.reduceLT, Int.reduceLE, Int.reduceEq, Int.reduceNe, Int.reduceAdd, Int.reduceSub, Int.reduceMul, Int.reduceNeg, Int.reduceToNat,  c1])
  · have : smT p = false := decide_eq_false (by omega)
    simp [this]
  · by_cases hp : p.2 ≤ 1000
    · have : smT p = true := decide_eq_true ⟨by omega, hp⟩
      simp [this]; omega
    · have : smT p = false := decide_eq_false (by omega)
      simp [this]; omega
theorem impl_GapOf (s : Prob w lo hi h v u vs ll q) (hl : ll.length ≤ 1048576) (hll : ∀ l ∈ ll, l.length ≤ 1048576) (hq : q.length ≤ 1048576) (sf : Fracs w' lo' hi' h v' f) (hf : f.length ≤ 1048576) (n : Nat) (hn : hi ≤ n) (hn' : hi' ≤ n) :
    Q Tryz.prog 23 [.agg [v, u], v'] h n (.tup [fr (gapV ll q f).1.1 (gapV ll q f).1.2, .int .i64 (gapV ll q f).2]) := by
  refine q_intro Tryz.func23 k_impl_GapOf ?_
  have o1 := one_any (Sl.any s.M.out)
  have o2 := one_any (Sl.any s.Q)
  simp (maxSteps := 2000000) -implicitDefEqProofs (disch := omega) only [c_impl_GapOf, o1, o2, xsW, xsC, xsD, xsE, fillA, reduceCtorEq, Nat.reduceAdd, Nat.reduceSub, Nat.reduceLeDiff, Nat.reduceMul, Int.reduceLT, Int.reduceLE, Int.reduceEq, Int.reduceNe, Int.reduceAdd, Int.reduceSub, Int.reduceMul, Int.reduceNeg, Int.reduceToNat]
  refine q_use (impl_fracsCode (s.keep (fun i _ hi9 => by simp (disch := omega) only [upd_other])) hl hll hq (Fracs.keep sf (fun i _ hi9 => by simp (disch := omega) only [upd_other])) hf _ (by omega) (by omega)) fun n1 hn1 => ?_
  simp (maxSteps := 2000000) -implicitDefEqProofs (disch := omega) only [xsW, xsC, xsD, xsE, fillA, reduceCtorEq, Nat.reduceAdd, Nat.reduceSub, Nat.reduceLeDiff, Nat.reduceMul, Int.reduceLT, Int.reduceLE, Int.reduceEq, Int.reduceNe, Int.reduceAdd, Int.reduceSub, Int.reduceMul, Int.reduceNeg, Int.reduceToNat]
  (refine cd_dec (fun c1 => ?_) (fun c1 => ?_) <;> simp (maxSteps := 2000000) -implicitDefEqProofs (disch := omega) only [xsW, xsC, xsD, xsE, fillA, reduceCtorEq, Nat.reduceAdd, Nat.reduceSub, Nat.reduceLeDiff, Nat.reduceMul, Int.reduceLT, Int.reduceLE, Int.reduceEq, Int.reduceNe, Int.reduceAdd, Int.reduceSub, Int.reduceMul, Int.reduceNeg, Int.reduceToNat,  c1])
  · simp [gapV, c1, fr]
  · have c2 : frcV ll q f = 0 := Decidable.not_not.1 c1
    obtain ⟨hp, ha, hfl⟩ := frcV_zero c2
    have hN := ((isMat_iff ll).1 (isProb_facts hp).1).2.1
    have hsl := Fracs.slen sf
    have hany : ((List.range (slen v')).any fun k => !smT (f.getD k (0, 0))) = !smB f := by
      rw [hsl, Bool.eq_iff_iff]
      simp [smB]
    refine q_use (has_fracs (Fracs.keep (h' := upd (upd h n (some ⟨30, [v, u], true, 0⟩)) (n + 1) (some ⟨49, [.int .i64 0, .int .i64 0], true, 0⟩)) sf (fun i _ hi9 => by simp (disch := omega) only [upd_other])) (by omega) _ _ (fun k => !smT (f.getD k (0, 0))) _ fun k n' hk _ => ?_) fun n2 hn2 => ?_
    · rw [fracs_cut f k (by omega)]; exact impl_GapOf_1 _ _ _
    rw [hany]
    cases hs : smB f
    · simp (maxSteps := 2000000) -implicitDefEqProofs (disch := omega) only [xsW, xsC, xsD, xsE, fillA, reduceCtorEq, Nat.reduceAdd, Nat.reduceSub, Nat.reduceLeDiff, Nat.reduceMul, Int.reduceLT, Int.reduceLE, Int.reduceEq, Int.reduceNe, Int.reduceAdd, Int.reduceSub, Int.reduceMul, Int.reduceNeg, Int.reduceToNat]
      simp [gapV, c2, hs, fr]
    · simp (maxSteps := 2000000) -implicitDefEqProofs (disch := omega) only [xsW, xsC, xsD, xsE, fillA, reduceCtorEq, Nat.reduceAdd, Nat.reduceSub, Nat.reduceLeDiff, Nat.reduceMul, Int.reduceLT, Int.reduceLE, Int.reduceEq, Int.reduceNe, Int.reduceAdd, Int.reduceSub, Int.reduceMul, Int.reduceNeg, Int.reduceToNat]
      refine fq_use (impl_togetherB 1000 (by omega) (by omega) (Fracs.keep (h' := upd (upd h n (some ⟨30, [v, u], true, 0⟩)) (n + 1) (some ⟨49, [.int .i64 0, .int .i64 0], true, 0⟩)) sf (fun i _ hi9 => by simp (disch := omega) only [upd_other])) hf ha n2 (by omega)) fun x1 h1 n3 hn3 hs1 hx1 => ?_
      have hb2 : h1 (n + 1) = some ⟨49, [.int .i64 0, .int .i64 0], true, 0⟩ := by rw [hs1 (n + 1) (by omega), upd_same]
      rcases hx1 with ⟨d1, rfl⟩ | ⟨d1, v1, rfl, hv1⟩
      · have hM : okM 1000 f = false := by
          cases hM : okM 1000 f
          · rfl
          · rw [(gap_facts c2 hs hM).1] at d1; cases d1
        simp (maxSteps := 2000000) -implicitDefEqProofs (disch := omega) only [xsW, xsC, xsD, xsE, fillA, reduceCtorEq, Nat.reduceAdd, Nat.reduceSub, Nat.reduceLeDiff, Nat.reduceMul, Int.reduceLT, Int.reduceLE, Int.reduceEq, Int.reduceNe, Int.reduceAdd, Int.reduceSub, Int.reduceMul, Int.reduceNeg, Int.reduceToNat,  hb2]
        simp [gapV, c2, hM, fr]
      · have hM : okM 1000 f = true := by simp only [cmnM, Bool.and_eq_true] at d1; exact d1.1
        obtain ⟨_, g1, g2, g3, g4⟩ := gap_facts c2 hs hM
        obtain ⟨e1, e2, _, _⟩ := cmn_facts c2 g1
        have hrl := remL_len ll q (cmnN f) (cmnD f)
        have hbox : h1 n = some ⟨30, [v, u], true, 0⟩ := by rw [hs1 n (by omega), upd_other (by omega), upd_same]
        have gs := sumTo_small (n := ll.length) (k := ll.length) (B := 1000000000000000) (C := 5000000000000000) g4 (Nat.le_refl _) (by omega) (by omega)
        have gd := mul_nn (show 0 ≤ cmnD f by omega) g3 (show 0 ≤ cmnD f by omega) g3
        have gd1 := Int.mul_pos (show 0 < cmnD f by omega) (show 0 < cmnD f by omega)
        simp (maxSteps := 2000000) -implicitDefEqProofs (disch := omega) only [xsW, xsC, xsD, xsE, fillA, reduceCtorEq, Nat.reduceAdd, Nat.reduceSub, Nat.reduceLeDiff, Nat.reduceMul, Int.reduceLT, Int.reduceLE, Int.reduceEq, Int.reduceNe, Int.reduceAdd, Int.reduceSub, Int.reduceMul, Int.reduceNeg, Int.reduceToNat,  hbox]
        refine fq_use (impl_rest (s.keep (h' := h1) (fun i _ hi9 => by simp (disch := omega) only [upd_other, hs1])) hp hv1 e1 e2 (cmnD f) (by omega) n3 (by omega) (by omega)) fun v2 h2 n4 hn4 hs2 hv2 => ?_
        have hb3 : h2 (n + 1) = some ⟨49, [.int .i64 0, .int .i64 0], true, 0⟩ := by rw [hs2 (n + 1) (by omega), hb2]
        simp (maxSteps := 2000000) -implicitDefEqProofs (disch := omega) only [xsW, xsC, xsD, xsE, fillA, reduceCtorEq, Nat.reduceAdd, Nat.reduceSub, Nat.reduceLeDiff, Nat.reduceMul, Int.reduceLT, Int.reduceLE, Int.reduceEq, Int.reduceNe, Int.reduceAdd, Int.reduceSub, Int.reduceMul, Int.reduceNeg, Int.reduceToNat]
        refine q_use (impl_sum (hv1.keep (fun i _ hi9 => by simp (disch := omega) only [upd_other, hs2])) hv2 (by omega) 1000000000000000 (by omega) (by omega) (by omega) (fun i hi => g4 i (by omega)) n4) fun n5 hn5 => ?_
        have e5 : (sumTo (cmnN f).length fun i => (cmnN f).getD i 0 * (remL ll q (cmnN f) (cmnD f)).getD i 0) = gapS ll q f := by rw [e1]; rfl
        have gs' : -5000000000000000 ≤ gapS ll q f ∧ gapS ll q f ≤ 5000000000000000 := gs
        rw [e5]
        simp (maxSteps := 2000000) -implicitDefEqProofs (disch := omega) only [xsW, xsC, xsD, xsE, fillA, reduceCtorEq, Nat.reduceAdd, Nat.reduceSub, Nat.reduceLeDiff, Nat.reduceMul, Int.reduceLT, Int.reduceLE, Int.reduceEq, Int.reduceNe, Int.reduceAdd, Int.reduceSub, Int.reduceMul, Int.reduceNeg, Int.reduceToNat]
        refine q_use (impl_reduced _ _ (by unfold in64; omega) (by unfold in64; omega) (by omega) _ _) fun n6 hn6 => ?_
        have er : red (gapS ll q f) (cmnD f * cmnD f) = gapR ll q f := rfl
        rw [er]
        cases hff : isFr 1000000000 (gapR ll q f).1 (gapR ll q f).2
        · rw [if_neg (show ¬ (false = true) by simp)]
          simp (maxSteps := 2000000) -implicitDefEqProofs (disch := omega) only [xsW, xsC, xsD, xsE, fillA, reduceCtorEq, Nat.reduceAdd, Nat.reduceSub, Nat.reduceLeDiff, Nat.reduceMul, Int.reduceLT, Int.reduceLE, Int.reduceEq, Int.reduceNe, Int.reduceAdd, Int.reduceSub, Int.reduceMul, Int.reduceNeg, Int.reduceToNat,  fr, hb3]
          simp [gapV, c2, hs, hM, hff]
        · rw [if_pos (show true = true from rfl)]
          simp (maxSteps := 2000000) -implicitDefEqProofs (disch := omega) only [xsW, xsC, xsD, xsE, fillA, reduceCtorEq, Nat.reduceAdd, Nat.reduceSub, Nat.reduceLeDiff, Nat.reduceMul, Int.reduceLT, Int.reduceLE, Int.reduceEq, Int.reduceNe, Int.reduceAdd, Int.reduceSub, Int.reduceMul, Int.reduceNeg, Int.reduceToNat,  fr, hb3]
          simp [gapV, c2, hs, hM, hff]
theorem spec_GapOf (s : Prob w lo hi h v u vs ll q) (hl : ll.length ≤ 1048576) (hll : ∀ l ∈ ll, l.length ≤ 1048576) (hq : q.length ≤ 1048576) (sf : Fracs w' lo' hi' h v' f) (hf : f.length ≤ 1048576) (n : Nat) (hn : hi ≤ n) (hn' : hi' ≤ n) :
    Q Tryz.prog 24 [.agg [v, u], v'] h n (.tup [fr (gapV ll q f).1.1 (gapV ll q f).1.2, .int .i64 (gapV ll q f).2]) := by
  refine q_intro Tryz.func24 k_spec_GapOf ?_
  have o1 := one_any (Sl.any s.M.out)
  have o2 := one_any (Sl.any s.Q)
  simp (maxSteps := 2000000) -implicitDefEqProofs (disch := omega) only [c_spec_GapOf, o1, o2, xsW, xsC, xsD, xsE, fillA, reduceCtorEq, Nat.reduceAdd, Nat.reduceSub, Nat.reduceLeDiff, Nat.reduceMul, Int.reduceLT, Int.reduceLE, Int.reduceEq, Int.reduceNe, Int.reduceAdd, Int.reduceSub, Int.reduceMul, Int.reduceNeg, Int.reduceToNat]
  refine q_use (spec_l01Fracs (s.keep (fun i _ hi9 => by simp (disch := omega) only [upd_other])) hl hll hq (Fracs.keep sf (fun i _ hi9 => by simp (disch := omega) only [upd_other])) hf _ (by omega) (by omega)) fun n1 hn1 => ?_
  simp (maxSteps := 2000000) -implicitDefEqProofs (disch := omega) only [xsW, xsC, xsD, xsE, fillA, reduceCtorEq, Nat.reduceAdd, Nat.reduceSub, Nat.reduceLeDiff, Nat.reduceMul, Int.reduceLT, Int.reduceLE, Int.reduceEq, Int.reduceNe, Int.reduceAdd, Int.reduceSub, Int.reduceMul, Int.reduceNeg, Int.reduceToNat]
  (refine cd_dec (fun c1 => ?_) (fun c1 => ?_) <;> simp (maxSteps := 2000000) -implicitDefEqProofs (disch := omega) only [xsW, xsC, xsD, xsE, fillA, reduceCtorEq, Nat.reduceAdd, Nat.reduceSub, Nat.reduceLeDiff, Nat.reduceMul, Int.reduceLT, Int.reduceLE, Int.reduceEq, Int.reduceNe, Int.reduceAdd, Int.reduceSub, Int.reduceMul, Int.reduceNeg, Int.reduceToNat,  c1])
  · simp [gapV, c1, fr]
  · have c2 : frcV ll q f = 0 := Decidable.not_not.1 c1
    obtain ⟨hp, ha, hfl⟩ := frcV_zero c2
    have hN := ((isMat_iff ll).1 (isProb_facts hp).1).2.1
    have sf1 := Fracs.keep (h' := upd (upd h n (some ⟨30, [v, u], true, 0⟩)) (n + 1) (some ⟨49, [.int .i64 0, .int .i64 0], true, 0⟩)) sf (fun i _ hi9 => by simp (disch := omega) only [upd_other])
    refine loop_for f.length 0 (fun k (_ : Unit) => [.agg [v, u], v', .ptr n 0, .any, .ptr (n + 1) 0, .int .i64 0, .int .i64 (frcV ll q f), .int .i64 k, .any, .any, .any, .any, .any, .any, .any, .any, .any, .any, .any, .any, .any, .any, .any, .any, .any, .any, .any, .any, .any, .any, .any, .any, .any, .any, .any, .any, .any, .any, .any, .any, .any, .any, .any, .any, .any, .any, .any, .any, .any, .any, .any, .any, .any, .any, .any, .any, .any, .any, .any, .any, .any, .any, .any, .any, .any, .any, .any, .any, .any, .any, .any, .any, .any, .any, .any, .any, .any, .any, .any, .any, .any, .any, .any, .any, .any, .any, .any, .any, .any, .any, .any, .any, .any, .any, .any, .any]) (fun _ _ => upd (upd h n (some ⟨30, [v, u], true, 0⟩)) (n + 1) (some ⟨49, [.int .i64 0, .int .i64 0], true, 0⟩))
      (fun k _ _ => ∀ j, j < k → (-1000 ≤ (f.getD j (0, 0)).1 ∧ (f.getD j (0, 0)).1 ≤ 1000) ∧ (f.getD j (0, 0)).2 ≤ 1000) () (Nat.zero_le _) (fun j hj => absurd hj (Nat.not_lt_zero _)) (by simp [LeL, Le1]) (fun _ _ h => h) ?_
    rintro k - m - hk hm hall
    simp (maxSteps := 2000000) -implicitDefEqProofs (disch := omega) only [xsW, xsC, xsD, xsE, fillA, reduceCtorEq, Nat.reduceAdd, Nat.reduceSub, Nat.reduceLeDiff, Nat.reduceMul, Int.reduceLT, Int.reduceLE, Int.reduceEq, Int.reduceNe, Int.reduceAdd, Int.reduceSub, Int.reduceMul, Int.reduceNeg, Int.reduceToNat,  sf1.ln]
    (refine cd_dec (fun c3 => ?_) (fun c3 => ?_) <;> simp (maxSteps := 2000000) -implicitDefEqProofs (disch := omega) only [xsW, xsC, xsD, xsE, fillA, reduceCtorEq, Nat.reduceAdd, Nat.reduceSub, Nat.reduceLeDiff, Nat.reduceMul, Int.reduceLT, Int.reduceLE, Int.reduceEq, Int.reduceNe, Int.reduceAdd, Int.reduceSub, Int.reduceMul, Int.reduceNeg, Int.reduceToNat,  c3])
    · have hk2 : k < f.length := by omega
      have hbf := Fracs.below sf1 (by intro e; rw [e] at hk2; simp at hk2)
      have bad : ¬ ((-1000 ≤ (f.getD k (0, 0)).1 ∧ (f.getD k (0, 0)).1 ≤ 1000) ∧ (f.getD k (0, 0)).2 ≤ 1000) → smB f = false := fun hb => by
        cases hx : smB f
        · rfl
        · exact absurd ((smB_iff f).1 hx k hk2) hb
      simp (maxSteps := 2000000) -implicitDefEqProofs (disch := omega) only [xsW, xsC, xsD, xsE, fillA, reduceCtorEq, Nat.reduceAdd, Nat.reduceSub, Nat.reduceLeDiff, Nat.reduceMul, Int.reduceLT, Int.reduceLE, Int.reduceEq, Int.reduceNe, Int.reduceAdd, Int.reduceSub, Int.reduceMul, Int.reduceNeg, Int.reduceToNat,  sf1.ia, sf.ldn]
      refine q_use (spec_l01In _ _ _ _ _) fun n3 hn3 => ?_
      simp (maxSteps := 2000000) -implicitDefEqProofs (disch := omega) only [xsW, xsC, xsD, xsE, fillA, reduceCtorEq, Nat.reduceAdd, Nat.reduceSub, Nat.reduceLeDiff, Nat.reduceMul, Int.reduceLT, Int.reduceLE, Int.reduceEq, Int.reduceNe, Int.reduceAdd, Int.reduceSub, Int.reduceMul, Int.reduceNeg, Int.reduceToNat]
      (refine gd_dec (fun c4 => ?_) (fun c4 => ?_) <;> simp (maxSteps := 2000000) -implicitDefEqProofs (disch := omega) only [xsW, xsC, xsD, xsE, fillA, reduceCtorEq, Nat.reduceAdd, Nat.reduceSub, Nat.reduceLeDiff, Nat.reduceMul, Int.reduceLT, Int.reduceLE, Int.reduceEq, Int.reduceNe, Int.reduceAdd, Int.reduceSub, Int.reduceMul, Int.reduceNeg, Int.reduceToNat,  c4])
      · simp [gapV, c2, bad (by omega), fr]
      · simp (maxSteps := 2000000) -implicitDefEqProofs (disch := omega) only [xsW, xsC, xsD, xsE, fillA, reduceCtorEq, Nat.reduceAdd, Nat.reduceSub, Nat.reduceLeDiff, Nat.reduceMul, Int.reduceLT, Int.reduceLE, Int.reduceEq, Int.reduceNe, Int.reduceAdd, Int.reduceSub, Int.reduceMul, Int.reduceNeg, Int.reduceToNat,  sf1.ia, sf.ldd]
        (refine cd_dec (fun c5 => ?_) (fun c5 => ?_) <;> simp (maxSteps := 2000000) -implicitDefEqProofs (disch := omega) only [xsW, xsC, xsD, xsE, fillA, reduceCtorEq, Nat.reduceAdd, Nat.reduceSub, Nat.reduceLeDiff, Nat.reduceMul, Int.reduceLT, Int.reduceLE, Int.reduceEq, Int.reduceNe, Int.reduceAdd, Int.reduceSub, Int.reduceMul, Int.reduceNeg, Int.reduceToNat,  c5])
        · simp [gapV, c2, bad (by omega), fr]
        · exact ⟨(), fun j hj => (Nat.lt_succ_iff_lt_or_eq.1 hj).elim (hall j) (fun e => by rw [e]; omega), by omega, by omega, (by simp [LeL, Le1])⟩
    · have hs : smB f = true := (smB_iff f).2 fun j hj => hall j (by omega)
      refine fq_use (spec_l01Common sf1 hf ha m (by omega)) fun x1 h1 n3 hn3 hs1 hx1 => ?_
      have hb2 : h1 (n + 1) = some ⟨49, [.int .i64 0, .int .i64 0], true, 0⟩ := by rw [hs1 (n + 1) (by omega), upd_same]
      rcases hx1 with ⟨d1, rfl⟩ | ⟨d1, v1, rfl, hv1⟩
      · have hM : okM 1000 f = false := by
          cases hM : okM 1000 f
          · rfl
          · rw [(gap_facts c2 hs hM).2.1] at d1; cases d1
        simp (maxSteps := 2000000) -implicitDefEqProofs (disch := omega) only [xsW, xsC, xsD, xsE, fillA, reduceCtorEq, Nat.reduceAdd, Nat.reduceSub, Nat.reduceLeDiff, Nat.reduceMul, Int.reduceLT, Int.reduceLE, Int.reduceEq, Int.reduceNe, Int.reduceAdd, Int.reduceSub, Int.reduceMul, Int.reduceNeg, Int.reduceToNat,  hb2]
        simp [gapV, c2, hM, fr]
      · simp (maxSteps := 2000000) -implicitDefEqProofs (disch := omega) only [xsW, xsC, xsD, xsE, fillA, reduceCtorEq, Nat.reduceAdd, Nat.reduceSub, Nat.reduceLeDiff, Nat.reduceMul, Int.reduceLT, Int.reduceLE, Int.reduceEq, Int.reduceNe, Int.reduceAdd, Int.reduceSub, Int.reduceMul, Int.reduceNeg, Int.reduceToNat,  hb2]
        (refine cd_dec (fun c4 => ?_) (fun c4 => ?_) <;> simp (maxSteps := 2000000) -implicitDefEqProofs (disch := omega) only [xsW, xsC, xsD, xsE, fillA, reduceCtorEq, Nat.reduceAdd, Nat.reduceSub, Nat.reduceLeDiff, Nat.reduceMul, Int.reduceLT, Int.reduceLE, Int.reduceEq, Int.reduceNe, Int.reduceAdd, Int.reduceSub, Int.reduceMul, Int.reduceNeg, Int.reduceToNat,  c4])
        · have hM : okM 1000 f = false := by
            cases hM : okM 1000 f
            · rfl
            · have := (okM_last ha 1000 (by omega)).1 hM
              omega
          simp (maxSteps := 2000000) -implicitDefEqProofs (disch := omega) only [xsW, xsC, xsD, xsE, fillA, reduceCtorEq, Nat.reduceAdd, Nat.reduceSub, Nat.reduceLeDiff, Nat.reduceMul, Int.reduceLT, Int.reduceLE, Int.reduceEq, Int.reduceNe, Int.reduceAdd, Int.reduceSub, Int.reduceMul, Int.reduceNeg, Int.reduceToNat,  hb2]
          simp [gapV, c2, hM, fr]
        · have hM : okM 1000 f = true := (okM_last ha 1000 (by omega)).2 (by omega)
          obtain ⟨_, g1, g2, g3, g4⟩ := gap_facts c2 hs hM
          obtain ⟨e1, e2, _, _⟩ := cmn_facts c2 g1
          have hrl := remL_len ll q (cmnN f) (cmnD f)
          have hbox : h1 n = some ⟨30, [v, u], true, 0⟩ := by rw [hs1 n (by omega), upd_other (by omega), upd_same]
          have gs : ∀ k, k ≤ ll.length → _ := fun k hk => sumTo_small (n := ll.length) (k := k) (B := 1000000000000000) (C := 5000000000000000) g4 hk (by omega) (by omega)
          have gd := mul_nn (show 0 ≤ cmnD f by omega) g3 (show 0 ≤ cmnD f by omega) g3
          have gd1 := Int.mul_pos (show 0 < cmnD f by omega) (show 0 < cmnD f by omega)
          simp (maxSteps := 2000000) -implicitDefEqProofs (disch := omega) only [xsW, xsC, xsD, xsE, fillA, reduceCtorEq, Nat.reduceAdd, Nat.reduceSub, Nat.reduceLeDiff, Nat.reduceMul, Int.reduceLT, Int.reduceLE, Int.reduceEq, Int.reduceNe, Int.reduceAdd, Int.reduceSub, Int.reduceMul, Int.reduceNeg, Int.reduceToNat,  hbox]
          refine fq_use (spec_l01Remainder (s.keep (h' := h1) (fun i _ hi9 => by simp (disch := omega) only [upd_other, hs1])) hp hv1 e1 e2 (cmnD f) (by omega) n3 (by omega) (by omega)) fun v2 h2 n4 hn4 hs2 hv2 => ?_
          have hb3 : h2 (n + 1) = some ⟨49, [.int .i64 0, .int .i64 0], true, 0⟩ := by rw [hs2 (n + 1) (by omega), hb2]
          simp (maxSteps := 2000000) -implicitDefEqProofs (disch := omega) only [xsW, xsC, xsD, xsE, fillA, reduceCtorEq, Nat.reduceAdd, Nat.reduceSub, Nat.reduceLeDiff, Nat.reduceMul, Int.reduceLT, Int.reduceLE, Int.reduceEq, Int.reduceNe, Int.reduceAdd, Int.reduceSub, Int.reduceMul, Int.reduceNeg, Int.reduceToNat]
          refine loop_for ll.length 0 (fun k (_ : Unit) => [.agg [v, u], v', .ptr n 0, .any, .ptr (n + 1) 0, .int .i64 0, .any, .any, v1, .int .i64 (cmnD f), .any, v2, .int .i64 (sumTo k (gapT ll q f)), .int .i64 k, .any, .any, .any, .any, .any, .any, .any, .any, .any, .any, .any, .any, .any, .any, .any, .any, .any, .any, .any, .any, .any, .any, .any, .any, .any, .any, .any, .any, .any, .any, .any, .any, .any, .any, .any, .any, .any, .any, .any, .any, .any, .any, .any, .any, .any, .any, .any, .any, .any, .any, .any, .any, .any, .any, .any, .any, .any, .any, .any, .any, .any, .any, .any, .any, .any, .any, .any, .any, .any, .any, .any, .any, .any, .any, .any, .any, .any, .any, .any, .any, .any, .any]) (fun _ _ => h2)
            (fun _ _ _ => True) () (Nat.zero_le _) trivial (by simp [LeL, Le1, sumTo]) (fun _ _ h => h) ?_
          rintro k2 - m2 - hk2 hm2 -
          simp (maxSteps := 2000000) -implicitDefEqProofs (disch := omega) only [xsW, xsC, xsD, xsE, fillA, reduceCtorEq, Nat.reduceAdd, Nat.reduceSub, Nat.reduceLeDiff, Nat.reduceMul, Int.reduceLT, Int.reduceLE, Int.reduceEq, Int.reduceNe, Int.reduceAdd, Int.reduceSub, Int.reduceMul, Int.reduceNeg, Int.reduceToNat,  hv1.ln, e1]
          (refine cd_dec (fun c5 => ?_) (fun c5 => ?_) <;> simp (maxSteps := 2000000) -implicitDefEqProofs (disch := omega) only [xsW, xsC, xsD, xsE, fillA, reduceCtorEq, Nat.reduceAdd, Nat.reduceSub, Nat.reduceLeDiff, Nat.reduceMul, Int.reduceLT, Int.reduceLE, Int.reduceEq, Int.reduceNe, Int.reduceAdd, Int.reduceSub, Int.reduceMul, Int.reduceNeg, Int.reduceToNat,  c5])
          · have hk3 : k2 < ll.length := by omega
            have hbx := Sl.below hv1 (by rw [hv1.slen]; omega)
            have b1 := g4 k2 hk3
            have b2 := gs k2 (by omega)
            have b3 := gs (k2 + 1) (by omega)
            rw [sumTo_succ] at b3
            have et : (cmnN f).getD k2 0 * (remL ll q (cmnN f) (cmnD f)).getD k2 0 = gapT ll q f k2 := rfl
            simp (maxSteps := 2000000) -implicitDefEqProofs (disch := omega) only [xsW, xsC, xsD, xsE, fillA, reduceCtorEq, Nat.reduceAdd, Nat.reduceSub, Nat.reduceLeDiff, Nat.reduceMul, Int.reduceLT, Int.reduceLE, Int.reduceEq, Int.reduceNe, Int.reduceAdd, Int.reduceSub, Int.reduceMul, Int.reduceNeg, Int.reduceToNat,  hs2, hv1.ia, hv1.ld, e1, hv2.ia, hv2.ld, hrl]
            rw [et]
            exact ⟨(), by omega, by omega, by simp [LeL, Le1, sumTo]⟩
          · have e : k2 = ll.length := by omega
            subst e
            have e5 : sumTo ll.length (gapT ll q f) = gapS ll q f := rfl
            have b4 := gs ll.length (Nat.le_refl _)
            rw [e5] at b4 ⊢
            refine q_use (spec_l01Frac _ _ (by unfold in64; omega) (by unfold in64; omega) (by omega) _ _) fun n6 hn6 => ?_
            have er : red (gapS ll q f) (cmnD f * cmnD f) = gapR ll q f := rfl
            rw [er]
            simp (maxSteps := 2000000) -implicitDefEqProofs (disch := omega) only [xsW, xsC, xsD, xsE, fillA, reduceCtorEq, Nat.reduceAdd, Nat.reduceSub, Nat.reduceLeDiff, Nat.reduceMul, Int.reduceLT, Int.reduceLE, Int.reduceEq, Int.reduceNe, Int.reduceAdd, Int.reduceSub, Int.reduceMul, Int.reduceNeg, Int.reduceToNat,  fr]
            have sg : Fracs true (n6 + 1) (n6 + 1 + 1) (upd (upd h2 n6 (some ⟨49, [.int .i64 (gapR ll q f).1, .int .i64 (gapR ll q f).2], true, 0⟩)) (n6 + 1) (some ⟨49, [.int .i64 (gapR ll q f).1, .int .i64 (gapR ll q f).2], true, 0⟩)) (.sl (n6 + 1) 0 1 1) [gapR ll q f] :=
              Sl.of_sl (ty := 49) (op := 0) (cs := fracs [gapR ll q f]) (by rw [upd_same]; simp [fracs]) (by simp [fracs]) (Nat.le_refl _) (Nat.le_refl _) (by omega)
            have hlow : Low (gapR ll q f) := by
              obtain ⟨h3, h4⟩ := red_low (x := gapS ll q f) (d := cmnD f * cmnD f) (by omega)
              have h5 := red_nb (x := gapS ll q f) (d := cmnD f * cmnD f) (by omega)
              rw [er] at h3 h4 h5
              exact ⟨h3, h4, by unfold in64; omega, by unfold in64; omega⟩
            refine q_use (spec_l02Told sg (by simp) (fun k hk => by
              have : k = 0 := by simp at hk; exact hk
              subst this; exact hlow) _) fun n7 hn7 => ?_
            have ea : allFr [gapR ll q f] = isFr 1000000000 (gapR ll q f).1 (gapR ll q f).2 := by simp [allFr]
            rw [ea]
            cases hff : isFr 1000000000 (gapR ll q f).1 (gapR ll q f).2
            · rw [if_neg (show ¬ (false = true) by simp)]
              simp (maxSteps := 2000000) -implicitDefEqProofs (disch := omega) only [xsW, xsC, xsD, xsE, fillA, reduceCtorEq, Nat.reduceAdd, Nat.reduceSub, Nat.reduceLeDiff, Nat.reduceMul, Int.reduceLT, Int.reduceLE, Int.reduceEq, Int.reduceNe, Int.reduceAdd, Int.reduceSub, Int.reduceMul, Int.reduceNeg, Int.reduceToNat,  hb3]
              simp [gapV, c2, hs, hM, hff, fr]
            · rw [if_pos (show true = true from rfl)]
              simp (maxSteps := 2000000) -implicitDefEqProofs (disch := omega) only [xsW, xsC, xsD, xsE, fillA, reduceCtorEq, Nat.reduceAdd, Nat.reduceSub, Nat.reduceLeDiff, Nat.reduceMul, Int.reduceLT, Int.reduceLE, Int.reduceEq, Int.reduceNe, Int.reduceAdd, Int.reduceSub, Int.reduceMul, Int.reduceNeg, Int.reduceToNat,  hb3]
              simp [gapV, c2, hs, hM, hff, fr]
end
end Go.Proofs.YtkpibnhddhdooadGreat.L
