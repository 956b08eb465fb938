/- Contracts: SolutionOfSet. -/
import Derived.Test.YtkpibnhddhdooabB4
namespace Go.Proofs.Ytkpibnhddhdooab.L
open Go
set_option linter.unusedSimpArgs false
set_option linter.unusedVariables false
def c_impl_only : F := ⟨(.seq (.reg false [⟨(some 4), (.mv (.c .nilsl)), none⟩]) (.seq (.reg false [⟨(some 7), (.mv (.t 0)), none⟩, ⟨(some 8), (.call (.f 106) [(.t 7)]), none⟩, ⟨(some 5), (.mv (.t 8)), none⟩]) (.seq (.seq (.reg false [⟨(some 9), (.mv (.t 5)), none⟩, ⟨(some 10), (.len (.t 9)), none⟩, ⟨(some 11), (.mv (.c (.int .i64 0))), none⟩]) (.block 0 (.loop (.seq (.reg false [⟨(some 12), (.bin .lss (.t 11) (.t 10)), none⟩]) (.seq (.cond (.t 12) .skip (.exit 0)) (.seq (.block 1 (.seq (.reg false [⟨(some 13), (.mv (.t 11)), none⟩, ⟨(some 6), (.mv (.t 13)), none⟩]) (.seq (.reg false [⟨(some 14), (.mv (.t 1)), none⟩, ⟨(some 15), (.mv (.t 6)), none⟩, ⟨(some 16), (.call (.f 107) [(.t 14), (.t 15)]), none⟩, ⟨(some 17), (.un .not (.t 16)), none⟩]) (.cond (.t 17) (.reg false [⟨(some 18), (.mv (.t 5)), none⟩, ⟨(some 19), (.mv (.t 6)), none⟩, ⟨(some 20), (.ia 1 (.t 18) (.t 19)), none⟩, ⟨none, (.st 1 (.t 20) (.c (.int .i64 0))), none⟩]) .skip)))) (.reg false [⟨(some 21), (.bin .add (.t 11) (.c (.int .i64 1))), none⟩, ⟨(some 11), (.mv (.t 21)), none⟩]))))))) (.seq (.reg false [⟨(some 22), (.mv (.t 5)), none⟩, ⟨(some 4), (.mv (.t 22)), none⟩]) .ret)))), 23, [(.t 4)]⟩
theorem k_impl_only : compF Try.prog Try.f69 = some c_impl_only := by kernel_rfl
def c_impl_SolutionOfSet : F := ⟨(.seq (.reg false [⟨(some 2), (.box 31 (.t 0)), none⟩, ⟨(some 4), (.mv (.c .nilsl)), none⟩, ⟨(some 5), (.mv (.c (.int .i64 0))), none⟩]) (.seq (.seq (.reg false [⟨(some 10), (.ld 2 (.t 2)), none⟩, ⟨(some 11), (.mv (.t 1)), none⟩, ⟨(some 12), (.call (.f 65) [(.t 10), (.t 11)]), none⟩, ⟨(some 6), (.mv (.t 12)), none⟩]) (.seq (.reg false [⟨(some 13), (.mv (.t 6)), none⟩, ⟨(some 14), (.bin .neq (.t 13) (.c (.int .i64 0))), none⟩]) (.cond (.t 14) (.seq (.reg false [⟨(some 15), (.mv (.t 6)), none⟩, ⟨(some 4), (.mv (.c .nilsl)), none⟩, ⟨(some 5), (.mv (.t 15)), none⟩]) .ret) .skip))) (.seq (.reg false [⟨(some 17), (.ld 2 (.t 2)), none⟩, ⟨(some 18), (.mv (.t 1)), none⟩, ⟨(some 19), (.call (.f 66) [(.t 17), (.t 18)]), none⟩, ⟨(some 16), (.mv (.t 19)), none⟩, ⟨(some 20), (.ext (.t 16) 0), none⟩, ⟨(some 21), (.ext (.t 16) 1), none⟩, ⟨(some 22), (.ext (.t 16) 2), none⟩, ⟨(some 7), (.mv (.t 20)), none⟩, ⟨(some 8), (.mv (.t 21)), none⟩, ⟨(some 9), (.mv (.t 22)), none⟩]) (.seq (.seq (.reg false [⟨(some 23), (.mv (.t 9)), none⟩, ⟨(some 24), (.un .not (.t 23)), none⟩, ⟨(some 25), (.mv (.t 24)), none⟩, ⟨(some 26), (.mv (.t 7)), (some (25, false))⟩, ⟨(some 27), (.call (.f 67) [(.t 26)]), (some (25, false))⟩, ⟨(some 28), (.un .not (.t 27)), (some (25, false))⟩, ⟨(some 29), (.pick (.t 25) (.c (.bool true)) (.t 28)), none⟩]) (.cond (.t 29) (.seq (.reg false [⟨(some 4), (.mv (.c .nilsl)), none⟩, ⟨(some 5), (.mv (.c (.int .i64 5))), none⟩]) .ret) .skip)) (.seq (.reg false [⟨(some 30), (.mv (.t 7)), none⟩, ⟨(some 31), (.mv (.t 1)), none⟩, ⟨(some 32), (.call (.f 69) [(.t 30), (.t 31)]), none⟩, ⟨(some 33), (.mv (.t 8)), none⟩, ⟨(some 34), (.call (.f 68) [(.t 32), (.t 33)]), none⟩, ⟨(some 35), (.ext (.t 34) 0), none⟩, ⟨(some 36), (.ext (.t 34) 1), none⟩, ⟨(some 4), (.mv (.t 35)), none⟩, ⟨(some 5), (.mv (.t 36)), none⟩]) .ret))))), 37, [(.t 4), (.t 5)]⟩
theorem k_impl_SolutionOfSet : compF Try.prog Try.f25 = some c_impl_SolutionOfSet := by kernel_rfl
def c_spec_l02Solution : F := ⟨(.seq (.reg false [⟨(some 2), (.box 31 (.t 0)), none⟩, ⟨(some 4), (.mv (.c .nilsl)), none⟩]) (.seq (.reg false [⟨(some 9), (.ld 2 (.t 2)), none⟩, ⟨(some 10), (.mv (.t 1)), none⟩, ⟨(some 11), (.call (.f 77) [(.t 9), (.t 10)]), none⟩, ⟨(some 8), (.mv (.t 11)), none⟩, ⟨(some 12), (.ext (.t 8) 0), none⟩, ⟨(some 13), (.ext (.t 8) 1), none⟩, ⟨(some 5), (.mv (.t 12)), none⟩, ⟨(some 6), (.mv (.t 13)), none⟩]) (.seq (.seq (.reg false [⟨(some 7), (.mv (.c (.int .i64 0))), none⟩]) (.block 0 (.loop (.seq (.seq (.reg false [⟨(some 14), (.mv (.t 7)), none⟩, ⟨(some 15), (.mv (.t 5)), none⟩, ⟨(some 16), (.len (.t 15)), none⟩, ⟨(some 17), (.bin .lss (.t 14) (.t 16)), none⟩]) (.cond (.t 17) .skip (.exit 0))) (.seq (.block 1 (.seq (.reg false [⟨(some 20), (.mv (.t 1)), none⟩, ⟨(some 21), (.mv (.t 7)), none⟩, ⟨(some 22), (.cvi .u64 (.t 21)), none⟩, ⟨(some 23), (.bin .shr (.t 20) (.t 22)), none⟩, ⟨(some 24), (.bin .and (.t 23) (.c (.int .i64 1))), none⟩, ⟨(some 25), (.bin .eql (.t 24) (.c (.int .i64 0))), none⟩]) (.cond (.t 25) (.reg false [⟨(some 26), (.mv (.t 5)), none⟩, ⟨(some 27), (.mv (.t 7)), none⟩, ⟨(some 28), (.build [(.int .i64 0), (.int .i64 0)] [(0, (1, (.c (.int .i64 0)))), (1, (1, (.c (.int .i64 1))))]), none⟩, ⟨(some 29), (.ia 2 (.t 26) (.t 27)), none⟩, ⟨none, (.st 2 (.t 29) (.t 28)), none⟩]) .skip))) (.reg false [⟨(some 18), (.mv (.t 7)), none⟩, ⟨(some 19), (.bin .add (.t 18) (.c (.int .i64 1))), none⟩, ⟨(some 7), (.mv (.t 19)), none⟩])))))) (.seq (.reg false [⟨(some 30), (.mv (.t 5)), none⟩, ⟨(some 4), (.mv (.t 30)), none⟩]) .ret)))), 31, [(.t 4)]⟩
theorem k_spec_l02Solution : compF Try.prog Try.f72 = some c_spec_l02Solution := by kernel_rfl
def c_spec_l02Told : F := ⟨(.seq (.reg false [⟨(some 2), (.mv (.c .nilsl)), none⟩, ⟨(some 3), (.mv (.c (.int .i64 0))), none⟩]) (.seq (.seq (.reg false [⟨(some 4), (.mv (.c (.int .i64 0))), none⟩]) (.block 0 (.loop (.seq (.seq (.reg false [⟨(some 5), (.mv (.t 4)), none⟩, ⟨(some 6), (.mv (.t 0)), none⟩, ⟨(some 7), (.len (.t 6)), none⟩, ⟨(some 8), (.bin .lss (.t 5) (.t 7)), none⟩]) (.cond (.t 8) .skip (.exit 0))) (.seq (.block 1 (.seq (.reg false [⟨(some 11), (.mv (.t 0)), none⟩, ⟨(some 12), (.mv (.t 4)), none⟩, ⟨(some 13), (.ia 2 (.t 11) (.t 12)), none⟩, ⟨(some 14), (.fa 0 (.t 13)), none⟩, ⟨(some 15), (.ld1 (.t 14)), none⟩, ⟨(some 16), (.call (.f 92) [(.t 15), (.c (.int .i64 (-1000000000))), (.c (.int .i64 1000000000))]), none⟩, ⟨(some 17), (.un .not (.t 16)), none⟩, ⟨(some 18), (.mv (.t 17)), none⟩, ⟨(some 19), (.mv (.t 0)), (some (18, false))⟩, ⟨(some 20), (.mv (.t 4)), (some (18, false))⟩, ⟨(some 21), (.ia 2 (.t 19) (.t 20)), (some (18, false))⟩, ⟨(some 22), (.fa 1 (.t 21)), (some (18, false))⟩, ⟨(some 23), (.ld1 (.t 22)), (some (18, false))⟩, ⟨(some 24), (.bin .gtr (.t 23) (.c (.int .i64 1000000000))), (some (18, false))⟩, ⟨(some 25), (.pick (.t 18) (.c (.bool true)) (.t 24)), none⟩]) (.cond (.t 25) (.seq (.reg false [⟨(some 2), (.mv (.c .nilsl)), none⟩, ⟨(some 3), (.mv (.c (.int .i64 3))), none⟩]) .ret) .skip))) (.reg false [⟨(some 9), (.mv (.t 4)), none⟩, ⟨(some 10), (.bin .add (.t 9) (.c (.int .i64 1))), none⟩, ⟨(some 4), (.mv (.t 10)), none⟩])))))) (.seq (.reg false [⟨(some 26), (.mv (.t 0)), none⟩, ⟨(some 2), (.mv (.t 26)), none⟩, ⟨(some 3), (.mv (.c (.int .i64 0))), none⟩]) .ret))), 27, [(.t 2), (.t 3)]⟩
theorem k_spec_l02Told : compF Try.prog Try.f55 = some c_spec_l02Told := by kernel_rfl
def c_spec_SolutionOfSet : F := ⟨(.seq (.reg false [⟨(some 2), (.box 31 (.t 0)), none⟩, ⟨(some 4), (.mv (.c .nilsl)), none⟩, ⟨(some 5), (.mv (.c (.int .i64 0))), none⟩]) (.seq (.seq (.reg false [⟨(some 9), (.ld 2 (.t 2)), none⟩, ⟨(some 10), (.mv (.t 1)), none⟩, ⟨(some 11), (.call (.f 70) [(.t 9), (.t 10)]), none⟩, ⟨(some 6), (.mv (.t 11)), none⟩]) (.seq (.reg false [⟨(some 12), (.mv (.t 6)), none⟩, ⟨(some 13), (.bin .neq (.t 12) (.c (.int .i64 0))), none⟩]) (.cond (.t 13) (.seq (.reg false [⟨(some 14), (.mv (.t 6)), none⟩, ⟨(some 4), (.mv (.c .nilsl)), none⟩, ⟨(some 5), (.mv (.t 14)), none⟩]) .ret) .skip))) (.seq (.seq (.reg false [⟨(some 15), (.ld 2 (.t 2)), none⟩, ⟨(some 16), (.mv (.t 1)), none⟩, ⟨(some 17), (.call (.f 71) [(.t 15), (.t 16)]), none⟩, ⟨(some 18), (.un .not (.t 17)), none⟩]) (.cond (.t 18) (.seq (.reg false [⟨(some 4), (.mv (.c .nilsl)), none⟩, ⟨(some 5), (.mv (.c (.int .i64 5))), none⟩]) .ret) .skip)) (.seq (.reg false [⟨(some 20), (.ld 2 (.t 2)), none⟩, ⟨(some 21), (.mv (.t 1)), none⟩, ⟨(some 22), (.call (.f 72) [(.t 20), (.t 21)]), none⟩, ⟨(some 23), (.call (.f 55) [(.t 22)]), none⟩, ⟨(some 19), (.mv (.t 23)), none⟩, ⟨(some 24), (.ext (.t 19) 0), none⟩, ⟨(some 25), (.ext (.t 19) 1), none⟩, ⟨(some 7), (.mv (.t 24)), none⟩, ⟨(some 8), (.mv (.t 25)), none⟩]) (.seq (.reg false [⟨(some 26), (.mv (.t 7)), none⟩, ⟨(some 27), (.mv (.t 8)), none⟩, ⟨(some 4), (.mv (.t 26)), none⟩, ⟨(some 5), (.mv (.t 27)), none⟩]) .ret))))), 28, [(.t 4), (.t 5)]⟩
theorem k_spec_SolutionOfSet : compF Try.prog Try.f26 = some c_spec_SolutionOfSet := by kernel_rfl

def wr2 (h : AH) (i o : Nat) (cs : List AV) : AH := upd h i ((h i).map fun b => { b with cells := putA b.cells o cs })
theorem wr2_other {h : AH} {i o j : Nat} {cs : List AV} (e : j ≠ i) : wr2 h i o cs j = h j := upd_other e
theorem putA_two {z : List AV} {o : Nat} {x y : AV} (h : o + 2 ≤ z.length) : putA (putA z o [x]) (o + 1) [y] = putA z o [x, y] := by
  rw [putA_eq_set (by rw [putA_len (by omega)]; omega), putA_eq_set (by omega)]
  refine List.ext_getElem? fun i => ?_
  simp only [putA, List.getElem?_set, List.length_set, List.getElem?_append, List.length_append, List.length_take, List.length_cons, List.length_nil, List.getElem?_take, List.getElem?_drop]
  by_cases h1 : i < o
  · rw [if_neg (by omega), if_neg (by omega), if_pos (by omega), if_pos (by omega), if_pos h1]
  · by_cases h2 : i = o
    · subst h2; rw [if_neg (by omega), if_pos rfl, if_pos (by omega), if_pos (by omega), if_neg (by omega), show i - min i z.length = 0 by omega]; rfl
    · by_cases h3 : i = o + 1
      · subst h3; rw [if_pos rfl, if_pos (by omega), if_pos (by omega), if_neg (by omega), show o + 1 - min o z.length = 1 by omega]; rfl
      · rw [if_neg (by omega), if_neg (by omega), if_neg (by omega)]
        congr 1; omega
section
variable {lo hi : Nat} {h : AH} {v : AV} {l : List (Int × Int)}
theorem Fracs.st2 (s : Fracs true lo hi h v l) {k : Nat} (hk : k < l.length) {x y : Int} {n0 n : Nat} {W : Nat → Prop} (hW : ∀ i, lo ≤ i → i < hi → n0 ≤ i ∨ W i) (hn : hi ≤ n) (K : AV → AH → Nat → Prop) :
    S1 n0 W 2 (.ptr (bid v) (boff v + k * 2)) (.agg [.int .i64 x, .int .i64 y]) K h n = K .any (wr2 h (bid v) (boff v + k * 2) [.int .i64 x, .int .i64 y]) n := by
  rcases Sl.shape s with rfl | ⟨hw, _⟩ | ⟨h1, h2, h3, ⟨ty, cells, w, op⟩, hb, hw, hl, hcc⟩
  · have h0 : (0 : Nat) = l.length := Fracs.slen s
    omega
  · cases hw
  · have hw' : w = true := hw rfl
    subst hw'
    have hfl := fracs_len l
    have hl : boff v + (fracs l).length ≤ cells.length := hl
    rw [s1, hb, s2]
    simp only [wr2, hb, Option.map_some, AV.storable, AV.cells]
    refine propext ⟨fun h => h.2.2.2.2.2, fun h => ⟨by simp [AV.storable, one_int], by simp [AV.cells], by omega, by omega, hW _ h2 h3, h⟩⟩
theorem Fracs.wr2 (s : Fracs true lo hi h v l) {k : Nat} (hk : k < l.length) (x y : Int) : Fracs true lo hi (L.wr2 h (bid v) (boff v + k * 2) [.int .i64 x, .int .i64 y]) v (l.set k (x, y)) := by
  have h1 := (s.wrn hk x).wrd (k := k) (by simpa using hk) y
  have e1 : (l.set k (x, (l.getD k (0, 0)).2)).set k (((l.set k (x, (l.getD k (0, 0)).2)).getD k (0, 0)).1, y) = l.set k (x, y) := by
    rw [List.set_set, getD_set, if_pos ⟨rfl, hk⟩]
  rw [e1] at h1
  rcases Sl.shape s with rfl | ⟨hw, _⟩ | ⟨h2, h3, h4, ⟨ty, cells, w, op⟩, hb, hw, hl, hcc⟩
  · have h0 : (0 : Nat) = l.length := Fracs.slen s
    omega
  · cases hw
  · have hfl := fracs_len l
    have hl : boff v + (fracs l).length ≤ cells.length := hl
    have e2 : L.wr2 h (bid v) (boff v + k * 2) [.int .i64 x, .int .i64 y] = wr (wr h (bid v) (boff v + k * 2) (.int .i64 x)) (bid v) (boff v + k * 2 + 1) (.int .i64 y) := by
      funext i
      by_cases hi : i = bid v
      · subst hi
        simp only [L.wr2, wr, upd_same, hb, Option.map_some]
        rw [putA_two (by omega)]
      · rw [wr2_other hi, wr_other hi, wr_other hi]
    rw [e2]; exact h1
end
/-- What a set leaves of a list. -/
def onlyL (l : List Int) (a : Int) : List Int := rowOf l.length fun k => if hasB a k = true then l.getD k 0 else 0
def onlyF (l : List (Int × Int)) (a : Int) : List (Int × Int) := (List.range l.length).map fun k => if hasB a k = true then l.getD k (0, 0) else (0, 1)
theorem onlyF_len (l : List (Int × Int)) (a : Int) : (onlyF l a).length = l.length := by simp [onlyF]
theorem onlyF_get {l : List (Int × Int)} {a : Int} {k : Nat} (hk : k < l.length) : (onlyF l a).getD k (0, 0) = if hasB a k = true then l.getD k (0, 0) else (0, 1) := by
  simp [onlyF, List.getD, hk]
def solV (ll : List (List Int)) (q : List Int) (a : Int) : List (Int × Int) × Int :=
  if codeP ll q a = 0 then (if setP ll q feasT a.toNat = true then (if allFr (onlyF (ptF ll q a) a) = true then (onlyF (ptF ll q a) a, 0) else ([], 3)) else ([], 5)) else ([], codeP ll q a)
theorem solV_small (ll : List (List Int)) (q : List Int) (a : Int) : (solV ll q a).1.length ≤ 1048576 := by
  unfold solV
  split
  · rename_i hc
    have := ((isMat_iff ll).1 (isProb_facts (codeP_zero.1 hc).1).1).2.1
    split
    · split
      · simp only [onlyF_len, ptF_len]; omega
      · simp
    · simp
  · simp
theorem set_nat {n : Nat} {a : Int} (h : inSet n a = true) : ((a.toNat : Nat) : Int) = a := by
  have := of_decide_eq_true h; omega
theorem red_zero {d : Int} (hd : d ≠ 0) : red 0 d = (0, 1) := by
  simp only [red, Int.zero_mul, Int.gcd_zero_left]
  refine Prod.ext (by simp) ?_
  simp only
  exact Int.ediv_self (by omega)
theorem onlyF_sol {ll : List (List Int)} {q : List Int} {a : Int} (hd : dtS ll a ≠ 0) : ((onlyL (solL ll q a) a).map fun y => red y (dtS ll a).natAbs) = onlyF (ptF ll q a) a := by
  have h1 := ptF_sol ll q a hd
  have hl1 := solL_len ll q a
  have hl2 := ptF_len ll q a
  refine getD_ext (d := (0, 0)) (by simp [onlyL, rowOf_len, onlyF_len, hl1, hl2]) fun k hk => ?_
  simp only [List.length_map, onlyL, rowOf_len, hl1] at hk
  rw [getD_map _ _ _ 0 _ (by rw [onlyL, rowOf_len]; omega), onlyF_get (by omega), onlyL, rowOf_get (by omega)]
  have h2 : (ptF ll q a).getD k (0, 0) = red ((solL ll q a).getD k 0) (dtS ll a).natAbs := by rw [← h1, getD_map _ _ _ 0 _ (by omega)]
  split
  · exact h2.symm
  · exact red_zero (by omega)
/-- In lowest terms, told by whole words. -/
def Low (p : Int × Int) : Prop := 1 ≤ p.2 ∧ Int.gcd p.1 p.2 = 1 ∧ in64 p.1 ∧ in64 p.2
theorem red_low {x d : Int} (hd : d ≠ 0) : 1 ≤ (red x d).2 ∧ Int.gcd (red x d).1 (red x d).2 = 1 := by
  have hg : 0 < (Int.gcd x d : Int) := by have := Int.gcd_pos_of_ne_zero_right x hd; omega
  have hgd : (Int.gcd x d : Int) ∣ (d.natAbs : Int) := Int.dvd_natAbs.2 (Int.gcd_dvd_right ..)
  have e1 : Int.gcd (x * d.sign) (d.natAbs : Int) = Int.gcd x d := by
    rcases Int.lt_or_gt_of_ne hd with h | h
    · rw [Int.sign_eq_neg_one_of_neg h]; simp [Int.gcd]
    · rw [Int.sign_eq_one_of_pos h]; simp [Int.gcd]
  constructor
  · simp only [red]
    obtain ⟨c, hc⟩ := hgd
    have h2 : ((d.natAbs / Int.gcd x d : Nat) : Int) = c := by rw [Int.natCast_ediv, hc, Int.mul_ediv_cancel_left _ (by omega)]
    have h3 : 0 < (Int.gcd x d : Int) * c := by omega
    have h4 : 0 < c := by
      rcases Int.lt_or_le 0 c with h | h
      · exact h
      · have := Int.mul_le_mul_of_nonneg_left h (show 0 ≤ (Int.gcd x d : Int) by omega)
        rw [Int.mul_zero] at this; omega
    omega
  · have := Int.gcd_ediv_gcd_ediv_gcd (i := x * d.sign) (j := (d.natAbs : Int)) (by rw [e1]; omega)
    rw [e1] at this
    simpa only [red, Int.natCast_ediv] using this
theorem ptF_low {ll : List (List Int)} {q : List Int} {a : Int} (hp : isProb ll q = true) (hd : dtS ll a ≠ 0) {k : Nat} (hk : k < ll.length) : Low ((ptF ll q a).getD k (0, 0)) := by
  have h1 := ptF_b (s := a) hk hp hd
  have h2 := dtS_b hp a
  have e : (ptF ll q a).getD k (0, 0) = red (dtK ll q a k) (dtS ll a) := by rw [ptF, getD_map _ _ _ 0 _ (by rw [ptL_len]; exact hk), ptL, rowOf_get hk]
  rw [e] at h1 ⊢
  obtain ⟨h3, h4⟩ := red_low (x := dtK ll q a k) hd
  refine ⟨h3, h4, h1, ?_⟩
  have h5 : ((red (dtK ll q a k) (dtS ll a)).2 : Int) ≤ ((dtS ll a).natAbs : Int) := by
    simp only [red]
    exact Int.ofNat_le.2 (Nat.div_le_self _ _)
  unfold in64; omega
theorem onlyF_low {ll : List (List Int)} {q : List Int} {a : Int} (hp : isProb ll q = true) (hd : dtS ll a ≠ 0) {k : Nat} (hk : k < ll.length) : Low ((onlyF (ptF ll q a) a).getD k (0, 0)) := by
  rw [onlyF_get (by rw [ptF_len]; exact hk)]
  split
  · exact ptF_low hp hd hk
  · exact ⟨by decide, by decide, by unfold in64; decide, by unfold in64; decide⟩
/-- A list with the places before k that a set does not have put to nothing. -/
def stgL (l : List Int) (a : Int) (k : Nat) : List Int := rowOf l.length fun j => if j < k ∧ hasB a j = false then 0 else l.getD j 0
theorem stgL_len (l : List Int) (a : Int) (k : Nat) : (stgL l a k).length = l.length := rowOf_len _ _
theorem stgL_zero (l : List Int) (a : Int) : stgL l a 0 = l := getD_ext (d := 0) (stgL_len _ _ _) fun k hk => by
  rw [stgL, rowOf_get (by rw [stgL_len] at hk; exact hk), if_neg (by omega)]
theorem stgL_t {l : List Int} {a : Int} {k : Nat} (h : hasB a k = true) : stgL l a (k + 1) = stgL l a k := getD_ext (d := 0) (by simp [stgL_len]) fun j hj => by
  rw [stgL_len] at hj
  rw [stgL, stgL, rowOf_get hj, rowOf_get hj]
  by_cases e : j = k
  · subst e; rw [if_neg (by simp [h]), if_neg (by simp [h])]
  · by_cases e2 : j < k
    · simp [show j < k + 1 by omega, e2]
    · simp [show ¬ j < k + 1 by omega, e2]
theorem stgL_f {l : List Int} {a : Int} {k : Nat} (h : hasB a k = false) (hk : k < l.length) : stgL l a (k + 1) = (stgL l a k).set k 0 := getD_ext (d := 0) (by simp [stgL_len]) fun j hj => by
  rw [stgL_len] at hj
  rw [getD_set, stgL, stgL, rowOf_get hj, rowOf_get hj, rowOf_len]
  by_cases e : j = k
  · subst e; rw [if_pos ⟨by omega, h⟩, if_pos ⟨rfl, hk⟩]
  · rw [if_neg (c := k = j ∧ j < l.length) (fun h9 => e h9.1.symm)]
    by_cases e2 : j < k
    · simp [show j < k + 1 by omega, e2]
    · simp [show ¬ j < k + 1 by omega, e2]
theorem stgL_full (l : List Int) (a : Int) : stgL l a l.length = onlyL l a := getD_ext (d := 0) (by simp [stgL_len, onlyL, rowOf_len]) fun j hj => by
  rw [stgL_len] at hj
  rw [stgL, onlyL, rowOf_get hj, rowOf_get hj]
  cases h : hasB a j <;> simp [hj]
def stgF (l : List (Int × Int)) (a : Int) (k : Nat) : List (Int × Int) := (List.range l.length).map fun j => if j < k ∧ hasB a j = false then (0, 1) else l.getD j (0, 0)
theorem stgF_len (l : List (Int × Int)) (a : Int) (k : Nat) : (stgF l a k).length = l.length := by simp [stgF]
theorem stgF_get {l : List (Int × Int)} {a : Int} {k j : Nat} (hj : j < l.length) : (stgF l a k).getD j (0, 0) = if j < k ∧ hasB a j = false then (0, 1) else l.getD j (0, 0) := by
  simp [stgF, List.getD, hj]
theorem stgF_zero (l : List (Int × Int)) (a : Int) : stgF l a 0 = l := getD_ext (d := (0, 0)) (stgF_len _ _ _) fun k hk => by
  rw [stgF_get (by rw [stgF_len] at hk; exact hk), if_neg (by omega)]
theorem stgF_t {l : List (Int × Int)} {a : Int} {k : Nat} (h : hasB a k = true) : stgF l a (k + 1) = stgF l a k := getD_ext (d := (0, 0)) (by simp [stgF_len]) fun j hj => by
  rw [stgF_len] at hj
  rw [stgF_get hj, stgF_get hj]
  by_cases e : j = k
  · subst e; rw [if_neg (by simp [h]), if_neg (by simp [h])]
  · by_cases e2 : j < k
    · simp [show j < k + 1 by omega, e2]
    · simp [show ¬ j < k + 1 by omega, e2]
theorem stgF_f {l : List (Int × Int)} {a : Int} {k : Nat} (h : hasB a k = false) (hk : k < l.length) : stgF l a (k + 1) = (stgF l a k).set k (0, 1) := getD_ext (d := (0, 0)) (by simp [stgF_len]) fun j hj => by
  rw [stgF_len] at hj
  rw [getD_set, stgF_get hj, stgF_get hj, stgF_len]
  by_cases e : j = k
  · subst e; rw [if_pos ⟨by omega, h⟩, if_pos ⟨rfl, hk⟩]
  · rw [if_neg (c := k = j ∧ j < l.length) (fun h9 => e h9.1.symm)]
    by_cases e2 : j < k
    · simp [show j < k + 1 by omega, e2]
    · simp [show ¬ j < k + 1 by omega, e2]
theorem stgF_full (l : List (Int × Int)) (a : Int) : stgF l a l.length = onlyF l a := getD_ext (d := (0, 0)) (by simp [stgF_len, onlyF_len]) fun j hj => by
  rw [stgF_len] at hj
  rw [stgF_get hj, onlyF_get hj]
  cases h : hasB a j <;> simp [hj]
section
variable {w : Bool} {lo hi : Nat} {h : AH} {v u : AV} {vs : List AV} {ll : List (List Int)} {q : List Int} {l : List Int}
theorem impl_only (s : Ints true lo hi h v l) (hl : l.length ≤ 1048576) (a : Int) (n : Nat) (hn : hi ≤ n) :
    FQ Try.prog 69 [v, .int .i64 a] h n fun v' h' n' => Ints true n n' h' v' (onlyL l a) := by
  refine fq_intro Try.func69 k_impl_only ?_
  simp (maxSteps := 2000000) -implicitDefEqProofs (disch := omega) only [c_impl_only, xsW, xsC, if_true, if_false, ite_true, ite_false, forall_const, ne_eq, beq_self_eq_true, bne_self_eq_false, imp_self, true_implies, false_implies, implies_true, evP, evE, ev, setD, Nat.reduceAdd, Nat.reduceSub, reduceCtorEq, fillA, cutA, Nat.reduceLeDiff, Nat.reduceMul, Int.reduceLT, Int.reduceLE, Int.reduceEq, Int.reduceNe, Int.reduceAdd, Int.reduceSub, Int.reduceMul, Int.reduceNeg, Int.reduceToNat]
  refine fq_use (slices_Clone s hl n hn) fun v1 h1 n1 hn1 hs1 hv1 => ?_
  simp (maxSteps := 2000000) -implicitDefEqProofs (disch := omega) only [xsW, xsC, if_true, if_false, ite_true, ite_false, forall_const, ne_eq, beq_self_eq_true, bne_self_eq_false, imp_self, true_implies, false_implies, implies_true, evP, evE, ev, setD, Nat.reduceAdd, Nat.reduceSub, reduceCtorEq, fillA, cutA, Nat.reduceLeDiff, Nat.reduceMul, Int.reduceLT, Int.reduceLE, Int.reduceEq, Int.reduceNe, Int.reduceAdd, Int.reduceSub, Int.reduceMul, Int.reduceNeg, Int.reduceToNat,  hv1.ln]
  refine loop_for l.length 0 (fun k hp => [v, .int .i64 a, .any, .any, .nilsl, v1, .any, .any, .any, v1, .int .i64 l.length, .int .i64 k, .any, .any, .any, .any, .any, .any, .any, .any, .any, .any, .any]) (fun _ hp => hp)
    (fun k hp m => Ints true n n1 hp v1 (stgL l a k) ∧ (∀ j, j < n → hp j = h j)) h1 (Nat.zero_le _) ⟨by rw [stgL_zero]; exact hv1, hs1⟩ (by simp [LeL, Le1]) (fun _ _ h => h) ?_
  rintro k hp m - hk hm ⟨g1, g2⟩
  simp (maxSteps := 2000000) -implicitDefEqProofs (disch := omega) only [xsW, xsC, if_true, if_false, ite_true, ite_false, forall_const, ne_eq, beq_self_eq_true, bne_self_eq_false, imp_self, true_implies, false_implies, implies_true, evP, evE, ev, setD, Nat.reduceAdd, Nat.reduceSub, reduceCtorEq, fillA, cutA, Nat.reduceLeDiff, Nat.reduceMul, Int.reduceLT, Int.reduceLE, Int.reduceEq, Int.reduceNe, Int.reduceAdd, Int.reduceSub, Int.reduceMul, Int.reduceNeg, Int.reduceToNat]
  (refine cd_dec (fun c1 => ?_) (fun c1 => ?_) <;> simp (maxSteps := 2000000) -implicitDefEqProofs (disch := omega) only [xsW, xsC, if_true, if_false, ite_true, ite_false, forall_const, ne_eq, beq_self_eq_true, bne_self_eq_false, imp_self, true_implies, false_implies, implies_true, evP, evE, ev, setD, Nat.reduceAdd, Nat.reduceSub, reduceCtorEq, fillA, cutA, Nat.reduceLeDiff, Nat.reduceMul, Int.reduceLT, Int.reduceLE, Int.reduceEq, Int.reduceNe, Int.reduceAdd, Int.reduceSub, Int.reduceMul, Int.reduceNeg, Int.reduceToNat,  c1])
  · have hk2 : k < l.length := by omega
    refine q_use (impl_has _ _ _ _) fun n2 hn2 => ?_
    cases hb : hasB a k
    · have e1 := fun K => Ints.st g1 (k := k) (x := 0) (n0 := n) (n := n2) (W := none') (by rw [stgL_len]; exact hk2) (fun i a b => .inl (by omega)) (by omega) K
      have g3 := g1.wr (k := k) (by rw [stgL_len]; exact hk2) 0
      have hlen := stgL_len l a k
      have hown := Sl.below g1 (by rw [g1.slen]; omega)
      simp (maxSteps := 2000000) -implicitDefEqProofs (disch := omega) only [xsW, xsC, if_true, if_false, ite_true, ite_false, forall_const, ne_eq, beq_self_eq_true, bne_self_eq_false, imp_self, true_implies, false_implies, implies_true, evP, evE, ev, setD, Nat.reduceAdd, Nat.reduceSub, reduceCtorEq, fillA, cutA, Nat.reduceLeDiff, Nat.reduceMul, Int.reduceLT, Int.reduceLE, Int.reduceEq, Int.reduceNe, Int.reduceAdd, Int.reduceSub, Int.reduceMul, Int.reduceNeg, Int.reduceToNat,  g1.ia, e1]
      exact ⟨_, ⟨by rw [stgL_f hb hk2]; exact g3, fun j hj => (wr_other (by omega)).trans (g2 j hj)⟩, by omega, by omega, (by simp [LeL, Le1]), fun _ _ h => h⟩
    · simp (maxSteps := 2000000) -implicitDefEqProofs (disch := omega) only [xsW, xsC, if_true, if_false, ite_true, ite_false, forall_const, ne_eq, beq_self_eq_true, bne_self_eq_false, imp_self, true_implies, false_implies, implies_true, evP, evE, ev, setD, Nat.reduceAdd, Nat.reduceSub, reduceCtorEq, fillA, cutA, Nat.reduceLeDiff, Nat.reduceMul, Int.reduceLT, Int.reduceLE, Int.reduceEq, Int.reduceNe, Int.reduceAdd, Int.reduceSub, Int.reduceMul, Int.reduceNeg, Int.reduceToNat]
      exact ⟨hp, ⟨by rw [stgL_t hb]; exact g1, g2⟩, by omega, by omega, (by simp [LeL, Le1]), fun _ _ h => h⟩
  · have e : k = l.length := by omega
    subst e
    intro _ h2 hh
    rw [stgL_full] at g1
    exact (g1.keep fun i a b => hh i a (by omega)).wide (Nat.le_refl _) (by omega)
theorem impl_SolutionOfSet (s : Prob w lo hi h v u vs ll q) (hl : ll.length ≤ 1048576) (hll : ∀ l ∈ ll, l.length ≤ 1048576) (hq : q.length ≤ 1048576) (a : Int) (n : Nat) (hn : hi ≤ n) :
    FQ Try.prog 25 [.agg [v, u], .int .i64 a] h n fun x h' n' => ∃ v', x = .tup [v', .int .i64 (solV ll q a).2] ∧ Fracs true n n' h' v' (solV ll q a).1 := by
  refine fq_intro Try.func25 k_impl_SolutionOfSet ?_
  have o1 := one_any (Sl.any s.M.out)
  have o2 := one_any (Sl.any s.Q)
  simp (maxSteps := 2000000) -implicitDefEqProofs (disch := omega) only [c_impl_SolutionOfSet, o1, o2, xsW, xsC, if_true, if_false, ite_true, ite_false, forall_const, ne_eq, beq_self_eq_true, bne_self_eq_false, imp_self, true_implies, false_implies, implies_true, evP, evE, ev, setD, Nat.reduceAdd, Nat.reduceSub, reduceCtorEq, fillA, cutA, Nat.reduceLeDiff, Nat.reduceMul, Int.reduceLT, Int.reduceLE, Int.reduceEq, Int.reduceNe, Int.reduceAdd, Int.reduceSub, Int.reduceMul, Int.reduceNeg, Int.reduceToNat]
  refine q_use (impl_setCode (s.keep (fun i _ hi9 => by simp (disch := omega) only [upd_other])) hl hll hq a _ (by omega)) fun n1 hn1 => ?_
  simp (maxSteps := 2000000) -implicitDefEqProofs (disch := omega) only [xsW, xsC, if_true, if_false, ite_true, ite_false, forall_const, ne_eq, beq_self_eq_true, bne_self_eq_false, imp_self, true_implies, false_implies, implies_true, evP, evE, ev, setD, Nat.reduceAdd, Nat.reduceSub, reduceCtorEq, fillA, cutA, Nat.reduceLeDiff, Nat.reduceMul, Int.reduceLT, Int.reduceLE, Int.reduceEq, Int.reduceNe, Int.reduceAdd, Int.reduceSub, Int.reduceMul, Int.reduceNeg, Int.reduceToNat]
  (refine cd_dec (fun c1 => ?_) (fun c1 => ?_) <;> simp (maxSteps := 2000000) -implicitDefEqProofs (disch := omega) only [xsW, xsC, if_true, if_false, ite_true, ite_false, forall_const, ne_eq, beq_self_eq_true, bne_self_eq_false, imp_self, true_implies, false_implies, implies_true, evP, evE, ev, setD, Nat.reduceAdd, Nat.reduceSub, reduceCtorEq, fillA, cutA, Nat.reduceLeDiff, Nat.reduceMul, Int.reduceLT, Int.reduceLE, Int.reduceEq, Int.reduceNe, Int.reduceAdd, Int.reduceSub, Int.reduceMul, Int.reduceNeg, Int.reduceToNat,  c1])
  · intro _ h2 _
    exact ⟨.nilsl, by simp [solV, c1], by simp only [solV, if_neg c1]; exact Sl.nil⟩
  · have c2 : codeP ll q a = 0 := Decidable.not_not.1 c1
    have hp := (codeP_zero.1 c2).1
    have ha := set_nat (codeP_zero.1 c2).2
    have hN := ((isMat_iff ll).1 (isProb_facts hp).1).2.1
    refine fq_use (impl_point (s.keep (fun i _ hi9 => by simp (disch := omega) only [upd_other])) hp a n1 (by omega)) fun x1 h1 n2 hn2 hs1 hx1 => ?_
    rcases hx1 with ⟨d1, rfl⟩ | ⟨d1, v1, rfl, hv1⟩
    · have hf : setP ll q feasT a.toNat = false := by simp [setP, ha, d1]
      simp (maxSteps := 2000000) -implicitDefEqProofs (disch := omega) only [xsW, xsC, if_true, if_false, ite_true, ite_false, forall_const, ne_eq, beq_self_eq_true, bne_self_eq_false, imp_self, true_implies, false_implies, implies_true, evP, evE, ev, setD, Nat.reduceAdd, Nat.reduceSub, reduceCtorEq, fillA, cutA, Nat.reduceLeDiff, Nat.reduceMul, Int.reduceLT, Int.reduceLE, Int.reduceEq, Int.reduceNe, Int.reduceAdd, Int.reduceSub, Int.reduceMul, Int.reduceNeg, Int.reduceToNat]
      intro _ h2 _
      exact ⟨.nilsl, by simp [solV, c2, hf], by simp [solV, c2, hf]; exact Sl.nil⟩
    · have hlen := solL_len ll q a
      simp (maxSteps := 2000000) -implicitDefEqProofs (disch := omega) only [xsW, xsC, if_true, if_false, ite_true, ite_false, forall_const, ne_eq, beq_self_eq_true, bne_self_eq_false, imp_self, true_implies, false_implies, implies_true, evP, evE, ev, setD, Nat.reduceAdd, Nat.reduceSub, reduceCtorEq, fillA, cutA, Nat.reduceLeDiff, Nat.reduceMul, Int.reduceLT, Int.reduceLE, Int.reduceEq, Int.reduceNe, Int.reduceAdd, Int.reduceSub, Int.reduceMul, Int.reduceNeg, Int.reduceToNat]
      refine q_use (impl_isFeasible hv1 (by omega) n2) fun n3 hn3 => ?_
      cases hft : feasT (solL ll q a)
      · have hf : setP ll q feasT a.toNat = false := by simp [setP, ha, hft]
        simp (maxSteps := 2000000) -implicitDefEqProofs (disch := omega) only [xsW, xsC, if_true, if_false, ite_true, ite_false, forall_const, ne_eq, beq_self_eq_true, bne_self_eq_false, imp_self, true_implies, false_implies, implies_true, evP, evE, ev, setD, Nat.reduceAdd, Nat.reduceSub, reduceCtorEq, fillA, cutA, Nat.reduceLeDiff, Nat.reduceMul, Int.reduceLT, Int.reduceLE, Int.reduceEq, Int.reduceNe, Int.reduceAdd, Int.reduceSub, Int.reduceMul, Int.reduceNeg, Int.reduceToNat]
        intro _ h2 _
        exact ⟨.nilsl, by simp [solV, c2, hf], by simp [solV, c2, hf]; exact Sl.nil⟩
      · have hf : setP ll q feasT a.toNat = true := by simp [setP, ha, hft, d1]
        simp (maxSteps := 2000000) -implicitDefEqProofs (disch := omega) only [xsW, xsC, if_true, if_false, ite_true, ite_false, forall_const, ne_eq, beq_self_eq_true, bne_self_eq_false, imp_self, true_implies, false_implies, implies_true, evP, evE, ev, setD, Nat.reduceAdd, Nat.reduceSub, reduceCtorEq, fillA, cutA, Nat.reduceLeDiff, Nat.reduceMul, Int.reduceLT, Int.reduceLE, Int.reduceEq, Int.reduceNe, Int.reduceAdd, Int.reduceSub, Int.reduceMul, Int.reduceNeg, Int.reduceToNat]
        refine fq_use (impl_only hv1 (by omega) a n3 (by omega)) fun v2 h2 n4 hn4 hs2 hv2 => ?_
        simp (maxSteps := 2000000) -implicitDefEqProofs (disch := omega) only [xsW, xsC, if_true, if_false, ite_true, ite_false, forall_const, ne_eq, beq_self_eq_true, bne_self_eq_false, imp_self, true_implies, false_implies, implies_true, evP, evE, ev, setD, Nat.reduceAdd, Nat.reduceSub, reduceCtorEq, fillA, cutA, Nat.reduceLeDiff, Nat.reduceMul, Int.reduceLT, Int.reduceLE, Int.reduceEq, Int.reduceNe, Int.reduceAdd, Int.reduceSub, Int.reduceMul, Int.reduceNeg, Int.reduceToNat]
        have hol : (onlyL (solL ll q a) a).length = ll.length := by rw [onlyL, rowOf_len, hlen]
        have hdb := dtS_b hp a
        refine fq_use (impl_allReduced hv2 (by omega) (fun k hk => by
          rw [onlyL, rowOf_get (by omega)]
          have := solL_b hp a (k := k) (by omega)
          split <;> omega) ((dtS ll a).natAbs : Int) (by unfold in64; omega) (by omega) n4 (Nat.le_refl _)) fun x3 h3 n5 hn5 hs3 ⟨v3, hx3, hv3⟩ => ?_
        subst hx3
        simp (maxSteps := 2000000) -implicitDefEqProofs (disch := omega) only [xsW, xsC, if_true, if_false, ite_true, ite_false, forall_const, ne_eq, beq_self_eq_true, bne_self_eq_false, imp_self, true_implies, false_implies, implies_true, evP, evE, ev, setD, Nat.reduceAdd, Nat.reduceSub, reduceCtorEq, fillA, cutA, Nat.reduceLeDiff, Nat.reduceMul, Int.reduceLT, Int.reduceLE, Int.reduceEq, Int.reduceNe, Int.reduceAdd, Int.reduceSub, Int.reduceMul, Int.reduceNeg, Int.reduceToNat]
        intro _ h4 hh
        rw [onlyF_sol d1] at hv3 ⊢
        rw [← allFr] at hv3 ⊢
        refine ⟨v3, ?_, ?_⟩
        · cases hff : allFr (onlyF (ptF ll q a) a) <;> simp [solV, c2, hf, hff]
        · have e : (solV ll q a).1 = if allFr (onlyF (ptF ll q a) a) = true then onlyF (ptF ll q a) a else [] := by cases hff : allFr (onlyF (ptF ll q a) a) <;> simp [solV, c2, hf, hff]
          rw [e]
          exact (hv3.keep fun i a b => hh i (by omega) b).wide (by omega) (Nat.le_refl _)
theorem spec_l02Solution (s : Prob w lo hi h v u vs ll q) (hp : isProb ll q = true) (a : Int) (hd : dtS ll a ≠ 0) (ha : inSet ll.length a = true) (n : Nat) (hn : hi ≤ n) :
    FQ Try.prog 72 [.agg [v, u], .int .i64 a] h n fun v' h' n' => Fracs true n n' h' v' (onlyF (ptF ll q a) a) := by
  refine fq_intro Try.func72 k_spec_l02Solution ?_
  have o1 := one_any (Sl.any s.M.out)
  have o2 := one_any (Sl.any s.Q)
  have hN := ((isMat_iff ll).1 (isProb_facts hp).1).2.1
  have hpl := ptF_len ll q a
  simp (maxSteps := 2000000) -implicitDefEqProofs (disch := omega) only [c_spec_l02Solution, o1, o2, xsW, xsC, if_true, if_false, ite_true, ite_false, forall_const, ne_eq, beq_self_eq_true, bne_self_eq_false, imp_self, true_implies, false_implies, implies_true, evP, evE, ev, setD, Nat.reduceAdd, Nat.reduceSub, reduceCtorEq, fillA, cutA, Nat.reduceLeDiff, Nat.reduceMul, Int.reduceLT, Int.reduceLE, Int.reduceEq, Int.reduceNe, Int.reduceAdd, Int.reduceSub, Int.reduceMul, Int.reduceNeg, Int.reduceToNat]
  refine fq_use (spec_l01Point (s.keep (fun i _ hi9 => by simp (disch := omega) only [upd_other])) hp a _ (by omega)) fun x1 h1 n1 hn1 hs1 hx1 => ?_
  rcases hx1 with ⟨d1, rfl⟩ | ⟨d1, v1, rfl, hv1⟩
  · exact absurd d1 hd
  · simp (maxSteps := 2000000) -implicitDefEqProofs (disch := omega) only [xsW, xsC, if_true, if_false, ite_true, ite_false, forall_const, ne_eq, beq_self_eq_true, bne_self_eq_false, imp_self, true_implies, false_implies, implies_true, evP, evE, ev, setD, Nat.reduceAdd, Nat.reduceSub, reduceCtorEq, fillA, cutA, Nat.reduceLeDiff, Nat.reduceMul, Int.reduceLT, Int.reduceLE, Int.reduceEq, Int.reduceNe, Int.reduceAdd, Int.reduceSub, Int.reduceMul, Int.reduceNeg, Int.reduceToNat]
    refine loop_for ll.length 0 (fun k hp => [.agg [v, u], .int .i64 a, .ptr n 0, .any, .nilsl, v1, .bool true, .int .i64 k, .any, .any, .any, .any, .any, .any, .any, .any, .any, .any, .any, .any, .any, .any, .any, .any, .any, .any, .any, .any, .any, .any, .any]) (fun _ hp => hp)
      (fun k hp m => Fracs true (n + 1) n1 hp v1 (stgF (ptF ll q a) a k)) h1 (Nat.zero_le _) (by rw [stgF_zero]; exact hv1) (by simp [LeL, Le1]) (fun _ _ h => h) ?_
    rintro k hp' m - hk hm g1
    have hlen := stgF_len (ptF ll q a) a k
    simp (maxSteps := 2000000) -implicitDefEqProofs (disch := omega) only [xsW, xsC, if_true, if_false, ite_true, ite_false, forall_const, ne_eq, beq_self_eq_true, bne_self_eq_false, imp_self, true_implies, false_implies, implies_true, evP, evE, ev, setD, Nat.reduceAdd, Nat.reduceSub, reduceCtorEq, fillA, cutA, Nat.reduceLeDiff, Nat.reduceMul, Int.reduceLT, Int.reduceLE, Int.reduceEq, Int.reduceNe, Int.reduceAdd, Int.reduceSub, Int.reduceMul, Int.reduceNeg, Int.reduceToNat,  g1.ln, hlen, hpl, bitf]
    (refine cd_dec (fun c1 => ?_) (fun c1 => ?_) <;> simp (maxSteps := 2000000) -implicitDefEqProofs (disch := omega) only [xsW, xsC, if_true, if_false, ite_true, ite_false, forall_const, ne_eq, beq_self_eq_true, bne_self_eq_false, imp_self, true_implies, false_implies, implies_true, evP, evE, ev, setD, Nat.reduceAdd, Nat.reduceSub, reduceCtorEq, fillA, cutA, Nat.reduceLeDiff, Nat.reduceMul, Int.reduceLT, Int.reduceLE, Int.reduceEq, Int.reduceNe, Int.reduceAdd, Int.reduceSub, Int.reduceMul, Int.reduceNeg, Int.reduceToNat,  c1])
    · have hk2 : k < ll.length := by omega
      by_cases hb : bitI a k = 0
      · have hb' : hasB a k = false := hasB_f.2 hb
        have e1 := fun K => Fracs.st2 g1 (k := k) (x := 0) (y := 1) (n0 := n) (n := m) (W := none') (by omega) (fun i a b => .inl (by omega)) (by omega) K
        have g3 := g1.wr2 (k := k) (by omega) 0 1
        simp (maxSteps := 2000000) -implicitDefEqProofs (disch := omega) only [xsW, xsC, if_true, if_false, ite_true, ite_false, forall_const, ne_eq, beq_self_eq_true, bne_self_eq_false, imp_self, true_implies, false_implies, implies_true, evP, evE, ev, setD, Nat.reduceAdd, Nat.reduceSub, reduceCtorEq, fillA, cutA, Nat.reduceLeDiff, Nat.reduceMul, Int.reduceLT, Int.reduceLE, Int.reduceEq, Int.reduceNe, Int.reduceAdd, Int.reduceSub, Int.reduceMul, Int.reduceNeg, Int.reduceToNat,  g1.ia, e1, bitf, hb, hlen, hpl]
        exact ⟨_, by rw [stgF_f hb' (by omega)]; exact g3, by omega, by omega, (by simp [LeL, Le1]), fun _ _ h => h⟩
      · have hb' : hasB a k = true := hasB_t.2 ((bitI_or a k).resolve_left hb)
        simp (maxSteps := 2000000) -implicitDefEqProofs (disch := omega) only [xsW, xsC, if_true, if_false, ite_true, ite_false, forall_const, ne_eq, beq_self_eq_true, bne_self_eq_false, imp_self, true_implies, false_implies, implies_true, evP, evE, ev, setD, Nat.reduceAdd, Nat.reduceSub, reduceCtorEq, fillA, cutA, Nat.reduceLeDiff, Nat.reduceMul, Int.reduceLT, Int.reduceLE, Int.reduceEq, Int.reduceNe, Int.reduceAdd, Int.reduceSub, Int.reduceMul, Int.reduceNeg, Int.reduceToNat,  bitf, hb]
        exact ⟨hp', by rw [stgF_t hb']; exact g1, by omega, by omega, (by simp [LeL, Le1]), fun _ _ h => h⟩
    · have e : k = (ptF ll q a).length := by omega
      rw [e, stgF_full] at g1
      intro _ h2 hh
      exact (g1.keep fun i a b => hh i (by omega) (by omega)).wide (by omega) (by omega)
theorem spec_l02Told {f : List (Int × Int)} (s : Fracs w lo hi h v f) (hl : f.length ≤ 1048576) (hf : ∀ k, k < f.length → Low (f.getD k (0, 0))) (n : Nat) :
    Q Try.prog 55 [v] h n (if allFr f = true then .tup [v, .int .i64 0] else .tup [.nilsl, .int .i64 3]) := by
  refine q_intro Try.func55 k_spec_l02Told ?_
  simp (maxSteps := 2000000) -implicitDefEqProofs (disch := omega) only [c_spec_l02Told, xsW, xsC, if_true, if_false, ite_true, ite_false, forall_const, ne_eq, beq_self_eq_true, bne_self_eq_false, imp_self, true_implies, false_implies, implies_true, evP, evE, ev, setD, Nat.reduceAdd, Nat.reduceSub, reduceCtorEq, fillA, cutA, Nat.reduceLeDiff, Nat.reduceMul, Int.reduceLT, Int.reduceLE, Int.reduceEq, Int.reduceNe, Int.reduceAdd, Int.reduceSub, Int.reduceMul, Int.reduceNeg, Int.reduceToNat]
  refine loop_for f.length 0 (fun k (_ : Unit) => [v, .any, .nilsl, .int .i64 0, .int .i64 k, .any, .any, .any, .any, .any, .any, .any, .any, .any, .any, .any, .any, .any, .any, .any, .any, .any, .any, .any, .any, .any, .any]) (fun _ _ => h)
    (fun k _ m => ∀ j, j < k → isFr 1000000000 (f.getD j (0, 0)).1 (f.getD j (0, 0)).2 = true) () (Nat.zero_le _) (fun j hj => absurd hj (Nat.not_lt_zero _)) (by simp [LeL, Le1]) (fun _ _ h => h) ?_
  rintro k - m - hk hm hall
  simp (maxSteps := 2000000) -implicitDefEqProofs (disch := omega) only [xsW, xsC, if_true, if_false, ite_true, ite_false, forall_const, ne_eq, beq_self_eq_true, bne_self_eq_false, imp_self, true_implies, false_implies, implies_true, evP, evE, ev, setD, Nat.reduceAdd, Nat.reduceSub, reduceCtorEq, fillA, cutA, Nat.reduceLeDiff, Nat.reduceMul, Int.reduceLT, Int.reduceLE, Int.reduceEq, Int.reduceNe, Int.reduceAdd, Int.reduceSub, Int.reduceMul, Int.reduceNeg, Int.reduceToNat,  s.ln]
  (refine cd_dec (fun c1 => ?_) (fun c1 => ?_) <;> simp (maxSteps := 2000000) -implicitDefEqProofs (disch := omega) only [xsW, xsC, if_true, if_false, ite_true, ite_false, forall_const, ne_eq, beq_self_eq_true, bne_self_eq_false, imp_self, true_implies, false_implies, implies_true, evP, evE, ev, setD, Nat.reduceAdd, Nat.reduceSub, reduceCtorEq, fillA, cutA, Nat.reduceLeDiff, Nat.reduceMul, Int.reduceLT, Int.reduceLE, Int.reduceEq, Int.reduceNe, Int.reduceAdd, Int.reduceSub, Int.reduceMul, Int.reduceNeg, Int.reduceToNat,  c1])
  · have hk2 : k < f.length := by omega
    obtain ⟨b1, b2, b3, b4⟩ := hf k hk2
    have bad : ¬ ((-1000000000 ≤ (f.getD k (0, 0)).1 ∧ (f.getD k (0, 0)).1 ≤ 1000000000) ∧ (f.getD k (0, 0)).2 ≤ 1000000000) → allFr f = false := fun hb => by
      cases hx : allFr f
      · rfl
      · have := (allFr_iff f).1 hx k hk2
        simp only [isFr, decide_eq_true_eq] at this
        omega
    simp (maxSteps := 2000000) -implicitDefEqProofs (disch := omega) only [xsW, xsC, if_true, if_false, ite_true, ite_false, forall_const, ne_eq, beq_self_eq_true, bne_self_eq_false, imp_self, true_implies, false_implies, implies_true, evP, evE, ev, setD, Nat.reduceAdd, Nat.reduceSub, reduceCtorEq, fillA, cutA, Nat.reduceLeDiff, Nat.reduceMul, Int.reduceLT, Int.reduceLE, Int.reduceEq, Int.reduceNe, Int.reduceAdd, Int.reduceSub, Int.reduceMul, Int.reduceNeg, Int.reduceToNat,  s.ia, s.ldn]
    refine q_use (spec_l01In _ _ _ _ _) fun n3 hn3 => ?_
    simp (maxSteps := 2000000) -implicitDefEqProofs (disch := omega) only [xsW, xsC, if_true, if_false, ite_true, ite_false, forall_const, ne_eq, beq_self_eq_true, bne_self_eq_false, imp_self, true_implies, false_implies, implies_true, evP, evE, ev, setD, Nat.reduceAdd, Nat.reduceSub, reduceCtorEq, fillA, cutA, Nat.reduceLeDiff, Nat.reduceMul, Int.reduceLT, Int.reduceLE, Int.reduceEq, Int.reduceNe, Int.reduceAdd, Int.reduceSub, Int.reduceMul, Int.reduceNeg, Int.reduceToNat]
    (refine gd_dec (fun c2 => ?_) (fun c2 => ?_) <;> simp (maxSteps := 2000000) -implicitDefEqProofs (disch := omega) only [xsW, xsC, if_true, if_false, ite_true, ite_false, forall_const, ne_eq, beq_self_eq_true, bne_self_eq_false, imp_self, true_implies, false_implies, implies_true, evP, evE, ev, setD, Nat.reduceAdd, Nat.reduceSub, reduceCtorEq, fillA, cutA, Nat.reduceLeDiff, Nat.reduceMul, Int.reduceLT, Int.reduceLE, Int.reduceEq, Int.reduceNe, Int.reduceAdd, Int.reduceSub, Int.reduceMul, Int.reduceNeg, Int.reduceToNat,  c2])
    · simp [bad (by omega)]
    · simp (maxSteps := 2000000) -implicitDefEqProofs (disch := omega) only [xsW, xsC, if_true, if_false, ite_true, ite_false, forall_const, ne_eq, beq_self_eq_true, bne_self_eq_false, imp_self, true_implies, false_implies, implies_true, evP, evE, ev, setD, Nat.reduceAdd, Nat.reduceSub, reduceCtorEq, fillA, cutA, Nat.reduceLeDiff, Nat.reduceMul, Int.reduceLT, Int.reduceLE, Int.reduceEq, Int.reduceNe, Int.reduceAdd, Int.reduceSub, Int.reduceMul, Int.reduceNeg, Int.reduceToNat,  s.ia, s.ldd]
      (refine cd_dec (fun c3 => ?_) (fun c3 => ?_) <;> simp (maxSteps := 2000000) -implicitDefEqProofs (disch := omega) only [xsW, xsC, if_true, if_false, ite_true, ite_false, forall_const, ne_eq, beq_self_eq_true, bne_self_eq_false, imp_self, true_implies, false_implies, implies_true, evP, evE, ev, setD, Nat.reduceAdd, Nat.reduceSub, reduceCtorEq, fillA, cutA, Nat.reduceLeDiff, Nat.reduceMul, Int.reduceLT, Int.reduceLE, Int.reduceEq, Int.reduceNe, Int.reduceAdd, Int.reduceSub, Int.reduceMul, Int.reduceNeg, Int.reduceToNat,  c3])
      · simp [bad (by omega)]
      · exact ⟨(), fun j hj => (Nat.lt_succ_iff_lt_or_eq.1 hj).elim (hall j) (fun e => by
          rw [e]; simp only [isFr, decide_eq_true_eq]; omega), by omega, by omega, (by simp [LeL, Le1])⟩
  · have hyes : allFr f = true := (allFr_iff f).2 fun j hj => hall j (by omega)
    simp [hyes]
theorem spec_SolutionOfSet (s : Prob w lo hi h v u vs ll q) (hl : ll.length ≤ 1048576) (hll : ∀ l ∈ ll, l.length ≤ 1048576) (hq : q.length ≤ 1048576) (a : Int) (n : Nat) (hn : hi ≤ n) :
    FQ Try.prog 26 [.agg [v, u], .int .i64 a] h n fun x h' n' => ∃ v', x = .tup [v', .int .i64 (solV ll q a).2] ∧ Fracs true n n' h' v' (solV ll q a).1 := by
  refine fq_intro Try.func26 k_spec_SolutionOfSet ?_
  have o1 := one_any (Sl.any s.M.out)
  have o2 := one_any (Sl.any s.Q)
  simp (maxSteps := 2000000) -implicitDefEqProofs (disch := omega) only [c_spec_SolutionOfSet, o1, o2, xsW, xsC, if_true, if_false, ite_true, ite_false, forall_const, ne_eq, beq_self_eq_true, bne_self_eq_false, imp_self, true_implies, false_implies, implies_true, evP, evE, ev, setD, Nat.reduceAdd, Nat.reduceSub, reduceCtorEq, fillA, cutA, Nat.reduceLeDiff, Nat.reduceMul, Int.reduceLT, Int.reduceLE, Int.reduceEq, Int.reduceNe, Int.reduceAdd, Int.reduceSub, Int.reduceMul, Int.reduceNeg, Int.reduceToNat]
  refine q_use (spec_l02Code (s.keep (fun i _ hi9 => by simp (disch := omega) only [upd_other])) hl hll hq a _ (by omega)) fun n1 hn1 => ?_
  simp (maxSteps := 2000000) -implicitDefEqProofs (disch := omega) only [xsW, xsC, if_true, if_false, ite_true, ite_false, forall_const, ne_eq, beq_self_eq_true, bne_self_eq_false, imp_self, true_implies, false_implies, implies_true, evP, evE, ev, setD, Nat.reduceAdd, Nat.reduceSub, reduceCtorEq, fillA, cutA, Nat.reduceLeDiff, Nat.reduceMul, Int.reduceLT, Int.reduceLE, Int.reduceEq, Int.reduceNe, Int.reduceAdd, Int.reduceSub, Int.reduceMul, Int.reduceNeg, Int.reduceToNat]
  (refine cd_dec (fun c1 => ?_) (fun c1 => ?_) <;> simp (maxSteps := 2000000) -implicitDefEqProofs (disch := omega) only [xsW, xsC, if_true, if_false, ite_true, ite_false, forall_const, ne_eq, beq_self_eq_true, bne_self_eq_false, imp_self, true_implies, false_implies, implies_true, evP, evE, ev, setD, Nat.reduceAdd, Nat.reduceSub, reduceCtorEq, fillA, cutA, Nat.reduceLeDiff, Nat.reduceMul, Int.reduceLT, Int.reduceLE, Int.reduceEq, Int.reduceNe, Int.reduceAdd, Int.reduceSub, Int.reduceMul, Int.reduceNeg, Int.reduceToNat,  c1])
  · intro _ h2 _
    exact ⟨.nilsl, by simp [solV, c1], by simp only [solV, if_neg c1]; exact Sl.nil⟩
  · have c2 : codeP ll q a = 0 := Decidable.not_not.1 c1
    have hp := (codeP_zero.1 c2).1
    have hin := (codeP_zero.1 c2).2
    have ha := set_nat hin
    have hN := ((isMat_iff ll).1 (isProb_facts hp).1).2.1
    have hF := spec_l02Feasible (s.keep (h' := upd h n (some ⟨31, [v, u], true, 0⟩)) (fun i _ hi9 => by simp (disch := omega) only [upd_other])) hp a.toNat n1 (by omega)
    rw [ha] at hF
    refine q_use hF fun n2 hn2 => ?_
    cases hf : setP ll q feasT a.toNat
    · simp (maxSteps := 2000000) -implicitDefEqProofs (disch := omega) only [xsW, xsC, if_true, if_false, ite_true, ite_false, forall_const, ne_eq, beq_self_eq_true, bne_self_eq_false, imp_self, true_implies, false_implies, implies_true, evP, evE, ev, setD, Nat.reduceAdd, Nat.reduceSub, reduceCtorEq, fillA, cutA, Nat.reduceLeDiff, Nat.reduceMul, Int.reduceLT, Int.reduceLE, Int.reduceEq, Int.reduceNe, Int.reduceAdd, Int.reduceSub, Int.reduceMul, Int.reduceNeg, Int.reduceToNat]
      intro _ h2 _
      exact ⟨.nilsl, by simp [solV, c2, hf], by simp [solV, c2, hf]; exact Sl.nil⟩
    · have hd : dtS ll a ≠ 0 := by
        have := hf
        simp only [setP, Bool.and_eq_true, decide_eq_true_eq, ha] at this
        exact this.1
      simp (maxSteps := 2000000) -implicitDefEqProofs (disch := omega) only [xsW, xsC, if_true, if_false, ite_true, ite_false, forall_const, ne_eq, beq_self_eq_true, bne_self_eq_false, imp_self, true_implies, false_implies, implies_true, evP, evE, ev, setD, Nat.reduceAdd, Nat.reduceSub, reduceCtorEq, fillA, cutA, Nat.reduceLeDiff, Nat.reduceMul, Int.reduceLT, Int.reduceLE, Int.reduceEq, Int.reduceNe, Int.reduceAdd, Int.reduceSub, Int.reduceMul, Int.reduceNeg, Int.reduceToNat]
      refine fq_use (spec_l02Solution (s.keep (fun i _ hi9 => by simp (disch := omega) only [upd_other])) hp a hd hin n2 (by omega)) fun v1 h1 n3 hn3 hs1 hv1 => ?_
      simp (maxSteps := 2000000) -implicitDefEqProofs (disch := omega) only [xsW, xsC, if_true, if_false, ite_true, ite_false, forall_const, ne_eq, beq_self_eq_true, bne_self_eq_false, imp_self, true_implies, false_implies, implies_true, evP, evE, ev, setD, Nat.reduceAdd, Nat.reduceSub, reduceCtorEq, fillA, cutA, Nat.reduceLeDiff, Nat.reduceMul, Int.reduceLT, Int.reduceLE, Int.reduceEq, Int.reduceNe, Int.reduceAdd, Int.reduceSub, Int.reduceMul, Int.reduceNeg, Int.reduceToNat]
      have hol : (onlyF (ptF ll q a) a).length = ll.length := by rw [onlyF_len, ptF_len]
      refine q_use (spec_l02Told hv1 (by omega) (fun k hk => onlyF_low hp hd (by omega)) n3) fun n4 hn4 => ?_
      cases hff : allFr (onlyF (ptF ll q a) a)
      · simp (maxSteps := 2000000) -implicitDefEqProofs (disch := omega) only [xsW, xsC, if_true, if_false, ite_true, ite_false, forall_const, ne_eq, beq_self_eq_true, bne_self_eq_false, imp_self, true_implies, false_implies, implies_true, evP, evE, ev, setD, Nat.reduceAdd, Nat.reduceSub, reduceCtorEq, fillA, cutA, Nat.reduceLeDiff, Nat.reduceMul, Int.reduceLT, Int.reduceLE, Int.reduceEq, Int.reduceNe, Int.reduceAdd, Int.reduceSub, Int.reduceMul, Int.reduceNeg, Int.reduceToNat]
        intro _ h2 _
        exact ⟨.nilsl, by simp [solV, c2, hf, hff], by simp [solV, c2, hf, hff]; exact Sl.nil⟩
      · simp (maxSteps := 2000000) -implicitDefEqProofs (disch := omega) only [xsW, xsC, if_true, if_false, ite_true, ite_false, forall_const, ne_eq, beq_self_eq_true, bne_self_eq_false, imp_self, true_implies, false_implies, implies_true, evP, evE, ev, setD, Nat.reduceAdd, Nat.reduceSub, reduceCtorEq, fillA, cutA, Nat.reduceLeDiff, Nat.reduceMul, Int.reduceLT, Int.reduceLE, Int.reduceEq, Int.reduceNe, Int.reduceAdd, Int.reduceSub, Int.reduceMul, Int.reduceNeg, Int.reduceToNat]
        intro _ h2 hh
        have e : solV ll q a = (onlyF (ptF ll q a) a, 0) := by simp [solV, c2, hf, hff]
        rw [e]
        exact ⟨v1, by simp, (hv1.keep fun i a b => hh i (by omega) (by omega)).wide (by omega) (by omega)⟩
end
end Go.Proofs.Ytkpibnhddhdooab.L
/- Contracts: points of fractions brought to one denominator. -/
namespace Go.Proofs.Ytkpibnhddhdooab.L
open Go
set_option linter.unusedSimpArgs false
set_option linter.unusedVariables false
def c_impl_fracsCode : F := ⟨(.seq (.reg false [⟨(some 2), (.box 31 (.t 0)), none⟩, ⟨(some 4), (.mv (.c (.int .i64 0))), none⟩]) (.seq (.block 0 (.seq (.reg false [⟨(some 6), (.ld 2 (.t 2)), none⟩, ⟨(some 7), (.call (.f 101) [(.t 6)]), none⟩, ⟨(some 8), (.un .not (.t 7)), none⟩, ⟨(some 9), (.mv (.t 8)), none⟩, ⟨(some 10), (.mv (.t 1)), (some (9, false))⟩, ⟨(some 11), (.call (.f 119) [(.t 10)]), (some (9, false))⟩, ⟨(some 12), (.un .not (.t 11)), (some (9, false))⟩, ⟨(some 13), (.pick (.t 9) (.c (.bool true)) (.t 12)), none⟩, ⟨(some 5), (.mv (.t 13)), none⟩]) (.cond (.t 5) (.seq (.reg false [⟨(some 4), (.mv (.c (.int .i64 1))), none⟩]) .ret) (.seq (.reg false [⟨(some 15), (.mv (.t 1)), none⟩, ⟨(some 16), (.len (.t 15)), none⟩, ⟨(some 17), (.fa 1 (.t 2)), none⟩, ⟨(some 18), (.ld1 (.t 17)), none⟩, ⟨(some 19), (.len (.t 18)), none⟩, ⟨(some 20), (.bin .neq (.t 16) (.t 19)), none⟩, ⟨(some 14), (.mv (.t 20)), none⟩]) (.cond (.t 14) (.seq (.reg false [⟨(some 4), (.mv (.c (.int .i64 2))), none⟩]) .ret) .skip))))) (.seq (.reg false [⟨(some 4), (.mv (.c (.int .i64 0))), none⟩]) .ret))), 21, [(.t 4)]⟩
theorem k_impl_fracsCode : compF Try.prog Try.f81 = some c_impl_fracsCode := by kernel_rfl
def c_impl_together : F := ⟨(.seq (.reg false [⟨(some 6), (.mv (.c .nilsl)), none⟩, ⟨(some 7), (.mv (.c (.int .i64 0))), none⟩, ⟨(some 8), (.mv (.c (.bool false))), none⟩]) (.seq (.reg false [⟨(some 9), (.mv (.c (.int .i64 1))), none⟩]) (.seq (.seq (.reg false [⟨(some 16), (.mv (.t 0)), none⟩, ⟨(some 17), (.len (.t 16)), none⟩, ⟨(some 18), (.mv (.c (.int .i64 0))), none⟩]) (.block 0 (.loop (.seq (.reg false [⟨(some 19), (.bin .lss (.t 18) (.t 17)), none⟩]) (.seq (.cond (.t 19) .skip (.exit 0)) (.seq (.block 1 (.seq (.reg false [⟨(some 20), (.ia 2 (.t 16) (.t 18)), none⟩, ⟨(some 21), (.ld 2 (.t 20)), none⟩, ⟨(some 11), (.alloc 60 [(.int .i64 0), (.int .i64 0)]), none⟩, ⟨none, (.st 2 (.t 11) (.t 21)), none⟩]) (.seq (.reg true [⟨(some 22), (.mv (.t 9)), none⟩, ⟨(some 23), (.mv (.t 9)), none⟩, ⟨(some 24), (.fa 1 (.t 11)), none⟩, ⟨(some 25), (.ld1 (.t 24)), none⟩, ⟨(some 28), (.fa 1 (.t 11)), none⟩, ⟨(some 29), (.ld1 (.t 28)), none⟩, ⟨(some 26), (.call (.f 120) [(.t 23), (.t 25)]), none⟩, ⟨(some 27), (.bin .quo (.t 22) (.t 26)), none⟩, ⟨(some 30), (.bin .mul (.t 27) (.t 29)), none⟩, ⟨(some 9), (.mv (.t 30)), none⟩]) (.seq (.reg false [⟨(some 31), (.mv (.t 9)), none⟩, ⟨(some 32), (.mv (.t 1)), none⟩, ⟨(some 33), (.bin .gtr (.t 31) (.t 32)), none⟩]) (.cond (.t 33) (.seq (.reg false [⟨(some 6), (.mv (.c .nilsl)), none⟩, ⟨(some 7), (.mv (.c (.int .i64 0))), none⟩, ⟨(some 8), (.mv (.c (.bool false))), none⟩]) .ret) .skip))))) (.reg false [⟨(some 34), (.bin .add (.t 18) (.c (.int .i64 1))), none⟩, ⟨(some 18), (.mv (.t 34)), none⟩]))))))) (.seq (.reg false [⟨(some 12), (.mv (.c .nilsl)), none⟩]) (.seq (.seq (.reg false [⟨(some 35), (.mv (.t 0)), none⟩, ⟨(some 36), (.len (.t 35)), none⟩, ⟨(some 37), (.mv (.c (.int .i64 0))), none⟩]) (.block 2 (.loop (.seq (.reg false [⟨(some 38), (.bin .lss (.t 37) (.t 36)), none⟩]) (.seq (.cond (.t 38) .skip (.exit 2)) (.seq (.block 3 (.seq (.reg false [⟨(some 39), (.ia 2 (.t 35) (.t 37)), none⟩, ⟨(some 40), (.ld 2 (.t 39)), none⟩, ⟨(some 14), (.alloc 60 [(.int .i64 0), (.int .i64 0)]), none⟩, ⟨none, (.st 2 (.t 14) (.t 40)), none⟩]) (.seq (.reg true [⟨(some 41), (.fa 0 (.t 14)), none⟩, ⟨(some 42), (.ld1 (.t 41)), none⟩, ⟨(some 43), (.mv (.t 9)), none⟩, ⟨(some 44), (.fa 1 (.t 14)), none⟩, ⟨(some 45), (.ld1 (.t 44)), none⟩, ⟨(some 46), (.bin .quo (.t 43) (.t 45)), none⟩, ⟨(some 47), (.bin .mul (.t 42) (.t 46)), none⟩, ⟨(some 15), (.mv (.t 47)), none⟩]) (.seq (.seq (.reg false [⟨(some 48), (.mv (.t 15)), none⟩, ⟨(some 49), (.mv (.t 2)), none⟩, ⟨(some 50), (.call (.f 121) [(.t 48), (.t 49)]), none⟩, ⟨(some 51), (.un .not (.t 50)), none⟩]) (.cond (.t 51) (.seq (.reg false [⟨(some 6), (.mv (.c .nilsl)), none⟩, ⟨(some 7), (.mv (.c (.int .i64 0))), none⟩, ⟨(some 8), (.mv (.c (.bool false))), none⟩]) .ret) .skip)) (.reg false [⟨(some 52), (.mv (.t 12)), none⟩, ⟨(some 53), (.mv (.t 15)), none⟩, ⟨(some 54), (.lit 2 1 1 [(.int .i64 0)] [(0, (.t 53))]), none⟩, ⟨(some 55), (.app 2 1 8 [(.int .i64 0)] (.t 52) (.t 54)), none⟩, ⟨(some 12), (.mv (.t 55)), none⟩]))))) (.reg false [⟨(some 56), (.bin .add (.t 37) (.c (.int .i64 1))), none⟩, ⟨(some 37), (.mv (.t 56)), none⟩]))))))) (.seq (.reg false [⟨(some 57), (.mv (.t 12)), none⟩, ⟨(some 58), (.mv (.t 9)), none⟩, ⟨(some 6), (.mv (.t 57)), none⟩, ⟨(some 7), (.mv (.t 58)), none⟩, ⟨(some 8), (.mv (.c (.bool true))), none⟩]) .ret)))))), 59, [(.t 6), (.t 7), (.t 8)]⟩
theorem k_impl_together : compF Try.prog Try.f82 = some c_impl_together := by kernel_rfl
/-- The least common multiple of the first denominators. -/
def dkF (f : List (Int × Int)) : Nat → Int
  | 0 => 1
  | k + 1 => (dkF f k).tdiv (Int.gcd (dkF f k) (f.getD k (0, 0)).2 : Int) * (f.getD k (0, 0)).2
def okD (f : List (Int × Int)) : Bool := (List.range f.length).all fun k => decide (dkF f (k + 1) ≤ 1000000000)
def cmnD (f : List (Int × Int)) : Int := dkF f f.length
def cmnX (f : List (Int × Int)) (k : Nat) : Int := (f.getD k (0, 0)).1 * (cmnD f).tdiv (f.getD k (0, 0)).2
def cmnN (f : List (Int × Int)) : List Int := rowOf f.length (cmnX f)
def okN (f : List (Int × Int)) : Bool := (List.range f.length).all fun k => decide (-1000000000000 ≤ cmnX f k ∧ cmnX f k ≤ 1000000000000)
def cmnB (f : List (Int × Int)) : Bool := okD f && okN f
theorem okD_iff (f : List (Int × Int)) : okD f = true ↔ ∀ k, k < f.length → dkF f (k + 1) ≤ 1000000000 := by simp [okD]
theorem okN_iff (f : List (Int × Int)) : okN f = true ↔ ∀ k, k < f.length → -1000000000000 ≤ cmnX f k ∧ cmnX f k ≤ 1000000000000 := by simp only [okN, List.all_eq_true, List.mem_range, decide_eq_true_eq]
def okM (B : Int) (f : List (Int × Int)) : Bool := (List.range f.length).all fun k => decide (dkF f (k + 1) ≤ B)
def cmnM (B : Int) (f : List (Int × Int)) : Bool := okM B f && okN f
theorem okM_iff (B : Int) (f : List (Int × Int)) : okM B f = true ↔ ∀ k, k < f.length → dkF f (k + 1) ≤ B := by simp [okM]
theorem cmnN_len (f : List (Int × Int)) : (cmnN f).length = f.length := rowOf_len _ _
theorem tdiv_b {a b : Int} (ha : 0 ≤ a) (hb : 0 ≤ b) : 0 ≤ a.tdiv b ∧ a.tdiv b ≤ a := by
  have h1 := Int.tdiv_nonneg ha hb
  have h2 := Int.natAbs_tdiv_le_natAbs a b
  omega
theorem allFr_get {f : List (Int × Int)} (hf : allFr f = true) {k : Nat} (hk : k < f.length) : (-1000000000 ≤ (f.getD k (0, 0)).1 ∧ (f.getD k (0, 0)).1 ≤ 1000000000) ∧ (1 ≤ (f.getD k (0, 0)).2 ∧ (f.getD k (0, 0)).2 ≤ 1000000000) :=
  isFr_b ((allFr_iff f).1 hf k hk)
theorem dkF_pos {f : List (Int × Int)} (hf : allFr f = true) : ∀ k, k ≤ f.length → 1 ≤ dkF f k
  | 0, _ => by simp [dkF]
  | k + 1, hk => by
    have h1 := dkF_pos hf k (by omega)
    have h2 := (allFr_get hf (k := k) (by omega)).2
    have hg : 0 < (Int.gcd (dkF f k) (f.getD k (0, 0)).2 : Int) := by have := Int.gcd_pos_of_ne_zero_right (dkF f k) (show (f.getD k (0, 0)).2 ≠ 0 by omega); omega
    obtain ⟨c, hc⟩ := Int.gcd_dvd_left (dkF f k) (f.getD k (0, 0)).2
    have h3 : (dkF f k).tdiv (Int.gcd (dkF f k) (f.getD k (0, 0)).2 : Int) = c := by
      conv => lhs; arg 1; rw [hc]
      exact Int.mul_tdiv_cancel_left _ (by omega)
    have h4 : 1 ≤ c := by
      rcases Int.lt_or_le 0 c with h | h
      · omega
      · have := Int.mul_le_mul_of_nonneg_left h (show 0 ≤ (Int.gcd (dkF f k) (f.getD k (0, 0)).2 : Int) by omega)
        rw [Int.mul_zero] at this; omega
    simp only [dkF, h3]
    have := Int.mul_le_mul h4 h2.1 (by omega) (by omega)
    omega
theorem mul_nn {a b A B : Int} (h1 : 0 ≤ a) (h2 : a ≤ A) (h3 : 0 ≤ b) (h4 : b ≤ B) : 0 ≤ a * b ∧ a * b ≤ A * B := ⟨Int.mul_nonneg h1 h3, Int.mul_le_mul h2 h4 h3 (by omega)⟩
theorem mulb9 {a b : Int} (ha : -1000000000 ≤ a ∧ a ≤ 1000000000) (hb : 0 ≤ b ∧ b ≤ 1000000000) : -1000000000000000000 ≤ a * b ∧ a * b ≤ 1000000000000000000 := by
  have h1 : a.natAbs ≤ 1000000000 := by omega
  have h2 : b.natAbs ≤ 1000000000 := by omega
  have h3 := Nat.mul_le_mul h1 h2
  rw [← Int.natAbs_mul] at h3
  omega
section
variable {w : Bool} {lo hi : Nat} {h : AH} {v u : AV} {f : List (Int × Int)}
theorem impl_togetherB (B : Int) (hB1 : 1 ≤ B) (hB2 : B ≤ 1000000000) (s : Fracs w lo hi h v f) (hl : f.length ≤ 1048576) (hf : allFr f = true) (n : Nat) (hn : hi ≤ n) :
    FQ Try.prog 82 [v, .int .i64 B, .int .i64 1000000000000] h n fun x h' n' => (cmnM B f = false ∧ x = .tup [.nilsl, .int .i64 0, .bool false]) ∨ (cmnM B f = true ∧ ∃ v', x = .tup [v', .int .i64 (cmnD f), .bool true] ∧ Ints true n n' h' v' (cmnN f)) := by
  refine fq_intro Try.func82 k_impl_together ?_
  simp (maxSteps := 2000000) -implicitDefEqProofs (disch := omega) only [c_impl_together, s.ln, xsW, xsC, if_true, if_false, ite_true, ite_false, forall_const, ne_eq, beq_self_eq_true, bne_self_eq_false, imp_self, true_implies, false_implies, implies_true, evP, evE, ev, setD, Nat.reduceAdd, Nat.reduceSub, reduceCtorEq, fillA, cutA, Nat.reduceLeDiff, Nat.reduceMul, Int.reduceLT, Int.reduceLE, Int.reduceEq, Int.reduceNe, Int.reduceAdd, Int.reduceSub, Int.reduceMul, Int.reduceNeg, Int.reduceToNat]
  refine loop_for f.length 0 (fun k hp => [v, .int .i64 B, .int .i64 1000000000000, .any, .any, .any, .nilsl, .int .i64 0, .bool false, .int .i64 (dkF f k), .any, .any, .any, .any, .any, .any, v, .int .i64 f.length, .int .i64 k, .any, .any, .any, .any, .any, .any, .any, .any, .any, .any, .any, .any, .any, .any, .any, .any, .any, .any, .any, .any, .any, .any, .any, .any, .any, .any, .any, .any, .any, .any, .any, .any, .any, .any, .any, .any, .any, .any, .any, .any]) (fun _ hp => hp)
    (fun k hp m => (∀ j, j < n → hp j = h j) ∧ ∀ j, j < k → dkF f (j + 1) ≤ B) h (Nat.zero_le _) ⟨fun _ _ => rfl, fun j hj => absurd hj (Nat.not_lt_zero _)⟩ (by simp [LeL, Le1, dkF]) (fun _ _ h => h) ?_
  rintro k hp m - hk hm ⟨g1, g2⟩
  have hpos := dkF_pos hf k hk
  have hub : dkF f k ≤ B := by
    cases k with
    | zero => simpa [dkF] using hB1
    | succ k => exact g2 k (by omega)
  simp (maxSteps := 2000000) -implicitDefEqProofs (disch := omega) only [xsW, xsC, if_true, if_false, ite_true, ite_false, forall_const, ne_eq, beq_self_eq_true, bne_self_eq_false, imp_self, true_implies, false_implies, implies_true, evP, evE, ev, setD, Nat.reduceAdd, Nat.reduceSub, reduceCtorEq, fillA, cutA, Nat.reduceLeDiff, Nat.reduceMul, Int.reduceLT, Int.reduceLE, Int.reduceEq, Int.reduceNe, Int.reduceAdd, Int.reduceSub, Int.reduceMul, Int.reduceNeg, Int.reduceToNat]
  (refine cd_dec (fun c1 => ?_) (fun c1 => ?_) <;> simp (maxSteps := 2000000) -implicitDefEqProofs (disch := omega) only [xsW, xsC, if_true, if_false, ite_true, ite_false, forall_const, ne_eq, beq_self_eq_true, bne_self_eq_false, imp_self, true_implies, false_implies, implies_true, evP, evE, ev, setD, Nat.reduceAdd, Nat.reduceSub, reduceCtorEq, fillA, cutA, Nat.reduceLeDiff, Nat.reduceMul, Int.reduceLT, Int.reduceLE, Int.reduceEq, Int.reduceNe, Int.reduceAdd, Int.reduceSub, Int.reduceMul, Int.reduceNeg, Int.reduceToNat,  c1])
  · have hk2 : k < f.length := by omega
    have hb := Fracs.below s (by intro e; rw [e] at hk2; simp at hk2)
    obtain ⟨hnum, hden⟩ := allFr_get hf hk2
    have hg : 0 < (Int.gcd (dkF f k) (f.getD k (0, 0)).2 : Int) := by have := Int.gcd_pos_of_ne_zero_right (dkF f k) (show (f.getD k (0, 0)).2 ≠ 0 by omega); omega
    have hq := tdiv_b (a := dkF f k) (b := (Int.gcd (dkF f k) (f.getD k (0, 0)).2 : Int)) (by omega) (by omega)
    have hm2 := mul_nn hq.1 (show _ ≤ 1000000000 by omega) (show 0 ≤ (f.getD k (0, 0)).2 by omega) hden.2
    simp (maxSteps := 2000000) -implicitDefEqProofs (disch := omega) only [xsW, xsC, if_true, if_false, ite_true, ite_false, forall_const, ne_eq, beq_self_eq_true, bne_self_eq_false, imp_self, true_implies, false_implies, implies_true, evP, evE, ev, setD, Nat.reduceAdd, Nat.reduceSub, reduceCtorEq, fillA, cutA, Nat.reduceLeDiff, Nat.reduceMul, Int.reduceLT, Int.reduceLE, Int.reduceEq, Int.reduceNe, Int.reduceAdd, Int.reduceSub, Int.reduceMul, Int.reduceNeg, Int.reduceToNat,  s.ia, g1, s.ld, frA]
    refine q_use (impl_common _ _ (by unfold in64; omega) (by unfold in64; omega) _ _) fun n2 hn2 => ?_
    simp (maxSteps := 2000000) -implicitDefEqProofs (disch := omega) only [xsW, xsC, if_true, if_false, ite_true, ite_false, forall_const, ne_eq, beq_self_eq_true, bne_self_eq_false, imp_self, true_implies, false_implies, implies_true, evP, evE, ev, setD, Nat.reduceAdd, Nat.reduceSub, reduceCtorEq, fillA, cutA, Nat.reduceLeDiff, Nat.reduceMul, Int.reduceLT, Int.reduceLE, Int.reduceEq, Int.reduceNe, Int.reduceAdd, Int.reduceSub, Int.reduceMul, Int.reduceNeg, Int.reduceToNat]
    have e : (dkF f k).tdiv (Int.gcd (dkF f k) (f.getD k (0, 0)).2 : Int) * (f.getD k (0, 0)).2 = dkF f (k + 1) := rfl
    rw [e]
    (refine cd_dec (fun c2 => ?_) (fun c2 => ?_) <;> simp (maxSteps := 2000000) -implicitDefEqProofs (disch := omega) only [xsW, xsC, if_true, if_false, ite_true, ite_false, forall_const, ne_eq, beq_self_eq_true, bne_self_eq_false, imp_self, true_implies, false_implies, implies_true, evP, evE, ev, setD, Nat.reduceAdd, Nat.reduceSub, reduceCtorEq, fillA, cutA, Nat.reduceLeDiff, Nat.reduceMul, Int.reduceLT, Int.reduceLE, Int.reduceEq, Int.reduceNe, Int.reduceAdd, Int.reduceSub, Int.reduceMul, Int.reduceNeg, Int.reduceToNat,  c2])
    · intro _ h2 _
      have : cmnM B f = false := by
        cases hx : cmnM B f
        · rfl
        · simp only [cmnM, Bool.and_eq_true] at hx
          have := (okM_iff B f).1 hx.1 k hk2
          omega
      exact .inl this
    · exact ⟨_, ⟨fun j hj => (upd_other (by omega)).trans (g1 j hj), fun j hj => (Nat.lt_succ_iff_lt_or_eq.1 hj).elim (g2 j) (fun e => by rw [e]; omega)⟩, by omega, by omega, (by simp [LeL, Le1]), fun _ _ h => h⟩
  · have e : k = f.length := by omega
    subst e
    have hD : okM B f = true := (okM_iff B f).2 g2
    have ed : dkF f f.length = cmnD f := rfl
    rw [ed] at hpos hub ⊢
    simp (maxSteps := 2000000) -implicitDefEqProofs (disch := omega) only [xsW, xsC, if_true, if_false, ite_true, ite_false, forall_const, ne_eq, beq_self_eq_true, bne_self_eq_false, imp_self, true_implies, false_implies, implies_true, evP, evE, ev, setD, Nat.reduceAdd, Nat.reduceSub, reduceCtorEq, fillA, cutA, Nat.reduceLeDiff, Nat.reduceMul, Int.reduceLT, Int.reduceLE, Int.reduceEq, Int.reduceNe, Int.reduceAdd, Int.reduceSub, Int.reduceMul, Int.reduceNeg, Int.reduceToNat,  s.ln]
    refine loop_for f.length 0 (fun k p => [v, .int .i64 B, .int .i64 1000000000000, .any, .any, .any, .nilsl, .int .i64 0, .bool false, .int .i64 (cmnD f), .any, .any, p.1, .any, .any, .any, .any, .any, .any, .any, .any, .any, .any, .any, .any, .any, .any, .any, .any, .any, .any, .any, .any, .any, .any, v, .int .i64 f.length, .int .i64 k, .any, .any, .any, .any, .any, .any, .any, .any, .any, .any, .any, .any, .any, .any, .any, .any, .any, .any, .any, .any, .any]) (fun _ (p : AV × AH) => p.2)
      (fun k p m' => Acc m m' p.2 2 1 p.1 (ints (rowOf k (cmnX f))) ∧ m ≤ m' ∧ (∀ j, j < n → p.2 j = h j) ∧ ∀ j, j < k → -1000000000000 ≤ cmnX f j ∧ cmnX f j ≤ 1000000000000) (.nilsl, hp) (Nat.zero_le _) ⟨Acc.nil, by omega, g1, fun j hj => absurd hj (Nat.not_lt_zero _)⟩ (by simp [LeL, Le1]) (fun _ _ h => h) ?_
    rintro k ⟨out, hp2⟩ m2 - hk2 hm2 ⟨acc, hle, hold, hall⟩
    simp only at acc hold
    simp (maxSteps := 2000000) -implicitDefEqProofs (disch := omega) only [xsW, xsC, if_true, if_false, ite_true, ite_false, forall_const, ne_eq, beq_self_eq_true, bne_self_eq_false, imp_self, true_implies, false_implies, implies_true, evP, evE, ev, setD, Nat.reduceAdd, Nat.reduceSub, reduceCtorEq, fillA, cutA, Nat.reduceLeDiff, Nat.reduceMul, Int.reduceLT, Int.reduceLE, Int.reduceEq, Int.reduceNe, Int.reduceAdd, Int.reduceSub, Int.reduceMul, Int.reduceNeg, Int.reduceToNat]
    (refine cd_dec (fun c3 => ?_) (fun c3 => ?_) <;> simp (maxSteps := 2000000) -implicitDefEqProofs (disch := omega) only [xsW, xsC, if_true, if_false, ite_true, ite_false, forall_const, ne_eq, beq_self_eq_true, bne_self_eq_false, imp_self, true_implies, false_implies, implies_true, evP, evE, ev, setD, Nat.reduceAdd, Nat.reduceSub, reduceCtorEq, fillA, cutA, Nat.reduceLeDiff, Nat.reduceMul, Int.reduceLT, Int.reduceLE, Int.reduceEq, Int.reduceNe, Int.reduceAdd, Int.reduceSub, Int.reduceMul, Int.reduceNeg, Int.reduceToNat,  c3])
    · have hk3 : k < f.length := by omega
      have hb := Fracs.below s (by intro e; rw [e] at hk3; simp at hk3)
      obtain ⟨hnum, hden⟩ := allFr_get hf hk3
      have hq := tdiv_b (a := cmnD f) (b := (f.getD k (0, 0)).2) (by omega) (by omega)
      have hm3 := mulb9 hnum (b := (cmnD f).tdiv (f.getD k (0, 0)).2) (by omega)
      simp (maxSteps := 2000000) -implicitDefEqProofs (disch := omega) only [xsW, xsC, if_true, if_false, ite_true, ite_false, forall_const, ne_eq, beq_self_eq_true, bne_self_eq_false, imp_self, true_implies, false_implies, implies_true, evP, evE, ev, setD, Nat.reduceAdd, Nat.reduceSub, reduceCtorEq, fillA, cutA, Nat.reduceLeDiff, Nat.reduceMul, Int.reduceLT, Int.reduceLE, Int.reduceEq, Int.reduceNe, Int.reduceAdd, Int.reduceSub, Int.reduceMul, Int.reduceNeg, Int.reduceToNat,  s.ia, hold, s.ld, frA]
      have e : (f.getD k (0, 0)).1 * (cmnD f).tdiv (f.getD k (0, 0)).2 = cmnX f k := rfl
      rw [e]
      refine q_use (impl_upTo _ _ (by unfold in64; omega) _ _) fun n3 hn3 => ?_
      simp (maxSteps := 2000000) -implicitDefEqProofs (disch := omega) only [xsW, xsC, if_true, if_false, ite_true, ite_false, forall_const, ne_eq, beq_self_eq_true, bne_self_eq_false, imp_self, true_implies, false_implies, implies_true, evP, evE, ev, setD, Nat.reduceAdd, Nat.reduceSub, reduceCtorEq, fillA, cutA, Nat.reduceLeDiff, Nat.reduceMul, Int.reduceLT, Int.reduceLE, Int.reduceEq, Int.reduceNe, Int.reduceAdd, Int.reduceSub, Int.reduceMul, Int.reduceNeg, Int.reduceToNat]
      (refine cd_dec (fun c4 => ?_) (fun c4 => ?_) <;> simp (maxSteps := 2000000) -implicitDefEqProofs (disch := omega) only [xsW, xsC, if_true, if_false, ite_true, ite_false, forall_const, ne_eq, beq_self_eq_true, bne_self_eq_false, imp_self, true_implies, false_implies, implies_true, evP, evE, ev, setD, Nat.reduceAdd, Nat.reduceSub, reduceCtorEq, fillA, cutA, Nat.reduceLeDiff, Nat.reduceMul, Int.reduceLT, Int.reduceLE, Int.reduceEq, Int.reduceNe, Int.reduceAdd, Int.reduceSub, Int.reduceMul, Int.reduceNeg, Int.reduceToNat,  c4])
      · intro _ h2 _
        have : cmnM B f = false := by
          cases hx : cmnM B f
          · rfl
          · simp only [cmnM, Bool.and_eq_true] at hx
            have := (okN_iff f).1 hx.2 k hk3
            omega
        exact .inl this
      · refine app_int (y := cmnX f k) (acc.keep (fun i _ hi9 => by simp (disch := omega) only [upd_other]) |>.wide (Nat.le_refl _) (by omega)) (by omega) (by omega) ⟨rfl, _, upd_same _ _ _, by simp, by simp [cutA]⟩ (by rw [rowOf_len]; omega) fun v' h' n' q1 q2 q3 => ?_
        simp (maxSteps := 2000000) -implicitDefEqProofs (disch := omega) only [xsW, xsC, if_true, if_false, ite_true, ite_false, forall_const, ne_eq, beq_self_eq_true, bne_self_eq_false, imp_self, true_implies, false_implies, implies_true, evP, evE, ev, setD, Nat.reduceAdd, Nat.reduceSub, reduceCtorEq, fillA, cutA, Nat.reduceLeDiff, Nat.reduceMul, Int.reduceLT, Int.reduceLE, Int.reduceEq, Int.reduceNe, Int.reduceAdd, Int.reduceSub, Int.reduceMul, Int.reduceNeg, Int.reduceToNat]
        exact ⟨(v', h'), ⟨by rw [rowOf_succ]; exact q2, by omega, fun j hj => (q3 j (by omega)).trans (by rw [upd_other (by omega), upd_other (by omega), hold j hj]), fun j hj => (Nat.lt_succ_iff_lt_or_eq.1 hj).elim (hall j) (fun e => by rw [e]; omega)⟩, by omega, by omega, (by simp [LeL, Le1]), fun _ _ h => h⟩
    · have e : k = f.length := by omega
      subst e
      have hN : okN f = true := (okN_iff f).2 hall
      intro _ h2 hh
      exact .inr ⟨by simp [cmnM, hD, hN], out, by first | rfl | exact ⟨rfl, rfl, rfl⟩, (Acc.sl (acc.keep fun i a b => hh i (by omega) b)).wide (by omega) (Nat.le_refl _)⟩
theorem impl_together (s : Fracs w lo hi h v f) (hl : f.length ≤ 1048576) (hf : allFr f = true) (n : Nat) (hn : hi ≤ n) :
    FQ Try.prog 82 [v, .int .i64 1000000000, .int .i64 1000000000000] h n fun x h' n' => (cmnB f = false ∧ x = .tup [.nilsl, .int .i64 0, .bool false]) ∨ (cmnB f = true ∧ ∃ v', x = .tup [v', .int .i64 (cmnD f), .bool true] ∧ Ints true n n' h' v' (cmnN f)) := impl_togetherB 1000000000 (by omega) (by omega) s hl hf n hn
end
def frcV (ll : List (List Int)) (q : List Int) (f : List (Int × Int)) : Int := if isProb ll q = true ∧ allFr f = true then (if f.length = ll.length then 0 else 2) else 1
theorem frcV_zero {ll : List (List Int)} {q : List Int} {f : List (Int × Int)} (h : frcV ll q f = 0) : isProb ll q = true ∧ allFr f = true ∧ f.length = ll.length := by
  unfold frcV at h
  split at h
  · rename_i hx
    split at h
    · exact ⟨hx.1, hx.2, by assumption⟩
    · omega
  · omega
section
variable {w w' : Bool} {lo hi lo' hi' : Nat} {h : AH} {v u v' : AV} {vs : List AV} {ll : List (List Int)} {q : List Int} {f : List (Int × Int)}
theorem impl_fracsCode (s : Prob w lo hi h v u vs ll q) (hl : ll.length ≤ 1048576) (hll : ∀ l ∈ ll, l.length ≤ 1048576) (hq : q.length ≤ 1048576) (sf : Fracs w' lo' hi' h v' f) (hf : f.length ≤ 1048576) (n : Nat) (hn : hi ≤ n) (hn' : hi' ≤ n) :
    Q Try.prog 81 [.agg [v, u], v'] h n (.int .i64 (frcV ll q f)) := by
  refine q_intro Try.func81 k_impl_fracsCode ?_
  have o1 := one_any (Sl.any s.M.out)
  have o2 := one_any (Sl.any s.Q)
  simp (maxSteps := 2000000) -implicitDefEqProofs (disch := omega) only [c_impl_fracsCode, o1, o2, xsW, xsC, if_true, if_false, ite_true, ite_false, forall_const, ne_eq, beq_self_eq_true, bne_self_eq_false, imp_self, true_implies, false_implies, implies_true, evP, evE, ev, setD, Nat.reduceAdd, Nat.reduceSub, reduceCtorEq, fillA, cutA, Nat.reduceLeDiff, Nat.reduceMul, Int.reduceLT, Int.reduceLE, Int.reduceEq, Int.reduceNe, Int.reduceAdd, Int.reduceSub, Int.reduceMul, Int.reduceNeg, Int.reduceToNat]
  refine q_use (impl_IsProblem (s.keep (fun i _ hi9 => by simp (disch := omega) only [upd_other])) hl hll hq _ (by omega)) fun n1 hn1 => ?_
  cases hp : isProb ll q
  · simp (maxSteps := 2000000) -implicitDefEqProofs (disch := omega) only [xsW, xsC, if_true, if_false, ite_true, ite_false, forall_const, ne_eq, beq_self_eq_true, bne_self_eq_false, imp_self, true_implies, false_implies, implies_true, evP, evE, ev, setD, Nat.reduceAdd, Nat.reduceSub, reduceCtorEq, fillA, cutA, Nat.reduceLeDiff, Nat.reduceMul, Int.reduceLT, Int.reduceLE, Int.reduceEq, Int.reduceNe, Int.reduceAdd, Int.reduceSub, Int.reduceMul, Int.reduceNeg, Int.reduceToNat]
    simp [frcV, hp]
  · have hql := (isProb_facts hp).2.1
    simp (maxSteps := 2000000) -implicitDefEqProofs (disch := omega) only [xsW, xsC, if_true, if_false, ite_true, ite_false, forall_const, ne_eq, beq_self_eq_true, bne_self_eq_false, imp_self, true_implies, false_implies, implies_true, evP, evE, ev, setD, Nat.reduceAdd, Nat.reduceSub, reduceCtorEq, fillA, cutA, Nat.reduceLeDiff, Nat.reduceMul, Int.reduceLT, Int.reduceLE, Int.reduceEq, Int.reduceNe, Int.reduceAdd, Int.reduceSub, Int.reduceMul, Int.reduceNeg, Int.reduceToNat]
    refine q_use (impl_areFracs (Fracs.keep (h' := upd h n (some ⟨31, [v, u], true, 0⟩)) sf (fun i _ hi9 => by simp (disch := omega) only [upd_other])) hf _) fun n2 hn2 => ?_
    rw [← allFr]
    cases ha : allFr f
    · simp (maxSteps := 2000000) -implicitDefEqProofs (disch := omega) only [xsW, xsC, if_true, if_false, ite_true, ite_false, forall_const, ne_eq, beq_self_eq_true, bne_self_eq_false, imp_self, true_implies, false_implies, implies_true, evP, evE, ev, setD, Nat.reduceAdd, Nat.reduceSub, reduceCtorEq, fillA, cutA, Nat.reduceLeDiff, Nat.reduceMul, Int.reduceLT, Int.reduceLE, Int.reduceEq, Int.reduceNe, Int.reduceAdd, Int.reduceSub, Int.reduceMul, Int.reduceNeg, Int.reduceToNat]
      simp [frcV, hp, ha]
    · simp (maxSteps := 2000000) -implicitDefEqProofs (disch := omega) only [xsW, xsC, if_true, if_false, ite_true, ite_false, forall_const, ne_eq, beq_self_eq_true, bne_self_eq_false, imp_self, true_implies, false_implies, implies_true, evP, evE, ev, setD, Nat.reduceAdd, Nat.reduceSub, reduceCtorEq, fillA, cutA, Nat.reduceLeDiff, Nat.reduceMul, Int.reduceLT, Int.reduceLE, Int.reduceEq, Int.reduceNe, Int.reduceAdd, Int.reduceSub, Int.reduceMul, Int.reduceNeg, Int.reduceToNat,  sf.ln, s.Q.ln, hql]
      (refine cd_dec (fun c1 => ?_) (fun c1 => ?_) <;> simp (maxSteps := 2000000) -implicitDefEqProofs (disch := omega) only [xsW, xsC, if_true, if_false, ite_true, ite_false, forall_const, ne_eq, beq_self_eq_true, bne_self_eq_false, imp_self, true_implies, false_implies, implies_true, evP, evE, ev, setD, Nat.reduceAdd, Nat.reduceSub, reduceCtorEq, fillA, cutA, Nat.reduceLeDiff, Nat.reduceMul, Int.reduceLT, Int.reduceLE, Int.reduceEq, Int.reduceNe, Int.reduceAdd, Int.reduceSub, Int.reduceMul, Int.reduceNeg, Int.reduceToNat,  c1])
      · simp [frcV, hp, ha]; omega
      · simp [frcV, hp, ha]; omega
end
end Go.Proofs.Ytkpibnhddhdooab.L
/- Contracts: remainders; IsSolution, RemainderOf. -/
namespace Go.Proofs.Ytkpibnhddhdooab.L
open Go
set_option linter.unusedSimpArgs false
set_option linter.unusedVariables false
def c_impl_Problem_rest : F := ⟨(.seq (.reg false [⟨(some 3), (.box 31 (.t 0)), none⟩, ⟨(some 6), (.mv (.c .nilsl)), none⟩]) (.seq (.reg false [⟨(some 10), (.mv (.t 1)), none⟩, ⟨(some 11), (.len (.t 10)), none⟩, ⟨(some 12), (.mks 2 1 [(.int .i64 0)] (.t 11) (.t 11)), none⟩, ⟨(some 7), (.mv (.t 12)), none⟩]) (.seq (.seq (.reg false [⟨(some 13), (.fa 0 (.t 3)), none⟩, ⟨(some 14), (.ld1 (.t 13)), none⟩, ⟨(some 15), (.len (.t 14)), none⟩, ⟨(some 16), (.mv (.c (.int .i64 0))), none⟩]) (.block 0 (.loop (.seq (.reg false [⟨(some 17), (.bin .lss (.t 16) (.t 15)), none⟩]) (.seq (.cond (.t 17) .skip (.exit 0)) (.seq (.block 1 (.seq (.reg false [⟨(some 18), (.mv (.t 16)), none⟩, ⟨(some 19), (.ia 1 (.t 14) (.t 16)), none⟩, ⟨(some 20), (.ld1 (.t 19)), none⟩, ⟨(some 8), (.mv (.t 18)), none⟩, ⟨(some 9), (.mv (.t 20)), none⟩]) (.reg true [⟨(some 21), (.mv (.t 7)), none⟩, ⟨(some 22), (.mv (.t 8)), none⟩, ⟨(some 23), (.fa 1 (.t 3)), none⟩, ⟨(some 24), (.ld1 (.t 23)), none⟩, ⟨(some 25), (.mv (.t 8)), none⟩, ⟨(some 26), (.ia 1 (.t 24) (.t 25)), none⟩, ⟨(some 27), (.ld1 (.t 26)), none⟩, ⟨(some 28), (.mv (.t 2)), none⟩, ⟨(some 29), (.bin .mul (.t 27) (.t 28)), none⟩, ⟨(some 30), (.mv (.t 9)), none⟩, ⟨(some 31), (.mv (.t 1)), none⟩, ⟨(some 32), (.call (.f 122) [(.t 30), (.t 31)]), none⟩, ⟨(some 33), (.bin .add (.t 29) (.t 32)), none⟩, ⟨(some 34), (.ia 1 (.t 21) (.t 22)), none⟩, ⟨none, (.st 1 (.t 34) (.t 33)), none⟩]))) (.reg false [⟨(some 35), (.bin .add (.t 16) (.c (.int .i64 1))), none⟩, ⟨(some 16), (.mv (.t 35)), none⟩]))))))) (.seq (.reg false [⟨(some 36), (.mv (.t 7)), none⟩, ⟨(some 6), (.mv (.t 36)), none⟩]) .ret)))), 37, [(.t 6)]⟩
theorem k_impl_Problem_rest : compF Try.prog Try.f83 = some c_impl_Problem_rest := by kernel_rfl
def c_impl_IsSolution : F := ⟨(.seq (.reg false [⟨(some 2), (.box 31 (.t 0)), none⟩, ⟨(some 4), (.mv (.c (.bool false))), none⟩, ⟨(some 5), (.mv (.c (.int .i64 0))), none⟩]) (.seq (.seq (.reg false [⟨(some 12), (.ld 2 (.t 2)), none⟩, ⟨(some 13), (.mv (.t 1)), none⟩, ⟨(some 14), (.call (.f 81) [(.t 12), (.t 13)]), none⟩, ⟨(some 6), (.mv (.t 14)), none⟩]) (.seq (.reg false [⟨(some 15), (.mv (.t 6)), none⟩, ⟨(some 16), (.bin .neq (.t 15) (.c (.int .i64 0))), none⟩]) (.cond (.t 16) (.seq (.reg false [⟨(some 17), (.mv (.t 6)), none⟩, ⟨(some 4), (.mv (.c (.bool false))), none⟩, ⟨(some 5), (.mv (.t 17)), none⟩]) .ret) .skip))) (.seq (.reg false [⟨(some 19), (.mv (.t 1)), none⟩, ⟨(some 20), (.call (.f 82) [(.t 19), (.c (.int .i64 1000000000)), (.c (.int .i64 1000000000000))]), none⟩, ⟨(some 18), (.mv (.t 20)), none⟩, ⟨(some 21), (.ext (.t 18) 0), none⟩, ⟨(some 22), (.ext (.t 18) 1), none⟩, ⟨(some 23), (.ext (.t 18) 2), none⟩, ⟨(some 7), (.mv (.t 21)), none⟩, ⟨(some 8), (.mv (.t 22)), none⟩, ⟨(some 9), (.mv (.t 23)), none⟩]) (.seq (.seq (.reg false [⟨(some 24), (.mv (.t 9)), none⟩, ⟨(some 25), (.un .not (.t 24)), none⟩]) (.cond (.t 25) (.seq (.reg false [⟨(some 4), (.mv (.c (.bool false))), none⟩, ⟨(some 5), (.mv (.c (.int .i64 3))), none⟩]) .ret) .skip)) (.seq (.seq (.reg false [⟨(some 26), (.ld 2 (.t 2)), none⟩, ⟨(some 27), (.mv (.t 7)), none⟩, ⟨(some 28), (.mv (.t 8)), none⟩, ⟨(some 29), (.call (.f 83) [(.t 26), (.t 27), (.t 28)]), none⟩, ⟨(some 30), (.len (.t 29)), none⟩, ⟨(some 31), (.mv (.c (.int .i64 0))), none⟩]) (.block 0 (.loop (.seq (.reg false [⟨(some 32), (.bin .lss (.t 31) (.t 30)), none⟩]) (.seq (.cond (.t 32) .skip (.exit 0)) (.seq (.block 1 (.seq (.reg false [⟨(some 33), (.mv (.t 31)), none⟩, ⟨(some 34), (.ia 1 (.t 29) (.t 31)), none⟩, ⟨(some 35), (.ld1 (.t 34)), none⟩, ⟨(some 10), (.mv (.t 33)), none⟩, ⟨(some 11), (.mv (.t 35)), none⟩]) (.seq (.reg false [⟨(some 36), (.mv (.t 11)), none⟩, ⟨(some 37), (.bin .lss (.t 36) (.c (.int .i64 0))), none⟩, ⟨(some 38), (.mv (.t 37)), none⟩, ⟨(some 39), (.mv (.t 7)), (some (38, false))⟩, ⟨(some 40), (.mv (.t 10)), (some (38, false))⟩, ⟨(some 41), (.ia 1 (.t 39) (.t 40)), (some (38, false))⟩, ⟨(some 42), (.ld1 (.t 41)), (some (38, false))⟩, ⟨(some 43), (.bin .lss (.t 42) (.c (.int .i64 0))), (some (38, false))⟩, ⟨(some 44), (.pick (.t 38) (.c (.bool true)) (.t 43)), none⟩, ⟨(some 45), (.mv (.t 44)), none⟩, ⟨(some 46), (.mv (.t 11)), (some (45, false))⟩, ⟨(some 47), (.bin .gtr (.t 46) (.c (.int .i64 0))), (some (45, false))⟩, ⟨(some 48), (.mv (.t 47)), (some (45, false))⟩, ⟨(some 49), (.mv (.t 7)), (some (48, true))⟩, ⟨(some 50), (.mv (.t 10)), (some (48, true))⟩, ⟨(some 51), (.ia 1 (.t 49) (.t 50)), (some (48, true))⟩, ⟨(some 52), (.ld1 (.t 51)), (some (48, true))⟩, ⟨(some 53), (.bin .gtr (.t 52) (.c (.int .i64 0))), (some (48, true))⟩, ⟨(some 54), (.pick (.t 48) (.t 53) (.c (.bool false))), (some (45, false))⟩, ⟨(some 55), (.pick (.t 45) (.c (.bool true)) (.t 54)), none⟩]) (.cond (.t 55) (.seq (.reg false [⟨(some 4), (.mv (.c (.bool false))), none⟩, ⟨(some 5), (.mv (.c (.int .i64 0))), none⟩]) .ret) .skip)))) (.reg false [⟨(some 56), (.bin .add (.t 31) (.c (.int .i64 1))), none⟩, ⟨(some 31), (.mv (.t 56)), none⟩]))))))) (.seq (.reg false [⟨(some 4), (.mv (.c (.bool true))), none⟩, ⟨(some 5), (.mv (.c (.int .i64 0))), none⟩]) .ret)))))), 57, [(.t 4), (.t 5)]⟩
theorem k_impl_IsSolution : compF Try.prog Try.f39 = some c_impl_IsSolution := by kernel_rfl

/-- What a problem leaves of a point, times the common denominator. -/
def remT (ll : List (List Int)) (xs : List Int) (i j : Nat) : Int := (ll.getD i []).getD j 0 * xs.getD j 0
def remX (ll : List (List Int)) (q xs : List Int) (d : Int) (i : Nat) : Int := q.getD i 0 * d + sumTo ll.length (remT ll xs i)
def remL (ll : List (List Int)) (q xs : List Int) (d : Int) : List Int := rowOf ll.length (remX ll q xs d)
theorem remL_len (ll : List (List Int)) (q xs : List Int) (d : Int) : (remL ll q xs d).length = ll.length := rowOf_len _ _
theorem remT_b {ll : List (List Int)} {q xs : List Int} (hp : isProb ll q = true) (hx : xs.length = ll.length) (hb : ∀ k, k < xs.length → -1000000000000 ≤ xs.getD k 0 ∧ xs.getD k 0 ≤ 1000000000000) {i : Nat} (hi : i < ll.length) :
    ∀ j, j < ll.length → -20000000000000 ≤ remT ll xs i j ∧ remT ll xs i j ≤ 20000000000000 := fun j hj => by
  obtain ⟨hm, hq, hw⟩ := isProb_facts hp
  have h1 := ((isMat_iff ll).1 hm).2.2 i hi
  rw [within_iff] at h1
  exact mul_bound (A := 20) (B := 1000000000000) (h1.2 j (by rw [h1.1]; exact hj)) (hb j (by omega))
theorem remS_b {ll : List (List Int)} {q xs : List Int} (hp : isProb ll q = true) (hx : xs.length = ll.length) (hb : ∀ k, k < xs.length → -1000000000000 ≤ xs.getD k 0 ∧ xs.getD k 0 ≤ 1000000000000) {i : Nat} (hi : i < ll.length) {k : Nat} (hk : k ≤ ll.length) :
    -100000000000000 ≤ sumTo k (remT ll xs i) ∧ sumTo k (remT ll xs i) ≤ 100000000000000 := by
  have hN := ((isMat_iff ll).1 (isProb_facts hp).1).2.1
  exact sumTo_small (n := ll.length) (B := 20000000000000) (remT_b hp hx hb hi) hk (by omega) (by omega)
theorem qd_b {ll : List (List Int)} {q : List Int} (hp : isProb ll q = true) {d : Int} (hd : 0 ≤ d ∧ d ≤ 1000000000) {i : Nat} (hi : i < ll.length) : -100000000000 ≤ q.getD i 0 * d ∧ q.getD i 0 * d ≤ 100000000000 := by
  obtain ⟨hm, hq, hw⟩ := isProb_facts hp
  exact mul_bound (A := 100) (B := 1000000000) ((within_iff _ _).1 hw i (by omega)) (by omega)
theorem remX_b {ll : List (List Int)} {q xs : List Int} (hp : isProb ll q = true) (hx : xs.length = ll.length) (hb : ∀ k, k < xs.length → -1000000000000 ≤ xs.getD k 0 ∧ xs.getD k 0 ≤ 1000000000000) {d : Int} (hd : 0 ≤ d ∧ d ≤ 1000000000) {i : Nat} (hi : i < ll.length) :
    -200000000000000 ≤ remX ll q xs d i ∧ remX ll q xs d i ≤ 200000000000000 := by
  have h1 := remS_b hp hx hb hi (Nat.le_refl _)
  have h2 := qd_b hp hd hi
  unfold remX; omega
section
variable {w w' : Bool} {lo hi lo' hi' : Nat} {h : AH} {v u v' : AV} {vs : List AV} {ll : List (List Int)} {q xs : List Int} {f : List (Int × Int)}
theorem impl_rest (s : Prob w lo hi h v u vs ll q) (hp : isProb ll q = true) (sx : Ints w' lo' hi' h v' xs) (hx : xs.length = ll.length) (hb : ∀ k, k < xs.length → -1000000000000 ≤ xs.getD k 0 ∧ xs.getD k 0 ≤ 1000000000000) (d : Int) (hd : 0 ≤ d ∧ d ≤ 1000000000) (n : Nat) (hn : hi ≤ n) (hn' : hi' ≤ n) :
    FQ Try.prog 83 [.agg [v, u], v', .int .i64 d] h n fun y h' n' => Ints true n n' h' y (remL ll q xs d) := by
  refine fq_intro Try.func83 k_impl_Problem_rest ?_
  have o1 := one_any (Sl.any s.M.out)
  have o2 := one_any (Sl.any s.Q)
  obtain ⟨hm, hql, hw⟩ := isProb_facts hp
  have hN := ((isMat_iff ll).1 hm).2.1
  have hrl := remL_len ll q xs d
  simp (maxSteps := 2000000) -implicitDefEqProofs (disch := omega) only [c_impl_Problem_rest, o1, o2, sx.ln, hx, xsW, xsC, if_true, if_false, ite_true, ite_false, forall_const, ne_eq, beq_self_eq_true, bne_self_eq_false, imp_self, true_implies, false_implies, implies_true, evP, evE, ev, setD, Nat.reduceAdd, Nat.reduceSub, reduceCtorEq, fillA, cutA, Nat.reduceLeDiff, Nat.reduceMul, Int.reduceLT, Int.reduceLE, Int.reduceEq, Int.reduceNe, Int.reduceAdd, Int.reduceSub, Int.reduceMul, Int.reduceNeg, Int.reduceToNat]
  simp (maxSteps := 2000000) -implicitDefEqProofs (disch := omega) only [xsW, xsC, if_true, if_false, ite_true, ite_false, forall_const, ne_eq, beq_self_eq_true, bne_self_eq_false, imp_self, true_implies, false_implies, implies_true, evP, evE, ev, setD, Nat.reduceAdd, Nat.reduceSub, reduceCtorEq, fillA, cutA, Nat.reduceLeDiff, Nat.reduceMul, Int.reduceLT, Int.reduceLE, Int.reduceEq, Int.reduceNe, Int.reduceAdd, Int.reduceSub, Int.reduceMul, Int.reduceNeg, Int.reduceToNat,  s.M.ln]
  refine loop_for ll.length 0 (fun k (_ : Unit) => [.agg [v, u], v', .int .i64 d, .ptr n 0, .any, .any, .nilsl, .sl (n + 1) 0 ll.length ll.length, .any, .any, .any, .any, .any, .any, v, .int .i64 ll.length, .int .i64 k, .any, .any, .any, .any, .any, .any, .any, .any, .any, .any, .any, .any, .any, .any, .any, .any, .any, .any, .any, .any]) (fun k _ => upd (upd h n (some ⟨31, [v, u], true, 0⟩)) (n + 1) (some ⟨2, (ints (remL ll q xs d)).take k ++ List.replicate ((remL ll q xs d).length - k) (.int .i64 0), true, 0⟩))
    (fun _ _ _ => True) () (Nat.zero_le _) trivial (by simp [LeL, Le1]) (by simp [hrl]) ?_
  rintro k - m - hk hm1 -
  simp (maxSteps := 2000000) -implicitDefEqProofs (disch := omega) only [xsW, xsC, if_true, if_false, ite_true, ite_false, forall_const, ne_eq, beq_self_eq_true, bne_self_eq_false, imp_self, true_implies, false_implies, implies_true, evP, evE, ev, setD, Nat.reduceAdd, Nat.reduceSub, reduceCtorEq, fillA, cutA, Nat.reduceLeDiff, Nat.reduceMul, Int.reduceLT, Int.reduceLE, Int.reduceEq, Int.reduceNe, Int.reduceAdd, Int.reduceSub, Int.reduceMul, Int.reduceNeg, Int.reduceToNat]
  (refine cd_dec (fun c1 => ?_) (fun c1 => ?_) <;> simp (maxSteps := 2000000) -implicitDefEqProofs (disch := omega) only [xsW, xsC, if_true, if_false, ite_true, ite_false, forall_const, ne_eq, beq_self_eq_true, bne_self_eq_false, imp_self, true_implies, false_implies, implies_true, evP, evE, ev, setD, Nat.reduceAdd, Nat.reduceSub, reduceCtorEq, fillA, cutA, Nat.reduceLeDiff, Nat.reduceMul, Int.reduceLT, Int.reduceLE, Int.reduceEq, Int.reduceNe, Int.reduceAdd, Int.reduceSub, Int.reduceMul, Int.reduceNeg, Int.reduceToNat,  c1])
  · have hk2 : k < ll.length := by omega
    have hbl := s.M.out.below (by rw [s.M.slen]; omega)
    have hbq := Sl.below s.Q (by rw [s.Q.slen]; omega)
    have hri := s.M.row k hk2
    have li := (((isMat_iff ll).1 hm).2.2 k hk2).1
    have hqd := qd_b hp hd hk2
    have hrx := remX_b hp hx hb hd hk2
    have hrs := remS_b hp hx hb hk2 (Nat.le_refl _)
    simp (maxSteps := 2000000) -implicitDefEqProofs (disch := omega) only [xsW, xsC, if_true, if_false, ite_true, ite_false, forall_const, ne_eq, beq_self_eq_true, bne_self_eq_false, imp_self, true_implies, false_implies, implies_true, evP, evE, ev, setD, Nat.reduceAdd, Nat.reduceSub, reduceCtorEq, fillA, cutA, Nat.reduceLeDiff, Nat.reduceMul, Int.reduceLT, Int.reduceLE, Int.reduceEq, Int.reduceNe, Int.reduceAdd, Int.reduceSub, Int.reduceMul, Int.reduceNeg, Int.reduceToNat,  s.M.ia, s.M.ld, s.Q.ia, s.Q.ld, hql]
    refine q_use (impl_sum (hri.keep (fun i _ hi9 => by simp (disch := omega) only [upd_other])) (sx.keep (fun i _ hi9 => by simp (disch := omega) only [upd_other])) (by omega) 20000000000000 (by omega) (by omega) (by omega) (fun j hj => remT_b hp hx hb hk2 j (by omega)) m) fun n2 hn2 => ?_
    have e : q.getD k 0 * d + (sumTo (ll.getD k []).length fun j => (ll.getD k []).getD j 0 * xs.getD j 0) = (remL ll q xs d).getD k 0 := by rw [remL, rowOf_get hk2, li]; rfl
    have e2 : (sumTo (ll.getD k []).length fun j => (ll.getD k []).getD j 0 * xs.getD j 0) = sumTo ll.length (remT ll xs k) := by rw [li]; rfl
    have e3 : (remL ll q xs d).getD k 0 = remX ll q xs d k := by rw [remL, rowOf_get hk2]
    rw [e2] at e ⊢
    have hfi := fill_ints (remL ll q xs d) (.int .i64 0) k (by omega)
    rw [hrl] at hfi
    simp (maxSteps := 2000000) -implicitDefEqProofs (disch := omega) only [xsW, xsC, if_true, if_false, ite_true, ite_false, forall_const, ne_eq, beq_self_eq_true, bne_self_eq_false, imp_self, true_implies, false_implies, implies_true, evP, evE, ev, setD, Nat.reduceAdd, Nat.reduceSub, reduceCtorEq, fillA, cutA, Nat.reduceLeDiff, Nat.reduceMul, Int.reduceLT, Int.reduceLE, Int.reduceEq, Int.reduceNe, Int.reduceAdd, Int.reduceSub, Int.reduceMul, Int.reduceNeg, Int.reduceToNat,  e, hfi, hrl]
    exact ⟨by omega, (), by omega, by omega, (by simp [LeL, Le1])⟩
  · have e : k = ll.length := by omega
    subst e
    intro _ h2 hh
    refine Sl.of_sl (ty := 2) (op := 0) ?_ (by simp [ints, hrl]) (Nat.le_refl _) (by omega) (by omega)
    rw [hh (n + 1) (by omega) (by omega), upd_same]
    simp [hrl, List.take_of_length_le, ints]
end
/-- Neither falls below nothing, and one of the two is nothing. -/
def okYX (y x : Int) : Bool := decide (0 ≤ y ∧ 0 ≤ x ∧ (y = 0 ∨ x = 0))
def solvB (ys xs : List Int) : Bool := (List.range ys.length).all fun k => okYX (ys.getD k 0) (xs.getD k 0)
theorem solvB_iff (ys xs : List Int) : solvB ys xs = true ↔ ∀ k, k < ys.length → okYX (ys.getD k 0) (xs.getD k 0) = true := by simp only [solvB, List.all_eq_true, List.mem_range]
theorem solvB_no {ys xs : List Int} {k : Nat} (hk : k < ys.length) (h : ¬ (0 ≤ ys.getD k 0 ∧ 0 ≤ xs.getD k 0 ∧ (ys.getD k 0 = 0 ∨ xs.getD k 0 = 0))) : solvB ys xs = false := by
  cases hx : solvB ys xs
  · rfl
  · have := (solvB_iff ys xs).1 hx k hk
    simp only [okYX, decide_eq_true_eq] at this
    exact absurd this h
def isSolV (ll : List (List Int)) (q : List Int) (f : List (Int × Int)) : Bool × Int :=
  if frcV ll q f = 0 then (if cmnB f = true then (solvB (remL ll q (cmnN f) (cmnD f)) (cmnN f), 0) else (false, 3)) else (false, frcV ll q f)
theorem cmn_facts {ll : List (List Int)} {q : List Int} {f : List (Int × Int)} (hz : frcV ll q f = 0) (hB : cmnB f = true) :
    (cmnN f).length = ll.length ∧ (∀ k, k < (cmnN f).length → -1000000000000 ≤ (cmnN f).getD k 0 ∧ (cmnN f).getD k 0 ≤ 1000000000000) ∧ 1 ≤ cmnD f ∧ cmnD f ≤ 1000000000 := by
  obtain ⟨hp, ha, hl⟩ := frcV_zero hz
  simp only [cmnB, Bool.and_eq_true] at hB
  refine ⟨by rw [cmnN_len, hl], fun k hk => ?_, dkF_pos ha _ (Nat.le_refl _), ?_⟩
  · rw [cmnN_len] at hk
    rw [cmnN, rowOf_get hk]
    exact (okN_iff f).1 hB.2 k hk
  · unfold cmnD
    rcases Nat.eq_zero_or_pos f.length with h0 | h0
    · rw [h0]; simp [dkF]
    · have := (okD_iff f).1 hB.1 (f.length - 1) (by omega)
      rwa [show f.length - 1 + 1 = f.length by omega] at this
section
variable {w w' : Bool} {lo hi lo' hi' : Nat} {h : AH} {v u v' : AV} {vs : List AV} {ll : List (List Int)} {q xs : List Int} {f : List (Int × Int)}
theorem impl_IsSolution (s : Prob w lo hi h v u vs ll q) (hl : ll.length ≤ 1048576) (hll : ∀ l ∈ ll, l.length ≤ 1048576) (hq : q.length ≤ 1048576) (sf : Fracs w' lo' hi' h v' f) (hf : f.length ≤ 1048576) (n : Nat) (hn : hi ≤ n) (hn' : hi' ≤ n) :
    Q Try.prog 39 [.agg [v, u], v'] h n (.tup [.bool (isSolV ll q f).1, .int .i64 (isSolV ll q f).2]) := by
  refine q_intro Try.func39 k_impl_IsSolution ?_
  have o1 := one_any (Sl.any s.M.out)
  have o2 := one_any (Sl.any s.Q)
  simp (maxSteps := 2000000) -implicitDefEqProofs (disch := omega) only [c_impl_IsSolution, o1, o2, xsW, xsC, if_true, if_false, ite_true, ite_false, forall_const, ne_eq, beq_self_eq_true, bne_self_eq_false, imp_self, true_implies, false_implies, implies_true, evP, evE, ev, setD, Nat.reduceAdd, Nat.reduceSub, reduceCtorEq, fillA, cutA, Nat.reduceLeDiff, Nat.reduceMul, Int.reduceLT, Int.reduceLE, Int.reduceEq, Int.reduceNe, Int.reduceAdd, Int.reduceSub, Int.reduceMul, Int.reduceNeg, Int.reduceToNat]
  refine q_use (impl_fracsCode (s.keep (fun i _ hi9 => by simp (disch := omega) only [upd_other])) hl hll hq (Fracs.keep sf (fun i _ hi9 => by simp (disch := omega) only [upd_other])) hf _ (by omega) (by omega)) fun n1 hn1 => ?_
  simp (maxSteps := 2000000) -implicitDefEqProofs (disch := omega) only [xsW, xsC, if_true, if_false, ite_true, ite_false, forall_const, ne_eq, beq_self_eq_true, bne_self_eq_false, imp_self, true_implies, false_implies, implies_true, evP, evE, ev, setD, Nat.reduceAdd, Nat.reduceSub, reduceCtorEq, fillA, cutA, Nat.reduceLeDiff, Nat.reduceMul, Int.reduceLT, Int.reduceLE, Int.reduceEq, Int.reduceNe, Int.reduceAdd, Int.reduceSub, Int.reduceMul, Int.reduceNeg, Int.reduceToNat]
  (refine cd_dec (fun c1 => ?_) (fun c1 => ?_) <;> simp (maxSteps := 2000000) -implicitDefEqProofs (disch := omega) only [xsW, xsC, if_true, if_false, ite_true, ite_false, forall_const, ne_eq, beq_self_eq_true, bne_self_eq_false, imp_self, true_implies, false_implies, implies_true, evP, evE, ev, setD, Nat.reduceAdd, Nat.reduceSub, reduceCtorEq, fillA, cutA, Nat.reduceLeDiff, Nat.reduceMul, Int.reduceLT, Int.reduceLE, Int.reduceEq, Int.reduceNe, Int.reduceAdd, Int.reduceSub, Int.reduceMul, Int.reduceNeg, Int.reduceToNat,  c1])
  · simp [isSolV, c1]
  · have c2 : frcV ll q f = 0 := Decidable.not_not.1 c1
    obtain ⟨hp, ha, hfl⟩ := frcV_zero c2
    refine fq_use (impl_together (Fracs.keep (h' := upd h n (some ⟨31, [v, u], true, 0⟩)) sf (fun i _ hi9 => by simp (disch := omega) only [upd_other])) hf ha n1 (by omega)) fun x1 h1 n2 hn2 hs1 hx1 => ?_
    rcases hx1 with ⟨d1, rfl⟩ | ⟨d1, v1, rfl, hv1⟩
    · simp (maxSteps := 2000000) -implicitDefEqProofs (disch := omega) only [xsW, xsC, if_true, if_false, ite_true, ite_false, forall_const, ne_eq, beq_self_eq_true, bne_self_eq_false, imp_self, true_implies, false_implies, implies_true, evP, evE, ev, setD, Nat.reduceAdd, Nat.reduceSub, reduceCtorEq, fillA, cutA, Nat.reduceLeDiff, Nat.reduceMul, Int.reduceLT, Int.reduceLE, Int.reduceEq, Int.reduceNe, Int.reduceAdd, Int.reduceSub, Int.reduceMul, Int.reduceNeg, Int.reduceToNat]
      simp [isSolV, c2, d1]
    · obtain ⟨e1, e2, e3, e4⟩ := cmn_facts c2 d1
      have hrl := remL_len ll q (cmnN f) (cmnD f)
      have hN := ((isMat_iff ll).1 (isProb_facts hp).1).2.1
      have hbox : h1 n = some ⟨31, [v, u], true, 0⟩ := by rw [hs1 n (by omega), upd_same]
      simp (maxSteps := 2000000) -implicitDefEqProofs (disch := omega) only [xsW, xsC, if_true, if_false, ite_true, ite_false, forall_const, ne_eq, beq_self_eq_true, bne_self_eq_false, imp_self, true_implies, false_implies, implies_true, evP, evE, ev, setD, Nat.reduceAdd, Nat.reduceSub, reduceCtorEq, fillA, cutA, Nat.reduceLeDiff, Nat.reduceMul, Int.reduceLT, Int.reduceLE, Int.reduceEq, Int.reduceNe, Int.reduceAdd, Int.reduceSub, Int.reduceMul, Int.reduceNeg, Int.reduceToNat,  hbox]
      refine fq_use (impl_rest (s.keep (h' := h1) (fun i _ hi9 => by simp (disch := omega) only [upd_other, hs1])) hp hv1 e1 e2 (cmnD f) (by omega) n2 (by omega) (by omega)) fun v2 h2 n3 hn3 hs2 hv2 => ?_
      simp (maxSteps := 2000000) -implicitDefEqProofs (disch := omega) only [xsW, xsC, if_true, if_false, ite_true, ite_false, forall_const, ne_eq, beq_self_eq_true, bne_self_eq_false, imp_self, true_implies, false_implies, implies_true, evP, evE, ev, setD, Nat.reduceAdd, Nat.reduceSub, reduceCtorEq, fillA, cutA, Nat.reduceLeDiff, Nat.reduceMul, Int.reduceLT, Int.reduceLE, Int.reduceEq, Int.reduceNe, Int.reduceAdd, Int.reduceSub, Int.reduceMul, Int.reduceNeg, Int.reduceToNat,  hv2.ln, hrl]
      refine loop_for ll.length 0 (fun k (_ : Unit) => [.agg [v, u], v', .ptr n 0, .any, .bool false, .int .i64 0, .int .i64 (frcV ll q f), v1, .int .i64 (cmnD f), .bool true, .any, .any, .any, .any, .any, .any, .any, .any, .any, .any, .any, .any, .any, .any, .any, .any, .any, .any, .any, v2, .int .i64 ll.length, .int .i64 k, .any, .any, .any, .any, .any, .any, .any, .any, .any, .any, .any, .any, .any, .any, .any, .any, .any, .any, .any, .any, .any, .any, .any, .any, .any]) (fun _ _ => h2)
        (fun k _ _ => ∀ j, j < k → okYX ((remL ll q (cmnN f) (cmnD f)).getD j 0) ((cmnN f).getD j 0) = true) () (Nat.zero_le _) (fun j hj => absurd hj (Nat.not_lt_zero _)) (by simp [LeL, Le1]) (fun _ _ h => h) ?_
      rintro k - m - hk hm hall
      simp (maxSteps := 2000000) -implicitDefEqProofs (disch := omega) only [xsW, xsC, if_true, if_false, ite_true, ite_false, forall_const, ne_eq, beq_self_eq_true, bne_self_eq_false, imp_self, true_implies, false_implies, implies_true, evP, evE, ev, setD, Nat.reduceAdd, Nat.reduceSub, reduceCtorEq, fillA, cutA, Nat.reduceLeDiff, Nat.reduceMul, Int.reduceLT, Int.reduceLE, Int.reduceEq, Int.reduceNe, Int.reduceAdd, Int.reduceSub, Int.reduceMul, Int.reduceNeg, Int.reduceToNat]
      (refine cd_dec (fun c3 => ?_) (fun c3 => ?_) <;> simp (maxSteps := 2000000) -implicitDefEqProofs (disch := omega) only [xsW, xsC, if_true, if_false, ite_true, ite_false, forall_const, ne_eq, beq_self_eq_true, bne_self_eq_false, imp_self, true_implies, false_implies, implies_true, evP, evE, ev, setD, Nat.reduceAdd, Nat.reduceSub, reduceCtorEq, fillA, cutA, Nat.reduceLeDiff, Nat.reduceMul, Int.reduceLT, Int.reduceLE, Int.reduceEq, Int.reduceNe, Int.reduceAdd, Int.reduceSub, Int.reduceMul, Int.reduceNeg, Int.reduceToNat,  c3])
      · have hk2 : k < ll.length := by omega
        have hkr : k < (remL ll q (cmnN f) (cmnD f)).length := by omega
        have hbx := Sl.below hv1 (by rw [hv1.slen]; omega)
        have more : 0 ≤ (remL ll q (cmnN f) (cmnD f)).getD k 0 ∧ 0 ≤ (cmnN f).getD k 0 ∧ ((remL ll q (cmnN f) (cmnD f)).getD k 0 = 0 ∨ (cmnN f).getD k 0 = 0) → ∀ j, j < k + 1 → okYX ((remL ll q (cmnN f) (cmnD f)).getD j 0) ((cmnN f).getD j 0) = true := fun hy j hj =>
          (Nat.lt_succ_iff_lt_or_eq.1 hj).elim (hall j) (fun e => by rw [e]; exact decide_eq_true hy)
        simp (maxSteps := 2000000) -implicitDefEqProofs (disch := omega) only [xsW, xsC, if_true, if_false, ite_true, ite_false, forall_const, ne_eq, beq_self_eq_true, bne_self_eq_false, imp_self, true_implies, false_implies, implies_true, evP, evE, ev, setD, Nat.reduceAdd, Nat.reduceSub, reduceCtorEq, fillA, cutA, Nat.reduceLeDiff, Nat.reduceMul, Int.reduceLT, Int.reduceLE, Int.reduceEq, Int.reduceNe, Int.reduceAdd, Int.reduceSub, Int.reduceMul, Int.reduceNeg, Int.reduceToNat,  hs2, hv2.ia, hv2.ld, hrl]
        (refine gd_dec (fun c4 => ?_) (fun c4 => ?_) <;> simp (maxSteps := 2000000) -implicitDefEqProofs (disch := omega) only [xsW, xsC, if_true, if_false, ite_true, ite_false, forall_const, ne_eq, beq_self_eq_true, bne_self_eq_false, imp_self, true_implies, false_implies, implies_true, evP, evE, ev, setD, Nat.reduceAdd, Nat.reduceSub, reduceCtorEq, fillA, cutA, Nat.reduceLeDiff, Nat.reduceMul, Int.reduceLT, Int.reduceLE, Int.reduceEq, Int.reduceNe, Int.reduceAdd, Int.reduceSub, Int.reduceMul, Int.reduceNeg, Int.reduceToNat,  c4])
        · simp [isSolV, c2, d1, solvB_no (xs := cmnN f) hkr (by omega)]
        · simp (maxSteps := 2000000) -implicitDefEqProofs (disch := omega) only [xsW, xsC, if_true, if_false, ite_true, ite_false, forall_const, ne_eq, beq_self_eq_true, bne_self_eq_false, imp_self, true_implies, false_implies, implies_true, evP, evE, ev, setD, Nat.reduceAdd, Nat.reduceSub, reduceCtorEq, fillA, cutA, Nat.reduceLeDiff, Nat.reduceMul, Int.reduceLT, Int.reduceLE, Int.reduceEq, Int.reduceNe, Int.reduceAdd, Int.reduceSub, Int.reduceMul, Int.reduceNeg, Int.reduceToNat,  hs2, hv1.ia, hv1.ld, e1]
          (refine gd_dec (fun c5 => ?_) (fun c5 => ?_) <;> simp (maxSteps := 2000000) -implicitDefEqProofs (disch := omega) only [xsW, xsC, if_true, if_false, ite_true, ite_false, forall_const, ne_eq, beq_self_eq_true, bne_self_eq_false, imp_self, true_implies, false_implies, implies_true, evP, evE, ev, setD, Nat.reduceAdd, Nat.reduceSub, reduceCtorEq, fillA, cutA, Nat.reduceLeDiff, Nat.reduceMul, Int.reduceLT, Int.reduceLE, Int.reduceEq, Int.reduceNe, Int.reduceAdd, Int.reduceSub, Int.reduceMul, Int.reduceNeg, Int.reduceToNat,  c5])
          · simp [isSolV, c2, d1, solvB_no (xs := cmnN f) hkr (by omega)]
          · (refine gd_dec (fun c6 => ?_) (fun c6 => ?_) <;> simp (maxSteps := 2000000) -implicitDefEqProofs (disch := omega) only [xsW, xsC, if_true, if_false, ite_true, ite_false, forall_const, ne_eq, beq_self_eq_true, bne_self_eq_false, imp_self, true_implies, false_implies, implies_true, evP, evE, ev, setD, Nat.reduceAdd, Nat.reduceSub, reduceCtorEq, fillA, cutA, Nat.reduceLeDiff, Nat.reduceMul, Int.reduceLT, Int.reduceLE, Int.reduceEq, Int.reduceNe, Int.reduceAdd, Int.reduceSub, Int.reduceMul, Int.reduceNeg, Int.reduceToNat,  c6])
            · simp (maxSteps := 2000000) -implicitDefEqProofs (disch := omega) only [xsW, xsC, if_true, if_false, ite_true, ite_false, forall_const, ne_eq, beq_self_eq_true, bne_self_eq_false, imp_self, true_implies, false_implies, implies_true, evP, evE, ev, setD, Nat.reduceAdd, Nat.reduceSub, reduceCtorEq, fillA, cutA, Nat.reduceLeDiff, Nat.reduceMul, Int.reduceLT, Int.reduceLE, Int.reduceEq, Int.reduceNe, Int.reduceAdd, Int.reduceSub, Int.reduceMul, Int.reduceNeg, Int.reduceToNat,  hs2, hv1.ia, hv1.ld, e1]
              (refine cd_dec (fun c7 => ?_) (fun c7 => ?_) <;> simp (maxSteps := 2000000) -implicitDefEqProofs (disch := omega) only [xsW, xsC, if_true, if_false, ite_true, ite_false, forall_const, ne_eq, beq_self_eq_true, bne_self_eq_false, imp_self, true_implies, false_implies, implies_true, evP, evE, ev, setD, Nat.reduceAdd, Nat.reduceSub, reduceCtorEq, fillA, cutA, Nat.reduceLeDiff, Nat.reduceMul, Int.reduceLT, Int.reduceLE, Int.reduceEq, Int.reduceNe, Int.reduceAdd, Int.reduceSub, Int.reduceMul, Int.reduceNeg, Int.reduceToNat,  c7])
              · simp [isSolV, c2, d1, solvB_no (xs := cmnN f) hkr (by omega)]
              · exact ⟨(), more (by omega), by omega, by omega, (by simp [LeL, Le1])⟩
            · exact ⟨(), more (by omega), by omega, by omega, (by simp [LeL, Le1])⟩
      · have : solvB (remL ll q (cmnN f) (cmnD f)) (cmnN f) = true := (solvB_iff _ _).2 fun j hj => hall j (by omega)
        simp [isSolV, c2, d1, this]
end
end Go.Proofs.Ytkpibnhddhdooab.L
/- Solutions in order, told without the program: lists of fractions compared, lists sorted and without doubles. -/
namespace Go.Proofs.Ytkpibnhddhdooab.L
open Go
abbrev FrL := List (Int × Int)
/-- Lists of fractions compared, place by place. -/
def cmpL : FrL → FrL → Int
  | [], _ => 0
  | _ :: _, [] => 1
  | p :: l, r :: m => if p.1 * r.2 - r.1 * p.2 = 0 then cmpL l m else (p.1 * r.2 - r.1 * p.2).sign
def fr1 (p : Int × Int) : Prop := isFr 1000000000 p.1 p.2 = true
def GoodF (N : Nat) (l : FrL) : Prop := l.length = N ∧ ∀ p ∈ l, fr1 p
def ltL (l m : FrL) : Prop := cmpL l m < 0
section
variable {N : Nat}
end
instance ltL_dec (l m : FrL) : Decidable (ltL l m) := inferInstanceAs (Decidable (cmpL l m < 0))
/-- All numbers of points are within the limits. -/
theorem det_lim20 {q n : Nat} {A : Mx} (hn : n ≤ 5) (h : ∀ r c, r < n → c < n → (A r c).natAbs ≤ if c = q then 100 else 20) : -1000000000 ≤ det n A ∧ det n A ≤ 1000000000 := by
  by_cases e : n = 5
  · subst e; exact det5_small h
  · have hl : Lim q n A := fun r c hr hc => by
      have := h r c hr hc
      by_cases e9 : c = q
      · rw [if_pos e9] at this ⊢; exact this
      · rw [if_neg e9] at this ⊢; omega
    have h1 := hl.term.1
    have h2 := Tm_le4 (n := n) (by omega)
    omega
theorem dtS_1e9 {ll : List (List Int)} {q : List Int} (hp : isProb ll q = true) (s : Int) : -1000000000 ≤ dtS ll s ∧ dtS ll s ≤ 1000000000 := by
  have hm := (isProb_facts hp).1
  refine det_lim20 (q := 9) ((isMat_iff ll).1 hm).2.1 fun r c hr hc => ?_
  have h1 := colE_b hm s hr hc
  unfold mx
  rw [colsL_at hr hc]
  split <;> omega
theorem dtK_1e9 {ll : List (List Int)} {q : List Int} (hp : isProb ll q = true) (s : Int) {k : Nat} (_ : k < ll.length) : -1000000000 ≤ dtK ll q s k ∧ dtK ll q s k ≤ 1000000000 := by
  obtain ⟨hm, hq, hw⟩ := isProb_facts hp
  refine det_lim20 (q := k) ((isMat_iff ll).1 hm).2.1 fun r c hr hc => ?_
  have h1 := colE_b hm s hr hc
  have h2 := (within_iff _ _).1 hw r (by omega)
  unfold mx
  rw [putL_at (by rw [(colsL_sq ll s).1]; exact hr) (by rw [(colsL_sq ll s).2 r hr]; exact hc), colsL_at hr hc]
  by_cases e : k = c
  · subst e; rw [if_pos rfl, if_pos rfl]; omega
  · rw [if_neg e, if_neg fun h => e h.symm]; omega
/-- The solution of a set. -/
def zF (ll : List (List Int)) (q : List Int) (s : Nat) : FrL := onlyF (ptF ll q (s : Int)) (s : Int)
theorem red_1e9 {x d : Int} (hd : d ≠ 0) (hx : -1000000000 ≤ x ∧ x ≤ 1000000000) (hd2 : -1000000000 ≤ d ∧ d ≤ 1000000000) : fr1 (red x d) := by
  obtain ⟨h1, h2⟩ := red_low (x := x) hd
  have hg : 0 < (Int.gcd x d : Int) := by have := Int.gcd_pos_of_ne_zero_right x hd; omega
  have h5 : ((red x d).2 : Int) ≤ (d.natAbs : Int) := by
    simp only [red]
    exact Int.ofNat_le.2 (Nat.div_le_self _ _)
  have h3 : -1000000000 ≤ x * d.sign ∧ x * d.sign ≤ 1000000000 := by rw [Int.mul_comm]; exact sign_mul_b hx
  have h4 : -1000000000 ≤ (red x d).1 ∧ (red x d).1 ≤ 1000000000 := by
    simp only [red]
    constructor
    · have := Int.le_ediv_of_mul_le (a := -1000000000) hg (b := x * d.sign) (by have := Int.mul_le_mul_of_nonneg_left (show (1 : Int) ≤ (Int.gcd x d : Int) by omega) (show (0 : Int) ≤ 1000000000 by omega); omega)
      omega
    · have := Int.ediv_le_self (a := 1000000000) (Int.gcd x d : Int) (by omega)
      have h5 := Int.ediv_le_ediv hg h3.2
      omega
  unfold fr1 isFr
  exact decide_eq_true ⟨h1, by omega, h4.1, h4.2, h2⟩
theorem zF_good {ll : List (List Int)} {q : List Int} (hp : isProb ll q = true) {s : Nat} (hd : dtS ll (s : Int) ≠ 0) : GoodF ll.length (zF ll q s) := by
  refine ⟨by rw [zF, onlyF_len, ptF_len], fun p hx => ?_⟩
  obtain ⟨k, hk, rfl⟩ := List.mem_iff_getElem.1 hx
  have hk2 : k < ll.length := by rw [zF, onlyF_len, ptF_len] at hk; exact hk
  have e : (zF ll q s)[k] = (zF ll q s).getD k (0, 0) := by simp [List.getD, hk]
  rw [e, zF, onlyF_get (by rw [ptF_len]; exact hk2)]
  split
  · rw [ptF, getD_map _ _ _ 0 _ (by rw [ptL_len]; exact hk2), ptL, rowOf_get hk2]
    exact red_1e9 hd (dtK_1e9 hp _ hk2) (dtS_1e9 hp _)
  · unfold fr1; decide
theorem good_all {N : Nat} {l : FrL} (h : GoodF N l) : allFr l = true := by
  rw [allFr, List.all_eq_true]; exact h.2
theorem setP_d {ll : List (List Int)} {q : List Int} {s : Nat} (h : setP ll q feasT s = true) : dtS ll (s : Int) ≠ 0 := by
  simp only [setP, Bool.and_eq_true, decide_eq_true_eq] at h; exact h.1
end Go.Proofs.Ytkpibnhddhdooab.L
/- Contracts: draws, of which only what kind of things they give is told. -/
namespace Go.Proofs.Ytkpibnhddhdooab.L
open Go
set_option linter.unusedSimpArgs false
set_option linter.unusedVariables false
def c_spec_l01From : F := ⟨(.seq (.reg false [⟨(some 2), (.mv (.c .nilptr)), none⟩]) (.seq (.reg false [⟨(some 5), (.mv (.t 0)), none⟩, ⟨(some 6), (.mv (.t 0)), none⟩, ⟨(some 7), (.len (.t 6)), none⟩, ⟨(some 8), (.cvi .u64 (.t 7)), none⟩, ⟨(some 9), (.bin .add (.c (.int .u64 13431)) (.t 8)), none⟩, ⟨(some 10), (.build [.nilsl, (.int .i64 0), (.int .u64 0)] [(0, (1, (.t 5))), (2, (1, (.t 9)))]), none⟩, ⟨(some 11), (.box 144 (.t 10)), none⟩, ⟨(some 3), (.mv (.t 11)), none⟩]) (.seq (.seq (.reg false [⟨(some 4), (.mv (.c (.int .i64 0))), none⟩]) (.block 0 (.loop (.seq (.seq (.reg false [⟨(some 12), (.mv (.t 4)), none⟩, ⟨(some 13), (.mv (.t 0)), none⟩, ⟨(some 14), (.len (.t 13)), none⟩, ⟨(some 15), (.bin .lss (.t 12) (.t 14)), none⟩, ⟨(some 16), (.mv (.t 15)), none⟩, ⟨(some 17), (.mv (.t 4)), (some (16, true))⟩, ⟨(some 18), (.bin .lss (.t 17) (.c (.int .i64 4096))), (some (16, true))⟩, ⟨(some 19), (.pick (.t 16) (.t 18) (.c (.bool false))), none⟩]) (.cond (.t 19) .skip (.exit 0))) (.seq (.block 1 (.reg true [⟨(some 22), (.mv (.t 3)), none⟩, ⟨(some 23), (.mv (.t 3)), none⟩, ⟨(some 24), (.nck (.t 23)), none⟩, ⟨(some 25), (.fa 2 (.t 24)), none⟩, ⟨(some 26), (.ld1 (.t 25)), none⟩, ⟨(some 27), (.bin .mul (.t 26) (.c (.int .u64 1099511628211))), none⟩, ⟨(some 28), (.mv (.t 0)), none⟩, ⟨(some 29), (.mv (.t 4)), none⟩, ⟨(some 30), (.ia 1 (.t 28) (.t 29)), none⟩, ⟨(some 31), (.ld1 (.t 30)), none⟩, ⟨(some 32), (.cvi .u64 (.t 31)), none⟩, ⟨(some 33), (.bin .add (.t 27) (.t 32)), none⟩, ⟨(some 34), (.bin .add (.t 33) (.c (.int .u64 167))), none⟩, ⟨(some 35), (.nck (.t 22)), none⟩, ⟨(some 36), (.fa 2 (.t 35)), none⟩, ⟨none, (.st 1 (.t 36) (.t 34)), none⟩])) (.reg false [⟨(some 20), (.mv (.t 4)), none⟩, ⟨(some 21), (.bin .add (.t 20) (.c (.int .i64 1))), none⟩, ⟨(some 4), (.mv (.t 21)), none⟩])))))) (.seq (.reg false [⟨(some 37), (.mv (.t 3)), none⟩, ⟨(some 2), (.mv (.t 37)), none⟩]) .ret)))), 38, [(.t 2)]⟩
theorem k_spec_l01From : compF Try.prog Try.f98 = some c_spec_l01From := by kernel_rfl
def c_spec_l01Next : F := ⟨(.seq (.reg false [⟨(some 4), (.mv (.c (.int .i64 0))), none⟩]) (.seq (.seq (.reg false [⟨(some 6), (.mv (.t 1)), none⟩, ⟨(some 7), (.bin .lss (.t 6) (.c (.int .i64 1))), none⟩]) (.cond (.t 7) (.seq (.reg false [⟨(some 4), (.mv (.c (.int .i64 0))), none⟩]) .ret) .skip)) (.seq (.reg false [⟨(some 8), (.mv (.t 0)), none⟩, ⟨(some 9), (.mv (.t 0)), none⟩, ⟨(some 10), (.nck (.t 9)), none⟩, ⟨(some 11), (.fa 2 (.t 10)), none⟩, ⟨(some 12), (.ld1 (.t 11)), none⟩, ⟨(some 13), (.bin .mul (.t 12) (.c (.int .u64 6364136223846793005))), none⟩, ⟨(some 14), (.bin .add (.t 13) (.c (.int .u64 1442695040888963407))), none⟩, ⟨(some 15), (.nck (.t 8)), none⟩, ⟨(some 16), (.fa 2 (.t 15)), none⟩, ⟨none, (.st 1 (.t 16) (.t 14)), none⟩]) (.seq (.reg false [⟨(some 17), (.mv (.t 0)), none⟩, ⟨(some 18), (.nck (.t 17)), none⟩, ⟨(some 19), (.fa 2 (.t 18)), none⟩, ⟨(some 20), (.ld1 (.t 19)), none⟩, ⟨(some 21), (.bin .shr (.t 20) (.c (.int .u64 31))), none⟩, ⟨(some 22), (.bin .and (.t 21) (.c (.int .u64 1073741823))), none⟩, ⟨(some 23), (.cvi .i64 (.t 22)), none⟩, ⟨(some 5), (.mv (.t 23)), none⟩]) (.seq (.seq (.reg true [⟨(some 24), (.mv (.t 0)), none⟩, ⟨(some 25), (.nck (.t 24)), none⟩, ⟨(some 26), (.fa 1 (.t 25)), none⟩, ⟨(some 27), (.ld1 (.t 26)), none⟩, ⟨(some 28), (.mv (.t 0)), none⟩, ⟨(some 29), (.nck (.t 28)), none⟩, ⟨(some 30), (.fa 0 (.t 29)), none⟩, ⟨(some 31), (.ld1 (.t 30)), none⟩, ⟨(some 32), (.len (.t 31)), none⟩, ⟨(some 33), (.bin .lss (.t 27) (.t 32)), none⟩]) (.cond (.t 33) (.seq (.reg true [⟨(some 34), (.mv (.t 5)), none⟩, ⟨(some 35), (.mv (.t 0)), none⟩, ⟨(some 36), (.nck (.t 35)), none⟩, ⟨(some 37), (.fa 0 (.t 36)), none⟩, ⟨(some 38), (.ld1 (.t 37)), none⟩, ⟨(some 39), (.mv (.t 0)), none⟩, ⟨(some 40), (.nck (.t 39)), none⟩, ⟨(some 41), (.fa 1 (.t 40)), none⟩, ⟨(some 42), (.ld1 (.t 41)), none⟩, ⟨(some 43), (.ia 1 (.t 38) (.t 42)), none⟩, ⟨(some 44), (.ld1 (.t 43)), none⟩, ⟨(some 45), (.cvi .i64 (.t 44)), none⟩, ⟨(some 46), (.bin .add (.t 34) (.t 45)), none⟩, ⟨(some 5), (.mv (.t 46)), none⟩]) (.reg false [⟨(some 47), (.mv (.t 0)), none⟩, ⟨(some 48), (.mv (.t 0)), none⟩, ⟨(some 49), (.nck (.t 48)), none⟩, ⟨(some 50), (.fa 1 (.t 49)), none⟩, ⟨(some 51), (.ld1 (.t 50)), none⟩, ⟨(some 52), (.bin .add (.t 51) (.c (.int .i64 1))), none⟩, ⟨(some 53), (.nck (.t 47)), none⟩, ⟨(some 54), (.fa 1 (.t 53)), none⟩, ⟨none, (.st 1 (.t 54) (.t 52)), none⟩])) .skip)) (.seq (.reg false [⟨(some 55), (.mv (.t 5)), none⟩, ⟨(some 56), (.mv (.t 1)), none⟩, ⟨(some 57), (.bin .rem (.t 55) (.t 56)), none⟩, ⟨(some 4), (.mv (.t 57)), none⟩]) .ret)))))), 58, [(.t 4)]⟩
theorem k_spec_l01Next : compF Try.prog Try.f100 = some c_spec_l01Next := by kernel_rfl
def c_spec_l01Pick : F := ⟨(.seq (.reg false [⟨(some 4), (.mv (.c (.int .i64 0))), none⟩]) (.seq (.reg false [⟨(some 5), (.mv (.t 1)), none⟩, ⟨(some 6), (.mv (.t 0)), none⟩, ⟨(some 7), (.mv (.t 1)), none⟩, ⟨(some 8), (.len (.t 7)), none⟩, ⟨(some 9), (.call (.f 100) [(.t 6), (.t 8)]), none⟩, ⟨(some 10), (.ia 1 (.t 5) (.t 9)), none⟩, ⟨(some 11), (.ld1 (.t 10)), none⟩, ⟨(some 4), (.mv (.t 11)), none⟩]) .ret)), 12, [(.t 4)]⟩
theorem k_spec_l01Pick : compF Try.prog Try.f155 = some c_spec_l01Pick := by kernel_rfl
def c_spec_l01DrawPart : F := ⟨(.seq (.reg false [⟨(some 4), (.mv (.c (.int .i64 0))), none⟩]) (.seq (.reg false [⟨(some 5), (.mv (.t 0)), none⟩, ⟨(some 6), (.mv (.t 1)), none⟩, ⟨(some 7), (.bin .mul (.c (.int .i64 2)) (.t 6)), none⟩, ⟨(some 8), (.bin .add (.t 7) (.c (.int .i64 1))), none⟩, ⟨(some 9), (.call (.f 100) [(.t 5), (.t 8)]), none⟩, ⟨(some 10), (.mv (.t 1)), none⟩, ⟨(some 11), (.bin .sub (.t 9) (.t 10)), none⟩, ⟨(some 4), (.mv (.t 11)), none⟩]) .ret)), 12, [(.t 4)]⟩
theorem k_spec_l01DrawPart : compF Try.prog Try.f164 = some c_spec_l01DrawPart := by kernel_rfl

/-- A source of draws at the name b. -/
def Rnd (bnd b : Nat) (h : AH) : Prop := ∃ (vc : AV) (code : List Int) (a : Nat) (hash : Int), h b = some ⟨144, [vc, .int .i64 a, .int .u64 hash], true, 0⟩ ∧ Sl false 0 bnd h 1 vc (bytesA code) ∧ code.length ≤ 4096 ∧ (∀ x ∈ code, 0 ≤ x ∧ x ≤ 255) ∧ a ≤ code.length
theorem Rnd.keep {bnd b : Nat} {h h' : AH} (r : Rnd bnd b h) (hb : h' b = h b) (k : ∀ j, j < bnd → h' j = h j) : Rnd bnd b h' := by
  obtain ⟨vc, code, a, hash, h1, h2, h3⟩ := r
  exact ⟨vc, code, a, hash, by rw [hb]; exact h1, h2.keep fun j _ hj => k j hj, h3⟩
theorem Rnd.blk {bnd b : Nat} {h : AH} (r : Rnd bnd b h) : ∃ bl, h b = some bl ∧ bl.wr = true := by
  obtain ⟨vc, code, a, hash, h1, _⟩ := r
  exact ⟨_, h1, rfl⟩
theorem and_small (x : Int) : 0 ≤ bitv .and .u64 x 1073741823 ∧ bitv .and .u64 x 1073741823 ≤ 1073741823 := by
  simp only [bitv]
  have h : (BitVec.ofInt IntKind.u64.bits x &&& BitVec.ofInt IntKind.u64.bits 1073741823).toNat ≤ 1073741823 := by
    rw [BitVec.toNat_and]
    refine Nat.le_trans Nat.and_le_right ?_
    decide
  generalize (BitVec.ofInt IntKind.u64.bits x &&& BitVec.ofInt IntKind.u64.bits 1073741823).toNat = m at h
  have : IntKind.u64.wrap (m : Int) = m := by simp [IntKind.wrap, IntKind.bits, IntKind.signed]; omega
  rw [this]
  omega
/-- What a draw of a number below k gives. -/
def NextP (k : Int) (x : AV) : Prop := ∃ y : Int, x = .int .i64 y ∧ 0 ≤ y ∧ (1 ≤ k → y < k) ∧ (k < 1 → y = 0)
def PickP (l : List Int) (x : AV) : Prop := ∃ y : Int, x = .int .i64 y ∧ y ∈ l
def PartP (k : Int) (x : AV) : Prop := ∃ y : Int, x = .int .i64 y ∧ -k ≤ y ∧ y ≤ k
def Same (b : Nat) (h' h : AH) : Prop := ∀ j, j ≠ b → h' j = h j
section
variable {bnd b : Nat} {h : AH}
theorem spec_l01Next (r : Rnd bnd b h) (hb : bnd ≤ b) (k : Int) (n : Nat) (hn : b < n) :
    MQ Try.prog 100 [.ptr b 0, .int .i64 k] h n b (b + 1) fun x h' n' => n' = n ∧ NextP k x ∧ Rnd bnd b h' ∧ Same b h' h := by
  refine mq_intro Try.func100 k_spec_l01Next ?_
  obtain ⟨vc, code, a, hash, h1, h2, h3, h4, h5⟩ := r
  have r0 : Rnd bnd b h := ⟨vc, code, a, hash, h1, h2, h3, h4, h5⟩
  simp (maxSteps := 2000000) -implicitDefEqProofs (disch := omega) only [c_spec_l01Next, xsW, xsC, if_true, if_false, ite_true, ite_false, forall_const, ne_eq, beq_self_eq_true, bne_self_eq_false, imp_self, true_implies, false_implies, implies_true, evP, evE, ev, setD, Nat.reduceAdd, Nat.reduceSub, reduceCtorEq, fillA, cutA, Nat.reduceLeDiff, Nat.reduceMul, Int.reduceLT, Int.reduceLE, Int.reduceEq, Int.reduceNe, Int.reduceAdd, Int.reduceSub, Int.reduceMul, Int.reduceNeg, Int.reduceToNat]
  (refine cd_dec (fun c1 => ?_) (fun c1 => ?_) <;> simp (maxSteps := 2000000) -implicitDefEqProofs (disch := omega) only [xsW, xsC, if_true, if_false, ite_true, ite_false, forall_const, ne_eq, beq_self_eq_true, bne_self_eq_false, imp_self, true_implies, false_implies, implies_true, evP, evE, ev, setD, Nat.reduceAdd, Nat.reduceSub, reduceCtorEq, fillA, cutA, Nat.reduceLeDiff, Nat.reduceMul, Int.reduceLT, Int.reduceLE, Int.reduceEq, Int.reduceNe, Int.reduceAdd, Int.reduceSub, Int.reduceMul, Int.reduceNeg, Int.reduceToNat,  c1])
  · exact ⟨⟨0, rfl, by omega, fun h => by omega, fun _ => rfl⟩, r0, fun _ _ => rfl⟩
  · simp (maxSteps := 2000000) -implicitDefEqProofs (disch := omega) only [xsW, xsC, if_true, if_false, ite_true, ite_false, forall_const, ne_eq, beq_self_eq_true, bne_self_eq_false, imp_self, true_implies, false_implies, implies_true, evP, evE, ev, setD, Nat.reduceAdd, Nat.reduceSub, reduceCtorEq, fillA, cutA, Nat.reduceLeDiff, Nat.reduceMul, Int.reduceLT, Int.reduceLE, Int.reduceEq, Int.reduceNe, Int.reduceAdd, Int.reduceSub, Int.reduceMul, Int.reduceNeg, Int.reduceToNat,  h1]
    refine ⟨hn, .inr (by omega), ?_⟩
    generalize IntKind.u64.wrap (IntKind.u64.wrap (hash * 6364136223846793005) + 1442695040888963407) = hash2
    have hx := and_small (hash2.fdiv (2 ^ min 31 IntKind.u64.bits))
    generalize bitv BinOp.and IntKind.u64 (hash2.fdiv (2 ^ min 31 IntKind.u64.bits)) 1073741823 = X at hx ⊢
    have hup : ∀ (a' : Nat) (hash' : Int) (h2' : AH), (∀ j, j ≠ b → h2' j = h j) → h2' b = some ⟨144, [vc, .int .i64 a', .int .u64 hash'], true, 0⟩ → a' ≤ code.length → Rnd bnd b h2' := fun a' hash' h2' e1 e2 e3 =>
      ⟨vc, code, a', hash', e2, h2.keep fun j _ hj => e1 j (by omega), h3, h4, e3⟩
    have fin : ∀ y : Int, 0 ≤ y → NextP k (.int .i64 (y.tmod k)) := fun y hy => ⟨_, rfl, Int.tmod_nonneg _ hy, fun _ => Int.tmod_lt_of_pos _ (by omega), fun _ => by omega⟩
    have hsl : slen vc = code.length := by have := h2.len; rw [bytesA_len] at this; omega
    refine ⟨by unfold in64; omega, ?_⟩
    simp (maxSteps := 2000000) -implicitDefEqProofs (disch := omega) only [xsW, xsC, if_true, if_false, ite_true, ite_false, forall_const, ne_eq, beq_self_eq_true, bne_self_eq_false, imp_self, true_implies, false_implies, implies_true, evP, evE, ev, setD, Nat.reduceAdd, Nat.reduceSub, reduceCtorEq, fillA, cutA, Nat.reduceLeDiff, Nat.reduceMul, Int.reduceLT, Int.reduceLE, Int.reduceEq, Int.reduceNe, Int.reduceAdd, Int.reduceSub, Int.reduceMul, Int.reduceNeg, Int.reduceToNat,  h2.ln, hsl]
    (refine cd_dec (fun c2 => ?_) (fun c2 => ?_) <;> simp (maxSteps := 2000000) -implicitDefEqProofs (disch := omega) only [xsW, xsC, if_true, if_false, ite_true, ite_false, forall_const, ne_eq, beq_self_eq_true, bne_self_eq_false, imp_self, true_implies, false_implies, implies_true, evP, evE, ev, setD, Nat.reduceAdd, Nat.reduceSub, reduceCtorEq, fillA, cutA, Nat.reduceLeDiff, Nat.reduceMul, Int.reduceLT, Int.reduceLE, Int.reduceEq, Int.reduceNe, Int.reduceAdd, Int.reduceSub, Int.reduceMul, Int.reduceNeg, Int.reduceToNat,  c2])
    · have ha : a < code.length := by omega
      have hby := h4 _ (getD_mem (d := 0) ha)
      have hbel := h2.below (by omega)
      have hld := fun (K : AV → AH → Nat → Prop) (h' : AH) (n : Nat) => h2.ld (k := a) (by rw [bytesA_len]; exact ha) K h' n
      rw [bytesA_get code a ha] at hld
      simp (maxSteps := 2000000) -implicitDefEqProofs (disch := omega) only [xsW, xsC, if_true, if_false, ite_true, ite_false, forall_const, ne_eq, beq_self_eq_true, bne_self_eq_false, imp_self, true_implies, false_implies, implies_true, evP, evE, ev, setD, Nat.reduceAdd, Nat.reduceSub, reduceCtorEq, fillA, cutA, Nat.reduceLeDiff, Nat.reduceMul, Int.reduceLT, Int.reduceLE, Int.reduceEq, Int.reduceNe, Int.reduceAdd, Int.reduceSub, Int.reduceMul, Int.reduceNeg, Int.reduceToNat,  h2.ia, hsl, hld]
      exact ⟨hn, .inr (by omega), fin _ (by omega), hup (a + 1) hash2 _ (fun j hj => upd_other hj) (by rw [upd_same, Int.natCast_add]; rfl) (by omega), fun j hj => upd_other hj⟩
    · exact ⟨fin _ (by omega), hup a hash2 _ (fun j hj => upd_other hj) (by rw [upd_same]) (by omega), fun j hj => upd_other hj⟩
/-- A draw of one of some numbers. -/
theorem spec_l01Pick {w : Bool} {lo hi : Nat} {v : AV} {l : List Int} (r : Rnd bnd b h) (hb : bnd ≤ b) (s : Ints w lo hi h v l) (hd : b < lo) (hl : 0 < l.length) (hl2 : l.length ≤ 100) (n : Nat) (hn : b < n) :
    MQ Try.prog 155 [.ptr b 0, v] h n b (b + 1) fun x h' n' => n' = n ∧ PickP l x ∧ Rnd bnd b h' ∧ Same b h' h := by
  refine mq_intro Try.func155 k_spec_l01Pick ?_
  simp (maxSteps := 2000000) -implicitDefEqProofs (disch := omega) only [c_spec_l01Pick, s.ln, xsW, xsC, if_true, if_false, ite_true, ite_false, forall_const, ne_eq, beq_self_eq_true, bne_self_eq_false, imp_self, true_implies, false_implies, implies_true, evP, evE, ev, setD, Nat.reduceAdd, Nat.reduceSub, reduceCtorEq, fillA, cutA, Nat.reduceLeDiff, Nat.reduceMul, Int.reduceLT, Int.reduceLE, Int.reduceEq, Int.reduceNe, Int.reduceAdd, Int.reduceSub, Int.reduceMul, Int.reduceNeg, Int.reduceToNat]
  refine mq_use (spec_l01Next r hb _ n hn) (fun i a c => .inr ⟨by omega, by omega⟩) fun x h' n' hn' ⟨en, ⟨y, hy, y0, y1, _⟩, r', sm⟩ => ?_
  subst en
  subst hy
  have y2 := y1 (by omega)
  obtain ⟨m, rfl⟩ : ∃ m : Nat, y = m := ⟨y.toNat, by omega⟩
  have s' := s.keep (h' := h') fun i a c => sm i (by omega)
  simp (maxSteps := 2000000) -implicitDefEqProofs (disch := omega) only [xsW, xsC, if_true, if_false, ite_true, ite_false, forall_const, ne_eq, beq_self_eq_true, bne_self_eq_false, imp_self, true_implies, false_implies, implies_true, evP, evE, ev, setD, Nat.reduceAdd, Nat.reduceSub, reduceCtorEq, fillA, cutA, Nat.reduceLeDiff, Nat.reduceMul, Int.reduceLT, Int.reduceLE, Int.reduceEq, Int.reduceNe, Int.reduceAdd, Int.reduceSub, Int.reduceMul, Int.reduceNeg, Int.reduceToNat,  s'.ia, s'.ld]
  exact ⟨⟨_, rfl, getD_mem (by omega)⟩, r', sm⟩
theorem spec_l01DrawPart (r : Rnd bnd b h) (hb : bnd ≤ b) (k : Int) (h0 : 0 ≤ k) (h1 : k ≤ 1000000000000) (n : Nat) (hn : b < n) :
    MQ Try.prog 164 [.ptr b 0, .int .i64 k] h n b (b + 1) fun x h' n' => n' = n ∧ PartP k x ∧ Rnd bnd b h' ∧ Same b h' h := by
  refine mq_intro Try.func164 k_spec_l01DrawPart ?_
  simp (maxSteps := 2000000) -implicitDefEqProofs (disch := omega) only [c_spec_l01DrawPart, xsW, xsC, if_true, if_false, ite_true, ite_false, forall_const, ne_eq, beq_self_eq_true, bne_self_eq_false, imp_self, true_implies, false_implies, implies_true, evP, evE, ev, setD, Nat.reduceAdd, Nat.reduceSub, reduceCtorEq, fillA, cutA, Nat.reduceLeDiff, Nat.reduceMul, Int.reduceLT, Int.reduceLE, Int.reduceEq, Int.reduceNe, Int.reduceAdd, Int.reduceSub, Int.reduceMul, Int.reduceNeg, Int.reduceToNat]
  refine mq_use (spec_l01Next r hb _ n hn) (fun i a c => .inr ⟨by omega, by omega⟩) fun x h' n' hn' ⟨en, ⟨y, hy, y0, y1, _⟩, r', sm⟩ => ?_
  subst en
  subst hy
  have y2 := y1 (by omega)
  simp (maxSteps := 2000000) -implicitDefEqProofs (disch := omega) only [xsW, xsC, if_true, if_false, ite_true, ite_false, forall_const, ne_eq, beq_self_eq_true, bne_self_eq_false, imp_self, true_implies, false_implies, implies_true, evP, evE, ev, setD, Nat.reduceAdd, Nat.reduceSub, reduceCtorEq, fillA, cutA, Nat.reduceLeDiff, Nat.reduceMul, Int.reduceLT, Int.reduceLE, Int.reduceEq, Int.reduceNe, Int.reduceAdd, Int.reduceSub, Int.reduceMul, Int.reduceNeg, Int.reduceToNat]
  exact ⟨⟨_, rfl, by omega, by omega⟩, r', sm⟩
/-- A source is made of a code. -/
theorem spec_l01From {hi : Nat} {v : AV} {code : List Int} (s : Sl false 0 hi h 1 v (bytesA code)) (hl : code.length ≤ 4096) (hc : ∀ x ∈ code, 0 ≤ x ∧ x ≤ 255) (n : Nat) (hn : hi ≤ n) :
    FQ Try.prog 98 [v] h n fun x h' n' => x = .ptr n 0 ∧ n < n' ∧ Rnd hi n (fun j => if j = n then h' j else h j) := by
  refine fq_intro Try.func98 k_spec_l01From ?_
  have hsl : slen v = code.length := by have := s.len; rw [bytesA_len] at this; omega
  have x1 := one_any s.any
  have x2 := sto_any s.any
  have x3 := cel_any s.any
  simp (maxSteps := 2000000) -implicitDefEqProofs (disch := omega) only [c_spec_l01From, s.ln, hsl, x1, x2, x3, xsW, xsC, if_true, if_false, ite_true, ite_false, forall_const, ne_eq, beq_self_eq_true, bne_self_eq_false, imp_self, true_implies, false_implies, implies_true, evP, evE, ev, setD, Nat.reduceAdd, Nat.reduceSub, reduceCtorEq, fillA, cutA, Nat.reduceLeDiff, Nat.reduceMul, Int.reduceLT, Int.reduceLE, Int.reduceEq, Int.reduceNe, Int.reduceAdd, Int.reduceSub, Int.reduceMul, Int.reduceNeg, Int.reduceToNat]
  refine loop_for code.length 0 (fun k _ => [v, .any, .nilptr, .ptr n 0, .int .i64 k, .any, .any, .any, .any, .any, .any, .any, .any, .any, .any, .any, .any, .any, .any, .any, .any, .any, .any, .any, .any, .any, .any, .any, .any, .any, .any, .any, .any, .any, .any, .any, .any, .any]) (fun _ (hash : Int) => upd h n (some ⟨144, [v, .int .i64 0, .int .u64 hash], true, 0⟩))
    (fun _ _ _ => True) _ (Nat.zero_le _) trivial (by simp [LeL, Le1]) (fun _ _ h => h) ?_
  rintro k hash n1 - hk hn1 -
  simp (maxSteps := 2000000) -implicitDefEqProofs (disch := omega) only [xsW, xsC, if_true, if_false, ite_true, ite_false, forall_const, ne_eq, beq_self_eq_true, bne_self_eq_false, imp_self, true_implies, false_implies, implies_true, evP, evE, ev, setD, Nat.reduceAdd, Nat.reduceSub, reduceCtorEq, fillA, cutA, Nat.reduceLeDiff, Nat.reduceMul, Int.reduceLT, Int.reduceLE, Int.reduceEq, Int.reduceNe, Int.reduceAdd, Int.reduceSub, Int.reduceMul, Int.reduceNeg, Int.reduceToNat,  s.ln, hsl]
  (refine gd_dec (fun c1 => ?_) (fun c1 => ?_) <;> simp (maxSteps := 2000000) -implicitDefEqProofs (disch := omega) only [xsW, xsC, if_true, if_false, ite_true, ite_false, forall_const, ne_eq, beq_self_eq_true, bne_self_eq_false, imp_self, true_implies, false_implies, implies_true, evP, evE, ev, setD, Nat.reduceAdd, Nat.reduceSub, reduceCtorEq, fillA, cutA, Nat.reduceLeDiff, Nat.reduceMul, Int.reduceLT, Int.reduceLE, Int.reduceEq, Int.reduceNe, Int.reduceAdd, Int.reduceSub, Int.reduceMul, Int.reduceNeg, Int.reduceToNat,  c1])
  · have hk2 : k < code.length := by omega
    have hby := hc _ (getD_mem (d := 0) hk2)
    have hbel := s.below (by omega)
    have hld := fun (K : AV → AH → Nat → Prop) (h' : AH) (n : Nat) => s.ld (k := k) (by rw [bytesA_len]; exact hk2) K h' n
    rw [bytesA_get code k hk2] at hld
    simp (maxSteps := 2000000) -implicitDefEqProofs (disch := omega) only [xsW, xsC, if_true, if_false, ite_true, ite_false, forall_const, ne_eq, beq_self_eq_true, bne_self_eq_false, imp_self, true_implies, false_implies, implies_true, evP, evE, ev, setD, Nat.reduceAdd, Nat.reduceSub, reduceCtorEq, fillA, cutA, Nat.reduceLeDiff, Nat.reduceMul, Int.reduceLT, Int.reduceLE, Int.reduceEq, Int.reduceNe, Int.reduceAdd, Int.reduceSub, Int.reduceMul, Int.reduceNeg, Int.reduceToNat,  s.ia, hsl, hld]
    exact ⟨_, by omega, by omega, (by simp [LeL, Le1]), fun _ _ h => h⟩
  · intro h0 h2 hh
    refine ⟨by omega, v, code, 0, hash, ?_, s.keep fun j _ hj => if_neg (by omega), hl, hc, Nat.zero_le _⟩
    show (if n = n then h2 n else h n) = _
    rw [if_pos rfl, hh n (Nat.le_refl _) (by omega), upd_same]
    rfl
end
end Go.Proofs.Ytkpibnhddhdooab.L
/- Contracts: draws of matrices. -/
namespace Go.Proofs.Ytkpibnhddhdooab.L
open Go
set_option linter.unusedSimpArgs false
set_option linter.unusedVariables false
def c_spec_l01DrawM : F := ⟨(.seq (.reg false [⟨(some 6), (.mv (.c .nilsl)), none⟩]) (.seq (.reg false [⟨(some 11), (.lit 23 1 0 [.nilsl] []), none⟩, ⟨(some 7), (.mv (.t 11)), none⟩]) (.seq (.seq (.reg false [⟨(some 8), (.mv (.c (.int .i64 0))), none⟩]) (.block 0 (.loop (.seq (.seq (.reg false [⟨(some 12), (.mv (.t 8)), none⟩, ⟨(some 13), (.mv (.t 1)), none⟩, ⟨(some 14), (.bin .lss (.t 12) (.t 13)), none⟩]) (.cond (.t 14) .skip (.exit 0))) (.seq (.block 1 (.seq (.reg false [⟨(some 17), (.lit 2 1 0 [(.int .i64 0)] []), none⟩, ⟨(some 9), (.mv (.t 17)), none⟩]) (.seq (.seq (.reg false [⟨(some 10), (.mv (.c (.int .i64 0))), none⟩]) (.block 2 (.loop (.seq (.seq (.reg false [⟨(some 18), (.mv (.t 10)), none⟩, ⟨(some 19), (.mv (.t 1)), none⟩, ⟨(some 20), (.bin .lss (.t 18) (.t 19)), none⟩]) (.cond (.t 20) .skip (.exit 2))) (.seq (.block 3 (.reg false [⟨(some 23), (.mv (.t 9)), none⟩, ⟨(some 24), (.mv (.t 0)), none⟩, ⟨(some 25), (.mv (.t 2)), none⟩, ⟨(some 26), (.call (.f 164) [(.t 24), (.t 25)]), none⟩, ⟨(some 27), (.mv (.t 0)), none⟩, ⟨(some 28), (.lit 2 1 3 [(.int .i64 0)] [(0, (.c (.int .i64 0))), (1, (.c (.int .i64 1))), (2, (.c (.int .i64 1)))]), none⟩, ⟨(some 29), (.call (.f 155) [(.t 27), (.t 28)]), none⟩, ⟨(some 30), (.bin .mul (.t 26) (.t 29)), none⟩, ⟨(some 31), (.lit 2 1 1 [(.int .i64 0)] [(0, (.t 30))]), none⟩, ⟨(some 32), (.app 2 1 8 [(.int .i64 0)] (.t 23) (.t 31)), none⟩, ⟨(some 9), (.mv (.t 32)), none⟩])) (.reg false [⟨(some 21), (.mv (.t 10)), none⟩, ⟨(some 22), (.bin .add (.t 21) (.c (.int .i64 1))), none⟩, ⟨(some 10), (.mv (.t 22)), none⟩])))))) (.reg false [⟨(some 33), (.mv (.t 7)), none⟩, ⟨(some 34), (.mv (.t 9)), none⟩, ⟨(some 35), (.lit 23 1 1 [.nilsl] [(0, (.t 34))]), none⟩, ⟨(some 36), (.app 23 1 24 [.nilsl] (.t 33) (.t 35)), none⟩, ⟨(some 7), (.mv (.t 36)), none⟩])))) (.reg false [⟨(some 15), (.mv (.t 8)), none⟩, ⟨(some 16), (.bin .add (.t 15) (.c (.int .i64 1))), none⟩, ⟨(some 8), (.mv (.t 16)), none⟩])))))) (.seq (.reg false [⟨(some 37), (.mv (.t 7)), none⟩, ⟨(some 6), (.mv (.t 37)), none⟩]) .ret)))), 38, [(.t 6)]⟩
theorem k_spec_l01DrawM : compF Try.prog Try.f162 = some c_spec_l01DrawM := by kernel_rfl
def c_spec_l01DrawP : F := ⟨(.seq (.reg false [⟨(some 4), (.mv (.c .nilsl)), none⟩]) (.seq (.reg false [⟨(some 10), (.mv (.t 0)), none⟩, ⟨(some 11), (.mv (.t 1)), none⟩, ⟨(some 12), (.call (.f 162) [(.t 10), (.t 11), (.c (.int .i64 3))]), none⟩, ⟨(some 5), (.mv (.t 12)), none⟩]) (.seq (.seq (.reg false [⟨(some 6), (.mv (.c (.int .i64 0))), none⟩]) (.block 0 (.loop (.seq (.seq (.reg false [⟨(some 13), (.mv (.t 6)), none⟩, ⟨(some 14), (.mv (.t 1)), none⟩, ⟨(some 15), (.bin .lss (.t 13) (.t 14)), none⟩]) (.cond (.t 15) .skip (.exit 0))) (.seq (.block 1 (.seq (.reg false [⟨(some 18), (.mv (.t 5)), none⟩, ⟨(some 19), (.mv (.t 6)), none⟩, ⟨(some 20), (.ia 1 (.t 18) (.t 19)), none⟩, ⟨(some 21), (.ld1 (.t 20)), none⟩, ⟨(some 7), (.mv (.t 21)), none⟩, ⟨(some 8), (.mv (.c (.int .i64 1))), none⟩]) (.seq (.reg false [⟨(some 22), (.mv (.t 7)), none⟩, ⟨(some 23), (.mv (.t 6)), none⟩, ⟨(some 24), (.ia 1 (.t 22) (.t 23)), none⟩, ⟨none, (.st 1 (.t 24) (.c (.int .i64 0))), none⟩]) (.seq (.seq (.reg false [⟨(some 9), (.mv (.c (.int .i64 0))), none⟩]) (.block 2 (.loop (.seq (.seq (.reg false [⟨(some 25), (.mv (.t 9)), none⟩, ⟨(some 26), (.mv (.t 1)), none⟩, ⟨(some 27), (.bin .lss (.t 25) (.t 26)), none⟩]) (.cond (.t 27) .skip (.exit 2))) (.seq (.block 3 (.reg true [⟨(some 30), (.mv (.t 8)), none⟩, ⟨(some 31), (.mv (.t 7)), none⟩, ⟨(some 32), (.mv (.t 9)), none⟩, ⟨(some 33), (.ia 1 (.t 31) (.t 32)), none⟩, ⟨(some 34), (.ld1 (.t 33)), none⟩, ⟨(some 35), (.mv (.t 7)), none⟩, ⟨(some 36), (.mv (.t 9)), none⟩, ⟨(some 37), (.ia 1 (.t 35) (.t 36)), none⟩, ⟨(some 38), (.ld1 (.t 37)), none⟩, ⟨(some 39), (.un .neg (.t 38)), none⟩, ⟨(some 40), (.mx [(.t 34), (.t 39)]), none⟩, ⟨(some 41), (.bin .add (.t 30) (.t 40)), none⟩, ⟨(some 8), (.mv (.t 41)), none⟩])) (.reg false [⟨(some 28), (.mv (.t 9)), none⟩, ⟨(some 29), (.bin .add (.t 28) (.c (.int .i64 1))), none⟩, ⟨(some 9), (.mv (.t 29)), none⟩])))))) (.reg false [⟨(some 42), (.mv (.t 7)), none⟩, ⟨(some 43), (.mv (.t 6)), none⟩, ⟨(some 44), (.mv (.t 8)), none⟩, ⟨(some 45), (.mv (.t 0)), none⟩, ⟨(some 46), (.call (.f 100) [(.t 45), (.c (.int .i64 3))]), none⟩, ⟨(some 47), (.bin .add (.t 44) (.t 46)), none⟩, ⟨(some 48), (.ia 1 (.t 42) (.t 43)), none⟩, ⟨none, (.st 1 (.t 48) (.t 47)), none⟩]))))) (.reg false [⟨(some 16), (.mv (.t 6)), none⟩, ⟨(some 17), (.bin .add (.t 16) (.c (.int .i64 1))), none⟩, ⟨(some 6), (.mv (.t 17)), none⟩])))))) (.seq (.reg false [⟨(some 49), (.mv (.t 5)), none⟩, ⟨(some 4), (.mv (.t 49)), none⟩]) .ret)))), 50, [(.t 4)]⟩
theorem k_spec_l01DrawP : compF Try.prog Try.f163 = some c_spec_l01DrawP := by kernel_rfl

theorem Grow.re {n m : Nat} {h hp h' : AH} {ty : Nat} {out : AV} {ws : List AV} {ll : List (List Int)} (g : Grow n m h hp ty out ws ll) (k : ∀ i, n ≤ i → i < m → h' i = hp i) : Grow n m h' h' ty out ws ll :=
  ⟨g.le, fun _ _ => rfl, g.acc.keep k, g.rows.keep k, g.apart⟩
def BndL (k : Int) (l : List Int) : Prop := ∀ x ∈ l, -k ≤ x ∧ x ≤ k
/-- Rows of N numbers, N of them. -/
def SqM (N : Nat) (k : Int) (ll : List (List Int)) : Prop := ll.length = N ∧ ∀ l ∈ ll, l.length = N ∧ BndL k l
theorem BndL.snoc {k : Int} {l : List Int} {x : Int} (h : BndL k l) (h1 : -k ≤ x) (h2 : x ≤ k) : BndL k (l ++ [x]) := by
  intro y hy
  rcases List.mem_append.1 hy with hy | hy
  · exact h y hy
  · simp only [List.mem_cons, List.not_mem_nil, or_false] at hy; subst hy; exact ⟨h1, h2⟩
theorem BndL.at {k : Int} {l : List Int} (h : BndL k l) {i : Nat} (hi : i < l.length) : -k ≤ l.getD i 0 ∧ l.getD i 0 ≤ k := h _ (getD_mem hi)
theorem SqM.row {N : Nat} {k : Int} {ll : List (List Int)} (h : SqM N k ll) {i : Nat} (hi : i < N) : (ll.getD i []).length = N ∧ BndL k (ll.getD i []) := h.2 _ (getD_mem (by rw [h.1]; exact hi))
theorem mem_set' {α : Type} {l : List α} {i : Nat} {a x : α} (h : x ∈ l.set i a) : x ∈ l ∨ x = a := by
  rcases List.mem_or_eq_of_mem_set h with h | h
  · exact .inl h
  · exact .inr h
theorem BndL.set {k : Int} {l : List Int} {i : Nat} {x : Int} (h : BndL k l) (h1 : -k ≤ x) (h2 : x ≤ k) : BndL k (l.set i x) := by
  intro y hy
  rcases mem_set' hy with hy | hy
  · exact h y hy
  · subst hy; exact ⟨h1, h2⟩
theorem SqM.set {N : Nat} {k : Int} {ll : List (List Int)} (h : SqM N k ll) {i : Nat} {l : List Int} (h1 : l.length = N) (h2 : BndL k l) : SqM N k (ll.set i l) := by
  refine ⟨by simpa using h.1, fun r hr => ?_⟩
  rcases mem_set' hr with hr | hr
  · exact h.2 r hr
  · subst hr; exact ⟨h1, h2⟩
theorem BndL.le {k k' : Int} {l : List Int} (h : BndL k l) (hk : k ≤ k') : BndL k' l := fun x hx => by have := h x hx; omega
theorem SqM.le {N : Nat} {k k' : Int} {ll : List (List Int)} (h : SqM N k ll) (hk : k ≤ k') : SqM N k' ll := ⟨h.1, fun l hl => ⟨(h.2 l hl).1, (h.2 l hl).2.le hk⟩⟩

section
variable {bnd b : Nat} {h : AH}
set_option maxHeartbeats 1000000 in
theorem spec_l01DrawM (r : Rnd bnd b h) (hb : bnd ≤ b) (N : Nat) (most : Int) (hN : N ≤ 8) (h0 : 0 ≤ most) (h1 : most ≤ 1000) (n : Nat) (hn : b < n) :
    MQ Try.prog 162 [.ptr b 0, .int .i64 N, .int .i64 most] h n b (b + 1) fun v h' n' => ∃ vs ll, Rows true n n' h' v vs ll ∧ SqM N most ll ∧ Rnd bnd b h' ∧ ∀ j, j < n → j ≠ b → h' j = h j := by
  refine mq_intro Try.func162 k_spec_l01DrawM ?_
  simp (maxSteps := 2000000) -implicitDefEqProofs (disch := omega) only [c_spec_l01DrawM, xsW, xsC, if_true, if_false, ite_true, ite_false, forall_const, ne_eq, beq_self_eq_true, bne_self_eq_false, imp_self, true_implies, false_implies, implies_true, evP, evE, ev, setD, Nat.reduceAdd, Nat.reduceSub, reduceCtorEq, fillA, cutA, Nat.reduceLeDiff, Nat.reduceMul, Int.reduceLT, Int.reduceLE, Int.reduceEq, Int.reduceNe, Int.reduceAdd, Int.reduceSub, Int.reduceMul, Int.reduceNeg, Int.reduceToNat]
  refine loop_for N 0 (fun k p => [.ptr b 0, .int .i64 N, .int .i64 most, .any, .any, .any, .nilsl, p.1, .int .i64 k, .any, .any, .any, .any, .any, .any, .any, .any, .any, .any, .any, .any, .any, .any, .any, .any, .any, .any, .any, .any, .any, .any, .any, .any, .any, .any, .any, .any, .any]) (fun k (p : AV × List AV × List (List Int) × AH) => p.2.2.2)
    (fun k p m => Grow n m p.2.2.2 p.2.2.2 23 p.1 p.2.1 p.2.2.1 ∧ p.2.2.1.length = k ∧ (∀ l ∈ p.2.2.1, l.length = N ∧ BndL most l) ∧ Rnd bnd b p.2.2.2 ∧ ∀ j, j < n → j ≠ b → p.2.2.2 j = h j) (.sl n 0 0 0, [], [], _) (Nat.zero_le _)
    ⟨(Grow.start0 (h := h) rfl).re (fun _ _ _ => rfl), rfl, by simp, r.keep (upd_other (by omega)) fun j hj => upd_other (by omega), fun j hj hne => upd_other (by omega)⟩ (by simp [LeL, Le1]) (fun _ _ h => h) ?_
  rintro i ⟨out, ws, ll, hp⟩ m - hi1 hm1 ⟨g, gl, ge, gr, go⟩
  simp only at g gl ge gr go
  simp (maxSteps := 2000000) -implicitDefEqProofs (disch := omega) only [xsW, xsC, if_true, if_false, ite_true, ite_false, forall_const, ne_eq, beq_self_eq_true, bne_self_eq_false, imp_self, true_implies, false_implies, implies_true, evP, evE, ev, setD, Nat.reduceAdd, Nat.reduceSub, reduceCtorEq, fillA, cutA, Nat.reduceLeDiff, Nat.reduceMul, Int.reduceLT, Int.reduceLE, Int.reduceEq, Int.reduceNe, Int.reduceAdd, Int.reduceSub, Int.reduceMul, Int.reduceNeg, Int.reduceToNat]
  (refine cd_dec (fun c1 => ?_) (fun c1 => ?_) <;> simp (maxSteps := 2000000) -implicitDefEqProofs (disch := omega) only [xsW, xsC, if_true, if_false, ite_true, ite_false, forall_const, ne_eq, beq_self_eq_true, bne_self_eq_false, imp_self, true_implies, false_implies, implies_true, evP, evE, ev, setD, Nat.reduceAdd, Nat.reduceSub, reduceCtorEq, fillA, cutA, Nat.reduceLeDiff, Nat.reduceMul, Int.reduceLT, Int.reduceLE, Int.reduceEq, Int.reduceNe, Int.reduceAdd, Int.reduceSub, Int.reduceMul, Int.reduceNeg, Int.reduceToNat,  c1])
  · have hi2 : i < N := by omega
    refine loop_for N 0 (fun k p => [.ptr b 0, .int .i64 N, .int .i64 most, .any, .any, .any, .nilsl, out, .int .i64 i, p.1, .int .i64 k, .any, .any, .any, .any, .any, .any, .any, .any, .any, .any, .any, .any, .any, .any, .any, .any, .any, .any, .any, .any, .any, .any, .any, .any, .any, .any, .any]) (fun k (p : AV × List Int × AH) => p.2.2)
      (fun k p m' => Acc m m' p.2.2 2 1 p.1 (ints p.2.1) ∧ p.2.1.length = k ∧ BndL most p.2.1 ∧ m ≤ m' ∧ Rnd bnd b p.2.2 ∧ ∀ j, j < m → j ≠ b → p.2.2 j = hp j) (.sl m 0 0 0, [], _) (Nat.zero_le _)
      ⟨Acc.empty (upd_same _ _ _) rfl (Nat.le_refl _) (by omega), rfl, by simp [BndL], by omega, gr.keep (upd_other (by omega)) fun j hj => upd_other (by omega), fun j hj hne => upd_other (by omega)⟩ (by simp [LeL, Le1]) (fun _ _ h => h) ?_
    rintro k ⟨row, l, hq⟩ mq - hk1 hm2 ⟨a, al, ab, hle, qr, qo⟩
    simp only at a al ab qr qo
    simp (maxSteps := 2000000) -implicitDefEqProofs (disch := omega) only [xsW, xsC, if_true, if_false, ite_true, ite_false, forall_const, ne_eq, beq_self_eq_true, bne_self_eq_false, imp_self, true_implies, false_implies, implies_true, evP, evE, ev, setD, Nat.reduceAdd, Nat.reduceSub, reduceCtorEq, fillA, cutA, Nat.reduceLeDiff, Nat.reduceMul, Int.reduceLT, Int.reduceLE, Int.reduceEq, Int.reduceNe, Int.reduceAdd, Int.reduceSub, Int.reduceMul, Int.reduceNeg, Int.reduceToNat]
    (refine cd_dec (fun c2 => ?_) (fun c2 => ?_) <;> simp (maxSteps := 2000000) -implicitDefEqProofs (disch := omega) only [xsW, xsC, if_true, if_false, ite_true, ite_false, forall_const, ne_eq, beq_self_eq_true, bne_self_eq_false, imp_self, true_implies, false_implies, implies_true, evP, evE, ev, setD, Nat.reduceAdd, Nat.reduceSub, reduceCtorEq, fillA, cutA, Nat.reduceLeDiff, Nat.reduceMul, Int.reduceLT, Int.reduceLE, Int.reduceEq, Int.reduceNe, Int.reduceAdd, Int.reduceSub, Int.reduceMul, Int.reduceNeg, Int.reduceToNat,  c2])
    · refine mq_use (spec_l01DrawPart qr hb most h0 (by omega) mq (by omega)) (fun i a c => .inr ⟨by omega, by omega⟩) fun x h1' n1 hn1 ⟨en, ⟨y, hy, y0, y1⟩, r1, sm1⟩ => ?_
      subst en; subst hy
      simp (maxSteps := 2000000) -implicitDefEqProofs (disch := omega) only [xsW, xsC, if_true, if_false, ite_true, ite_false, forall_const, ne_eq, beq_self_eq_true, bne_self_eq_false, imp_self, true_implies, false_implies, implies_true, evP, evE, ev, setD, Nat.reduceAdd, Nat.reduceSub, reduceCtorEq, fillA, cutA, Nat.reduceLeDiff, Nat.reduceMul, Int.reduceLT, Int.reduceLE, Int.reduceEq, Int.reduceNe, Int.reduceAdd, Int.reduceSub, Int.reduceMul, Int.reduceNeg, Int.reduceToNat]
      refine mq_use (spec_l01Pick (b := b) (bnd := bnd) (w := true) (lo := n1) (hi := n1 + 1) (l := [0, 1, 1]) (r1.keep (upd_other (by omega)) fun j hj => upd_other (by omega)) hb (Sl.of_sl (upd_same _ _ _) rfl (Nat.le_refl _) (Nat.le_refl _) (by omega)) (by omega) (by simp) (by simp) _ (by omega)) (fun i a c => .inr ⟨by omega, by omega⟩) fun x2 h2 n2 hn2 ⟨en, ⟨z, hz, z0⟩, r2, sm2⟩ => ?_
      subst en; subst hz
      have hyz : -most ≤ y * z ∧ y * z ≤ most := by
        simp only [List.mem_cons, List.not_mem_nil, or_false] at z0
        rcases z0 with rfl | rfl | rfl <;> omega
      simp (maxSteps := 2000000) -implicitDefEqProofs (disch := omega) only [xsW, xsC, if_true, if_false, ite_true, ite_false, forall_const, ne_eq, beq_self_eq_true, bne_self_eq_false, imp_self, true_implies, false_implies, implies_true, evP, evE, ev, setD, Nat.reduceAdd, Nat.reduceSub, reduceCtorEq, fillA, cutA, Nat.reduceLeDiff, Nat.reduceMul, Int.reduceLT, Int.reduceLE, Int.reduceEq, Int.reduceNe, Int.reduceAdd, Int.reduceSub, Int.reduceMul, Int.reduceNeg, Int.reduceToNat]
      refine app_int (y := y * z) ((a.keep fun j a1 a2 => ?_).wide (Nat.le_refl _) (by omega)) (by omega) (by omega) ⟨rfl, _, upd_same _ _ _, by simp, by simp [cutA]⟩ (by omega) fun v' h' n' q1 q2 q3 => ?_
      · rw [upd_other (by omega), sm2 j (by omega), upd_other (by omega), sm1 j (by omega)]
      simp (maxSteps := 2000000) -implicitDefEqProofs (disch := omega) only [xsW, xsC, if_true, if_false, ite_true, ite_false, forall_const, ne_eq, beq_self_eq_true, bne_self_eq_false, imp_self, true_implies, false_implies, implies_true, evP, evE, ev, setD, Nat.reduceAdd, Nat.reduceSub, reduceCtorEq, fillA, cutA, Nat.reduceLeDiff, Nat.reduceMul, Int.reduceLT, Int.reduceLE, Int.reduceEq, Int.reduceNe, Int.reduceAdd, Int.reduceSub, Int.reduceMul, Int.reduceNeg, Int.reduceToNat]
      exact ⟨(v', l ++ [y * z], h'), ⟨q2, by simp [al], ab.snoc hyz.1 hyz.2, by omega, r2.keep (show h' b = h2 b by rw [q3 b (by omega), upd_other (by omega)]) fun j hj => (show h' j = h2 j by rw [q3 j (by omega), upd_other (by omega)]), fun j hj hne => by
        show h' j = hp j
        rw [q3 j hj, upd_other (by omega), sm2 j hne, upd_other (by omega), sm1 j hne, qo j hj hne]⟩, by omega, by omega, (by simp [LeL, Le1]), fun _ _ h => h⟩
    · have e : l.length = N := by omega
      have o1 := one_any a.any
      have o2 := sto_any a.any
      have o3 := cel_any a.any
      simp (maxSteps := 2000000) -implicitDefEqProofs (disch := omega) only [xsW, xsC, if_true, if_false, ite_true, ite_false, forall_const, ne_eq, beq_self_eq_true, bne_self_eq_false, imp_self, true_implies, false_implies, implies_true, evP, evE, ev, setD, Nat.reduceAdd, Nat.reduceSub, reduceCtorEq, fillA, cutA, Nat.reduceLeDiff, Nat.reduceMul, Int.reduceLT, Int.reduceLE, Int.reduceEq, Int.reduceNe, Int.reduceAdd, Int.reduceSub, Int.reduceMul, Int.reduceNeg, Int.reduceToNat,  o1, o2, o3]
      have gB : Grow n m (upd hq mq (some ⟨23, [row], true, 0⟩)) (upd hq mq (some ⟨23, [row], true, 0⟩)) 23 out ws ll := g.re fun j a1 a2 => by rw [upd_other (by omega), qo j a2 (by omega)]
      refine gB.app (v1 := row) (l := l) (m1 := mq) (a.sl.keep (fun i _ hi9 => by simp (disch := omega) only [upd_other])) (fun _ _ => rfl) hle (by omega) (Nat.le_refl _) ⟨rfl, _, upd_same _ _ _, by simp, by simp [cutA]⟩ (by omega) fun out' h' n' q1 q2 => ?_
      simp (maxSteps := 2000000) -implicitDefEqProofs (disch := omega) only [xsW, xsC, if_true, if_false, ite_true, ite_false, forall_const, ne_eq, beq_self_eq_true, bne_self_eq_false, imp_self, true_implies, false_implies, implies_true, evP, evE, ev, setD, Nat.reduceAdd, Nat.reduceSub, reduceCtorEq, fillA, cutA, Nat.reduceLeDiff, Nat.reduceMul, Int.reduceLT, Int.reduceLE, Int.reduceEq, Int.reduceNe, Int.reduceAdd, Int.reduceSub, Int.reduceMul, Int.reduceNeg, Int.reduceToNat]
      have qo2 := q2.old
      refine ⟨(out', ws ++ [row], ll ++ [l], h'), ⟨q2.re fun _ _ _ => rfl, by simp [gl], fun r hr => ?_, qr.keep (show h' b = hq b by rw [qo2 b hn, upd_other (by omega)]) fun j hj => (show h' j = hq j by rw [qo2 j (by omega), upd_other (by omega)]), fun j hj hne => ?_⟩, by omega, by omega, (by simp [LeL, Le1]), fun _ _ h => h⟩
      · rcases List.mem_append.1 hr with hr | hr
        · exact ge r hr
        · simp only [List.mem_cons, List.not_mem_nil, or_false] at hr; subst hr; exact ⟨e, ab⟩
      · have := g.le
        show h' j = h j
        rw [qo2 j hj, upd_other (by omega), qo j (by omega) hne, go j hj hne]
  · exact ⟨ws, ll, g.rowsOf fun _ _ _ => rfl, ⟨by omega, ge⟩, gr, go⟩
theorem set_get {ll : List (List Int)} {i j : Nat} {l : List Int} (h : i < ll.length) : (ll.set i l).getD j [] = if i = j then l else ll.getD j [] := by
  rw [getD_set]
  by_cases e : i = j
  · subst e; rw [if_pos ⟨rfl, h⟩, if_pos rfl]
  · rw [if_neg fun h => e h.1, if_neg e]
theorem below_row {lo hi : Nat} {h : AH} {v : AV} {vs : List AV} {ll : List (List Int)} (s : Rows true lo hi h v vs ll) {N : Nat} {k : Int} (q : SqM N k ll) {i : Nat} (hi' : i < N) : lo ≤ bid (vs.getD i .any) ∧ bid (vs.getD i .any) < hi := by
  have h1 := s.row i (by rw [q.1]; exact hi')
  exact Sl.below h1 (by rw [h1.slen, (q.row hi').1]; omega)
set_option maxHeartbeats 1000000 in
theorem spec_l01DrawP (r : Rnd bnd b h) (hb : bnd ≤ b) (N : Nat) (hN : N ≤ 8) (n : Nat) (hn : b < n) :
    MQ Try.prog 163 [.ptr b 0, .int .i64 N] h n b (b + 1) fun v h' n' => ∃ vs ll, Rows true n n' h' v vs ll ∧ SqM N 1000 ll ∧ Rnd bnd b h' ∧ ∀ j, j < n → j ≠ b → h' j = h j := by
  refine mq_intro Try.func163 k_spec_l01DrawP ?_
  simp (maxSteps := 2000000) -implicitDefEqProofs (disch := omega) only [c_spec_l01DrawP, xsW, xsC, if_true, if_false, ite_true, ite_false, forall_const, ne_eq, beq_self_eq_true, bne_self_eq_false, imp_self, true_implies, false_implies, implies_true, evP, evE, ev, setD, Nat.reduceAdd, Nat.reduceSub, reduceCtorEq, fillA, cutA, Nat.reduceLeDiff, Nat.reduceMul, Int.reduceLT, Int.reduceLE, Int.reduceEq, Int.reduceNe, Int.reduceAdd, Int.reduceSub, Int.reduceMul, Int.reduceNeg, Int.reduceToNat]
  refine mq_use (spec_l01DrawM r hb N 3 hN (by omega) (by omega) n hn) (fun i a c => .inr ⟨by omega, by omega⟩) fun v h1 n1 hn1 ⟨vs, ll, s1, q1, r1, o1⟩ => ?_
  simp (maxSteps := 2000000) -implicitDefEqProofs (disch := omega) only [xsW, xsC, if_true, if_false, ite_true, ite_false, forall_const, ne_eq, beq_self_eq_true, bne_self_eq_false, imp_self, true_implies, false_implies, implies_true, evP, evE, ev, setD, Nat.reduceAdd, Nat.reduceSub, reduceCtorEq, fillA, cutA, Nat.reduceLeDiff, Nat.reduceMul, Int.reduceLT, Int.reduceLE, Int.reduceEq, Int.reduceNe, Int.reduceAdd, Int.reduceSub, Int.reduceMul, Int.reduceNeg, Int.reduceToNat]
  refine loop_for N 0 (fun k p => [.ptr b 0, .int .i64 N, .any, .any, .nilsl, v, .int .i64 k, .any, .any, .any, .any, .any, .any, .any, .any, .any, .any, .any, .any, .any, .any, .any, .any, .any, .any, .any, .any, .any, .any, .any, .any, .any, .any, .any, .any, .any, .any, .any, .any, .any, .any, .any, .any, .any, .any, .any, .any, .any, .any, .any]) (fun k (p : List (List Int) × AH) => p.2)
    (fun k p m => Rows true n n1 p.2 v vs p.1 ∧ SqM N 1000 p.1 ∧ (∀ j, k ≤ j → j < N → BndL 3 (p.1.getD j [])) ∧ Rnd bnd b p.2 ∧ ∀ j, j < n → j ≠ b → p.2 j = h j) (ll, _) (Nat.zero_le _)
    ⟨s1, q1.le (by omega), fun j _ hj => (q1.row hj).2, r1, o1⟩ (by simp [LeL, Le1]) (fun _ _ h => h) ?_
  rintro i ⟨l2, hp⟩ m - hi1 hm1 ⟨s2, q2, w2, r2, o2⟩
  simp only at s2 q2 w2 r2 o2
  simp (maxSteps := 2000000) -implicitDefEqProofs (disch := omega) only [xsW, xsC, if_true, if_false, ite_true, ite_false, forall_const, ne_eq, beq_self_eq_true, bne_self_eq_false, imp_self, true_implies, false_implies, implies_true, evP, evE, ev, setD, Nat.reduceAdd, Nat.reduceSub, reduceCtorEq, fillA, cutA, Nat.reduceLeDiff, Nat.reduceMul, Int.reduceLT, Int.reduceLE, Int.reduceEq, Int.reduceNe, Int.reduceAdd, Int.reduceSub, Int.reduceMul, Int.reduceNeg, Int.reduceToNat]
  (refine cd_dec (fun c1 => ?_) (fun c1 => ?_) <;> simp (maxSteps := 2000000) -implicitDefEqProofs (disch := omega) only [xsW, xsC, if_true, if_false, ite_true, ite_false, forall_const, ne_eq, beq_self_eq_true, bne_self_eq_false, imp_self, true_implies, false_implies, implies_true, evP, evE, ev, setD, Nat.reduceAdd, Nat.reduceSub, reduceCtorEq, fillA, cutA, Nat.reduceLeDiff, Nat.reduceMul, Int.reduceLT, Int.reduceLE, Int.reduceEq, Int.reduceNe, Int.reduceAdd, Int.reduceSub, Int.reduceMul, Int.reduceNeg, Int.reduceToNat,  c1])
  · have hi2 : i < N := by omega
    have hil : i < l2.length := by rw [q2.1]; exact hi2
    have hrow := s2.row i hil
    have hlen := (q2.row hi2).1
    have hbw := below_row s2 q2 hi2
    have hout := s2.out.below (by rw [s2.slen, q2.1]; omega)
    have e1 := fun K => Ints.st hrow (k := i) (x := 0) (n0 := n) (n := m) (W := fun i => b ≤ i ∧ i < b + 1) (by omega) (fun i a b => .inl (by omega)) (by omega) K
    simp (maxSteps := 2000000) -implicitDefEqProofs (disch := omega) only [xsW, xsC, if_true, if_false, ite_true, ite_false, forall_const, ne_eq, beq_self_eq_true, bne_self_eq_false, imp_self, true_implies, false_implies, implies_true, evP, evE, ev, setD, Nat.reduceAdd, Nat.reduceSub, reduceCtorEq, fillA, cutA, Nat.reduceLeDiff, Nat.reduceMul, Int.reduceLT, Int.reduceLE, Int.reduceEq, Int.reduceNe, Int.reduceAdd, Int.reduceSub, Int.reduceMul, Int.reduceNeg, Int.reduceToNat,  s2.ia, s2.ld, hrow.ia, e1, q2.1, hlen]
    have hrow0 := hrow.wr (k := i) (by omega) 0
    have s3 := s2.wr hil (k := i) (by omega) 0
    have w3 := w2 i (Nat.le_refl _) hi2
    generalize hx : (l2.getD i []).set i 0 = rw0 at hrow0 s3
    have hlen0 : rw0.length = N := by rw [← hx, List.length_set, hlen]
    have w4 : BndL 3 rw0 := by rw [← hx]; exact w3.set (by omega) (by omega)
    have r3 : Rnd bnd b (wr hp (bid (vs.getD i .any)) (boff (vs.getD i .any) + i) (.int .i64 0)) := r2.keep (wr_other (by omega)) fun j hj => wr_other (by omega)
    have o3 : ∀ j, j < n → j ≠ b → wr hp (bid (vs.getD i .any)) (boff (vs.getD i .any) + i) (.int .i64 0) j = h j := fun j hj hne => by rw [wr_other (by omega), o2 j hj hne]
    generalize wr hp (bid (vs.getD i .any)) (boff (vs.getD i .any) + i) (.int .i64 0) = hq at hrow0 s3 r3 o3 ⊢
    refine loop_for N 0 (fun k p => [.ptr b 0, .int .i64 N, .any, .any, .nilsl, v, .int .i64 i, vs.getD i .any, .int .i64 p, .int .i64 k, .any, .any, .any, .any, .any, .any, .any, .any, .any, .any, .any, .any, .any, .any, .any, .any, .any, .any, .any, .any, .any, .any, .any, .any, .any, .any, .any, .any, .any, .any, .any, .any, .any, .any, .any, .any, .any, .any, .any, .any]) (fun k _ => hq)
      (fun k (p : Int) m' => 1 ≤ p ∧ p ≤ 1 + 3 * k) 1 (Nat.zero_le _) ⟨by omega, by omega⟩ (by simp [LeL, Le1]) (fun _ _ h => h) ?_
    rintro k sum m2 - hk1 hm2 ⟨u1, u2⟩
    simp (maxSteps := 2000000) -implicitDefEqProofs (disch := omega) only [xsW, xsC, if_true, if_false, ite_true, ite_false, forall_const, ne_eq, beq_self_eq_true, bne_self_eq_false, imp_self, true_implies, false_implies, implies_true, evP, evE, ev, setD, Nat.reduceAdd, Nat.reduceSub, reduceCtorEq, fillA, cutA, Nat.reduceLeDiff, Nat.reduceMul, Int.reduceLT, Int.reduceLE, Int.reduceEq, Int.reduceNe, Int.reduceAdd, Int.reduceSub, Int.reduceMul, Int.reduceNeg, Int.reduceToNat]
    (refine cd_dec (fun c2 => ?_) (fun c2 => ?_) <;> simp (maxSteps := 2000000) -implicitDefEqProofs (disch := omega) only [xsW, xsC, if_true, if_false, ite_true, ite_false, forall_const, ne_eq, beq_self_eq_true, bne_self_eq_false, imp_self, true_implies, false_implies, implies_true, evP, evE, ev, setD, Nat.reduceAdd, Nat.reduceSub, reduceCtorEq, fillA, cutA, Nat.reduceLeDiff, Nat.reduceMul, Int.reduceLT, Int.reduceLE, Int.reduceEq, Int.reduceNe, Int.reduceAdd, Int.reduceSub, Int.reduceMul, Int.reduceNeg, Int.reduceToNat,  c2])
    · have hk2 : k < N := by omega
      have hx := w4.at (i := k) (by omega)
      simp (maxSteps := 2000000) -implicitDefEqProofs (disch := omega) only [xsW, xsC, if_true, if_false, ite_true, ite_false, forall_const, ne_eq, beq_self_eq_true, bne_self_eq_false, imp_self, true_implies, false_implies, implies_true, evP, evE, ev, setD, Nat.reduceAdd, Nat.reduceSub, reduceCtorEq, fillA, cutA, Nat.reduceLeDiff, Nat.reduceMul, Int.reduceLT, Int.reduceLE, Int.reduceEq, Int.reduceNe, Int.reduceAdd, Int.reduceSub, Int.reduceMul, Int.reduceNeg, Int.reduceToNat,  hrow0.ia, hrow0.ld, hlen0]
      exact ⟨sum + max (rw0.getD k 0) (-rw0.getD k 0), ⟨by omega, by omega⟩, by omega, by omega, (by simp [LeL, Le1])⟩
    · refine mq_use (spec_l01Next r3 hb 3 m2 (by omega)) (fun i a c => .inr ⟨by omega, by omega⟩) fun x h4 n4 hn4 ⟨en, ⟨y, hy, y0, y1, _⟩, r4, sm4⟩ => ?_
      subst en; subst hy
      have y2 := y1 (by omega)
      have s4 := s3.keep (h' := h4) fun j a c => sm4 j (by omega)
      have hrow4 := hrow0.keep (h' := h4) fun j a c => sm4 j (by omega)
      have e2 := fun K => Ints.st hrow4 (k := i) (x := sum + y) (n0 := n) (n := n4) (W := fun i => b ≤ i ∧ i < b + 1) (by omega) (fun i a b => .inl (by omega)) (by omega) K
      simp (maxSteps := 2000000) -implicitDefEqProofs (disch := omega) only [xsW, xsC, if_true, if_false, ite_true, ite_false, forall_const, ne_eq, beq_self_eq_true, bne_self_eq_false, imp_self, true_implies, false_implies, implies_true, evP, evE, ev, setD, Nat.reduceAdd, Nat.reduceSub, reduceCtorEq, fillA, cutA, Nat.reduceLeDiff, Nat.reduceMul, Int.reduceLT, Int.reduceLE, Int.reduceEq, Int.reduceNe, Int.reduceAdd, Int.reduceSub, Int.reduceMul, Int.reduceNeg, Int.reduceToNat,  hrow4.ia, hlen0, e2]
      have hil4 : i < (l2.set i rw0).length := by simpa using hil
      have ege : (l2.set i rw0).getD i [] = rw0 := by rw [set_get hil, if_pos rfl]
      have s5 := s4.wr hil4 (k := i) (by rw [ege]; omega) (sum + y)
      rw [ege, List.set_set] at s5
      refine ⟨(l2.set i (rw0.set i (sum + y)), _), ⟨s5, q2.set (by simpa using hlen0) ((w4.le (by omega)).set (by omega) (by omega)), fun j a c => ?_, r4.keep (wr_other (by omega)) fun j hj => wr_other (by omega), fun j hj hne => ?_⟩, by omega, by omega, (by simp [LeL, Le1]), fun _ _ h => h⟩
      · rw [set_get hil, if_neg (by omega)]; exact w2 j (by omega) c
      · show wr h4 _ _ _ j = h j
        rw [wr_other (by omega), sm4 j hne, o3 j hj hne]
  · exact ⟨vs, l2, s2.wide (Nat.le_refl _) (by omega), q2, r2, o2⟩
end
end Go.Proofs.Ytkpibnhddhdooab.L
