/- The statement on sets. -/
import Derived.Test.YtkpibnhddhdooabB6
namespace Go.Proofs.Ytkpibnhddhdooab.L
open Go
set_option linter.unusedSimpArgs false
set_option linter.unusedVariables false

theorem selL_mem {p : Nat → Bool} {K : Nat} {x : Int} : x ∈ selL p K ↔ ∃ i : Nat, i < K ∧ p i = true ∧ (i : Int) = x := by
  unfold selL
  rw [List.mem_map]
  constructor
  · rintro ⟨i, hi, e⟩
    rw [List.mem_filter, List.mem_range] at hi
    exact ⟨i, hi.1, hi.2, e⟩
  · rintro ⟨i, h1, h2, e⟩
    exact ⟨i, by rw [List.mem_filter, List.mem_range]; exact ⟨h1, h2⟩, e⟩
theorem selL_le {p r : Nat → Bool} (h : ∀ i, p i = true → r i = true) : ∀ K, (selL p K).length ≤ (selL r K).length
  | 0 => by simp [selL]
  | K + 1 => by
    have ih := selL_le h K
    cases hp : p K with
    | true => rw [selL_t hp, selL_t (h K hp)]; simp; omega
    | false =>
      rw [selL_f hp]
      cases hr : r K with
      | true => rw [selL_t hr]; simp; omega
      | false => rw [selL_f hr]; exact ih
theorem selL_head {p : Nat → Bool} (h : p 0 = true) : ∀ K, 1 ≤ K → ∃ t, selL p K = 0 :: t
  | 0, hK => by omega
  | K + 1, _ => by
    by_cases e : K = 0
    · subst e; exact ⟨[], by rw [selL_t h]; simp [selL]⟩
    · obtain ⟨t, ht⟩ := selL_head h K (by omega)
      cases hp : p K with
      | true => exact ⟨t ++ [(K : Int)], by rw [selL_t hp, ht]; rfl⟩
      | false => exact ⟨t, by rw [selL_f hp, ht]⟩
theorem det_id : ∀ n : Nat, ∀ A : Mx, (∀ r c, r < n → c < n → A r c = if r = c then 1 else 0) → det n A = 1
  | 0, A, _ => by simp [det]
  | n + 1, A, h => by
    rw [det_row 0 A (Nat.zero_le _), sumTo_one (c := 0) (by omega) fun i hi hne => by rw [h 0 i (by omega) hi, if_neg (fun e => hne e.symm), Int.mul_zero, Int.zero_mul]]
    rw [h 0 0 (by omega) (by omega), if_pos rfl, det_id n (mi A 0 0) fun r c hr hc => ?_]
    · simp [sg]
    · simp only [mi, sk]
      rw [if_neg (by omega), if_neg (by omega), h _ _ (by omega) (by omega)]
      by_cases e : r = c
      · rw [if_pos e, if_pos (by omega)]
      · rw [if_neg e, if_neg (by omega)]
theorem hasB_zero (k : Nat) : hasB 0 k = false := by
  unfold hasB bitI
  simp
  decide
theorem dtS_zero (ll : List (List Int)) : dtS ll 0 = 1 := det_id _ _ fun r c hr hc => by
  change at2 (colsL ll 0) r c = _
  rw [colsL_at hr hc, colE, hasB_zero]
  simp
/-- What is told of basic and feasible sets. -/
theorem basic_said {ll : List (List Int)} {q : List Int} (hp : isProb ll q = true) :
    (setsV ll q fun _ => true).2 = 0 ∧ (setsV ll q feasT).2 = 0 ∧ (∃ t, (setsV ll q fun _ => true).1 = 0 :: t) ∧ (setsV ll q feasT).1.length ≤ (setsV ll q fun _ => true).1.length ∧ ∀ x ∈ (setsV ll q feasT).1, x ∈ (setsV ll q fun _ => true).1 := by
  have hpw := pw_le ((isMat_iff ll).1 (isProb_facts hp).1).2.1
  have sub : ∀ i, setP ll q feasT i = true → setP ll q (fun _ => true) i = true := fun i hi => by
    simp only [setP, Bool.and_eq_true, decide_eq_true_eq] at hi ⊢
    exact ⟨hi.1, trivial⟩
  unfold setsV
  rw [if_pos hp, if_pos hp]
  refine ⟨rfl, rfl, selL_head ?_ _ (by omega), selL_le sub _, fun x hx => ?_⟩
  · simp only [setP, Bool.and_true, decide_eq_true_eq]
    have := dtS_zero ll
    simp only [Int.natCast_zero] at this ⊢
    omega
  · obtain ⟨i, h1, h2, h3⟩ := selL_mem.1 hx
    exact selL_mem.2 ⟨i, h1, sub i h2, h3⟩
theorem sets_zero {ll : List (List Int)} {q : List Int} {T : List Int → Bool} : (setsV ll q T).2 = 0 ↔ isProb ll q = true := by
  unfold setsV
  split
  · rename_i h; simp [h]
  · rename_i h; simp [h]
theorem codeP_nat {ll : List (List Int)} {q : List Int} {a : Int} (h : codeP ll q a = 0) : isProb ll q = true ∧ ∃ s : Nat, a = s ∧ s < pw ll.length := by
  obtain ⟨h1, h2⟩ := codeP_zero.1 h
  have hpw := pw_le ((isMat_iff ll).1 (isProb_facts h1).1).2.1
  simp only [inSet, decide_eq_true_eq] at h2
  exact ⟨h1, a.toNat, by omega, by omega⟩
theorem solV_fail {ll : List (List Int)} {q : List Int} {a : Int} (h : (solV ll q a).2 ≠ 0) : (solV ll q a).1 = [] := by
  unfold solV at h ⊢
  split
  · rename_i h1; rw [if_pos h1] at h
    split
    · rename_i h2; rw [if_pos h2] at h
      split
      · rename_i h3; rw [if_pos h3] at h; exact absurd rfl h
      · rfl
    · rfl
  · rfl
/-- What is told of the solution of a set. -/
theorem sol_said {ll : List (List Int)} {q : List Int} {a : Int} (h : (solV ll q a).2 = 0) :
    isProb ll q = true ∧ a ∈ (setsV ll q feasT).1 ∧ (solV ll q a).1.length = q.length ∧ ((isSolV ll q (solV ll q a).1).2 = 3 ∨ (isSolV ll q (solV ll q a).1).2 = 0 ∧ (isSolV ll q (solV ll q a).1).1 = true) := by
  unfold solV at h
  split at h
  · rename_i h1
    split at h
    · rename_i h2
      split at h
      · rename_i h3
        obtain ⟨hp, s, rfl, hs⟩ := codeP_nat h1
        simp only [Int.toNat_natCast] at h2
        have e : (solV ll q (s : Int)).1 = zF ll q s := by
          unfold solV; rw [if_pos h1, Int.toNat_natCast, if_pos h2, if_pos h3]; rfl
        rw [e]
        have hz := zF_good hp (setP_d h2)
        have hq := (isProb_facts hp).2.1
        refine ⟨hp, ?_, by rw [hz.1, hq], ?_⟩
        · unfold setsV
          rw [if_pos hp]
          exact selL_mem.2 ⟨s, hs, h2, rfl⟩
        · have hfr : frcV ll q (zF ll q s) = 0 := by unfold frcV; rw [if_pos ⟨hp, good_all hz⟩, if_pos hz.1]
          unfold isSolV
          rw [if_pos hfr]
          by_cases hc : cmnB (zF ll q s) = true
          · rw [if_pos hc]; exact .inr ⟨rfl, feas_solves hp h2⟩
          · rw [if_neg hc]; exact .inl rfl
      · cases h
    · cases h
  · rename_i h1; exact absurd h h1
/-- What is told of signs. -/
theorem sgn_said {ll : List (List Int)} {q : List Int} {a : Int} (h : (sgnV ll q a).2 = 0) : codeP ll q a = 0 ∧ dtS ll a ≠ 0 ∧ (sgnV ll q a).1 = (solL ll q a).map Int.sign := by
  unfold sgnV at h ⊢
  split at h
  · rename_i h1
    split at h
    · cases h
    · rename_i h2; rw [if_pos h1, if_neg h2]; exact ⟨h1, h2, rfl⟩
  · rename_i h1; exact absurd h h1
theorem point_said {ll : List (List Int)} {q : List Int} {a : Int} : ((pointV ll q a).2 = 0 ∧ (pointV ll q a).1 = ptF ll q a) ∨ ((pointV ll q a).2 ≠ 0 ∧ (pointV ll q a).1 = []) := by
  unfold pointV
  split
  · split
    · exact .inr ⟨by decide, rfl⟩
    · split
      · exact .inl ⟨rfl, rfl⟩
      · exact .inr ⟨by decide, rfl⟩
  · rename_i h; exact .inr ⟨h, rfl⟩
theorem deg_said {ll : List (List Int)} {q : List Int} {a : Int} (h : codeP ll q a = 0) (hd : dtS ll a ≠ 0) {k : Nat} (hk : k < ll.length) (h0 : (solL ll q a).getD k 0 = 0) : (degV ll q).1 = true := by
  obtain ⟨hp, s, rfl, hs⟩ := codeP_nat h
  have hP : setP ll q degT s = true := by
    simp only [setP, Bool.and_eq_true, decide_eq_true_eq]
    exact ⟨hd, (degT_iff _).2 ⟨k, by rw [solL_len]; exact hk, h0⟩⟩
  unfold degV setsV
  rw [if_pos hp]
  exact decide_eq_true (selL_pos hs hP)
end Go.Proofs.Ytkpibnhddhdooab.L
/- The statement on sets: the walk. -/
namespace Go.Proofs.Ytkpibnhddhdooab.L
open Go
set_option linter.unusedSimpArgs false
set_option linter.unusedVariables false
def c_laws_FnSets : F := ⟨(.seq (.reg false [⟨(some 2), (.mv (.c (.bool false))), none⟩]) (.seq (.seq (.reg false [⟨(some 31), (.mv (.t 0)), none⟩, ⟨(some 32), (.call (.f 23) [(.t 31)]), none⟩]) (.cond (.t 32) (.seq (.reg false [⟨(some 2), (.mv (.c (.bool true))), none⟩]) .ret) .skip)) (.seq (.reg false [⟨(some 34), (.mv (.t 0)), none⟩, ⟨(some 35), (.call (.f 24) [(.t 34)]), none⟩, ⟨(some 33), (.mv (.t 35)), none⟩, ⟨(some 36), (.ext (.t 33) 0), none⟩, ⟨(some 37), (.ext (.t 33) 1), none⟩, ⟨(some 3), (.alloc 31 [.nilsl, .nilsl]), none⟩, ⟨none, (.st 2 (.t 3) (.t 36)), none⟩, ⟨(some 4), (.mv (.t 37)), none⟩]) (.seq (.reg false [⟨(some 39), (.ld 2 (.t 3)), none⟩, ⟨(some 40), (.mv (.t 4)), none⟩, ⟨(some 41), (.call (.f 25) [(.t 39), (.t 40)]), none⟩, ⟨(some 38), (.mv (.t 41)), none⟩, ⟨(some 42), (.ext (.t 38) 0), none⟩, ⟨(some 43), (.ext (.t 38) 1), none⟩, ⟨(some 5), (.mv (.t 42)), none⟩, ⟨(some 6), (.mv (.t 43)), none⟩]) (.seq (.seq (.reg false [⟨(some 45), (.ld 2 (.t 3)), none⟩, ⟨(some 46), (.mv (.t 4)), none⟩, ⟨(some 47), (.call (.f 26) [(.t 45), (.t 46)]), none⟩, ⟨(some 44), (.mv (.t 47)), none⟩, ⟨(some 48), (.ext (.t 44) 0), none⟩, ⟨(some 49), (.ext (.t 44) 1), none⟩, ⟨(some 7), (.mv (.t 48)), none⟩, ⟨(some 8), (.mv (.t 49)), none⟩]) (.seq (.reg false [⟨(some 50), (.mv (.t 6)), none⟩, ⟨(some 51), (.mv (.t 8)), none⟩, ⟨(some 52), (.bin .neq (.t 50) (.t 51)), none⟩, ⟨(some 53), (.mv (.t 52)), none⟩, ⟨(some 54), (.mv (.t 5)), (some (53, false))⟩, ⟨(some 55), (.mv (.t 7)), (some (53, false))⟩, ⟨(some 56), (.call (.f 27) [(.t 54), (.t 55)]), (some (53, false))⟩, ⟨(some 57), (.un .not (.t 56)), (some (53, false))⟩, ⟨(some 58), (.pick (.t 53) (.c (.bool true)) (.t 57)), none⟩]) (.cond (.t 58) (.seq (.reg false [⟨(some 2), (.mv (.c (.bool false))), none⟩]) .ret) .skip))) (.seq (.reg false [⟨(some 60), (.ld 2 (.t 3)), none⟩, ⟨(some 61), (.call (.f 28) [(.t 60)]), none⟩, ⟨(some 59), (.mv (.t 61)), none⟩, ⟨(some 62), (.ext (.t 59) 0), none⟩, ⟨(some 63), (.ext (.t 59) 1), none⟩, ⟨(some 9), (.mv (.t 62)), none⟩, ⟨(some 10), (.mv (.t 63)), none⟩]) (.seq (.seq (.reg false [⟨(some 65), (.ld 2 (.t 3)), none⟩, ⟨(some 66), (.call (.f 29) [(.t 65)]), none⟩, ⟨(some 64), (.mv (.t 66)), none⟩, ⟨(some 67), (.ext (.t 64) 0), none⟩, ⟨(some 68), (.ext (.t 64) 1), none⟩, ⟨(some 11), (.mv (.t 67)), none⟩, ⟨(some 12), (.mv (.t 68)), none⟩]) (.seq (.reg false [⟨(some 69), (.mv (.t 10)), none⟩, ⟨(some 70), (.mv (.t 12)), none⟩, ⟨(some 71), (.bin .neq (.t 69) (.t 70)), none⟩, ⟨(some 72), (.mv (.t 71)), none⟩, ⟨(some 73), (.mv (.t 9)), (some (72, false))⟩, ⟨(some 74), (.mv (.t 11)), (some (72, false))⟩, ⟨(some 75), (.call (.f 30) [(.t 73), (.t 74)]), (some (72, false))⟩, ⟨(some 76), (.un .not (.t 75)), (some (72, false))⟩, ⟨(some 77), (.pick (.t 72) (.c (.bool true)) (.t 76)), none⟩]) (.cond (.t 77) (.seq (.reg false [⟨(some 2), (.mv (.c (.bool false))), none⟩]) .ret) .skip))) (.seq (.reg false [⟨(some 79), (.ld 2 (.t 3)), none⟩, ⟨(some 80), (.call (.f 31) [(.t 79)]), none⟩, ⟨(some 78), (.mv (.t 80)), none⟩, ⟨(some 81), (.ext (.t 78) 0), none⟩, ⟨(some 82), (.ext (.t 78) 1), none⟩, ⟨(some 13), (.mv (.t 81)), none⟩, ⟨(some 14), (.mv (.t 82)), none⟩]) (.seq (.seq (.reg false [⟨(some 84), (.ld 2 (.t 3)), none⟩, ⟨(some 85), (.call (.f 32) [(.t 84)]), none⟩, ⟨(some 83), (.mv (.t 85)), none⟩, ⟨(some 86), (.ext (.t 83) 0), none⟩, ⟨(some 87), (.ext (.t 83) 1), none⟩, ⟨(some 15), (.mv (.t 86)), none⟩, ⟨(some 16), (.mv (.t 87)), none⟩]) (.seq (.reg false [⟨(some 88), (.mv (.t 14)), none⟩, ⟨(some 89), (.mv (.t 16)), none⟩, ⟨(some 90), (.bin .neq (.t 88) (.t 89)), none⟩, ⟨(some 91), (.mv (.t 90)), none⟩, ⟨(some 92), (.mv (.t 13)), (some (91, false))⟩, ⟨(some 93), (.mv (.t 15)), (some (91, false))⟩, ⟨(some 94), (.call (.f 30) [(.t 92), (.t 93)]), (some (91, false))⟩, ⟨(some 95), (.un .not (.t 94)), (some (91, false))⟩, ⟨(some 96), (.pick (.t 91) (.c (.bool true)) (.t 95)), none⟩]) (.cond (.t 96) (.seq (.reg false [⟨(some 2), (.mv (.c (.bool false))), none⟩]) .ret) .skip))) (.seq (.reg false [⟨(some 98), (.ld 2 (.t 3)), none⟩, ⟨(some 99), (.mv (.t 4)), none⟩, ⟨(some 100), (.call (.f 33) [(.t 98), (.t 99)]), none⟩, ⟨(some 97), (.mv (.t 100)), none⟩, ⟨(some 101), (.ext (.t 97) 0), none⟩, ⟨(some 102), (.ext (.t 97) 1), none⟩, ⟨(some 17), (.mv (.t 101)), none⟩, ⟨(some 18), (.mv (.t 102)), none⟩]) (.seq (.seq (.reg false [⟨(some 104), (.ld 2 (.t 3)), none⟩, ⟨(some 105), (.mv (.t 4)), none⟩, ⟨(some 106), (.call (.f 34) [(.t 104), (.t 105)]), none⟩, ⟨(some 103), (.mv (.t 106)), none⟩, ⟨(some 107), (.ext (.t 103) 0), none⟩, ⟨(some 108), (.ext (.t 103) 1), none⟩, ⟨(some 19), (.mv (.t 107)), none⟩, ⟨(some 20), (.mv (.t 108)), none⟩]) (.seq (.reg false [⟨(some 109), (.mv (.t 18)), none⟩, ⟨(some 110), (.mv (.t 20)), none⟩, ⟨(some 111), (.bin .neq (.t 109) (.t 110)), none⟩, ⟨(some 112), (.mv (.t 111)), none⟩, ⟨(some 113), (.mv (.t 17)), (some (112, false))⟩, ⟨(some 114), (.mv (.t 19)), (some (112, false))⟩, ⟨(some 115), (.call (.f 30) [(.t 113), (.t 114)]), (some (112, false))⟩, ⟨(some 116), (.un .not (.t 115)), (some (112, false))⟩, ⟨(some 117), (.pick (.t 112) (.c (.bool true)) (.t 116)), none⟩]) (.cond (.t 117) (.seq (.reg false [⟨(some 2), (.mv (.c (.bool false))), none⟩]) .ret) .skip))) (.seq (.reg false [⟨(some 119), (.ld 2 (.t 3)), none⟩, ⟨(some 120), (.call (.f 35) [(.t 119)]), none⟩, ⟨(some 118), (.mv (.t 120)), none⟩, ⟨(some 121), (.ext (.t 118) 0), none⟩, ⟨(some 122), (.ext (.t 118) 1), none⟩, ⟨(some 21), (.mv (.t 121)), none⟩, ⟨(some 22), (.mv (.t 122)), none⟩]) (.seq (.seq (.reg false [⟨(some 124), (.ld 2 (.t 3)), none⟩, ⟨(some 125), (.call (.f 36) [(.t 124)]), none⟩, ⟨(some 123), (.mv (.t 125)), none⟩, ⟨(some 126), (.ext (.t 123) 0), none⟩, ⟨(some 127), (.ext (.t 123) 1), none⟩, ⟨(some 23), (.mv (.t 126)), none⟩, ⟨(some 24), (.mv (.t 127)), none⟩]) (.seq (.reg false [⟨(some 128), (.mv (.t 22)), none⟩, ⟨(some 129), (.mv (.t 24)), none⟩, ⟨(some 130), (.bin .neq (.t 128) (.t 129)), none⟩, ⟨(some 131), (.mv (.t 130)), none⟩, ⟨(some 132), (.mv (.t 21)), (some (131, false))⟩, ⟨(some 133), (.mv (.t 23)), (some (131, false))⟩, ⟨(some 134), (.beq true (.t 132) (.t 133)), (some (131, false))⟩, ⟨(some 135), (.pick (.t 131) (.c (.bool true)) (.t 134)), none⟩]) (.cond (.t 135) (.seq (.reg false [⟨(some 2), (.mv (.c (.bool false))), none⟩]) .ret) .skip))) (.seq (.seq (.reg false [⟨(some 136), (.mv (.t 10)), none⟩, ⟨(some 137), (.bin .eql (.t 136) (.c (.int .i64 0))), none⟩]) (.cond (.t 137) (.seq (.seq (.reg false [⟨(some 138), (.mv (.t 14)), none⟩, ⟨(some 139), (.bin .neq (.t 138) (.c (.int .i64 0))), none⟩, ⟨(some 140), (.mv (.t 139)), none⟩, ⟨(some 141), (.mv (.t 9)), (some (140, false))⟩, ⟨(some 142), (.len (.t 141)), (some (140, false))⟩, ⟨(some 143), (.bin .eql (.t 142) (.c (.int .i64 0))), (some (140, false))⟩, ⟨(some 144), (.pick (.t 140) (.c (.bool true)) (.t 143)), none⟩, ⟨(some 145), (.mv (.t 144)), none⟩, ⟨(some 146), (.mv (.t 9)), (some (145, false))⟩, ⟨(some 147), (.ia 1 (.t 146) (.c (.int .i64 0))), (some (145, false))⟩, ⟨(some 148), (.ld1 (.t 147)), (some (145, false))⟩, ⟨(some 149), (.bin .neq (.t 148) (.c (.int .i64 0))), (some (145, false))⟩, ⟨(some 150), (.pick (.t 145) (.c (.bool true)) (.t 149)), none⟩, ⟨(some 151), (.mv (.t 150)), none⟩, ⟨(some 152), (.mv (.t 13)), (some (151, false))⟩, ⟨(some 153), (.len (.t 152)), (some (151, false))⟩, ⟨(some 154), (.mv (.t 9)), (some (151, false))⟩, ⟨(some 155), (.len (.t 154)), (some (151, false))⟩, ⟨(some 156), (.bin .gtr (.t 153) (.t 155)), (some (151, false))⟩, ⟨(some 157), (.pick (.t 151) (.c (.bool true)) (.t 156)), none⟩]) (.cond (.t 157) (.seq (.reg false [⟨(some 2), (.mv (.c (.bool false))), none⟩]) .ret) .skip)) (.seq (.reg false [⟨(some 25), (.mv (.c (.int .i64 0))), none⟩]) (.block 0 (.loop (.seq (.seq (.reg false [⟨(some 158), (.mv (.t 25)), none⟩, ⟨(some 159), (.mv (.t 13)), none⟩, ⟨(some 160), (.len (.t 159)), none⟩, ⟨(some 161), (.bin .lss (.t 158) (.t 160)), none⟩]) (.cond (.t 161) .skip (.exit 0))) (.seq (.block 1 (.seq (.reg false [⟨(some 164), (.mv (.t 9)), none⟩, ⟨(some 165), (.mv (.t 13)), none⟩, ⟨(some 166), (.mv (.t 25)), none⟩, ⟨(some 167), (.ia 1 (.t 165) (.t 166)), none⟩, ⟨(some 168), (.ld1 (.t 167)), none⟩, ⟨(some 169), (.call (.f 37) [(.t 164), (.t 168)]), none⟩, ⟨(some 170), (.un .not (.t 169)), none⟩]) (.cond (.t 170) (.seq (.reg false [⟨(some 2), (.mv (.c (.bool false))), none⟩]) .ret) .skip))) (.reg false [⟨(some 162), (.mv (.t 25)), none⟩, ⟨(some 163), (.bin .add (.t 162) (.c (.int .i64 1))), none⟩, ⟨(some 25), (.mv (.t 163)), none⟩]))))))) .skip)) (.seq (.seq (.reg false [⟨(some 171), (.mv (.t 18)), none⟩, ⟨(some 172), (.bin .eql (.t 171) (.c (.int .i64 0))), none⟩]) (.cond (.t 172) (.seq (.reg false [⟨(some 174), (.ld 2 (.t 3)), none⟩, ⟨(some 175), (.mv (.t 4)), none⟩, ⟨(some 176), (.call (.f 38) [(.t 174), (.t 175)]), none⟩, ⟨(some 173), (.mv (.t 176)), none⟩, ⟨(some 177), (.ext (.t 173) 0), none⟩, ⟨(some 178), (.ext (.t 173) 1), none⟩, ⟨(some 26), (.mv (.t 177)), none⟩, ⟨(some 27), (.mv (.t 178)), none⟩]) (.seq (.reg false [⟨(some 28), (.mv (.c (.int .i64 0))), none⟩]) (.block 2 (.loop (.seq (.seq (.reg false [⟨(some 179), (.mv (.t 28)), none⟩, ⟨(some 180), (.mv (.t 26)), none⟩, ⟨(some 181), (.len (.t 180)), none⟩, ⟨(some 182), (.bin .lss (.t 179) (.t 181)), none⟩, ⟨(some 183), (.mv (.t 182)), none⟩, ⟨(some 184), (.mv (.t 27)), (some (183, true))⟩, ⟨(some 185), (.bin .eql (.t 184) (.c (.int .i64 0))), (some (183, true))⟩, ⟨(some 186), (.pick (.t 183) (.t 185) (.c (.bool false))), none⟩]) (.cond (.t 186) .skip (.exit 2))) (.seq (.block 3 (.seq (.reg false [⟨(some 189), (.mv (.t 26)), none⟩, ⟨(some 190), (.mv (.t 28)), none⟩, ⟨(some 191), (.ia 2 (.t 189) (.t 190)), none⟩, ⟨(some 192), (.fa 0 (.t 191)), none⟩, ⟨(some 193), (.ld1 (.t 192)), none⟩, ⟨(some 194), (.bin .gtr (.t 193) (.c (.int .i64 0))), none⟩, ⟨(some 195), (.mv (.t 194)), none⟩, ⟨(some 196), (.mv (.t 17)), (some (195, true))⟩, ⟨(some 197), (.mv (.t 28)), (some (195, true))⟩, ⟨(some 198), (.ia 1 (.t 196) (.t 197)), (some (195, true))⟩, ⟨(some 199), (.ld1 (.t 198)), (some (195, true))⟩, ⟨(some 200), (.bin .neq (.t 199) (.c (.int .i64 1))), (some (195, true))⟩, ⟨(some 201), (.pick (.t 195) (.t 200) (.c (.bool false))), none⟩, ⟨(some 202), (.mv (.t 201)), none⟩, ⟨(some 203), (.mv (.t 26)), (some (202, false))⟩, ⟨(some 204), (.mv (.t 28)), (some (202, false))⟩, ⟨(some 205), (.ia 2 (.t 203) (.t 204)), (some (202, false))⟩, ⟨(some 206), (.fa 0 (.t 205)), (some (202, false))⟩, ⟨(some 207), (.ld1 (.t 206)), (some (202, false))⟩, ⟨(some 208), (.bin .lss (.t 207) (.c (.int .i64 0))), (some (202, false))⟩, ⟨(some 209), (.mv (.t 208)), (some (202, false))⟩, ⟨(some 210), (.mv (.t 17)), (some (209, true))⟩, ⟨(some 211), (.mv (.t 28)), (some (209, true))⟩, ⟨(some 212), (.ia 1 (.t 210) (.t 211)), (some (209, true))⟩, ⟨(some 213), (.ld1 (.t 212)), (some (209, true))⟩, ⟨(some 214), (.bin .neq (.t 213) (.c (.int .i64 (-1)))), (some (209, true))⟩, ⟨(some 215), (.pick (.t 209) (.t 214) (.c (.bool false))), (some (202, false))⟩, ⟨(some 216), (.pick (.t 202) (.c (.bool true)) (.t 215)), none⟩, ⟨(some 217), (.mv (.t 216)), none⟩, ⟨(some 218), (.mv (.t 26)), (some (217, false))⟩, ⟨(some 219), (.mv (.t 28)), (some (217, false))⟩, ⟨(some 220), (.ia 2 (.t 218) (.t 219)), (some (217, false))⟩, ⟨(some 221), (.fa 0 (.t 220)), (some (217, false))⟩, ⟨(some 222), (.ld1 (.t 221)), (some (217, false))⟩, ⟨(some 223), (.bin .eql (.t 222) (.c (.int .i64 0))), (some (217, false))⟩, ⟨(some 224), (.mv (.t 223)), (some (217, false))⟩, ⟨(some 225), (.mv (.t 17)), (some (224, true))⟩, ⟨(some 226), (.mv (.t 28)), (some (224, true))⟩, ⟨(some 227), (.ia 1 (.t 225) (.t 226)), (some (224, true))⟩, ⟨(some 228), (.ld1 (.t 227)), (some (224, true))⟩, ⟨(some 229), (.bin .neq (.t 228) (.c (.int .i64 0))), (some (224, true))⟩, ⟨(some 230), (.pick (.t 224) (.t 229) (.c (.bool false))), (some (217, false))⟩, ⟨(some 231), (.pick (.t 217) (.c (.bool true)) (.t 230)), none⟩, ⟨(some 232), (.mv (.t 231)), none⟩, ⟨(some 233), (.mv (.t 17)), (some (232, false))⟩, ⟨(some 234), (.mv (.t 28)), (some (232, false))⟩, ⟨(some 235), (.ia 1 (.t 233) (.t 234)), (some (232, false))⟩, ⟨(some 236), (.ld1 (.t 235)), (some (232, false))⟩, ⟨(some 237), (.bin .eql (.t 236) (.c (.int .i64 0))), (some (232, false))⟩, ⟨(some 238), (.mv (.t 237)), (some (232, false))⟩, ⟨(some 239), (.mv (.t 21)), (some (238, true))⟩, ⟨(some 240), (.un .not (.t 239)), (some (238, true))⟩, ⟨(some 241), (.pick (.t 238) (.t 240) (.c (.bool false))), (some (232, false))⟩, ⟨(some 242), (.pick (.t 232) (.c (.bool true)) (.t 241)), none⟩]) (.cond (.t 242) (.seq (.reg false [⟨(some 2), (.mv (.c (.bool false))), none⟩]) .ret) .skip))) (.reg false [⟨(some 187), (.mv (.t 28)), none⟩, ⟨(some 188), (.bin .add (.t 187) (.c (.int .i64 1))), none⟩, ⟨(some 28), (.mv (.t 188)), none⟩]))))))) .skip)) (.seq (.seq (.reg false [⟨(some 243), (.mv (.t 6)), none⟩, ⟨(some 244), (.bin .neq (.t 243) (.c (.int .i64 0))), none⟩]) (.cond (.t 244) (.seq (.reg false [⟨(some 245), (.mv (.t 5)), none⟩, ⟨(some 246), (.len (.t 245)), none⟩, ⟨(some 247), (.bin .eql (.t 246) (.c (.int .i64 0))), none⟩, ⟨(some 2), (.mv (.t 247)), none⟩]) .ret) .skip)) (.seq (.reg false [⟨(some 249), (.ld 2 (.t 3)), none⟩, ⟨(some 250), (.mv (.t 5)), none⟩, ⟨(some 251), (.call (.f 39) [(.t 249), (.t 250)]), none⟩, ⟨(some 248), (.mv (.t 251)), none⟩, ⟨(some 252), (.ext (.t 248) 0), none⟩, ⟨(some 253), (.ext (.t 248) 1), none⟩, ⟨(some 29), (.mv (.t 252)), none⟩, ⟨(some 30), (.mv (.t 253)), none⟩]) (.seq (.reg false [⟨(some 254), (.mv (.t 13)), none⟩, ⟨(some 255), (.mv (.t 4)), none⟩, ⟨(some 256), (.call (.f 37) [(.t 254), (.t 255)]), none⟩, ⟨(some 257), (.mv (.t 256)), none⟩, ⟨(some 258), (.mv (.t 5)), (some (257, true))⟩, ⟨(some 259), (.len (.t 258)), (some (257, true))⟩, ⟨(some 260), (.fa 1 (.t 3)), (some (257, true))⟩, ⟨(some 261), (.ld1 (.t 260)), (some (257, true))⟩, ⟨(some 262), (.len (.t 261)), (some (257, true))⟩, ⟨(some 263), (.bin .eql (.t 259) (.t 262)), (some (257, true))⟩, ⟨(some 264), (.pick (.t 257) (.t 263) (.c (.bool false))), none⟩, ⟨(some 265), (.mv (.t 264)), none⟩, ⟨(some 266), (.mv (.t 30)), (some (265, true))⟩, ⟨(some 267), (.bin .eql (.t 266) (.c (.int .i64 3))), (some (265, true))⟩, ⟨(some 268), (.mv (.t 267)), (some (265, true))⟩, ⟨(some 269), (.mv (.t 30)), (some (268, false))⟩, ⟨(some 270), (.bin .eql (.t 269) (.c (.int .i64 0))), (some (268, false))⟩, ⟨(some 271), (.mv (.t 270)), (some (268, false))⟩, ⟨(some 272), (.mv (.t 29)), (some (271, true))⟩, ⟨(some 273), (.pick (.t 271) (.t 272) (.c (.bool false))), (some (268, false))⟩, ⟨(some 274), (.pick (.t 268) (.c (.bool true)) (.t 273)), (some (265, true))⟩, ⟨(some 275), (.pick (.t 265) (.t 274) (.c (.bool false))), none⟩, ⟨(some 2), (.mv (.t 275)), none⟩]) .ret)))))))))))))))))), 276, [(.t 2)]⟩
theorem k_laws_FnSets : compF Try.prog Try.f6 = some c_laws_FnSets := by kernel_rfl

set_option maxRecDepth 100000 in
set_option maxHeartbeats 8000000 in
theorem laws_FnSets {hi : Nat} {h : AH} {v : AV} {code : List Int} (s : Sl false 0 hi h 1 v (bytesA code)) (hc : ∀ x ∈ code, 0 ≤ x ∧ x ≤ 255) (n : Nat) (hn : hi ≤ n) :
    Q Try.prog 6 [v] h n (.bool true) := by
  refine q_intro Try.func6 k_laws_FnSets ?_
  simp (maxSteps := 2000000) -implicitDefEqProofs (disch := omega) only [c_laws_FnSets, xsW, xsC, if_true, if_false, ite_true, ite_false, forall_const, ne_eq, beq_self_eq_true, bne_self_eq_false, imp_self, true_implies, false_implies, implies_true, evP, evE, ev, setD, Nat.reduceAdd, Nat.reduceSub, reduceCtorEq, fillA, cutA, Nat.reduceLeDiff, Nat.reduceMul, Int.reduceLT, Int.reduceLE, Int.reduceEq, Int.reduceNe, Int.reduceAdd, Int.reduceSub, Int.reduceMul, Int.reduceNeg, Int.reduceToNat]
  refine q_use (laws_big s n) fun n1 hn1 => ?_
  by_cases hb : 4096 < code.length
  · rw [decide_eq_true hb]
    simp (maxSteps := 2000000) -implicitDefEqProofs (disch := omega) only [xsW, xsC, if_true, if_false, ite_true, ite_false, forall_const, ne_eq, beq_self_eq_true, bne_self_eq_false, imp_self, true_implies, false_implies, implies_true, evP, evE, ev, setD, Nat.reduceAdd, Nat.reduceSub, reduceCtorEq, fillA, cutA, Nat.reduceLeDiff, Nat.reduceMul, Int.reduceLT, Int.reduceLE, Int.reduceEq, Int.reduceNe, Int.reduceAdd, Int.reduceSub, Int.reduceMul, Int.reduceNeg, Int.reduceToNat]
  rw [decide_eq_false hb]
  have hb' : code.length ≤ 4096 := by omega
  simp (maxSteps := 2000000) -implicitDefEqProofs (disch := omega) only [xsW, xsC, if_true, if_false, ite_true, ite_false, forall_const, ne_eq, beq_self_eq_true, bne_self_eq_false, imp_self, true_implies, false_implies, implies_true, evP, evE, ev, setD, Nat.reduceAdd, Nat.reduceSub, reduceCtorEq, fillA, cutA, Nat.reduceLeDiff, Nat.reduceMul, Int.reduceLT, Int.reduceLE, Int.reduceEq, Int.reduceNe, Int.reduceAdd, Int.reduceSub, Int.reduceMul, Int.reduceNeg, Int.reduceToNat]
  refine fq_use (spec_DrawSolutionOfSet s hb' hc n1 (by omega)) fun x2 h2 c hn2 hs2 ⟨v2, u2, vs2, ll, q, a, e2, s2, f2, wa⟩ => ?_
  subst e2
  obtain ⟨b1, b2, b3⟩ := f2.big
  have w1 := one_any (Sl.any s2.M.out)
  have w2 := one_any (Sl.any s2.Q)
  have w3 := sto_any (Sl.any s2.Q)
  have h3c : (upd h2 c (some ⟨31, [v2, u2], true, 0⟩)) c = some ⟨31, [v2, u2], true, 0⟩ := upd_same _ _ _
  have s3 := s2.keep (h' := upd h2 c (some ⟨31, [v2, u2], true, 0⟩)) fun j a c => upd_other (by omega)
  simp (maxSteps := 2000000) -implicitDefEqProofs (disch := omega) only [xsW, xsC, if_true, if_false, ite_true, ite_false, forall_const, ne_eq, beq_self_eq_true, bne_self_eq_false, imp_self, true_implies, false_implies, implies_true, evP, evE, ev, setD, Nat.reduceAdd, Nat.reduceSub, reduceCtorEq, fillA, cutA, Nat.reduceLeDiff, Nat.reduceMul, Int.reduceLT, Int.reduceLE, Int.reduceEq, Int.reduceNe, Int.reduceAdd, Int.reduceSub, Int.reduceMul, Int.reduceNeg, Int.reduceToNat,  w1, w2, w3]
  generalize (upd h2 c (some ⟨31, [v2, u2], true, 0⟩)) = h3 at h3c s3 ⊢
  clear s2 hs2
  refine fq_use (impl_SolutionOfSet s3 b1 b2 b3 a _ (by omega)) fun x4 h4 n4 hn4 hs4 ⟨v4, e4, z4⟩ => ?_
  subst e4
  have s4 := s3.keep (h' := h4) fun j a c => hs4 j (by omega)
  have c4 := (hs4 c (by omega)).trans h3c
  simp (maxSteps := 2000000) -implicitDefEqProofs (disch := omega) only [xsW, xsC, if_true, if_false, ite_true, ite_false, forall_const, ne_eq, beq_self_eq_true, bne_self_eq_false, imp_self, true_implies, false_implies, implies_true, evP, evE, ev, setD, Nat.reduceAdd, Nat.reduceSub, reduceCtorEq, fillA, cutA, Nat.reduceLeDiff, Nat.reduceMul, Int.reduceLT, Int.reduceLE, Int.reduceEq, Int.reduceNe, Int.reduceAdd, Int.reduceSub, Int.reduceMul, Int.reduceNeg, Int.reduceToNat,  c4]
  refine fq_use (spec_SolutionOfSet s4 b1 b2 b3 a n4 (by omega)) fun x5 h5 n5 hn5 hs5 ⟨v5, e5, z5⟩ => ?_
  subst e5
  have s5 := s4.keep (h' := h5) fun j a c => hs5 j (by omega)
  have z4' := z4.keep (h' := h5) fun j a c => hs5 j (by omega)
  have c5 := (hs5 c (by omega)).trans c4
  simp (maxSteps := 2000000) -implicitDefEqProofs (disch := omega) only [xsW, xsC, if_true, if_false, ite_true, ite_false, forall_const, ne_eq, beq_self_eq_true, bne_self_eq_false, imp_self, true_implies, false_implies, implies_true, evP, evE, ev, setD, Nat.reduceAdd, Nat.reduceSub, reduceCtorEq, fillA, cutA, Nat.reduceLeDiff, Nat.reduceMul, Int.reduceLT, Int.reduceLE, Int.reduceEq, Int.reduceNe, Int.reduceAdd, Int.reduceSub, Int.reduceMul, Int.reduceNeg, Int.reduceToNat]
  refine q_use (laws_fracs9_eq z4' z5 (solV_small ll q a) n5) fun n6 hn6 => ?_
  simp (maxSteps := 2000000) -implicitDefEqProofs (disch := omega) only [xsW, xsC, if_true, if_false, ite_true, ite_false, forall_const, ne_eq, beq_self_eq_true, bne_self_eq_false, imp_self, true_implies, false_implies, implies_true, evP, evE, ev, setD, Nat.reduceAdd, Nat.reduceSub, reduceCtorEq, fillA, cutA, Nat.reduceLeDiff, Nat.reduceMul, Int.reduceLT, Int.reduceLE, Int.reduceEq, Int.reduceNe, Int.reduceAdd, Int.reduceSub, Int.reduceMul, Int.reduceNeg, Int.reduceToNat,  c5]
  refine fq_use (impl_BasicSets s5 b1 b2 b3 n6 (by omega)) fun x7 h7 n7 hn7 hs7 ⟨v7, e7, z7⟩ => ?_
  subst e7
  have s7 := s5.keep (h' := h7) fun j a c => hs7 j (by omega)
  have c7 := (hs7 c (by omega)).trans c5
  simp (maxSteps := 2000000) -implicitDefEqProofs (disch := omega) only [xsW, xsC, if_true, if_false, ite_true, ite_false, forall_const, ne_eq, beq_self_eq_true, bne_self_eq_false, imp_self, true_implies, false_implies, implies_true, evP, evE, ev, setD, Nat.reduceAdd, Nat.reduceSub, reduceCtorEq, fillA, cutA, Nat.reduceLeDiff, Nat.reduceMul, Int.reduceLT, Int.reduceLE, Int.reduceEq, Int.reduceNe, Int.reduceAdd, Int.reduceSub, Int.reduceMul, Int.reduceNeg, Int.reduceToNat,  c7]
  refine fq_use (spec_BasicSets s7 b1 b2 b3 n7 (by omega)) fun x8 h8 n8 hn8 hs8 ⟨v8, e8, z8⟩ => ?_
  subst e8
  have s8 := s7.keep (h' := h8) fun j a c => hs8 j (by omega)
  have z7' := z7.keep (h' := h8) fun j a c => hs8 j (by omega)
  have c8 := (hs8 c (by omega)).trans c7
  simp (maxSteps := 2000000) -implicitDefEqProofs (disch := omega) only [xsW, xsC, if_true, if_false, ite_true, ite_false, forall_const, ne_eq, beq_self_eq_true, bne_self_eq_false, imp_self, true_implies, false_implies, implies_true, evP, evE, ev, setD, Nat.reduceAdd, Nat.reduceSub, reduceCtorEq, fillA, cutA, Nat.reduceLeDiff, Nat.reduceMul, Int.reduceLT, Int.reduceLE, Int.reduceEq, Int.reduceNe, Int.reduceAdd, Int.reduceSub, Int.reduceMul, Int.reduceNeg, Int.reduceToNat]
  refine q_use (laws_likeInts_eq z7' z8 basic_small n8) fun n9 hn9 => ?_
  simp (maxSteps := 2000000) -implicitDefEqProofs (disch := omega) only [xsW, xsC, if_true, if_false, ite_true, ite_false, forall_const, ne_eq, beq_self_eq_true, bne_self_eq_false, imp_self, true_implies, false_implies, implies_true, evP, evE, ev, setD, Nat.reduceAdd, Nat.reduceSub, reduceCtorEq, fillA, cutA, Nat.reduceLeDiff, Nat.reduceMul, Int.reduceLT, Int.reduceLE, Int.reduceEq, Int.reduceNe, Int.reduceAdd, Int.reduceSub, Int.reduceMul, Int.reduceNeg, Int.reduceToNat,  c8]
  refine fq_use (impl_FeasibleSets s8 b1 b2 b3 n9 (by omega)) fun x10 h10 n10 hn10 hs10 ⟨v10, e10, z10⟩ => ?_
  subst e10
  have s10 := s8.keep (h' := h10) fun j a c => hs10 j (by omega)
  have c10 := (hs10 c (by omega)).trans c8
  simp (maxSteps := 2000000) -implicitDefEqProofs (disch := omega) only [xsW, xsC, if_true, if_false, ite_true, ite_false, forall_const, ne_eq, beq_self_eq_true, bne_self_eq_false, imp_self, true_implies, false_implies, implies_true, evP, evE, ev, setD, Nat.reduceAdd, Nat.reduceSub, reduceCtorEq, fillA, cutA, Nat.reduceLeDiff, Nat.reduceMul, Int.reduceLT, Int.reduceLE, Int.reduceEq, Int.reduceNe, Int.reduceAdd, Int.reduceSub, Int.reduceMul, Int.reduceNeg, Int.reduceToNat,  c10]
  refine fq_use (spec_FeasibleSets s10 b1 b2 b3 n10 (by omega)) fun x11 h11 n11 hn11 hs11 ⟨v11, e11, z11⟩ => ?_
  subst e11
  have s11 := s10.keep (h' := h11) fun j a c => hs11 j (by omega)
  have z10' := z10.keep (h' := h11) fun j a c => hs11 j (by omega)
  have c11 := (hs11 c (by omega)).trans c10
  simp (maxSteps := 2000000) -implicitDefEqProofs (disch := omega) only [xsW, xsC, if_true, if_false, ite_true, ite_false, forall_const, ne_eq, beq_self_eq_true, bne_self_eq_false, imp_self, true_implies, false_implies, implies_true, evP, evE, ev, setD, Nat.reduceAdd, Nat.reduceSub, reduceCtorEq, fillA, cutA, Nat.reduceLeDiff, Nat.reduceMul, Int.reduceLT, Int.reduceLE, Int.reduceEq, Int.reduceNe, Int.reduceAdd, Int.reduceSub, Int.reduceMul, Int.reduceNeg, Int.reduceToNat]
  refine q_use (laws_likeInts_eq z10' z11 (setsV_small _ _ _) n11) fun n12 hn12 => ?_
  simp (maxSteps := 2000000) -implicitDefEqProofs (disch := omega) only [xsW, xsC, if_true, if_false, ite_true, ite_false, forall_const, ne_eq, beq_self_eq_true, bne_self_eq_false, imp_self, true_implies, false_implies, implies_true, evP, evE, ev, setD, Nat.reduceAdd, Nat.reduceSub, reduceCtorEq, fillA, cutA, Nat.reduceLeDiff, Nat.reduceMul, Int.reduceLT, Int.reduceLE, Int.reduceEq, Int.reduceNe, Int.reduceAdd, Int.reduceSub, Int.reduceMul, Int.reduceNeg, Int.reduceToNat,  c11]
  refine fq_use (impl_SignsOfSet s11 b1 b2 b3 a n12 (by omega)) fun x13 h13 n13 hn13 hs13 ⟨v13, e13, z13⟩ => ?_
  subst e13
  have s13 := s11.keep (h' := h13) fun j a c => hs13 j (by omega)
  have c13 := (hs13 c (by omega)).trans c11
  simp (maxSteps := 2000000) -implicitDefEqProofs (disch := omega) only [xsW, xsC, if_true, if_false, ite_true, ite_false, forall_const, ne_eq, beq_self_eq_true, bne_self_eq_false, imp_self, true_implies, false_implies, implies_true, evP, evE, ev, setD, Nat.reduceAdd, Nat.reduceSub, reduceCtorEq, fillA, cutA, Nat.reduceLeDiff, Nat.reduceMul, Int.reduceLT, Int.reduceLE, Int.reduceEq, Int.reduceNe, Int.reduceAdd, Int.reduceSub, Int.reduceMul, Int.reduceNeg, Int.reduceToNat,  c13]
  refine fq_use (spec_SignsOfSet s13 b1 b2 b3 a n13 (by omega)) fun x14 h14 n14 hn14 hs14 ⟨v14, e14, z14⟩ => ?_
  subst e14
  have s14 := s13.keep (h' := h14) fun j a c => hs14 j (by omega)
  have z13' := z13.keep (h' := h14) fun j a c => hs14 j (by omega)
  have c14 := (hs14 c (by omega)).trans c13
  simp (maxSteps := 2000000) -implicitDefEqProofs (disch := omega) only [xsW, xsC, if_true, if_false, ite_true, ite_false, forall_const, ne_eq, beq_self_eq_true, bne_self_eq_false, imp_self, true_implies, false_implies, implies_true, evP, evE, ev, setD, Nat.reduceAdd, Nat.reduceSub, reduceCtorEq, fillA, cutA, Nat.reduceLeDiff, Nat.reduceMul, Int.reduceLT, Int.reduceLE, Int.reduceEq, Int.reduceNe, Int.reduceAdd, Int.reduceSub, Int.reduceMul, Int.reduceNeg, Int.reduceToNat]
  refine q_use (laws_likeInts_eq z13' z14 (sgnV_small _ _ _) n14) fun n15 hn15 => ?_
  simp (maxSteps := 2000000) -implicitDefEqProofs (disch := omega) only [xsW, xsC, if_true, if_false, ite_true, ite_false, forall_const, ne_eq, beq_self_eq_true, bne_self_eq_false, imp_self, true_implies, false_implies, implies_true, evP, evE, ev, setD, Nat.reduceAdd, Nat.reduceSub, reduceCtorEq, fillA, cutA, Nat.reduceLeDiff, Nat.reduceMul, Int.reduceLT, Int.reduceLE, Int.reduceEq, Int.reduceNe, Int.reduceAdd, Int.reduceSub, Int.reduceMul, Int.reduceNeg, Int.reduceToNat,  c14]
  refine q_use (impl_IsDegenerate s14 b1 b2 b3 n15 (by omega)) fun n16 hn16 => ?_
  simp (maxSteps := 2000000) -implicitDefEqProofs (disch := omega) only [xsW, xsC, if_true, if_false, ite_true, ite_false, forall_const, ne_eq, beq_self_eq_true, bne_self_eq_false, imp_self, true_implies, false_implies, implies_true, evP, evE, ev, setD, Nat.reduceAdd, Nat.reduceSub, reduceCtorEq, fillA, cutA, Nat.reduceLeDiff, Nat.reduceMul, Int.reduceLT, Int.reduceLE, Int.reduceEq, Int.reduceNe, Int.reduceAdd, Int.reduceSub, Int.reduceMul, Int.reduceNeg, Int.reduceToNat,  c14]
  refine q_use (spec_IsDegenerate s14 b1 b2 b3 n16 (by omega)) fun n17 hn17 => ?_
  obtain ⟨dg, hdg⟩ : ∃ d, d = (degV ll q).1 := ⟨_, rfl⟩
  rw [← hdg]
  simp (maxSteps := 2000000) -implicitDefEqProofs (disch := omega) only [xsW, xsC, if_true, if_false, ite_true, ite_false, forall_const, ne_eq, beq_self_eq_true, bne_self_eq_false, imp_self, true_implies, false_implies, implies_true, evP, evE, ev, setD, Nat.reduceAdd, Nat.reduceSub, reduceCtorEq, fillA, cutA, Nat.reduceLeDiff, Nat.reduceMul, Int.reduceLT, Int.reduceLE, Int.reduceEq, Int.reduceNe, Int.reduceAdd, Int.reduceSub, Int.reduceMul, Int.reduceNeg, Int.reduceToNat]
  have Z4 := z4'.keep (h' := h14) fun j a c => by rw [hs14 j (by omega), hs13 j (by omega), hs11 j (by omega), hs10 j (by omega), hs8 j (by omega), hs7 j (by omega)]
  have Z7 := z7'.keep (h' := h14) fun j a c => by rw [hs14 j (by omega), hs13 j (by omega), hs11 j (by omega), hs10 j (by omega)]
  have Z10 := z10'.keep (h' := h14) fun j a c => by rw [hs14 j (by omega), hs13 j (by omega)]
  have Z13 := z13'
  clear hs4 hs5 hs7 hs8 hs10 hs11 hs13 hs14 s3 s4 s5 s7 s8 s10 s11 s13 z4 z5 z7 z8 z10 z11 z13 z14 z4' z7' z10' z13' c4 c5 c7 c8 c10 c11 c13 h3c
  have hbl := basic_small (ll := ll) (q := q)
  have hfl := setsV_small ll q feasT
  have nC := n17
  obtain ⟨nC, hnC⟩ : ∃ m, m = n17 := ⟨_, rfl⟩
  rw [← hnC]
  refine cd_dec (fun k1 => ?_) (fun k1 => ?_) <;> simp (maxSteps := 2000000) -implicitDefEqProofs (disch := omega) only [xsW, xsC, if_true, if_false, ite_true, ite_false, forall_const, ne_eq, beq_self_eq_true, bne_self_eq_false, imp_self, true_implies, false_implies, implies_true, evP, evE, ev, setD, Nat.reduceAdd, Nat.reduceSub, reduceCtorEq, fillA, cutA, Nat.reduceLeDiff, Nat.reduceMul, Int.reduceLT, Int.reduceLE, Int.reduceEq, Int.reduceNe, Int.reduceAdd, Int.reduceSub, Int.reduceMul, Int.reduceNeg, Int.reduceToNat,  k1]
  -- basic and feasible sets
  have hp := sets_zero.1 k1
  obtain ⟨t1, t2, ⟨t, t3⟩, t4, t5⟩ := basic_said hp
  have hlt : 1 ≤ (setsV ll q fun _ => true).1.length := by rw [t3]; simp
  have h0 : (setsV ll q fun _ => true).1.getD 0 0 = 0 := by rw [t3]; rfl
  have hb0 := Sl.below Z7 (by rw [Ints.slen Z7]; omega)
  simp (maxSteps := 2000000) -implicitDefEqProofs (disch := omega) only [xsW, xsC, if_true, if_false, ite_true, ite_false, forall_const, ne_eq, beq_self_eq_true, bne_self_eq_false, imp_self, true_implies, false_implies, implies_true, evP, evE, ev, setD, Nat.reduceAdd, Nat.reduceSub, reduceCtorEq, fillA, cutA, Nat.reduceLeDiff, Nat.reduceMul, Int.reduceLT, Int.reduceLE, Int.reduceEq, Int.reduceNe, Int.reduceAdd, Int.reduceSub, Int.reduceMul, Int.reduceNeg, Int.reduceToNat,  t2, Z7.ln, Z7.ia, Z7.ld0, Z7.ld, h0, Z10.ln]
  refine loop_for (setsV ll q feasT).1.length 0 (fun k (_ : Unit) => [v, .any, .bool false, .ptr c 0, .int .i64 a, v4, .int .i64 (solV ll q a).2, .any, .any, v7, .any, .any, .any, v10, .any, .any, .any, v13, .int .i64 (sgnV ll q a).2, .any, .any, .bool dg, .any, .any, .any, .int .i64 k, .any, .any, .any, .any, .any, .any, .any, .any, .any, .any, .any, .any, .any, .any, .any, .any, .any, .any, .any, .any, .any, .any, .any, .any, .any, .any, .any, .any, .any, .any, .any, .any, .any, .any, .any, .any, .any, .any, .any, .any, .any, .any, .any, .any, .any, .any, .any, .any, .any, .any, .any, .any, .any, .any, .any, .any, .any, .any, .any, .any, .any, .any, .any, .any, .any, .any, .any, .any, .any, .any, .any, .any, .any, .any, .any, .any, .any, .any, .any, .any, .any, .any, .any, .any, .any, .any, .any, .any, .any, .any, .any, .any, .any, .any, .any, .any, .any, .any, .any, .any, .any, .any, .any, .any, .any, .any, .any, .any, .any, .any, .any, .any, .any, .any, .any, .any, .any, .any, .any, .any, .any, .any, .any, .any, .any, .any, .any, .any, .any, .any, .any, .any, .any, .any, .any, .any, .any, .any, .any, .any, .any, .any, .any, .any, .any, .any, .any, .any, .any, .any, .any, .any, .any, .any, .any, .any, .any, .any, .any, .any, .any, .any, .any, .any, .any, .any, .any, .any, .any, .any, .any, .any, .any, .any, .any, .any, .any, .any, .any, .any, .any, .any, .any, .any, .any, .any, .any, .any, .any, .any, .any, .any, .any, .any, .any, .any, .any, .any, .any, .any, .any, .any, .any, .any, .any, .any, .any, .any, .any, .any, .any, .any, .any, .any, .any, .any, .any, .any, .any, .any, .any, .any, .any, .any, .any, .any, .any, .any, .any, .any, .any, .any, .any, .any, .any, .any, .any, .any, .any, .any, .any, .any, .any, .any, .any, .any, .any, .any, .any, .any]) (fun k _ => h14)
    (fun k _ _ => True) () (Nat.zero_le _) trivial (by simp [LeL, Le1]) (fun _ _ h => h) ?_
  rintro k - nC - hk hnC' -
  simp (maxSteps := 2000000) -implicitDefEqProofs (disch := omega) only [xsW, xsC, if_true, if_false, ite_true, ite_false, forall_const, ne_eq, beq_self_eq_true, bne_self_eq_false, imp_self, true_implies, false_implies, implies_true, evP, evE, ev, setD, Nat.reduceAdd, Nat.reduceSub, reduceCtorEq, fillA, cutA, Nat.reduceLeDiff, Nat.reduceMul, Int.reduceLT, Int.reduceLE, Int.reduceEq, Int.reduceNe, Int.reduceAdd, Int.reduceSub, Int.reduceMul, Int.reduceNeg, Int.reduceToNat,  Z10.ln]
  refine cd_dec (fun k2 => ?_) (fun k2 => ?_) <;> simp (maxSteps := 2000000) -implicitDefEqProofs (disch := omega) only [xsW, xsC, if_true, if_false, ite_true, ite_false, forall_const, ne_eq, beq_self_eq_true, bne_self_eq_false, imp_self, true_implies, false_implies, implies_true, evP, evE, ev, setD, Nat.reduceAdd, Nat.reduceSub, reduceCtorEq, fillA, cutA, Nat.reduceLeDiff, Nat.reduceMul, Int.reduceLT, Int.reduceLE, Int.reduceEq, Int.reduceNe, Int.reduceAdd, Int.reduceSub, Int.reduceMul, Int.reduceNeg, Int.reduceToNat,  k2]
  · have hk' : k < (setsV ll q feasT).1.length := by omega
    have hb1 := Sl.below Z10 (by rw [Ints.slen Z10]; omega)
    simp (maxSteps := 2000000) -implicitDefEqProofs (disch := omega) only [xsW, xsC, if_true, if_false, ite_true, ite_false, forall_const, ne_eq, beq_self_eq_true, bne_self_eq_false, imp_self, true_implies, false_implies, implies_true, evP, evE, ev, setD, Nat.reduceAdd, Nat.reduceSub, reduceCtorEq, fillA, cutA, Nat.reduceLeDiff, Nat.reduceMul, Int.reduceLT, Int.reduceLE, Int.reduceEq, Int.reduceNe, Int.reduceAdd, Int.reduceSub, Int.reduceMul, Int.reduceNeg, Int.reduceToNat,  Z10.ia, Z10.ld]
    have qq := laws_hasInt Z7 hbl ((setsV ll q feasT).1.getD k 0) nC
    rw [decide_eq_true (t5 _ (getD_mem hk'))] at qq
    refine q_use qq fun n18 hn18 => ?_
    simp (maxSteps := 2000000) -implicitDefEqProofs (disch := omega) only [xsW, xsC, if_true, if_false, ite_true, ite_false, forall_const, ne_eq, beq_self_eq_true, bne_self_eq_false, imp_self, true_implies, false_implies, implies_true, evP, evE, ev, setD, Nat.reduceAdd, Nat.reduceSub, reduceCtorEq, fillA, cutA, Nat.reduceLeDiff, Nat.reduceMul, Int.reduceLT, Int.reduceLE, Int.reduceEq, Int.reduceNe, Int.reduceAdd, Int.reduceSub, Int.reduceMul, Int.reduceNeg, Int.reduceToNat]
    exact ⟨(), by omega, by omega, (by simp [LeL, Le1])⟩
  all_goals
    have hnn : n17 ≤ nC := by omega
    refine cd_dec (fun k3 => ?_) (fun k3 => ?_) <;> simp (maxSteps := 2000000) -implicitDefEqProofs (disch := omega) only [xsW, xsC, if_true, if_false, ite_true, ite_false, forall_const, ne_eq, beq_self_eq_true, bne_self_eq_false, imp_self, true_implies, false_implies, implies_true, evP, evE, ev, setD, Nat.reduceAdd, Nat.reduceSub, reduceCtorEq, fillA, cutA, Nat.reduceLeDiff, Nat.reduceMul, Int.reduceLT, Int.reduceLE, Int.reduceEq, Int.reduceNe, Int.reduceAdd, Int.reduceSub, Int.reduceMul, Int.reduceNeg, Int.reduceToNat,  k3]
    -- signs
    obtain ⟨g1, g2, g3⟩ := sgn_said k3
    rw [g3] at Z13
    obtain ⟨hp, sN, ea, hsN⟩ := codeP_nat g1
    have hdeg : ∀ k : Nat, k < ll.length → (solL ll q a).getD k 0 = 0 → dg = true := fun k hk h0 => by rw [hdg]; exact deg_said g1 g2 hk h0
    have hml : ((solL ll q a).map Int.sign).length = ll.length := by rw [List.length_map, solL_len]
    have hmg : ∀ k : Nat, k < ll.length → ((solL ll q a).map Int.sign).getD k 0 = ((solL ll q a).getD k 0).sign := fun k hk => getD_map _ _ _ 0 _ (by rw [solL_len]; exact hk)
    have hsg := fun k hk => ptF_sign (ll := ll) (q := q) (s := a) (k := k) hk g2
    simp (maxSteps := 2000000) -implicitDefEqProofs (disch := omega) only [xsW, xsC, if_true, if_false, ite_true, ite_false, forall_const, ne_eq, beq_self_eq_true, bne_self_eq_false, imp_self, true_implies, false_implies, implies_true, evP, evE, ev, setD, Nat.reduceAdd, Nat.reduceSub, reduceCtorEq, fillA, cutA, Nat.reduceLeDiff, Nat.reduceMul, Int.reduceLT, Int.reduceLE, Int.reduceEq, Int.reduceNe, Int.reduceAdd, Int.reduceSub, Int.reduceMul, Int.reduceNeg, Int.reduceToNat,  c14]
    refine fq_use (impl_PointOf s14 b1 b2 b3 a nC (by omega)) fun x20 hC n20 hn20 hs20 ⟨v20, e20, z20⟩ => ?_
    subst e20
    replace Z4 := Z4.keep (h' := hC) fun j a c => hs20 j (by omega)
    replace Z7 := Z7.keep (h' := hC) fun j a c => hs20 j (by omega)
    replace Z10 := Z10.keep (h' := hC) fun j a c => hs20 j (by omega)
    replace Z13 := Z13.keep (h' := hC) fun j a c => hs20 j (by omega)
    replace s14 := s14.keep (h' := hC) fun j a c => hs20 j (by omega)
    replace c14 := (hs20 c (by omega)).trans c14
    simp (maxSteps := 2000000) -implicitDefEqProofs (disch := omega) only [xsW, xsC, if_true, if_false, ite_true, ite_false, forall_const, ne_eq, beq_self_eq_true, bne_self_eq_false, imp_self, true_implies, false_implies, implies_true, evP, evE, ev, setD, Nat.reduceAdd, Nat.reduceSub, reduceCtorEq, fillA, cutA, Nat.reduceLeDiff, Nat.reduceMul, Int.reduceLT, Int.reduceLE, Int.reduceEq, Int.reduceNe, Int.reduceAdd, Int.reduceSub, Int.reduceMul, Int.reduceNeg, Int.reduceToNat]
    refine loop_for (pointV ll q a).1.length 0 (fun k (_ : Unit) => [v, .any, .bool false, .ptr c 0, .int .i64 a, v4, .int .i64 (solV ll q a).2, .any, .any, v7, .any, .any, .any, v10, .any, .any, .any, v13, .int .i64 0, .any, .any, .bool dg, .any, .any, .any, .any, v20, .int .i64 (pointV ll q a).2, .int .i64 k, .any, .any, .any, .any, .any, .any, .any, .any, .any, .any, .any, .any, .any, .any, .any, .any, .any, .any, .any, .any, .any, .any, .any, .any, .any, .any, .any, .any, .any, .any, .any, .any, .any, .any, .any, .any, .any, .any, .any, .any, .any, .any, .any, .any, .any, .any, .any, .any, .any, .any, .any, .any, .any, .any, .any, .any, .any, .any, .any, .any, .any, .any, .any, .any, .any, .any, .any, .any, .any, .any, .any, .any, .any, .any, .any, .any, .any, .any, .any, .any, .any, .any, .any, .any, .any, .any, .any, .any, .any, .any, .any, .any, .any, .any, .any, .any, .any, .any, .any, .any, .any, .any, .any, .any, .any, .any, .any, .any, .any, .any, .any, .any, .any, .any, .any, .any, .any, .any, .any, .any, .any, .any, .any, .any, .any, .any, .any, .any, .any, .any, .any, .any, .any, .any, .any, .any, .any, .any, .any, .any, .any, .any, .any, .any, .any, .any, .any, .any, .any, .any, .any, .any, .any, .any, .any, .any, .any, .any, .any, .any, .any, .any, .any, .any, .any, .any, .any, .any, .any, .any, .any, .any, .any, .any, .any, .any, .any, .any, .any, .any, .any, .any, .any, .any, .any, .any, .any, .any, .any, .any, .any, .any, .any, .any, .any, .any, .any, .any, .any, .any, .any, .any, .any, .any, .any, .any, .any, .any, .any, .any, .any, .any, .any, .any, .any, .any, .any, .any, .any, .any, .any, .any, .any, .any, .any, .any, .any, .any, .any, .any, .any, .any, .any, .any, .any, .any, .any, .any, .any, .any, .any, .any, .any, .any, .any, .any, .any]) (fun k _ => hC)
      (fun k _ _ => True) () (Nat.zero_le _) trivial (by simp [LeL, Le1]) (fun _ _ h => h) ?_
    rintro k - nC - hk hnC'' -
    simp (maxSteps := 2000000) -implicitDefEqProofs (disch := omega) only [xsW, xsC, if_true, if_false, ite_true, ite_false, forall_const, ne_eq, beq_self_eq_true, bne_self_eq_false, imp_self, true_implies, false_implies, implies_true, evP, evE, ev, setD, Nat.reduceAdd, Nat.reduceSub, reduceCtorEq, fillA, cutA, Nat.reduceLeDiff, Nat.reduceMul, Int.reduceLT, Int.reduceLE, Int.reduceEq, Int.reduceNe, Int.reduceAdd, Int.reduceSub, Int.reduceMul, Int.reduceNeg, Int.reduceToNat,  z20.ln]
    refine gd_dec (fun k4 => ?_) (fun k4 => ?_) <;> simp (maxSteps := 2000000) -implicitDefEqProofs (disch := omega) only [xsW, xsC, if_true, if_false, ite_true, ite_false, forall_const, ne_eq, beq_self_eq_true, bne_self_eq_false, imp_self, true_implies, false_implies, implies_true, evP, evE, ev, setD, Nat.reduceAdd, Nat.reduceSub, reduceCtorEq, fillA, cutA, Nat.reduceLeDiff, Nat.reduceMul, Int.reduceLT, Int.reduceLE, Int.reduceEq, Int.reduceNe, Int.reduceAdd, Int.reduceSub, Int.reduceMul, Int.reduceNeg, Int.reduceToNat,  k4]
    · have hk' : k < (pointV ll q a).1.length := by omega
      obtain ⟨p1, p2⟩ : (pointV ll q a).2 = 0 ∧ (pointV ll q a).1 = ptF ll q a := by
        rcases point_said (ll := ll) (q := q) (a := a) with h | ⟨_, h⟩
        · exact h
        · rw [h] at hk'; simp at hk'
      have hkN : k < ll.length := by rw [p2, ptF_len] at hk'; exact hk'
      have hbp := z20.below (by intro e; rw [e] at hk'; simp at hk')
      have hbs := Sl.below Z13 (by rw [Ints.slen Z13]; omega)
      have hs1 := hsg k hkN
      rw [← hmg k hkN] at hs1
      have cs : (0 < ((pointV ll q a).1.getD k (0, 0)).1 ∧ ((solL ll q a).map Int.sign).getD k 0 = 1) ∨ (((pointV ll q a).1.getD k (0, 0)).1 < 0 ∧ ((solL ll q a).map Int.sign).getD k 0 = -1) ∨ (((pointV ll q a).1.getD k (0, 0)).1 = 0 ∧ ((solL ll q a).map Int.sign).getD k 0 = 0 ∧ dg = true) := by
        rw [p2, ← hs1]
        rcases Int.lt_trichotomy ((ptF ll q a).getD k (0, 0)).1 0 with h | h | h
        · exact .inr (.inl ⟨h, Int.sign_eq_neg_one_of_neg h⟩)
        · refine .inr (.inr ⟨h, by rw [h]; rfl, hdeg k hkN ?_⟩)
          rw [h, hmg k hkN] at hs1
          exact Int.sign_eq_zero_iff_zero.1 hs1.symm
        · exact .inl ⟨h, Int.sign_eq_one_of_pos h⟩
      rcases cs with ⟨x1, x2⟩ | ⟨x1, x2⟩ | ⟨x1, x2, x3⟩
      · simp (maxSteps := 2000000) -implicitDefEqProofs (disch := omega) only [xsW, xsC, if_true, if_false, ite_true, ite_false, forall_const, ne_eq, beq_self_eq_true, bne_self_eq_false, imp_self, true_implies, false_implies, implies_true, evP, evE, ev, setD, Nat.reduceAdd, Nat.reduceSub, reduceCtorEq, fillA, cutA, Nat.reduceLeDiff, Nat.reduceMul, Int.reduceLT, Int.reduceLE, Int.reduceEq, Int.reduceNe, Int.reduceAdd, Int.reduceSub, Int.reduceMul, Int.reduceNeg, Int.reduceToNat,  p1, z20.ia, z20.ldn, Z13.ia, Z13.ld, x2]
        exact ⟨(), by omega, by omega, (by simp [LeL, Le1])⟩
      · simp (maxSteps := 2000000) -implicitDefEqProofs (disch := omega) only [xsW, xsC, if_true, if_false, ite_true, ite_false, forall_const, ne_eq, beq_self_eq_true, bne_self_eq_false, imp_self, true_implies, false_implies, implies_true, evP, evE, ev, setD, Nat.reduceAdd, Nat.reduceSub, reduceCtorEq, fillA, cutA, Nat.reduceLeDiff, Nat.reduceMul, Int.reduceLT, Int.reduceLE, Int.reduceEq, Int.reduceNe, Int.reduceAdd, Int.reduceSub, Int.reduceMul, Int.reduceNeg, Int.reduceToNat,  p1, z20.ia, z20.ldn, Z13.ia, Z13.ld, x2]
        exact ⟨(), by omega, by omega, (by simp [LeL, Le1])⟩
      · subst x3
        simp (maxSteps := 2000000) -implicitDefEqProofs (disch := omega) only [xsW, xsC, if_true, if_false, ite_true, ite_false, forall_const, ne_eq, beq_self_eq_true, bne_self_eq_false, imp_self, true_implies, false_implies, implies_true, evP, evE, ev, setD, Nat.reduceAdd, Nat.reduceSub, reduceCtorEq, fillA, cutA, Nat.reduceLeDiff, Nat.reduceMul, Int.reduceLT, Int.reduceLE, Int.reduceEq, Int.reduceNe, Int.reduceAdd, Int.reduceSub, Int.reduceMul, Int.reduceNeg, Int.reduceToNat,  p1, z20.ia, z20.ldn, Z13.ia, Z13.ld, x1, x2]
        exact ⟨(), by omega, by omega, (by simp [LeL, Le1])⟩
    all_goals
      refine cd_dec (fun k9 => ?_) (fun k9 => ?_)
      · have e := solV_fail k9
        rw [e] at Z4
        have hz := Z4.ln
        simp only [List.length_nil] at hz
        simp (maxSteps := 2000000) -implicitDefEqProofs (disch := omega) only [xsW, xsC, if_true, if_false, ite_true, ite_false, forall_const, ne_eq, beq_self_eq_true, bne_self_eq_false, imp_self, true_implies, false_implies, implies_true, evP, evE, ev, setD, Nat.reduceAdd, Nat.reduceSub, reduceCtorEq, fillA, cutA, Nat.reduceLeDiff, Nat.reduceMul, Int.reduceLT, Int.reduceLE, Int.reduceEq, Int.reduceNe, Int.reduceAdd, Int.reduceSub, Int.reduceMul, Int.reduceNeg, Int.reduceToNat,  hz]
        first
          | done
          | rfl
          | trace_state
      · obtain ⟨hp, hm, hlq, hso⟩ := sol_said (Decidable.not_not.1 k9)
        have qs := impl_IsSolution s14 b1 b2 b3 Z4 (solV_small ll q a) nC (by omega) (by omega)
        have qm := laws_hasInt Z10 hfl a
        rw [decide_eq_true hm] at qm
        have hlq' : ((solV ll q a).1.length : Int) = q.length := by omega
        rcases hso with e3 | ⟨e3, e4⟩
        · rw [e3] at qs
          simp (maxSteps := 2000000) -implicitDefEqProofs (disch := omega) only [xsW, xsC, if_true, if_false, ite_true, ite_false, forall_const, ne_eq, beq_self_eq_true, bne_self_eq_false, imp_self, true_implies, false_implies, implies_true, evP, evE, ev, setD, Nat.reduceAdd, Nat.reduceSub, reduceCtorEq, fillA, cutA, Nat.reduceLeDiff, Nat.reduceMul, Int.reduceLT, Int.reduceLE, Int.reduceEq, Int.reduceNe, Int.reduceAdd, Int.reduceSub, Int.reduceMul, Int.reduceNeg, Int.reduceToNat,  c14]
          refine q_use qs fun n21 hn21 => ?_
          simp (maxSteps := 2000000) -implicitDefEqProofs (disch := omega) only [xsW, xsC, if_true, if_false, ite_true, ite_false, forall_const, ne_eq, beq_self_eq_true, bne_self_eq_false, imp_self, true_implies, false_implies, implies_true, evP, evE, ev, setD, Nat.reduceAdd, Nat.reduceSub, reduceCtorEq, fillA, cutA, Nat.reduceLeDiff, Nat.reduceMul, Int.reduceLT, Int.reduceLE, Int.reduceEq, Int.reduceNe, Int.reduceAdd, Int.reduceSub, Int.reduceMul, Int.reduceNeg, Int.reduceToNat]
          refine q_use (qm n21) fun n22 hn22 => ?_
          simp (maxSteps := 2000000) -implicitDefEqProofs (disch := omega) only [xsW, xsC, if_true, if_false, ite_true, ite_false, forall_const, ne_eq, beq_self_eq_true, bne_self_eq_false, imp_self, true_implies, false_implies, implies_true, evP, evE, ev, setD, Nat.reduceAdd, Nat.reduceSub, reduceCtorEq, fillA, cutA, Nat.reduceLeDiff, Nat.reduceMul, Int.reduceLT, Int.reduceLE, Int.reduceEq, Int.reduceNe, Int.reduceAdd, Int.reduceSub, Int.reduceMul, Int.reduceNeg, Int.reduceToNat,  c14, Z4.ln, s14.Q.ln, hlq']
          first
            | done
            | rfl
            | trace_state
        · rw [e3, e4] at qs
          simp (maxSteps := 2000000) -implicitDefEqProofs (disch := omega) only [xsW, xsC, if_true, if_false, ite_true, ite_false, forall_const, ne_eq, beq_self_eq_true, bne_self_eq_false, imp_self, true_implies, false_implies, implies_true, evP, evE, ev, setD, Nat.reduceAdd, Nat.reduceSub, reduceCtorEq, fillA, cutA, Nat.reduceLeDiff, Nat.reduceMul, Int.reduceLT, Int.reduceLE, Int.reduceEq, Int.reduceNe, Int.reduceAdd, Int.reduceSub, Int.reduceMul, Int.reduceNeg, Int.reduceToNat,  c14]
          refine q_use qs fun n21 hn21 => ?_
          simp (maxSteps := 2000000) -implicitDefEqProofs (disch := omega) only [xsW, xsC, if_true, if_false, ite_true, ite_false, forall_const, ne_eq, beq_self_eq_true, bne_self_eq_false, imp_self, true_implies, false_implies, implies_true, evP, evE, ev, setD, Nat.reduceAdd, Nat.reduceSub, reduceCtorEq, fillA, cutA, Nat.reduceLeDiff, Nat.reduceMul, Int.reduceLT, Int.reduceLE, Int.reduceEq, Int.reduceNe, Int.reduceAdd, Int.reduceSub, Int.reduceMul, Int.reduceNeg, Int.reduceToNat]
          refine q_use (qm n21) fun n22 hn22 => ?_
          simp (maxSteps := 2000000) -implicitDefEqProofs (disch := omega) only [xsW, xsC, if_true, if_false, ite_true, ite_false, forall_const, ne_eq, beq_self_eq_true, bne_self_eq_false, imp_self, true_implies, false_implies, implies_true, evP, evE, ev, setD, Nat.reduceAdd, Nat.reduceSub, reduceCtorEq, fillA, cutA, Nat.reduceLeDiff, Nat.reduceMul, Int.reduceLT, Int.reduceLE, Int.reduceEq, Int.reduceNe, Int.reduceAdd, Int.reduceSub, Int.reduceMul, Int.reduceNeg, Int.reduceToNat,  c14, Z4.ln, s14.Q.ln, hlq']
          first
            | done
            | rfl
            | trace_state
end Go.Proofs.Ytkpibnhddhdooab.L
