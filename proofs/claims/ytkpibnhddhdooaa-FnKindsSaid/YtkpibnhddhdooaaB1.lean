/- Forms of square matrices, and determinants by the first pivot: no program in sight. -/
import Derived.Test.YtkpibnhddhdooaaJ5
import Derived.Test.YtkpibnhddhdooaaProg
set_option linter.unusedSimpArgs false
set_option linter.unusedVariables false
namespace Go.Proofs.Ytkpibnhddhdooaa.L
open Go
theorem sumTo_lin (n : Nat) (a b : Int) (f g : Nat → Int) : (sumTo n fun i => a * f i + b * g i) = a * sumTo n f + b * sumTo n g := by
  rw [sumTo_mul, sumTo_mul, sumTo_add]
def bil (n : Nat) (A : Mx) (x y : Nat → Int) : Int := sumTo n fun i => x i * sumTo n fun k => A i k * y k
abbrev frm (n : Nat) (A : Mx) (x : Nat → Int) : Int := bil n A x x
theorem bil_congr {n : Nat} {A B : Mx} {x y x' y' : Nat → Int} (hA : ∀ i k, i < n → k < n → A i k = B i k) (hx : ∀ i, i < n → x i = x' i) (hy : ∀ i, i < n → y i = y' i) : bil n A x y = bil n B x' y' := by
  unfold bil
  refine sumTo_congr fun i hi => ?_
  rw [hx i hi, sumTo_congr (f := fun k => A i k * y k) (g := fun k => B i k * y' k) fun k hk => by rw [hA i k hi hk, hy k hk]]
theorem bil_r (n : Nat) (A : Mx) (x y z : Nat → Int) (a b : Int) : bil n A x (fun i => a * y i + b * z i) = a * bil n A x y + b * bil n A x z := by
  unfold bil
  rw [← sumTo_lin]
  refine sumTo_congr fun i _ => ?_
  have e : (sumTo n fun k => A i k * (a * y k + b * z k)) = a * (sumTo n fun k => A i k * y k) + b * sumTo n fun k => A i k * z k := by
    rw [← sumTo_lin]; exact sumTo_congr fun k _ => by grind
  rw [e]; grind
theorem bil_l (n : Nat) (A : Mx) (x y z : Nat → Int) (a b : Int) : bil n A (fun i => a * x i + b * y i) z = a * bil n A x z + b * bil n A y z := by
  unfold bil
  rw [← sumTo_lin]
  exact sumTo_congr fun i _ => by grind
theorem bil_T (n : Nat) (A : Mx) (x y : Nat → Int) : bil n A x y = bil n (fun i k => A k i) y x := by
  unfold bil
  have h1 : (sumTo n fun i => x i * sumTo n fun k => A i k * y k) = sumTo n fun i => sumTo n fun k => x i * (A i k * y k) := sumTo_congr fun i _ => by rw [sumTo_mul]
  rw [h1, sumTo_swap]
  refine sumTo_congr fun k _ => ?_
  rw [sumTo_mul]
  exact sumTo_congr fun i _ => by grind
def Symm (n : Nat) (A : Mx) : Prop := ∀ i k, i < n → k < n → A i k = A k i
theorem bil_symm {n : Nat} {A : Mx} (h : Symm n A) (x y : Nat → Int) : bil n A x y = bil n A y x := by
  rw [bil_T]
  exact bil_congr (fun i k hi hk => h k i hk hi) (fun _ _ => rfl) fun _ _ => rfl
theorem frm_two {n : Nat} {A : Mx} (h : Symm n A) (x y : Nat → Int) (a b : Int) : frm n A (fun i => a * x i + b * y i) = a * a * frm n A x + 2 * (a * b) * bil n A x y + b * b * frm n A y := by
  unfold frm
  rw [bil_r, bil_l, bil_l, bil_symm h y x]
  grind
theorem frm_neg (n : Nat) (A : Mx) (x : Nat → Int) : frm n A (fun i => -x i) = frm n A x := by
  have h1 : bil n A (fun i => -x i) (fun i => -x i) = bil n A (fun i => (-1) * x i + 0 * x i) (fun i => (-1) * x i + 0 * x i) := bil_congr (fun _ _ _ _ => rfl) (fun _ _ => by omega) fun _ _ => by omega
  unfold frm
  rw [h1, bil_r, bil_l]; omega
theorem frm_unit {n j : Nat} (A : Mx) (hj : j < n) : frm n A (fun i => if i = j then 1 else 0) = A j j := by
  unfold frm bil
  rw [sumTo_one hj fun i _ hne => by simp [hne]]
  rw [sumTo_one hj fun i _ hne => by simp [hne]]
  simp
theorem frm_smul (n : Nat) (A : Mx) (K : Int) (x : Nat → Int) : bil n (fun i k => K * A i k) x x = K * bil n A x x := by
  unfold bil
  rw [sumTo_mul]
  refine sumTo_congr fun i _ => ?_
  have e : (sumTo n fun k => K * A i k * x k) = K * sumTo n fun k => A i k * x k := by rw [sumTo_mul]; exact sumTo_congr fun k _ => by grind
  rw [e]; grind
theorem frm_add (n : Nat) (A B : Mx) (x : Nat → Int) : bil n (fun i k => A i k + B i k) x x = bil n A x x + bil n B x x := by
  unfold bil
  rw [sumTo_add]
  refine sumTo_congr fun i _ => ?_
  have e : (sumTo n fun k => (A i k + B i k) * x k) = (sumTo n fun k => A i k * x k) + sumTo n fun k => B i k * x k := by rw [sumTo_add]; exact sumTo_congr fun k _ => by grind
  rw [e]; grind
theorem det_smul : ∀ (n : Nat) (A : Mx) (K : Int), det n (fun i k => K * A i k) = K ^ n * det n A
  | 0, A, K => by simp [det]
  | n + 1, A, K => by
    rw [det, det, sumTo_mul]
    refine sumTo_congr fun k _ => ?_
    have e : mi (fun i k => K * A i k) 0 k = fun i j => K * mi A 0 k i j := rfl
    rw [e, det_smul n (mi A 0 k) K]
    grind
def sch (A : Mx) : Mx := fun r c => A 0 0 * A (r + 1) (c + 1) - A (r + 1) 0 * A 0 (c + 1)
theorem chio (n : Nat) (A : Mx) : A 0 0 ^ n * det (n + 1) A = A 0 0 * det n (sch A) := by
  let C : Nat → Mx := fun j r k => if k = 0 then A r 0 else if k ≤ j then A 0 0 * A r k - A r 0 * A 0 k else A r k
  have step : ∀ j, j ≤ n → det (n + 1) (C j) = A 0 0 ^ j * det (n + 1) A := by
    intro j
    induction j with
    | zero =>
      intro _
      rw [Int.pow_zero, Int.one_mul]
      refine det_congr fun r c _ _ => ?_
      simp only [C]
      by_cases e : c = 0
      · subst e; simp
      · rw [if_neg e, if_neg (by omega)]
    | succ j ih =>
      intro hj
      have h1 := det_comb (n := n + 1) (p := j + 1) (by omega) (C j) (fun _ => -(A 0 (j + 1))) (A 0 0) 1 (by omega)
      rw [ih (by omega)] at h1
      rw [Int.pow_succ, show A 0 0 ^ j * A 0 0 * det (n + 1) A = A 0 0 * (A 0 0 ^ j * det (n + 1) A) by grind, ← h1]
      refine det_congr fun r c _ _ => ?_
      by_cases e : c = j + 1
      · subst e
        simp only [C, sumTo]
        simp
        grind
      · simp only [C, if_neg e]
        by_cases e2 : c = 0
        · simp [e2]
        · rw [if_neg e2, if_neg e2]
          by_cases e3 : c ≤ j
          · rw [if_pos (by omega), if_pos e3]
          · rw [if_neg (by omega), if_neg e3]
  rw [← step n (Nat.le_refl _), det, sumTo_one (c := 0) (by omega) fun k hk hne => by
    have : C n 0 k = 0 := by
      simp only [C, if_neg hne, if_pos (show k ≤ n by omega)]; grind
    rw [this]; grind]
  have h0 : C n 0 0 = A 0 0 := by simp [C]
  have h1 : det n (mi (C n) 0 0) = det n (sch A) := det_congr fun r c hr hc => by
    have z : ∀ k, sk 0 k = k + 1 := fun k => by simp [sk]
    simp only [mi, C, z, sch]
    rw [if_neg (by omega), if_pos (by omega)]
  rw [h0, h1]; simp [sg]
def sx (n : Nat) (A : Mx) (y : Nat → Int) : Nat → Int
  | 0 => -(sumTo n fun k => A 0 (k + 1) * y k)
  | i + 1 => A 0 0 * y i
theorem sx_zero (n : Nat) (A : Mx) (y : Nat → Int) : (sumTo (n + 1) fun k => A 0 k * sx n A y k) = 0 := by
  rw [sumTo_head]
  have e : (sumTo n fun i => A 0 (i + 1) * sx n A y (i + 1)) = A 0 0 * sumTo n fun k => A 0 (k + 1) * y k := by rw [sumTo_mul]; exact sumTo_congr fun k _ => by simp only [sx]; grind
  rw [e]; simp only [sx]; grind
theorem sx_succ (n : Nat) (A : Mx) (y : Nat → Int) (i : Nat) : (sumTo (n + 1) fun k => A (i + 1) k * sx n A y k) = sumTo n fun k => sch A i k * y k := by
  rw [sumTo_head]
  have e : (sumTo n fun k => sch A i k * y k) = A 0 0 * (sumTo n fun k => A (i + 1) (k + 1) * y k) + (-(A (i + 1) 0)) * sumTo n fun k => A 0 (k + 1) * y k := by
    rw [← sumTo_lin]; exact sumTo_congr fun k _ => by simp only [sch]; grind
  have e2 : (sumTo n fun k => A (i + 1) (k + 1) * sx n A y (k + 1)) = A 0 0 * sumTo n fun k => A (i + 1) (k + 1) * y k := by rw [sumTo_mul]; exact sumTo_congr fun k _ => by simp only [sx]; grind
  rw [e, e2]; simp only [sx]; grind
theorem sx_frm (n : Nat) (A : Mx) (y : Nat → Int) : frm (n + 1) A (sx n A y) = A 0 0 * frm n (sch A) y := by
  unfold frm bil
  rw [sumTo_head, sx_zero, Int.mul_zero, Int.zero_add, sumTo_mul]
  refine sumTo_congr fun i _ => ?_
  rw [sx_succ]; simp only [sx]; grind
theorem pow_pos' {p : Int} (h : 0 < p) (n : Nat) : 0 < p ^ n := by
  induction n with
  | zero => simp
  | succ n ih => rw [Int.pow_succ]; exact Int.mul_pos ih h
theorem pos_of_mul {a b : Int} (ha : 0 < a) (h : 0 < a * b) : 0 < b := by
  rcases Int.lt_or_le 0 b with h1 | h1
  · exact h1
  · have := Int.mul_nonneg (Int.le_of_lt ha) (show (0 : Int) ≤ -b by omega)
    rw [Int.mul_neg] at this; omega
theorem nn_of_mul {a b : Int} (ha : 0 < a) (h : 0 ≤ a * b) : 0 ≤ b := by
  rcases Int.lt_or_le b 0 with h1 | h1
  · have := Int.mul_pos ha (show (0 : Int) < -b by omega)
    rw [Int.mul_neg] at this; omega
  · exact h1
theorem sq_nn' (x : Int) : 0 ≤ x * x := by
  rcases Int.le_total 0 x with h | h
  · exact Int.mul_nonneg h h
  · exact Int.mul_nonneg_of_nonpos_of_nonpos h h
def PosF (n : Nat) (A : Mx) : Prop := ∀ x : Nat → Int, (∃ i, i < n ∧ x i ≠ 0) → 0 < frm n A x
def NonF (n : Nat) (A : Mx) : Prop := ∀ x : Nat → Int, 0 ≤ frm n A x
theorem pos_det : ∀ (n : Nat) (A : Mx), PosF n A → 0 < det n A
  | 0, A, _ => by simp [det]
  | n + 1, A, h => by
    have hp : 0 < A 0 0 := by
      have := h (fun i => if i = 0 then 1 else 0) ⟨0, by omega, by simp⟩
      rwa [frm_unit A (by omega)] at this
    have h1 : 0 < det n (sch A) := pos_det n (sch A) fun y ⟨i, hi, hy⟩ => by
      have := h (sx n A y) ⟨i + 1, by omega, by simp only [sx]; exact Int.mul_ne_zero (by omega) hy⟩
      rw [sx_frm] at this
      exact pos_of_mul hp this
    have := chio n A
    exact pos_of_mul (pow_pos' hp n) (by rw [this]; exact Int.mul_pos hp h1)
theorem non_det : ∀ (n : Nat) (A : Mx), NonF n A → 0 ≤ det n A
  | 0, A, _ => by simp [det]
  | n + 1, A, h => by
    have hp : 0 ≤ A 0 0 := by
      have := h fun i => if i = 0 then 1 else 0
      rwa [frm_unit A (by omega)] at this
    have key : ∀ K : Int, 0 < K → 0 ≤ K * det (n + 1) A + det n (mi A 0 0) := by
      intro K hK
      let B : Mx := fun i k => K * A i k + (if i = 0 ∧ k = 0 then 1 else 0)
      have hB0 : 0 < B 0 0 := by
        have := Int.mul_nonneg (Int.le_of_lt hK) hp
        simp only [B]; simp; omega
      have hf : NonF (n + 1) B := fun x => by
        have e : bil (n + 1) B x x = bil (n + 1) (fun i k => K * A i k) x x + bil (n + 1) (fun i k => if i = 0 ∧ k = 0 then 1 else 0) x x := frm_add _ _ _ _
        have e2 : bil (n + 1) (fun i k => if i = 0 ∧ k = 0 then 1 else 0) x x = x 0 * x 0 := by
          unfold bil
          rw [sumTo_one (c := 0) (by omega) fun i _ hne => by rw [sumTo_zero' fun k _ => by simp [hne]]; omega]
          rw [sumTo_one (c := 0) (by omega) fun i _ hne => by simp [hne]]
          simp
        unfold frm
        rw [e, e2, frm_smul]
        have h1 := Int.mul_nonneg (Int.le_of_lt hK) (h x)
        have h2 : 0 ≤ x 0 * x 0 := sq_nn' (x 0)
        unfold frm at h1
        omega
      have h1 : 0 ≤ det n (sch B) := non_det n (sch B) fun y => by
        have := hf (sx n B y)
        rw [sx_frm] at this
        exact nn_of_mul hB0 this
      have h2 : 0 ≤ det (n + 1) B := nn_of_mul (pow_pos' hB0 n) (by rw [chio n B]; exact Int.mul_nonneg (Int.le_of_lt hB0) h1)
      have h3 : det (n + 1) B = K ^ n * (K * det (n + 1) A + det n (mi A 0 0)) := by
        have e : ∀ k, det n (mi B 0 k) = K ^ n * det n (mi A 0 k) := fun k => by
          rw [← det_smul]
          refine det_congr fun r c hr hc => ?_
          simp only [mi, B]
          rw [if_neg (by simp [sk])]; omega
        rw [det, det]
        have e2 : (sumTo (n + 1) fun k => sg k * B 0 k * det n (mi B 0 k)) = sumTo (n + 1) fun k => K ^ n * K * (sg k * A 0 k * det n (mi A 0 k)) + K ^ n * (if k = 0 then det n (mi A 0 0) else 0) := sumTo_congr fun k hk => by
          rw [e k]
          simp only [B]
          by_cases e0 : k = 0
          · subst e0; simp [sg]; grind
          · simp [e0]; grind
        rw [e2, sumTo_lin, sumTo_one (c := 0) (f := fun k => if k = 0 then det n (mi A 0 0) else 0) (by omega) fun i _ hne => by simp [hne]]
        simp; grind
      rw [h3] at h2
      exact nn_of_mul (pow_pos' hK n) h2
    rcases Int.lt_or_le (det (n + 1) A) 0 with hd | hd
    · have := key ((det n (mi A 0 0)).natAbs + 1) (by omega)
      have h4 : ((det n (mi A 0 0)).natAbs + 1 : Int) * det (n + 1) A ≤ ((det n (mi A 0 0)).natAbs + 1 : Int) * (-1) := Int.mul_le_mul_of_nonneg_left (by omega) (by omega)
      omega
    · exact hd
structure Sel (m n : Nat) (g : Nat → Nat) : Prop where
  lt : ∀ a, a < m → g a < n
  up : ∀ a b, a < b → b < m → g a < g b
def sub (A : Mx) (g : Nat → Nat) : Mx := fun a b => A (g a) (g b)
def g1 (g : Nat → Nat) : Nat → Nat
  | 0 => 0
  | a + 1 => g a + 1
theorem Sel.one {m n : Nat} {g : Nat → Nat} (h : Sel m n g) : Sel (m + 1) (n + 1) (g1 g) := by
  refine ⟨fun a ha => ?_, fun a b hab hb => ?_⟩
  · cases a with
    | zero => simp [g1]
    | succ a => have := h.lt a (by omega); simp only [g1]; omega
  · cases b with
    | zero => omega
    | succ b => cases a with
      | zero => simp [g1]
      | succ a => have := h.up a b (by omega) (by omega); simp only [g1]; omega
theorem Sel.succ {m n : Nat} {g : Nat → Nat} (h : Sel m n g) : Sel m (n + 1) fun a => g a + 1 :=
  ⟨fun a ha => by have := h.lt a ha; omega, fun a b hab hb => by have := h.up a b hab hb; omega⟩
theorem Sel.sk {m n : Nat} {g : Nat → Nat} (h : Sel (m + 1) n g) (i : Nat) : Sel m n fun a => g (sk i a) :=
  ⟨fun a ha => h.lt _ (sk_lt ha), fun a b hab hb => h.up _ _ (by unfold L.sk; split <;> split <;> omega) (sk_lt hb)⟩
theorem Sel.self (n : Nat) : Sel n n fun a => a := ⟨fun _ h => h, fun _ _ h _ => h⟩
theorem Sel.zero (n : Nat) : Sel 1 (n + 1) fun _ => 0 := ⟨fun _ _ => by omega, fun _ _ _ _ => by omega⟩
theorem Symm.sub {m n : Nat} {A : Mx} {g : Nat → Nat} (h : Symm n A) (s : Sel m n g) : Symm m (sub A g) := fun i k hi hk => h _ _ (s.lt i hi) (s.lt k hk)
theorem Symm.sch {n : Nat} {A : Mx} (h : Symm (n + 1) A) : Symm n (sch A) := fun i k hi hk => by
  simp only [L.sch]
  rw [h (i + 1) (k + 1) (by omega) (by omega), h 0 (k + 1) (by omega) (by omega), h (i + 1) 0 (by omega) (by omega)]
  grind
theorem sch_sub (A : Mx) (g : Nat → Nat) : sch (sub A (g1 g)) = sub (sch A) g := rfl
def PM (n : Nat) (A : Mx) : Prop := ∀ m g, Sel m n g → 0 < det m (sub A g)
def PM0 (n : Nat) (A : Mx) : Prop := ∀ m g, Sel m n g → 0 ≤ det m (sub A g)
theorem det_one (A : Mx) : det 1 A = A 0 0 := by simp [det, sumTo, sg]
theorem det_two (A : Mx) : det 2 A = A 0 0 * A 1 1 - A 0 1 * A 1 0 := by simp [det, sumTo, sg, mi, sk]; grind
theorem PM.sch {n : Nat} {A : Mx} (h : PM (n + 1) A) : PM n (sch A) := fun m g s => by
  have hp := h 1 _ (Sel.zero n)
  rw [det_one] at hp
  have h1 := h (m + 1) _ s.one
  have h2 := chio m (sub A (g1 g))
  rw [sch_sub] at h2
  have hp' : 0 < sub A (g1 g) 0 0 := hp
  exact pos_of_mul hp' (by rw [← h2]; exact Int.mul_pos (pow_pos' hp' m) h1)
theorem PM0.sch {n : Nat} {A : Mx} (h : PM0 (n + 1) A) (hp : 0 < A 0 0) : PM0 n (sch A) := fun m g s => by
  have h1 := h (m + 1) _ s.one
  have h2 := chio m (sub A (g1 g))
  rw [sch_sub] at h2
  have hp' : 0 < sub A (g1 g) 0 0 := hp
  exact nn_of_mul hp' (by rw [← h2]; exact Int.mul_nonneg (Int.le_of_lt (pow_pos' hp' m)) h1)
theorem PM0.tail {n : Nat} {A : Mx} (h : PM0 (n + 1) A) : PM0 n fun i k => A (i + 1) (k + 1) := fun m _ s => h m _ s.succ
theorem sch_sq {n : Nat} {S : Mx} (h : Symm (n + 1) S) (x : Nat → Int) :
    S 0 0 * frm (n + 1) S x = (S 0 0 * x 0 + sumTo n fun k => S 0 (k + 1) * x (k + 1)) * (S 0 0 * x 0 + sumTo n fun k => S 0 (k + 1) * x (k + 1)) + frm n (sch S) fun k => x (k + 1) := by
  have e1 : frm (n + 1) S x = x 0 * (S 0 0 * x 0 + sumTo n fun k => S 0 (k + 1) * x (k + 1)) + (x 0 * (sumTo n fun k => S 0 (k + 1) * x (k + 1)) + frm n (fun i k => S (i + 1) (k + 1)) fun k => x (k + 1)) := by
    unfold frm bil
    rw [sumTo_head, sumTo_head]
    congr 1
    rw [sumTo_mul, sumTo_add]
    refine sumTo_congr fun i hi => ?_
    rw [sumTo_head, h (i + 1) 0 (by omega) (by omega)]; grind
  have e2 : (frm n (sch S) fun k => x (k + 1)) = S 0 0 * (frm n (fun i k => S (i + 1) (k + 1)) fun k => x (k + 1)) + (-(sumTo n fun k => S 0 (k + 1) * x (k + 1))) * sumTo n fun k => S 0 (k + 1) * x (k + 1) := by
    unfold frm bil
    rw [← sumTo_lin]
    refine sumTo_congr fun i hi => ?_
    have e : (sumTo n fun k => sch S i k * x (k + 1)) = S 0 0 * (sumTo n fun k => S (i + 1) (k + 1) * x (k + 1)) + (-(S (i + 1) 0)) * sumTo n fun k => S 0 (k + 1) * x (k + 1) := by
      rw [← sumTo_lin]; exact sumTo_congr fun k _ => by simp only [sch]; grind
    rw [e, h (i + 1) 0 (by omega) (by omega)]; grind
  rw [e1, e2]; grind
theorem sq_pos {x : Int} (h : x ≠ 0) : 0 < x * x := by
  have h1 := sq_nn' x
  have h2 := Int.mul_ne_zero h h
  omega
theorem pm_pos : ∀ (n : Nat) (S : Mx), Symm n S → PM n S → PosF n S
  | 0, S, _, _ => fun x ⟨i, hi, _⟩ => by omega
  | n + 1, S, hs, h => fun x hx => by
    have hp := h 1 _ (Sel.zero n)
    rw [det_one] at hp
    have hp : 0 < S 0 0 := hp
    have h1 := pm_pos n (sch S) hs.sch h.sch
    refine pos_of_mul hp ?_
    rw [sch_sq hs]
    by_cases hy : ∃ i, i < n ∧ x (i + 1) ≠ 0
    · have h2 := h1 (fun k => x (k + 1)) hy
      have h3 := sq_nn' (S 0 0 * x 0 + sumTo n fun k => S 0 (k + 1) * x (k + 1))
      omega
    · have hz : ∀ i, i < n → x (i + 1) = 0 := fun i hi => Classical.byContradiction fun e => hy ⟨i, hi, e⟩
      have h0 : x 0 ≠ 0 := by
        obtain ⟨i, hi, hne⟩ := hx
        cases i with
        | zero => exact hne
        | succ i => exact absurd (hz i (by omega)) hne
      have e1 : (sumTo n fun k => S 0 (k + 1) * x (k + 1)) = 0 := sumTo_zero' fun k hk => by rw [hz k hk, Int.mul_zero]
      have e2 : (frm n (sch S) fun k => x (k + 1)) = 0 := by unfold frm bil; exact sumTo_zero' fun k hk => by simp [hz k hk]
      rw [e1, e2]
      have := sq_pos (Int.mul_ne_zero (show S 0 0 ≠ 0 by omega) h0)
      rw [Int.add_zero, Int.add_zero]; exact this
theorem pm_non : ∀ (n : Nat) (S : Mx), Symm n S → PM0 n S → NonF n S
  | 0, S, _, _ => fun x => by simp [bil, sumTo]
  | n + 1, S, hs, h => fun x => by
    have hp := h 1 _ (Sel.zero n)
    rw [det_one] at hp
    have hp : 0 ≤ S 0 0 := hp
    rcases Int.lt_or_eq_of_le hp with hp | hp
    · have h1 := pm_non n (sch S) hs.sch (h.sch hp)
      refine nn_of_mul hp ?_
      rw [sch_sq hs]
      have h2 := h1 fun k => x (k + 1)
      have h3 := sq_nn' (S 0 0 * x 0 + sumTo n fun k => S 0 (k + 1) * x (k + 1))
      omega
    · have hz : ∀ i, i < n → S 0 (i + 1) = 0 := fun i hi => by
        have h2 := h 2 (fun a => if a = 0 then 0 else i + 1) ⟨fun a _ => by split <;> omega, fun a b hab hb => by rw [if_pos (by omega), if_neg (by omega)]; omega⟩
        rw [det_two] at h2
        simp [sub] at h2
        rw [← hp, hs (i + 1) 0 (by omega) (by omega)] at h2
        have h3 := sq_nn' (S 0 (i + 1))
        rcases Int.mul_eq_zero.1 (show S 0 (i + 1) * S 0 (i + 1) = 0 by omega) with h4 | h4 <;> exact h4
      have h1 := pm_non n (fun i k => S (i + 1) (k + 1)) (fun i k hi hk => hs _ _ (by omega) (by omega)) h.tail fun k => x (k + 1)
      have e : frm (n + 1) S x = frm n (fun i k => S (i + 1) (k + 1)) fun k => x (k + 1) := by
        unfold frm bil
        rw [sumTo_head]
        have e1 : (sumTo (n + 1) fun k => S 0 k * x k) = 0 := by
          rw [sumTo_head, ← hp, sumTo_zero' fun k hk => by rw [hz k hk, Int.zero_mul]]; omega
        rw [e1, Int.mul_zero, Int.zero_add]
        refine sumTo_congr fun i hi => ?_
        rw [sumTo_head, hs (i + 1) 0 (by omega) (by omega), hz i hi]; simp
      rw [e]; exact h1
theorem sumTo_sk {n j : Nat} (f : Nat → Int) (hj : j ≤ n) : sumTo (n + 1) f = f j + sumTo n fun k => f (sk j k) := by
  induction n with
  | zero =>
    have : j = 0 := by omega
    subst this; simp [sumTo]
  | succ n ih =>
    by_cases e : j = n + 1
    · subst e
      have e1 : sumTo (n + 1) f = sumTo (n + 1) fun k => f (sk (n + 1) k) := sumTo_congr fun k hk => by simp only [sk]; rw [if_pos hk]
      rw [sumTo_succ (n + 1), e1]; omega
    · rw [sumTo_succ (n + 1), ih (by omega), sumTo_succ n, show sk j n = n + 1 by unfold sk; rw [if_neg (by omega)]]; omega
theorem frm_hyp {n j : Nat} (T : Mx) (y : Nat → Int) (hj : j ≤ n) (h0 : y j = 0) : frm (n + 1) T y = frm n (mi T j j) fun k => y (sk j k) := by
  unfold frm bil
  rw [sumTo_sk _ hj, h0, Int.zero_mul, Int.zero_add]
  refine sumTo_congr fun i _ => ?_
  rw [sumTo_sk (fun k => T (sk j i) k * y k) hj, h0, Int.mul_zero, Int.zero_add]
  rfl
theorem sk_surj {n i j : Nat} (hi : i < n + 1) (h : i ≠ j) (hj : j < n + 1) : ∃ k, k < n ∧ sk j k = i := by
  by_cases e : i < j
  · exact ⟨i, by omega, by simp [sk, e]⟩
  · refine ⟨i - 1, by omega, ?_⟩
    unfold sk; rw [if_neg (by omega)]; omega
def NN (n : Nat) (y : Nat → Int) : Prop := ∀ i, i < n → 0 ≤ y i
theorem hit0 {u y : Nat → Int} : ∀ n, (∀ i, i < n → 0 < u i) → (∃ i, i < n ∧ y i < 0) → ∃ i, i < n ∧ y i < 0 ∧ ∀ l, l < n → 0 ≤ (-y i) * u l + u i * y l := by
  intro n
  induction n with
  | zero => rintro _ ⟨i, h, _⟩; omega
  | succ n ih =>
    intro hu hy
    have hun := hu n (by omega)
    by_cases hb : ∃ i, i < n ∧ y i < 0
    · obtain ⟨i, hi, hyi, hl⟩ := ih (fun i hi => hu i (by omega)) hb
      have hui := hu i (by omega)
      by_cases hc : 0 ≤ (-y i) * u n + u i * y n
      · refine ⟨i, by omega, hyi, fun l hl2 => ?_⟩
        by_cases e : l = n
        · subst e; exact hc
        · exact hl l (by omega)
      · have hyn : y n < 0 := by
          rcases Int.lt_or_le (y n) 0 with h | h
          · exact h
          · have h1 := Int.mul_nonneg (show (0 : Int) ≤ -y i by omega) (Int.le_of_lt hun)
            have h2 := Int.mul_nonneg (Int.le_of_lt hui) h
            omega
        refine ⟨n, by omega, hyn, fun l hl2 => ?_⟩
        by_cases e : l = n
        · subst e; rw [Int.neg_mul, Int.mul_comm]; omega
        · have h1 := hl l (by omega)
          have hul := hu l (by omega)
          refine nn_of_mul hui ?_
          have h2 : 0 ≤ u n * ((-y i) * u l + u i * y l) := Int.mul_nonneg (Int.le_of_lt hun) h1
          have h3 : u l * ((-y i) * u n + u i * y n) ≤ 0 := by
            have := Int.mul_nonneg (Int.le_of_lt hul) (show (0 : Int) ≤ -((-y i) * u n + u i * y n) by omega)
            rw [Int.mul_neg] at this; omega
          have h4 : u i * (-y n * u l + u n * y l) = u n * ((-y i) * u l + u i * y l) - u l * ((-y i) * u n + u i * y n) := by grind
          rw [h4]; omega
    · obtain ⟨i, hi, hyi⟩ := hy
      have e : i = n := Classical.byContradiction fun e => hb ⟨i, by omega, hyi⟩
      subst e
      refine ⟨i, by omega, hyi, fun l hl2 => ?_⟩
      by_cases e : l = i
      · subst e; rw [Int.neg_mul, Int.mul_comm]; omega
      · have h1 : 0 ≤ y l := by
          rcases Int.lt_or_le (y l) 0 with h | h
          · exact absurd ⟨l, by omega, h⟩ hb
          · exact h
        have h2 := Int.mul_nonneg (show (0 : Int) ≤ -y i by omega) (Int.le_of_lt (hu l (by omega)))
        have h3 := Int.mul_nonneg (Int.le_of_lt hun) h1
        omega
theorem hit {n : Nat} {u y : Nat → Int} (hu : ∀ i, i < n → 0 < u i) (hy : ∃ i, i < n ∧ y i < 0) : ∃ a b _i : Int, ∃ k : Nat, 0 < a ∧ 0 < b ∧ k < n ∧ a * u k + b * y k = 0 ∧ NN n fun l => a * u l + b * y l := by
  obtain ⟨i, h1, h2, h3⟩ := hit0 n hu hy
  exact ⟨-y i, u i, 0, i, by omega, hu i h1, h1, by rw [Int.neg_mul, Int.mul_comm]; omega, h3⟩
def SProp (n : Nat) (T : Mx) : Prop := ∀ y, NN n y → (∃ i, i < n ∧ y i ≠ 0) → (∃ i, i < n ∧ y i = 0) → 0 < frm n T y
theorem mixed {n : Nat} {T : Mx} (hs : Symm n T) (hp : SProp n T) {u : Nat → Int} (hu : ∀ i, i < n → 0 < u i) (hq : frm n T u ≤ 0) {y : Nat → Int} (h1 : ∃ i, i < n ∧ y i < 0) (h2 : ∃ i, i < n ∧ 0 < y i) : 0 < frm n T y := by
  obtain ⟨a, b, _, k, ha, hb, hk, hz, hn⟩ := hit hu h1
  have f1 : 0 < frm n T fun l => a * u l + b * y l := hp _ hn (by
    obtain ⟨l, hl, hyl⟩ := h2
    have := Int.mul_pos ha (hu l hl)
    have := Int.mul_pos hb hyl
    exact ⟨l, hl, by omega⟩) ⟨k, hk, hz⟩
  obtain ⟨c, d, _, k', hc, hd, hk', hz', hn'⟩ := hit (y := fun l => -y l) hu (by obtain ⟨l, hl, hyl⟩ := h2; exact ⟨l, hl, by omega⟩)
  have f2 : 0 < frm n T fun l => c * u l + d * -y l := hp _ hn' (by
    obtain ⟨l, hl, hyl⟩ := h1
    have := Int.mul_pos hc (hu l hl)
    have := Int.mul_pos hd (show 0 < -y l by omega)
    exact ⟨l, hl, by omega⟩) ⟨k', hk', hz'⟩
  rw [frm_two hs] at f1
  have e : frm n T (fun l => c * u l + d * -y l) = frm n T fun l => c * u l + (-d) * y l := bil_congr (fun _ _ _ _ => rfl) (fun l _ => by grind) fun l _ => by grind
  rw [e, frm_two hs] at f2
  refine Classical.byContradiction fun hf => ?_
  have hf : frm n T y ≤ 0 := by omega
  have g1 : a * a * frm n T u ≤ 0 := by
    have := Int.mul_nonneg (Int.mul_nonneg (Int.le_of_lt ha) (Int.le_of_lt ha)) (show (0 : Int) ≤ -frm n T u by omega)
    rw [Int.mul_neg] at this; omega
  have g2 : c * c * frm n T u ≤ 0 := by
    have := Int.mul_nonneg (Int.mul_nonneg (Int.le_of_lt hc) (Int.le_of_lt hc)) (show (0 : Int) ≤ -frm n T u by omega)
    rw [Int.mul_neg] at this; omega
  have g3 : b * b * frm n T y ≤ 0 := by
    have := Int.mul_nonneg (Int.mul_nonneg (Int.le_of_lt hb) (Int.le_of_lt hb)) (show (0 : Int) ≤ -frm n T y by omega)
    rw [Int.mul_neg] at this; omega
  have g4 : -d * -d * frm n T y ≤ 0 := by
    have := Int.mul_nonneg (Int.mul_nonneg (Int.le_of_lt hd) (Int.le_of_lt hd)) (show (0 : Int) ≤ -frm n T y by omega)
    rw [Int.mul_neg] at this
    have e : -d * -d * frm n T y = d * d * frm n T y := by grind
    omega
  have g5 : 0 < 2 * (a * b) * bil n T u y := by omega
  have g6 : 0 < 2 * (c * -d) * bil n T u y := by omega
  have g7 : 0 < bil n T u y := pos_of_mul (a := 2 * (a * b)) (by have := Int.mul_pos ha hb; omega) g5
  have g8 : 0 < 2 * (c * d) * bil n T u y := by have := Int.mul_pos (show 0 < 2 * (c * d) by have := Int.mul_pos hc hd; omega) g7; omega
  have g9 : 2 * (c * -d) * bil n T u y = -(2 * (c * d) * bil n T u y) := by grind
  omega
theorem hypPos {n : Nat} {T : Mx} (hs : Symm n T) (hp : SProp n T) {u : Nat → Int} (hu : ∀ i, i < n → 0 < u i) (hq : frm n T u ≤ 0) {y : Nat → Int} {j : Nat} (hj : j < n) (h0 : y j = 0) (h1 : ∃ i, i < n ∧ y i ≠ 0) : 0 < frm n T y := by
  by_cases a : ∃ i, i < n ∧ y i < 0
  · by_cases b : ∃ i, i < n ∧ 0 < y i
    · exact mixed hs hp hu hq a b
    · rw [← frm_neg]
      refine hp _ (fun i hi => ?_) ?_ ⟨j, hj, by omega⟩
      · have : ¬ 0 < y i := fun h => b ⟨i, hi, h⟩
        omega
      · obtain ⟨i, hi, h⟩ := h1; exact ⟨i, hi, by omega⟩
  · refine hp _ (fun i hi => ?_) h1 ⟨j, hj, h0⟩
    have : ¬ y i < 0 := fun h => a ⟨i, hi, h⟩
    omega
def adjc (n : Nat) (T : Mx) (j c : Nat) : Int := sg (j + c) * det n (mi T j c)
theorem adj_mul {n j r : Nat} (T : Mx) (hr : r ≤ n) (hj : j ≤ n) : (sumTo (n + 1) fun c => T r c * adjc n T j c) = if j = r then det (n + 1) T else 0 := by
  rw [← cofactor_row T hr hj]
  exact sumTo_congr fun c _ => by unfold adjc; grind
theorem adj_bil {n j : Nat} (T : Mx) (hj : j ≤ n) (x : Nat → Int) : bil (n + 1) T x (adjc n T j) = x j * det (n + 1) T := by
  unfold bil
  rw [sumTo_one (c := j) (by omega) fun i hi hne => by rw [adj_mul T (by omega) hj, if_neg (by omega)]; omega]
  rw [adj_mul T (by omega) hj, if_pos rfl]
theorem adj_diag {n j : Nat} (T : Mx) : adjc n T j j = det n (mi T j j) := by
  unfold adjc; rw [sg_add, sg_sq]; omega
theorem core {n : Nat} {T : Mx} (hs : Symm (n + 1) T) (hp : SProp (n + 1) T) {u : Nat → Int} (hu : ∀ i, i < n + 1 → 0 < u i) (hq : frm (n + 1) T u ≤ 0) :
    det (n + 1) T ≤ 0 ∧ ∀ i c, i < n + 1 → c < n + 1 → 0 < adjc n T i c := by
  have hyp : ∀ j, j < n + 1 → ∀ y : Nat → Int, y j = 0 → (∃ i, i < n + 1 ∧ y i ≠ 0) → 0 < frm (n + 1) T y := fun j hj y h0 h1 => hypPos hs hp hu hq hj h0 h1
  have vj : ∀ j, j < n + 1 → 0 < adjc n T j j := fun j hj => by
    rw [adj_diag]
    refine pos_det _ _ fun x ⟨i, hi, hne⟩ => ?_
    have e := frm_hyp T (fun l => if l < j then x l else if l = j then 0 else x (l - 1)) (show j ≤ n by omega) (by simp)
    have e2 : frm n (mi T j j) (fun k => if sk j k < j then x (sk j k) else if sk j k = j then 0 else x (sk j k - 1)) = frm n (mi T j j) x := by
      have : ∀ k, (if sk j k < j then x (sk j k) else if sk j k = j then 0 else x (sk j k - 1)) = x k := fun k => by
        unfold sk
        by_cases h : k < j
        · simp [h]
        · simp [h]; rw [if_neg (by omega), if_neg (by omega)]
      exact bil_congr (fun _ _ _ _ => rfl) (fun k _ => this k) fun k _ => this k
    rw [e2] at e
    rw [← e]
    refine hyp j hj _ (by simp) ⟨sk j i, sk_lt hi, ?_⟩
    unfold sk
    by_cases h : i < j
    · simp [h, hne]
    · simp [h]; rw [if_neg (by omega), if_neg (by omega)]; exact hne
  have hd : det (n + 1) T ≤ 0 := by
    refine Classical.byContradiction fun hc => ?_
    have hc : 0 < det (n + 1) T := by omega
    have h0 := vj 0 (by omega)
    have hu0 := hu 0 (by omega)
    have hw : 0 ≤ frm (n + 1) T fun i => adjc n T 0 0 * u i + (-u 0) * adjc n T 0 i := by
      by_cases hz : ∃ i, i < n + 1 ∧ adjc n T 0 0 * u i + (-u 0) * adjc n T 0 i ≠ 0
      · exact Int.le_of_lt (hyp 0 (by omega) _ (by grind) hz)
      · have : ∀ i, i < n + 1 → adjc n T 0 0 * u i + (-u 0) * adjc n T 0 i = 0 := fun i hi => Classical.byContradiction fun e => hz ⟨i, hi, e⟩
        unfold frm bil
        rw [sumTo_zero' fun i hi => by simp only [this i hi, Int.zero_mul]]
        omega
    rw [frm_two hs, adj_bil T (by omega)] at hw
    have e1 : frm (n + 1) T (adjc n T 0) = adjc n T 0 0 * det (n + 1) T := adj_bil T (by omega) _
    rw [e1] at hw
    have g1 : adjc n T 0 0 * adjc n T 0 0 * frm (n + 1) T u ≤ 0 := by
      have := Int.mul_nonneg (Int.mul_nonneg (Int.le_of_lt h0) (Int.le_of_lt h0)) (show (0 : Int) ≤ -frm (n + 1) T u by omega)
      rw [Int.mul_neg] at this; omega
    have g2 : 0 < adjc n T 0 0 * (u 0 * (u 0 * det (n + 1) T)) := Int.mul_pos h0 (Int.mul_pos hu0 (Int.mul_pos hu0 hc))
    have g3 : 2 * (adjc n T 0 0 * -u 0) * (u 0 * det (n + 1) T) + -u 0 * -u 0 * (adjc n T 0 0 * det (n + 1) T) = -(adjc n T 0 0 * (u 0 * (u 0 * det (n + 1) T))) := by grind
    omega
  refine ⟨hd, fun j l hj hl => ?_⟩
  have hv := vj j hj
  have e1 : frm (n + 1) T (adjc n T j) = adjc n T j j * det (n + 1) T := adj_bil T (by omega) _
  have hle : frm (n + 1) T (adjc n T j) ≤ 0 := by
    rw [e1]
    have := Int.mul_nonneg (Int.le_of_lt hv) (show (0 : Int) ≤ -det (n + 1) T by omega)
    rw [Int.mul_neg] at this; omega
  rcases Int.lt_or_le 0 (adjc n T j l) with h | h
  · exact h
  · exfalso
    rcases Int.lt_or_eq_of_le h with h | h
    · have := mixed hs hp hu hq ⟨l, hl, h⟩ ⟨j, hj, hv⟩
      omega
    · have := hyp l hl _ h ⟨j, hj, by omega⟩
      omega
theorem sum_lead (m : Nat) (F : Nat → Int → Int) : ∀ N, (∀ c, c < N → ∃ C : Int, 0 ≤ C ∧ ∀ k : Int, 1 ≤ k → -(C * k ^ m) ≤ F c k ∧ F c k ≤ C * k ^ m) → ∃ C : Int, 0 ≤ C ∧ ∀ k : Int, 1 ≤ k → -(C * k ^ m) ≤ (sumTo N fun c => F c k) ∧ (sumTo N fun c => F c k) ≤ C * k ^ m := by
  intro N
  induction N with
  | zero => intro _; exact ⟨0, by omega, fun k _ => by simp [sumTo]⟩
  | succ N ih =>
    intro h
    obtain ⟨C, h1, h2⟩ := ih fun c hc => h c (by omega)
    obtain ⟨D, h3, h4⟩ := h N (by omega)
    refine ⟨C + D, by omega, fun k hk => ?_⟩
    have a := h2 k hk
    have b := h4 k hk
    rw [sumTo_succ, Int.add_mul]; omega
theorem abs_mul_le {a b B : Int} (hb : -B ≤ b ∧ b ≤ B) : -((a.natAbs : Int) * B) ≤ a * b ∧ a * b ≤ (a.natAbs : Int) * B := mul_bound (by omega) hb
theorem pow_nn {k : Int} (h : 1 ≤ k) (n : Nat) : 0 ≤ k ^ n := Int.le_of_lt (pow_pos' (by omega) n)
theorem lead : ∀ (n : Nat) (A B : Mx), ∃ C : Int, 0 ≤ C ∧ ∀ k : Int, 1 ≤ k → -(C * k ^ n) ≤ k * (det n (fun i j => k * A i j + B i j) - k ^ n * det n A) ∧ k * (det n (fun i j => k * A i j + B i j) - k ^ n * det n A) ≤ C * k ^ n
  | 0, A, B => ⟨0, by omega, fun k _ => by simp [det]⟩
  | n + 1, A, B => by
    have key := sum_lead (n + 1) (fun c k => k * (sg c * (k * A 0 c + B 0 c) * det n (fun i j => k * mi A 0 c i j + mi B 0 c i j) - k ^ (n + 1) * (sg c * A 0 c * det n (mi A 0 c)))) (n + 1) fun c hc => by
      obtain ⟨C, h1, h2⟩ := lead n (mi A 0 c) (mi B 0 c)
      refine ⟨(A 0 c).natAbs * C + (B 0 c).natAbs * (det n (mi A 0 c)).natAbs + (B 0 c).natAbs * C, by
        have := Int.mul_nonneg (show (0 : Int) ≤ (A 0 c).natAbs by omega) h1
        have := Int.mul_nonneg (show (0 : Int) ≤ (B 0 c).natAbs by omega) h1
        have := Int.mul_nonneg (show (0 : Int) ≤ (B 0 c).natAbs by omega) (show (0 : Int) ≤ (det n (mi A 0 c)).natAbs by omega)
        omega, fun k hk => ?_⟩
      have h3 := h2 k hk
      have hk0 := pow_nn hk n
      obtain ⟨e, he⟩ : ∃ e, e = det n (fun i j => k * mi A 0 c i j + mi B 0 c i j) - k ^ n * det n (mi A 0 c) := ⟨_, rfl⟩
      rw [← he] at h3
      have hD : det n (fun i j => k * mi A 0 c i j + mi B 0 c i j) = k ^ n * det n (mi A 0 c) + e := by omega
      simp only [hD]
      have t1 := abs_mul_le (a := A 0 c) h3
      have t2 := abs_mul_le (a := B 0 c) h3
      have t3 := abs_mul_le (a := B 0 c) (b := det n (mi A 0 c)) (B := (det n (mi A 0 c)).natAbs) (by omega)
      have m1 : k * ((A 0 c).natAbs * (C * k ^ n)) = ((A 0 c).natAbs * C) * k ^ (n + 1) := by rw [Int.pow_succ]; grind
      have m2 : (B 0 c).natAbs * (C * k ^ n) ≤ ((B 0 c).natAbs * C) * k ^ (n + 1) := by
        have hx : 0 ≤ (B 0 c).natAbs * C * k ^ n := Int.mul_nonneg (Int.mul_nonneg (by omega) h1) hk0
        have : ((B 0 c).natAbs * C) * k ^ (n + 1) = k * ((B 0 c).natAbs * C * k ^ n) := by rw [Int.pow_succ]; grind
        rw [this, ← Int.mul_assoc]
        have := Int.mul_le_mul_of_nonneg_right hk hx
        omega
      have p1 : -(((A 0 c).natAbs * C) * k ^ (n + 1)) ≤ k * (A 0 c * (k * e)) ∧ k * (A 0 c * (k * e)) ≤ ((A 0 c).natAbs * C) * k ^ (n + 1) := by
        rw [← m1]
        have q1 := Int.mul_le_mul_of_nonneg_left t1.1 (show 0 ≤ k by omega)
        have q2 := Int.mul_le_mul_of_nonneg_left t1.2 (show 0 ≤ k by omega)
        rw [Int.mul_neg] at q1
        exact ⟨q1, q2⟩
      have p3 : -(((B 0 c).natAbs * (det n (mi A 0 c)).natAbs) * k ^ (n + 1)) ≤ k ^ (n + 1) * (B 0 c * det n (mi A 0 c)) ∧ k ^ (n + 1) * (B 0 c * det n (mi A 0 c)) ≤ ((B 0 c).natAbs * (det n (mi A 0 c)).natAbs) * k ^ (n + 1) := by
        have q1 := Int.mul_le_mul_of_nonneg_left t3.1 (pow_nn hk (n + 1))
        have q2 := Int.mul_le_mul_of_nonneg_left t3.2 (pow_nn hk (n + 1))
        rw [Int.mul_neg] at q1
        rw [Int.mul_comm ((B 0 c).natAbs * ((det n (mi A 0 c)).natAbs : Int))]
        exact ⟨q1, q2⟩
      have tot : k * (sg c * (k * A 0 c + B 0 c) * (k ^ n * det n (mi A 0 c) + e) - k ^ (n + 1) * (sg c * A 0 c * det n (mi A 0 c))) = sg c * (k * (A 0 c * (k * e)) + k ^ (n + 1) * (B 0 c * det n (mi A 0 c)) + B 0 c * (k * e)) := by rw [Int.pow_succ]; grind
      rw [tot, Int.add_mul, Int.add_mul]
      rw [sg_even]
      split <;> omega
    obtain ⟨C, h1, h2⟩ := key
    refine ⟨C, h1, fun k hk => ?_⟩
    have e : k * (det (n + 1) (fun i j => k * A i j + B i j) - k ^ (n + 1) * det (n + 1) A) = sumTo (n + 1) fun c => k * (sg c * (k * A 0 c + B 0 c) * det n (fun i j => k * mi A 0 c i j + mi B 0 c i j) - k ^ (n + 1) * (sg c * A 0 c * det n (mi A 0 c))) := by
      rw [← sumTo_mul]
      congr 1
      have : ∀ (f g : Nat → Int) (N : Nat), (sumTo N fun c => f c - g c) = sumTo N f - sumTo N g := fun f g N => by
        induction N with
        | zero => rfl
        | succ N ih => rw [sumTo, sumTo, sumTo, ih]; omega
      rw [this, det, det, sumTo_mul]
      rfl
    rw [e]
    exact h2 k hk
theorem lead_le {n : Nat} {A B : Mx} {K : Int} (h : ∀ k, K ≤ k → 1 ≤ k → det n (fun i j => k * A i j + B i j) ≤ 0) : det n A ≤ 0 := by
  obtain ⟨C, h1, h2⟩ := lead n A B
  refine Classical.byContradiction fun hd => ?_
  have hd : 1 ≤ det n A := by omega
  obtain ⟨k, hk⟩ : ∃ k : Int, k = K.natAbs + C + 1 := ⟨_, rfl⟩
  have hk1 : 1 ≤ k := by omega
  have a := (h2 k hk1).1
  have b := h k (by omega) hk1
  have hp := pow_pos' (show 0 < k by omega) n
  have c1 : k * det n (fun i j => k * A i j + B i j) ≤ 0 := by
    have := Int.mul_nonneg (show 0 ≤ k by omega) (show 0 ≤ -det n (fun i j => k * A i j + B i j) by omega)
    rw [Int.mul_neg] at this; omega
  have c2 : C * k ^ n < k * (k ^ n * det n A) := by
    have e : k * (k ^ n * det n A) = k ^ n * (k * det n A) := by grind
    rw [e, Int.mul_comm C]
    refine Int.mul_lt_mul_of_pos_left ?_ hp
    have := Int.mul_le_mul_of_nonneg_left hd (show 0 ≤ k by omega)
    omega
  rw [Int.mul_sub] at a
  omega
theorem lead_ge {n : Nat} {A B : Mx} {K : Int} (h : ∀ k, K ≤ k → 1 ≤ k → 0 ≤ det n (fun i j => k * A i j + B i j)) : 0 ≤ det n A := by
  obtain ⟨C, h1, h2⟩ := lead n A B
  refine Classical.byContradiction fun hd => ?_
  have hd : 1 ≤ -det n A := by omega
  obtain ⟨k, hk⟩ : ∃ k : Int, k = K.natAbs + C + 1 := ⟨_, rfl⟩
  have hk1 : 1 ≤ k := by omega
  have a := (h2 k hk1).2
  have b := h k (by omega) hk1
  have hp := pow_pos' (show 0 < k by omega) n
  have c1 : 0 ≤ k * det n (fun i j => k * A i j + B i j) := Int.mul_nonneg (by omega) b
  have c2 : C * k ^ n < -(k * (k ^ n * det n A)) := by
    have e : -(k * (k ^ n * det n A)) = k ^ n * (k * -det n A) := by grind
    rw [e, Int.mul_comm C]
    refine Int.mul_lt_mul_of_pos_left ?_ hp
    have := Int.mul_le_mul_of_nonneg_left hd (show 0 ≤ k by omega)
    omega
  rw [Int.mul_sub] at a
  omega
theorem ker : ∀ (n : Nat) (A : Mx), det n A = 0 → ∃ w : Nat → Int, (∃ i, i < n ∧ w i ≠ 0) ∧ ∀ r, r < n → (sumTo n fun k => A r k * w k) = 0
  | 0, A, h => by simp [det] at h
  | n + 1, A, h => by
    by_cases hc : ∃ i, i < n + 1 ∧ A i 0 ≠ 0
    · obtain ⟨i0, hi0, hne⟩ := hc
      have hB : ∃ B : Mx, B = fun r => A (swp 0 i0 r) := ⟨_, rfl⟩
      obtain ⟨B, hB⟩ := hB
      have hd : det (n + 1) B = 0 := by
        by_cases e : i0 = 0
        · have : B = A := by subst e; rw [hB]; funext r; unfold swp; split <;> simp_all
          rw [this]; exact h
        · have := det_swapr (n := n + 1) (a := 0) (b := i0) (fun h => e h.symm) (by omega) hi0 A B (fun r => by simp [hB, swp]) (fun r => by simp [hB, swp, e]) (fun r k h1 h2 => by simp [hB, swp, h1, h2])
          rw [this, h]; rfl
      have hp : B 0 0 ≠ 0 := by simpa [hB, swp] using hne
      have h1 := chio n B
      rw [hd, Int.mul_zero] at h1
      have h2 : det n (sch B) = 0 := (Int.mul_eq_zero.1 h1.symm).resolve_left hp
      obtain ⟨y, ⟨i, hi, hy⟩, hk⟩ := ker n (sch B) h2
      refine ⟨sx n B y, ⟨i + 1, by omega, by simp only [sx]; exact Int.mul_ne_zero hp hy⟩, fun r hr => ?_⟩
      have hall : ∀ r, r < n + 1 → (sumTo (n + 1) fun k => B r k * sx n B y k) = 0 := fun r hr => by
        cases r with
        | zero => exact sx_zero n B y
        | succ r => rw [sx_succ]; exact hk r (by omega)
      have e : A r = B (swp 0 i0 r) := by
        rw [hB]
        simp only
        congr 1
        unfold swp; split <;> split <;> (try split) <;> omega
      rw [e]
      exact hall _ (by unfold swp; split <;> (try split) <;> omega)
    · have hz : ∀ i, i < n + 1 → A i 0 = 0 := fun i hi => Classical.byContradiction fun e => hc ⟨i, hi, e⟩
      refine ⟨fun i => if i = 0 then 1 else 0, ⟨0, by omega, by simp⟩, fun r hr => ?_⟩
      refine sumTo_zero' fun k hk => ?_
      by_cases e : k = 0
      · subst e; rw [hz r hr]; omega
      · simp [e]
theorem frm_id (n : Nat) (x : Nat → Int) : bil n (fun i k => if i = k then 1 else 0) x x = sumTo n fun i => x i * x i := by
  unfold bil
  refine sumTo_congr fun i hi => ?_
  rw [sumTo_one (c := i) hi fun k _ hne => by simp [Ne.symm hne]]
  simp
theorem sum_nn {n : Nat} {f : Nat → Int} (h : ∀ i, i < n → 0 ≤ f i) : 0 ≤ sumTo n f := by
  induction n with
  | zero => simp [sumTo]
  | succ n ih =>
    have := ih fun i hi => h i (by omega)
    have := h n (by omega)
    rw [sumTo]; omega
theorem sum_ge {n i : Nat} {f : Nat → Int} (h : ∀ i, i < n → 0 ≤ f i) (hi : i < n) : f i ≤ sumTo n f := by
  induction n with
  | zero => omega
  | succ n ih =>
    have h1 := h n (by omega)
    rw [sumTo]
    by_cases e : i = n
    · subst e
      have := sum_nn (n := i) (f := f) fun j hj => h j (by omega)
      omega
    · have := ih (fun i hi => h i (by omega)) (by omega)
      omega
theorem core0 {n : Nat} {S : Mx} (hs : Symm (n + 1) S) (hp : ∀ y, NN (n + 1) y → (∃ i, i < n + 1 ∧ y i = 0) → 0 ≤ frm (n + 1) S y) {u : Nat → Int} (hu : NN (n + 1) u) (hq : frm (n + 1) S u < 0) :
    det (n + 1) S < 0 ∧ ∀ i c, i < n + 1 → c < n + 1 → 0 ≤ adjc n S i c := by
  have hu1 : ∀ i, i < n + 1 → 0 < u i := fun i hi => by
    have := hu i hi
    rcases Int.lt_or_eq_of_le this with h | h
    · exact h
    · have := hp u hu ⟨i, hi, h.symm⟩; omega
  have hT : ∀ k : Int, (sumTo (n + 1) fun i => u i * u i) ≤ k → 1 ≤ k → det (n + 1) (fun i j => k * S i j + if i = j then 1 else 0) ≤ 0 ∧ ∀ i c, i < n + 1 → c < n + 1 → 0 < adjc n (fun i j => k * S i j + if i = j then 1 else 0) i c := by
    intro k hk hk1
    have hf : ∀ x, frm (n + 1) (fun i j => k * S i j + if i = j then 1 else 0) x = k * frm (n + 1) S x + sumTo (n + 1) fun i => x i * x i := fun x => by
      unfold frm
      rw [frm_add, frm_smul, frm_id]
    refine core (u := u) (fun i j hi hj => ?_) (fun y hy ⟨i, hi, hne⟩ hz => ?_) hu1 ?_
    · rw [hs i j hi hj]
      congr 1
      by_cases e : i = j
      · subst e; rfl
      · rw [if_neg e, if_neg (fun h => e h.symm)]
    · rw [hf]
      have h1 := Int.mul_nonneg (show 0 ≤ k by omega) (hp y hy hz)
      have h2 := sum_ge (n := n + 1) (f := fun i => y i * y i) (fun i _ => sq_nn' _) hi
      have h3 := sq_pos hne
      skip
      omega
    · rw [hf]
      have h1 := Int.mul_le_mul_of_nonneg_left (show frm (n + 1) S u ≤ -1 by omega) (show 0 ≤ k by omega)
      omega
  have hd : det (n + 1) S ≤ 0 := lead_le fun k h1 h2 => (hT k h1 h2).1
  refine ⟨?_, fun i c hi hc => ?_⟩
  · refine Classical.byContradiction fun hn => ?_
    obtain ⟨w, ⟨i, hi, hw⟩, hk⟩ := ker (n + 1) S (by omega)
    have neg : ∀ w : Nat → Int, (∀ r, r < n + 1 → (sumTo (n + 1) fun k => S r k * w k) = 0) → (∃ i, i < n + 1 ∧ w i < 0) → False := fun w hk hw => by
      obtain ⟨a, b, _, l, ha, hb, hl, hz, hnn⟩ := hit hu1 hw
      have h1 := hp _ hnn ⟨l, hl, hz⟩
      have e : ∀ x, bil (n + 1) S x w = 0 := fun x => by
        unfold bil
        exact sumTo_zero' fun r hr => by rw [hk r hr, Int.mul_zero]
      rw [frm_two hs, e] at h1
      unfold frm at h1
      rw [e] at h1
      have h2 := Int.mul_pos (Int.mul_pos ha ha) (show 0 < -frm (n + 1) S u by omega)
      rw [Int.mul_neg] at h2
      unfold frm at h2
      omega
    rcases Int.lt_or_le (w i) 0 with h | h
    · exact neg w hk ⟨i, hi, h⟩
    · refine neg (fun l => -w l) (fun r hr => ?_) ⟨i, hi, by omega⟩
      have := sumTo_mul (n + 1) (-1) fun k => S r k * w k
      rw [hk r hr] at this
      rw [sumTo_congr (g := fun k => -1 * (S r k * w k)) fun k _ => by grind, ← this]; rfl
  · have e : adjc n S i c = sg (i + c) * det n (mi S i c) := rfl
    have hT2 : ∀ k : Int, (sumTo (n + 1) fun i => u i * u i) ≤ k → 1 ≤ k → 0 < sg (i + c) * det n (fun a b => k * mi S i c a b + mi (fun i j => if i = j then 1 else 0) i c a b) := fun k h1 h2 => (hT k h1 h2).2 i c hi hc
    rw [e]
    rw [sg_even] at hT2 ⊢
    split at hT2
    · rw [if_pos (by assumption)]
      have := lead_le (n := n) (A := mi S i c) (B := mi (fun i j => if i = j then 1 else 0) i c) (K := sumTo (n + 1) fun i => u i * u i) fun k h1 h2 => by have := hT2 k h1 h2; omega
      omega
    · rw [if_neg (by assumption)]
      have := lead_ge (n := n) (A := mi S i c) (B := mi (fun i j => if i = j then 1 else 0) i c) (K := sumTo (n + 1) fun i => u i * u i) fun k h1 h2 => by have := hT2 k h1 h2; omega
      omega
theorem strict_crit {n : Nat} {S : Mx} (hs : Symm n S) (h : ∀ m g, Sel (m + 1) n g → ¬(det (m + 1) (sub S g) ≤ 0 ∧ ∀ i c, i < m + 1 → c < m + 1 → 0 < adjc m (sub S g) i c)) :
    ∀ m g, Sel m n g → ∀ y, NN m y → (∃ i, i < m ∧ y i ≠ 0) → 0 < frm m (sub S g) y := by
  intro m
  induction m with
  | zero => rintro _ _ _ _ ⟨i, hi, _⟩; omega
  | succ m ih =>
    intro g s
    have hp : SProp (m + 1) (sub S g) := fun y hy ⟨i, hi, hne⟩ ⟨j, hj, hz⟩ => by
      rw [frm_hyp _ y (show j ≤ m by omega) hz]
      refine ih (fun a => g (sk j a)) (s.sk j) _ (fun l hl => hy _ (sk_lt hl)) ?_
      obtain ⟨l, hl, rfl⟩ := sk_surj hi (fun e => hne (by rw [e]; exact hz)) hj
      exact ⟨l, hl, hne⟩
    intro y hy hne
    refine Classical.byContradiction fun hn => ?_
    have hn : frm (m + 1) (sub S g) y ≤ 0 := by omega
    refine h m g s (core (hs.sub s) hp (u := y) (fun i hi => ?_) hn)
    have := hy i hi
    rcases Int.lt_or_eq_of_le this with h1 | h1
    · exact h1
    · have := hp y hy hne ⟨i, hi, h1.symm⟩; omega
theorem cop_crit {n : Nat} {S : Mx} (hs : Symm n S) (h : ∀ m g, Sel (m + 1) n g → ¬(det (m + 1) (sub S g) < 0 ∧ ∀ i c, i < m + 1 → c < m + 1 → 0 ≤ adjc m (sub S g) i c)) :
    ∀ m g, Sel m n g → ∀ y, NN m y → 0 ≤ frm m (sub S g) y := by
  intro m
  induction m with
  | zero => intro _ _ _ _; simp [bil, sumTo]
  | succ m ih =>
    intro g s y hy
    refine Classical.byContradiction fun hn => ?_
    refine h m g s (core0 (hs.sub s) (fun y hy ⟨j, hj, hz⟩ => ?_) hy (by omega))
    rw [frm_hyp _ y (show j ≤ m by omega) hz]
    exact ih (fun a => g (sk j a)) (s.sk j) _ fun l hl => hy _ (sk_lt hl)
theorem strict_no {m : Nat} {T : Mx} (h : ∀ y, NN (m + 1) y → (∃ i, i < m + 1 ∧ y i ≠ 0) → 0 < frm (m + 1) T y) : ¬(det (m + 1) T < 0 ∧ ∀ i c, i < m + 1 → c < m + 1 → 0 ≤ adjc m T i c) := by
  rintro ⟨h1, h2⟩
  by_cases hz : ∃ i, i < m + 1 ∧ adjc m T 0 i ≠ 0
  · have := h (adjc m T 0) (fun i hi => h2 0 i (by omega) hi) hz
    have e : frm (m + 1) T (adjc m T 0) = adjc m T 0 0 * det (m + 1) T := adj_bil T (by omega) _
    rw [e] at this
    have h3 := Int.mul_nonneg (h2 0 0 (by omega) (by omega)) (show 0 ≤ -det (m + 1) T by omega)
    rw [Int.mul_neg] at h3; omega
  · have e := adj_mul (n := m) (j := 0) (r := 0) T (by omega) (by omega)
    rw [if_pos rfl, sumTo_zero' fun c hc => by rw [Classical.byContradiction fun e => hz ⟨c, hc, e⟩, Int.mul_zero]] at e
    omega
def off (n : Nat) (A : Mx) (i : Nat) : Int := sumTo n fun k => if k = i then 0 else ((A i k).natAbs : Int)
theorem sum_mono {n : Nat} {f g : Nat → Int} (h : ∀ i, i < n → f i ≤ g i) : sumTo n f ≤ sumTo n g := by
  induction n with
  | zero => simp [sumTo]
  | succ n ih =>
    have := ih fun i hi => h i (by omega)
    have := h n (by omega)
    rw [sumTo, sumTo]; omega
theorem dom_det : ∀ (n : Nat) (A : Mx), (∀ i, i < n → off n A i < A i i) → 0 < det n A
  | 0, A, _ => by simp [det]
  | n + 1, A, h => by
    have h0 := h 0 (by omega)
    have e0 : off (n + 1) A 0 = sumTo n fun k => ((A 0 (k + 1)).natAbs : Int) := by
      unfold off; rw [sumTo_head]; simp
    rw [e0] at h0
    have hR : 0 ≤ sumTo n fun k => ((A 0 (k + 1)).natAbs : Int) := sum_nn fun _ _ => by omega
    have hp : 0 < A 0 0 := by omega
    have h1 : 0 < det n (sch A) := dom_det n (sch A) fun i hi => by
      have hi1 := h (i + 1) (by omega)
      have e1 : off (n + 1) A (i + 1) = (A (i + 1) 0).natAbs + sumTo n fun k => if k = i then 0 else ((A (i + 1) (k + 1)).natAbs : Int) := by
        unfold off; rw [sumTo_head]; simp
      rw [e1] at hi1
      have e2 : (sumTo n fun k => if k = i then 0 else ((A 0 (k + 1)).natAbs : Int)) + (A 0 (i + 1)).natAbs = sumTo n fun k => ((A 0 (k + 1)).natAbs : Int) := by
        have h2 := sumTo_add n (fun k => if k = i then 0 else ((A 0 (k + 1)).natAbs : Int)) (fun k => if k = i then ((A 0 (k + 1)).natAbs : Int) else 0)
        rw [sumTo_one (c := i) (f := fun k => if k = i then ((A 0 (k + 1)).natAbs : Int) else 0) hi fun k _ hk => if_neg hk, if_pos rfl] at h2
        rw [h2]
        exact sumTo_congr fun k _ => by split <;> omega
      have e3 : off n (sch A) i ≤ A 0 0 * (sumTo n fun k => if k = i then 0 else ((A (i + 1) (k + 1)).natAbs : Int)) + (A (i + 1) 0).natAbs * sumTo n fun k => if k = i then 0 else ((A 0 (k + 1)).natAbs : Int) := by
        rw [← sumTo_lin]
        refine sum_mono fun k hk => ?_
        by_cases e : k = i
        · simp [e]
        · rw [if_neg e, if_neg e, if_neg e]
          have t1 := Int.natAbs_mul (A 0 0) (A (i + 1) (k + 1))
          have t2 := Int.natAbs_mul (A (i + 1) 0) (A 0 (k + 1))
          have t3 : A 0 0 * ((A (i + 1) (k + 1)).natAbs : Int) = ((A 0 0).natAbs * (A (i + 1) (k + 1)).natAbs : Nat) := by rw [Int.natCast_mul]; congr 1; omega
          have t4 : ((A (i + 1) 0).natAbs : Int) * ((A 0 (k + 1)).natAbs : Int) = ((A (i + 1) 0).natAbs * (A 0 (k + 1)).natAbs : Nat) := by rw [Int.natCast_mul]
          rw [t3, t4, ← t1, ← t2]
          simp only [sch]
          omega
      obtain ⟨O, hO⟩ : ∃ O, O = sumTo n fun k => if k = i then 0 else ((A (i + 1) (k + 1)).natAbs : Int) := ⟨_, rfl⟩
      obtain ⟨Q, hQ⟩ : ∃ Q, Q = sumTo n fun k => if k = i then 0 else ((A 0 (k + 1)).natAbs : Int) := ⟨_, rfl⟩
      obtain ⟨R, hRR⟩ : ∃ R, R = sumTo n fun k => ((A 0 (k + 1)).natAbs : Int) := ⟨_, rfl⟩
      rw [← hO] at hi1 e3
      rw [← hQ] at e2 e3
      rw [← hRR] at e2 h0 hR
      have s1 : sch A i i = A 0 0 * A (i + 1) (i + 1) - A (i + 1) 0 * A 0 (i + 1) := rfl
      have s2 : A (i + 1) 0 * A 0 (i + 1) ≤ (A (i + 1) 0).natAbs * (A 0 (i + 1)).natAbs := (abs_mul_le (a := A (i + 1) 0) (b := A 0 (i + 1)) (B := (A 0 (i + 1)).natAbs) (by omega)).2
      have s3 : A 0 0 * ((A (i + 1) 0).natAbs + O) < A 0 0 * A (i + 1) (i + 1) := Int.mul_lt_mul_of_pos_left hi1 hp
      have s4 : ((A (i + 1) 0).natAbs : Int) * R ≤ (A (i + 1) 0).natAbs * A 0 0 := Int.mul_le_mul_of_nonneg_left (by omega) (by omega)
      have s5 : ((A (i + 1) 0).natAbs : Int) * R = (A (i + 1) 0).natAbs * Q + (A (i + 1) 0).natAbs * (A 0 (i + 1)).natAbs := by rw [← e2]; grind
      have s6 : A 0 0 * ((A (i + 1) 0).natAbs + O) = (A (i + 1) 0).natAbs * A 0 0 + A 0 0 * O := by grind
      rw [s1]
      omega
    have := chio n A
    exact pos_of_mul (pow_pos' hp n) (by rw [this]; exact Int.mul_pos hp h1)
theorem sum_sel {f : Nat → Int} (hf : ∀ k, 0 ≤ f k) : ∀ m n g, Sel m n g → (sumTo m fun a => f (g a)) ≤ sumTo n f
  | 0, n, g, _ => by rw [sumTo]; exact sum_nn fun _ _ => hf _
  | m + 1, n, g, s => by
    have h1 := sum_sel hf m (g m) g ⟨fun a ha => s.up a m ha (by omega), fun a b hab hb => s.up a b hab (by omega)⟩
    have h2 : ∀ d, sumTo (g m + 1) f ≤ sumTo (g m + 1 + d) f := fun d => by
      induction d with
      | zero => exact Int.le_refl _
      | succ d ih => have := hf (g m + 1 + d); rw [← Nat.add_assoc, sumTo_succ (g m + 1 + d)]; omega
    have h3 := h2 (n - (g m + 1))
    rw [show g m + 1 + (n - (g m + 1)) = n by have := s.lt m (by omega); omega] at h3
    rw [sumTo_succ (g m)] at h3
    rw [sumTo]; omega
theorem dom_sub {n m : Nat} {A : Mx} {g : Nat → Nat} (h : ∀ i, i < n → off n A i < A i i) (s : Sel m n g) : 0 < det m (sub A g) := by
  refine dom_det m _ fun i hi => ?_
  have h1 := sum_sel (f := fun k => if k = g i then 0 else ((A (g i) k).natAbs : Int)) (fun k => by split <;> omega) m n g s
  have h2 := h (g i) (s.lt i hi)
  have h3 : off m (sub A g) i = sumTo m fun a => if g a = g i then 0 else ((A (g i) (g a)).natAbs : Int) := by
    unfold off
    refine sumTo_congr fun a ha => ?_
    by_cases e : a = i
    · subst e; simp
    · rw [if_neg e, if_neg]
      · rfl
      · rcases Nat.lt_or_gt_of_ne e with h | h
        · have := s.up a i h hi; omega
        · have := s.up i a h ha; omega
  rw [h3]
  unfold off at h2
  skip
  have : sub A g i i = A (g i) (g i) := rfl
  omega
def c_impl_within : F := ⟨(.seq (.reg false [⟨some 6, .mv (.c (.bool false)), none⟩]) (.seq (.reg false [⟨some 7, .mv (.t 0), none⟩, ⟨some 8, .mv (.t 1), none⟩, ⟨some 9, .bin .geq (.t 7) (.t 8), none⟩, ⟨some 10, .mv (.t 9), none⟩, ⟨some 11, .mv (.t 0), some (10, true)⟩, ⟨some 12, .mv (.t 2), some (10, true)⟩, ⟨some 13, .bin .leq (.t 11) (.t 12), some (10, true)⟩, ⟨some 14, .pick (.t 10) (.t 13) (.c (.bool false)), none⟩, ⟨some 6, .mv (.t 14), none⟩]) .ret)), 15, [(.t 6)]⟩
theorem k_impl_within : compF Try.prog Try.f60 = some c_impl_within := by kernel_rfl
def c_impl_upTo : F := ⟨(.seq (.reg false [⟨some 4, .mv (.c (.bool false)), none⟩]) (.seq (.reg false [⟨some 5, .mv (.t 0), none⟩, ⟨some 6, .mv (.t 1), none⟩, ⟨some 7, .un .neg (.t 6), none⟩, ⟨some 8, .mv (.t 1), none⟩, ⟨some 9, .call (.f 60) [(.t 5), (.t 7), (.t 8)], none⟩, ⟨some 4, .mv (.t 9), none⟩]) .ret)), 10, [(.t 4)]⟩
theorem k_impl_upTo : compF Try.prog Try.f125 = some c_impl_upTo := by kernel_rfl
def c_impl_size : F := ⟨(.seq (.reg false [⟨some 2, .mv (.c (.int .i64 0)), none⟩]) (.seq (.reg false [⟨some 3, .mv (.t 0), none⟩, ⟨some 4, .mv (.t 0), none⟩, ⟨some 5, .un .neg (.t 4), none⟩, ⟨some 6, .mx [(.t 3), (.t 5)], none⟩, ⟨some 2, .mv (.t 6), none⟩]) .ret)), 7, [(.t 2)]⟩
theorem k_impl_size : compF Try.prog Try.f121 = some c_impl_size := by kernel_rfl
def c_spec_l01In : F := ⟨(.seq (.reg false [⟨some 6, .mv (.c (.bool false)), none⟩]) (.seq (.reg false [⟨some 7, .mv (.t 0), none⟩, ⟨some 8, .mv (.t 1), none⟩, ⟨some 9, .bin .geq (.t 7) (.t 8), none⟩, ⟨some 10, .mv (.t 9), none⟩, ⟨some 11, .mv (.t 0), some (10, true)⟩, ⟨some 12, .mv (.t 2), some (10, true)⟩, ⟨some 13, .bin .leq (.t 11) (.t 12), some (10, true)⟩, ⟨some 14, .pick (.t 10) (.t 13) (.c (.bool false)), none⟩, ⟨some 6, .mv (.t 14), none⟩]) .ret)), 15, [(.t 6)]⟩
theorem k_spec_l01In : compF Try.prog Try.f57 = some c_spec_l01In := by kernel_rfl

theorem impl_within (a b c : Int) (h : AH) (n : Nat) : Q Try.prog 60 [.int .i64 a, .int .i64 b, .int .i64 c] h n (.bool (decide (b ≤ a ∧ a ≤ c))) := by
  refine q_intro Try.func60 k_impl_within ?_
  simp (maxSteps := 2000000) -implicitDefEqProofs (disch := omega) only [c_impl_within, xsW, xsC, xsD, xsE, fillA, reduceCtorEq, Nat.reduceAdd, Nat.reduceSub, Nat.reduceLeDiff, Nat.reduceMul, Int.reduceLT, Int.reduceLE, Int.reduceEq, Int.reduceNe, Int.reduceAdd, Int.reduceSub, Int.reduceMul, Int.reduceNeg, Int.reduceToNat]
  (refine gd_dec (fun h1 => ?_) (fun h1 => ?_) <;> simp (maxSteps := 2000000) -implicitDefEqProofs (disch := omega) only [xsW, xsC, xsD, xsE, fillA, reduceCtorEq, Nat.reduceAdd, Nat.reduceSub, Nat.reduceLeDiff, Nat.reduceMul, Int.reduceLT, Int.reduceLE, Int.reduceEq, Int.reduceNe, Int.reduceAdd, Int.reduceSub, Int.reduceMul, Int.reduceNeg, Int.reduceToNat,  h1]) <;> (first | rfl | omega | (rw [Bool.eq_iff_iff]; simp only [decide_eq_true_eq, Bool.false_eq_true, iff_true, true_iff, false_iff, iff_false, ne_eq, isFr]; omega))
theorem spec_l01In (a b c : Int) (h : AH) (n : Nat) : Q Try.prog 57 [.int .i64 a, .int .i64 b, .int .i64 c] h n (.bool (decide (b ≤ a ∧ a ≤ c))) := by
  refine q_intro Try.func57 k_spec_l01In ?_
  simp (maxSteps := 2000000) -implicitDefEqProofs (disch := omega) only [c_spec_l01In, xsW, xsC, xsD, xsE, fillA, reduceCtorEq, Nat.reduceAdd, Nat.reduceSub, Nat.reduceLeDiff, Nat.reduceMul, Int.reduceLT, Int.reduceLE, Int.reduceEq, Int.reduceNe, Int.reduceAdd, Int.reduceSub, Int.reduceMul, Int.reduceNeg, Int.reduceToNat]
  (refine gd_dec (fun h1 => ?_) (fun h1 => ?_) <;> simp (maxSteps := 2000000) -implicitDefEqProofs (disch := omega) only [xsW, xsC, xsD, xsE, fillA, reduceCtorEq, Nat.reduceAdd, Nat.reduceSub, Nat.reduceLeDiff, Nat.reduceMul, Int.reduceLT, Int.reduceLE, Int.reduceEq, Int.reduceNe, Int.reduceAdd, Int.reduceSub, Int.reduceMul, Int.reduceNeg, Int.reduceToNat,  h1]) <;> (first | rfl | omega | (rw [Bool.eq_iff_iff]; simp only [decide_eq_true_eq, Bool.false_eq_true, iff_true, true_iff, false_iff, iff_false, ne_eq, isFr]; omega))
theorem impl_upTo (a c : Int) (hc : in64 (-c)) (h : AH) (n : Nat) : Q Try.prog 125 [.int .i64 a, .int .i64 c] h n (.bool (decide (-c ≤ a ∧ a ≤ c))) := by
  refine q_intro Try.func125 k_impl_upTo ?_
  simp (maxSteps := 2000000) -implicitDefEqProofs (disch := omega) only [c_impl_upTo, xsW, xsC, xsD, xsE, fillA, reduceCtorEq, Nat.reduceAdd, Nat.reduceSub, Nat.reduceLeDiff, Nat.reduceMul, Int.reduceLT, Int.reduceLE, Int.reduceEq, Int.reduceNe, Int.reduceAdd, Int.reduceSub, Int.reduceMul, Int.reduceNeg, Int.reduceToNat]
  refine ⟨hc, q_use (impl_within _ _ _ _ _) fun n' hn => ?_⟩
  simp (maxSteps := 2000000) -implicitDefEqProofs (disch := omega) only [xsW, xsC, xsD, xsE, fillA, reduceCtorEq, Nat.reduceAdd, Nat.reduceSub, Nat.reduceLeDiff, Nat.reduceMul, Int.reduceLT, Int.reduceLE, Int.reduceEq, Int.reduceNe, Int.reduceAdd, Int.reduceSub, Int.reduceMul, Int.reduceNeg, Int.reduceToNat]
theorem impl_size (a : Int) (ha' : in64 (-a)) (h : AH) (n : Nat) : Q Try.prog 121 [.int .i64 a] h n (.int .i64 a.natAbs) := by
  refine q_intro Try.func121 k_impl_size ?_
  simp (maxSteps := 2000000) -implicitDefEqProofs (disch := omega) only [c_impl_size, xsW, xsC, xsD, xsE, fillA, reduceCtorEq, Nat.reduceAdd, Nat.reduceSub, Nat.reduceLeDiff, Nat.reduceMul, Int.reduceLT, Int.reduceLE, Int.reduceEq, Int.reduceNe, Int.reduceAdd, Int.reduceSub, Int.reduceMul, Int.reduceNeg, Int.reduceToNat]
  exact ⟨ha', by omega⟩

def c_slices_IndexFunc_Sint64_int64 : F := ⟨(.seq (.reg false [⟨some 4, .mv (.c (.int .i64 0)), none⟩]) (.seq (.seq (.reg false [⟨some 6, .mv (.t 0), none⟩, ⟨some 7, .len (.t 6), none⟩, ⟨some 8, .mv (.c (.int .i64 0)), none⟩]) (.block 0 (.loop (.seq (.reg false [⟨some 9, .bin .lss (.t 8) (.t 7), none⟩]) (.seq (.cond (.t 9) .skip (.exit 0)) (.seq (.block 1 (.seq (.reg false [⟨some 10, .mv (.t 8), none⟩, ⟨some 5, .mv (.t 10), none⟩]) (.seq (.reg false [⟨some 11, .mv (.t 1), none⟩, ⟨some 12, .mv (.t 0), none⟩, ⟨some 13, .mv (.t 5), none⟩, ⟨some 14, .ia 1 (.t 12) (.t 13), none⟩, ⟨some 15, .ld1 (.t 14), none⟩, ⟨some 16, .call (.t 11) [(.t 15)], none⟩]) (.cond (.t 16) (.seq (.reg false [⟨some 17, .mv (.t 5), none⟩, ⟨some 4, .mv (.t 17), none⟩]) .ret) .skip)))) (.reg false [⟨some 18, .bin .add (.t 8) (.c (.int .i64 1)), none⟩, ⟨some 8, .mv (.t 18), none⟩]))))))) (.seq (.reg false [⟨some 4, .mv (.c (.int .i64 (-1))), none⟩]) .ret))), 19, [(.t 4)]⟩
theorem k_slices_IndexFunc_Sint64_int64 : compF Try.prog Try.f131 = some c_slices_IndexFunc_Sint64_int64 := by kernel_rfl
def c_slices_ContainsFunc_Sint64_int64 : F := ⟨(.seq (.reg false [⟨some 4, .mv (.c (.bool false)), none⟩]) (.seq (.reg false [⟨some 5, .mv (.t 0), none⟩, ⟨some 6, .mv (.t 1), none⟩, ⟨some 7, .call (.f 131) [(.t 5), (.t 6)], none⟩, ⟨some 8, .bin .geq (.t 7) (.c (.int .i64 0)), none⟩, ⟨some 4, .mv (.t 8), none⟩]) .ret)), 9, [(.t 4)]⟩
theorem k_slices_ContainsFunc_Sint64_int64 : compF Try.prog Try.f111 = some c_slices_ContainsFunc_Sint64_int64 := by kernel_rfl
theorem idx_ints {w : Bool} {lo hi : Nat} {h : AH} {v : AV} {cs : List AV} (s : Sl w lo hi h 1 v cs) (hl : slen v ≤ 4611686018427387904) (g : Nat) (ds : List AV) (p : Nat → Bool) (n : Nat)
    (hp : ∀ k n', k < slen v → n ≤ n' → Q Try.prog g (cs.getD k .any :: ds) h n' (.bool (p k))) :
    ∃ r : Int, (r = -1 ∧ (∀ k, k < slen v → p k = false) ∨ ∃ k : Nat, r = k ∧ k < slen v ∧ p k = true ∧ ∀ j, j < k → p j = false) ∧ Q Try.prog 131 [v, .fn g ds] h n (.int .i64 r) := by
  suffices hx : ∃ x, (∃ r : Int, x = .int .i64 r ∧ (r = -1 ∧ (∀ k, k < slen v → p k = false) ∨ ∃ k : Nat, r = k ∧ k < slen v ∧ p k = true ∧ ∀ j, j < k → p j = false)) ∧ Q Try.prog 131 [v, .fn g ds] h n x by
    obtain ⟨_, ⟨r, rfl, hr⟩, hq⟩ := hx
    exact ⟨r, hr, hq⟩
  refine eq_intro Try.func131 k_slices_IndexFunc_Sint64_int64 ?_
  have hlen := s.len
  simp (maxSteps := 2000000) -implicitDefEqProofs (disch := omega) only [c_slices_IndexFunc_Sint64_int64, s.ln, xsW, xsC, xsD, xsE, fillA, reduceCtorEq, Nat.reduceAdd, Nat.reduceSub, Nat.reduceLeDiff, Nat.reduceMul, Int.reduceLT, Int.reduceLE, Int.reduceEq, Int.reduceNe, Int.reduceAdd, Int.reduceSub, Int.reduceMul, Int.reduceNeg, Int.reduceToNat]
  refine loop_for (slen v) 0 (fun k (_ : Unit) => [v, .fn g ds, .any, .any, .int .i64 0, .any, .any, .int .i64 (slen v), .int .i64 k, .any, .any, .any, .any, .any, .any, .any, .any, .any, .any]) (fun k _ => h)
    (fun k _ _ => ∀ j, j < k → p j = false) () (Nat.zero_le _) (fun j hj => absurd hj (Nat.not_lt_zero _)) (by simp [LeL, Le1]) (fun _ _ h => h) ?_
  rintro k - n1 - hk hn1 he
  simp (maxSteps := 2000000) -implicitDefEqProofs (disch := omega) only [xsW, xsC, xsD, xsE, fillA, reduceCtorEq, Nat.reduceAdd, Nat.reduceSub, Nat.reduceLeDiff, Nat.reduceMul, Int.reduceLT, Int.reduceLE, Int.reduceEq, Int.reduceNe, Int.reduceAdd, Int.reduceSub, Int.reduceMul, Int.reduceNeg, Int.reduceToNat]
  (refine cd_dec (fun h1 => ?_) (fun h1 => ?_) <;> simp (maxSteps := 2000000) -implicitDefEqProofs (disch := omega) only [xsW, xsC, xsD, xsE, fillA, reduceCtorEq, Nat.reduceAdd, Nat.reduceSub, Nat.reduceLeDiff, Nat.reduceMul, Int.reduceLT, Int.reduceLE, Int.reduceEq, Int.reduceNe, Int.reduceAdd, Int.reduceSub, Int.reduceMul, Int.reduceNeg, Int.reduceToNat,  h1])
  · have hk' : k < slen v := by omega
    simp (maxSteps := 2000000) -implicitDefEqProofs (disch := omega) only [xsW, xsC, xsD, xsE, fillA, reduceCtorEq, Nat.reduceAdd, Nat.reduceSub, Nat.reduceLeDiff, Nat.reduceMul, Int.reduceLT, Int.reduceLE, Int.reduceEq, Int.reduceNe, Int.reduceAdd, Int.reduceSub, Int.reduceMul, Int.reduceNeg, Int.reduceToNat,  s.ia, s.ld]
    refine q_use (hp k n1 hk' hn1) fun n2 hn2 => ?_
    simp (maxSteps := 2000000) -implicitDefEqProofs (disch := omega) only [xsW, xsC, xsD, xsE, fillA, reduceCtorEq, Nat.reduceAdd, Nat.reduceSub, Nat.reduceLeDiff, Nat.reduceMul, Int.reduceLT, Int.reduceLE, Int.reduceEq, Int.reduceNe, Int.reduceAdd, Int.reduceSub, Int.reduceMul, Int.reduceNeg, Int.reduceToNat]
    cases hpk : p k
    · simp (maxSteps := 2000000) -implicitDefEqProofs (disch := omega) only [xsW, xsC, xsD, xsE, fillA, reduceCtorEq, Nat.reduceAdd, Nat.reduceSub, Nat.reduceLeDiff, Nat.reduceMul, Int.reduceLT, Int.reduceLE, Int.reduceEq, Int.reduceNe, Int.reduceAdd, Int.reduceSub, Int.reduceMul, Int.reduceNeg, Int.reduceToNat]
      exact ⟨(), fun j hj => (Nat.lt_succ_iff_lt_or_eq.1 hj).elim (he j) (fun e => by rw [e, hpk]), by omega, by omega, (by simp [LeL, Le1])⟩
    · simp (maxSteps := 2000000) -implicitDefEqProofs (disch := omega) only [xsW, xsC, xsD, xsE, fillA, reduceCtorEq, Nat.reduceAdd, Nat.reduceSub, Nat.reduceLeDiff, Nat.reduceMul, Int.reduceLT, Int.reduceLE, Int.reduceEq, Int.reduceNe, Int.reduceAdd, Int.reduceSub, Int.reduceMul, Int.reduceNeg, Int.reduceToNat]
      exact ⟨k, rfl, .inr ⟨k, rfl, hk', hpk, he⟩⟩
  · exact ⟨-1, rfl, .inl ⟨rfl, fun j hj => he j (by omega)⟩⟩
theorem has_ints {w : Bool} {lo hi : Nat} {h : AH} {v : AV} {cs : List AV} (s : Sl w lo hi h 1 v cs) (hl : slen v ≤ 4611686018427387904) (g : Nat) (ds : List AV) (p : Nat → Bool) (n : Nat)
    (hp : ∀ k n', k < slen v → n ≤ n' → Q Try.prog g (cs.getD k .any :: ds) h n' (.bool (p k))) :
    Q Try.prog 111 [v, .fn g ds] h n (.bool ((List.range (slen v)).any p)) := by
  obtain ⟨r, hr, hq⟩ := idx_ints s hl g ds p n hp
  refine q_intro Try.func111 k_slices_ContainsFunc_Sint64_int64 ?_
  simp (maxSteps := 2000000) -implicitDefEqProofs (disch := omega) only [c_slices_ContainsFunc_Sint64_int64, xsW, xsC, xsD, xsE, fillA, reduceCtorEq, Nat.reduceAdd, Nat.reduceSub, Nat.reduceLeDiff, Nat.reduceMul, Int.reduceLT, Int.reduceLE, Int.reduceEq, Int.reduceNe, Int.reduceAdd, Int.reduceSub, Int.reduceMul, Int.reduceNeg, Int.reduceToNat]
  refine q_use hq fun n1 hn1 => ?_
  simp (maxSteps := 2000000) -implicitDefEqProofs (disch := omega) only [xsW, xsC, xsD, xsE, fillA, reduceCtorEq, Nat.reduceAdd, Nat.reduceSub, Nat.reduceLeDiff, Nat.reduceMul, Int.reduceLT, Int.reduceLE, Int.reduceEq, Int.reduceNe, Int.reduceAdd, Int.reduceSub, Int.reduceMul, Int.reduceNeg, Int.reduceToNat]
  rcases hr with ⟨rfl, hr⟩ | ⟨k, rfl, hk, hpk, _⟩
  · rw [Bool.eq_iff_iff]; simp; exact hr
  · rw [Bool.eq_iff_iff]; simp; exact ⟨k, hk, hpk⟩
def c_slices_IndexFunc_SSint64_Sint64 : F := ⟨(.seq (.reg false [⟨some 4, .mv (.c (.int .i64 0)), none⟩]) (.seq (.seq (.reg false [⟨some 6, .mv (.t 0), none⟩, ⟨some 7, .len (.t 6), none⟩, ⟨some 8, .mv (.c (.int .i64 0)), none⟩]) (.block 0 (.loop (.seq (.reg false [⟨some 9, .bin .lss (.t 8) (.t 7), none⟩]) (.seq (.cond (.t 9) .skip (.exit 0)) (.seq (.block 1 (.seq (.reg false [⟨some 10, .mv (.t 8), none⟩, ⟨some 5, .mv (.t 10), none⟩]) (.seq (.reg false [⟨some 11, .mv (.t 1), none⟩, ⟨some 12, .mv (.t 0), none⟩, ⟨some 13, .mv (.t 5), none⟩, ⟨some 14, .ia 1 (.t 12) (.t 13), none⟩, ⟨some 15, .ld1 (.t 14), none⟩, ⟨some 16, .call (.t 11) [(.t 15)], none⟩]) (.cond (.t 16) (.seq (.reg false [⟨some 17, .mv (.t 5), none⟩, ⟨some 4, .mv (.t 17), none⟩]) .ret) .skip)))) (.reg false [⟨some 18, .bin .add (.t 8) (.c (.int .i64 1)), none⟩, ⟨some 8, .mv (.t 18), none⟩]))))))) (.seq (.reg false [⟨some 4, .mv (.c (.int .i64 (-1))), none⟩]) .ret))), 19, [(.t 4)]⟩
theorem k_slices_IndexFunc_SSint64_Sint64 : compF Try.prog Try.f116 = some c_slices_IndexFunc_SSint64_Sint64 := by kernel_rfl
def c_slices_ContainsFunc_SSint64_Sint64 : F := ⟨(.seq (.reg false [⟨some 4, .mv (.c (.bool false)), none⟩]) (.seq (.reg false [⟨some 5, .mv (.t 0), none⟩, ⟨some 6, .mv (.t 1), none⟩, ⟨some 7, .call (.f 116) [(.t 5), (.t 6)], none⟩, ⟨some 8, .bin .geq (.t 7) (.c (.int .i64 0)), none⟩, ⟨some 4, .mv (.t 8), none⟩]) .ret)), 9, [(.t 4)]⟩
theorem k_slices_ContainsFunc_SSint64_Sint64 : compF Try.prog Try.f91 = some c_slices_ContainsFunc_SSint64_Sint64 := by kernel_rfl
theorem idx_rows {w : Bool} {lo hi : Nat} {h : AH} {v : AV} {cs : List AV} (s : Sl w lo hi h 1 v cs) (hl : slen v ≤ 4611686018427387904) (g : Nat) (ds : List AV) (p : Nat → Bool) (n : Nat)
    (hp : ∀ k n', k < slen v → n ≤ n' → Q Try.prog g (cs.getD k .any :: ds) h n' (.bool (p k))) :
    ∃ r : Int, (r = -1 ∧ (∀ k, k < slen v → p k = false) ∨ ∃ k : Nat, r = k ∧ k < slen v ∧ p k = true ∧ ∀ j, j < k → p j = false) ∧ Q Try.prog 116 [v, .fn g ds] h n (.int .i64 r) := by
  suffices hx : ∃ x, (∃ r : Int, x = .int .i64 r ∧ (r = -1 ∧ (∀ k, k < slen v → p k = false) ∨ ∃ k : Nat, r = k ∧ k < slen v ∧ p k = true ∧ ∀ j, j < k → p j = false)) ∧ Q Try.prog 116 [v, .fn g ds] h n x by
    obtain ⟨_, ⟨r, rfl, hr⟩, hq⟩ := hx
    exact ⟨r, hr, hq⟩
  refine eq_intro Try.func116 k_slices_IndexFunc_SSint64_Sint64 ?_
  have hlen := s.len
  simp (maxSteps := 2000000) -implicitDefEqProofs (disch := omega) only [c_slices_IndexFunc_SSint64_Sint64, s.ln, xsW, xsC, xsD, xsE, fillA, reduceCtorEq, Nat.reduceAdd, Nat.reduceSub, Nat.reduceLeDiff, Nat.reduceMul, Int.reduceLT, Int.reduceLE, Int.reduceEq, Int.reduceNe, Int.reduceAdd, Int.reduceSub, Int.reduceMul, Int.reduceNeg, Int.reduceToNat]
  refine loop_for (slen v) 0 (fun k (_ : Unit) => [v, .fn g ds, .any, .any, .int .i64 0, .any, .any, .int .i64 (slen v), .int .i64 k, .any, .any, .any, .any, .any, .any, .any, .any, .any, .any]) (fun k _ => h)
    (fun k _ _ => ∀ j, j < k → p j = false) () (Nat.zero_le _) (fun j hj => absurd hj (Nat.not_lt_zero _)) (by simp [LeL, Le1]) (fun _ _ h => h) ?_
  rintro k - n1 - hk hn1 he
  simp (maxSteps := 2000000) -implicitDefEqProofs (disch := omega) only [xsW, xsC, xsD, xsE, fillA, reduceCtorEq, Nat.reduceAdd, Nat.reduceSub, Nat.reduceLeDiff, Nat.reduceMul, Int.reduceLT, Int.reduceLE, Int.reduceEq, Int.reduceNe, Int.reduceAdd, Int.reduceSub, Int.reduceMul, Int.reduceNeg, Int.reduceToNat]
  (refine cd_dec (fun h1 => ?_) (fun h1 => ?_) <;> simp (maxSteps := 2000000) -implicitDefEqProofs (disch := omega) only [xsW, xsC, xsD, xsE, fillA, reduceCtorEq, Nat.reduceAdd, Nat.reduceSub, Nat.reduceLeDiff, Nat.reduceMul, Int.reduceLT, Int.reduceLE, Int.reduceEq, Int.reduceNe, Int.reduceAdd, Int.reduceSub, Int.reduceMul, Int.reduceNeg, Int.reduceToNat,  h1])
  · have hk' : k < slen v := by omega
    simp (maxSteps := 2000000) -implicitDefEqProofs (disch := omega) only [xsW, xsC, xsD, xsE, fillA, reduceCtorEq, Nat.reduceAdd, Nat.reduceSub, Nat.reduceLeDiff, Nat.reduceMul, Int.reduceLT, Int.reduceLE, Int.reduceEq, Int.reduceNe, Int.reduceAdd, Int.reduceSub, Int.reduceMul, Int.reduceNeg, Int.reduceToNat,  s.ia, s.ld]
    refine q_use (hp k n1 hk' hn1) fun n2 hn2 => ?_
    simp (maxSteps := 2000000) -implicitDefEqProofs (disch := omega) only [xsW, xsC, xsD, xsE, fillA, reduceCtorEq, Nat.reduceAdd, Nat.reduceSub, Nat.reduceLeDiff, Nat.reduceMul, Int.reduceLT, Int.reduceLE, Int.reduceEq, Int.reduceNe, Int.reduceAdd, Int.reduceSub, Int.reduceMul, Int.reduceNeg, Int.reduceToNat]
    cases hpk : p k
    · simp (maxSteps := 2000000) -implicitDefEqProofs (disch := omega) only [xsW, xsC, xsD, xsE, fillA, reduceCtorEq, Nat.reduceAdd, Nat.reduceSub, Nat.reduceLeDiff, Nat.reduceMul, Int.reduceLT, Int.reduceLE, Int.reduceEq, Int.reduceNe, Int.reduceAdd, Int.reduceSub, Int.reduceMul, Int.reduceNeg, Int.reduceToNat]
      exact ⟨(), fun j hj => (Nat.lt_succ_iff_lt_or_eq.1 hj).elim (he j) (fun e => by rw [e, hpk]), by omega, by omega, (by simp [LeL, Le1])⟩
    · simp (maxSteps := 2000000) -implicitDefEqProofs (disch := omega) only [xsW, xsC, xsD, xsE, fillA, reduceCtorEq, Nat.reduceAdd, Nat.reduceSub, Nat.reduceLeDiff, Nat.reduceMul, Int.reduceLT, Int.reduceLE, Int.reduceEq, Int.reduceNe, Int.reduceAdd, Int.reduceSub, Int.reduceMul, Int.reduceNeg, Int.reduceToNat]
      exact ⟨k, rfl, .inr ⟨k, rfl, hk', hpk, he⟩⟩
  · exact ⟨-1, rfl, .inl ⟨rfl, fun j hj => he j (by omega)⟩⟩
theorem has_rows {w : Bool} {lo hi : Nat} {h : AH} {v : AV} {cs : List AV} (s : Sl w lo hi h 1 v cs) (hl : slen v ≤ 4611686018427387904) (g : Nat) (ds : List AV) (p : Nat → Bool) (n : Nat)
    (hp : ∀ k n', k < slen v → n ≤ n' → Q Try.prog g (cs.getD k .any :: ds) h n' (.bool (p k))) :
    Q Try.prog 91 [v, .fn g ds] h n (.bool ((List.range (slen v)).any p)) := by
  obtain ⟨r, hr, hq⟩ := idx_rows s hl g ds p n hp
  refine q_intro Try.func91 k_slices_ContainsFunc_SSint64_Sint64 ?_
  simp (maxSteps := 2000000) -implicitDefEqProofs (disch := omega) only [c_slices_ContainsFunc_SSint64_Sint64, xsW, xsC, xsD, xsE, fillA, reduceCtorEq, Nat.reduceAdd, Nat.reduceSub, Nat.reduceLeDiff, Nat.reduceMul, Int.reduceLT, Int.reduceLE, Int.reduceEq, Int.reduceNe, Int.reduceAdd, Int.reduceSub, Int.reduceMul, Int.reduceNeg, Int.reduceToNat]
  refine q_use hq fun n1 hn1 => ?_
  simp (maxSteps := 2000000) -implicitDefEqProofs (disch := omega) only [xsW, xsC, xsD, xsE, fillA, reduceCtorEq, Nat.reduceAdd, Nat.reduceSub, Nat.reduceLeDiff, Nat.reduceMul, Int.reduceLT, Int.reduceLE, Int.reduceEq, Int.reduceNe, Int.reduceAdd, Int.reduceSub, Int.reduceMul, Int.reduceNeg, Int.reduceToNat]
  rcases hr with ⟨rfl, hr⟩ | ⟨k, rfl, hk, hpk, _⟩
  · rw [Bool.eq_iff_iff]; simp; exact hr
  · rw [Bool.eq_iff_iff]; simp; exact ⟨k, hk, hpk⟩


def c_spec_IsMatrix : F := ⟨(.seq (.reg false [⟨some 2, .mv (.c (.bool false)), none⟩]) (.seq (.reg false [⟨some 3, .mv (.t 0), none⟩, ⟨some 4, .call (.f 56) [(.t 3)], none⟩, ⟨some 2, .mv (.t 4), none⟩]) .ret)), 5, [(.t 2)]⟩
theorem k_spec_IsMatrix : compF Try.prog Try.f48 = some c_spec_IsMatrix := by kernel_rfl
def c_spec_l01Matrix : F := ⟨(.seq (.reg false [⟨some 2, .mv (.c (.bool false)), none⟩]) (.seq (.reg false [⟨some 6, .mv (.t 0), none⟩, ⟨some 7, .len (.t 6), none⟩, ⟨some 3, .mv (.t 7), none⟩]) (.seq (.seq (.reg false [⟨some 8, .mv (.t 3), none⟩, ⟨some 9, .bin .lss (.t 8) (.c (.int .i64 1)), none⟩, ⟨some 10, .mv (.t 9), none⟩, ⟨some 11, .mv (.t 3), some (10, false)⟩, ⟨some 12, .bin .gtr (.t 11) (.c (.int .i64 5)), some (10, false)⟩, ⟨some 13, .pick (.t 10) (.c (.bool true)) (.t 12), none⟩]) (.cond (.t 13) (.seq (.reg false [⟨some 2, .mv (.c (.bool false)), none⟩]) .ret) .skip)) (.seq (.seq (.reg false [⟨some 4, .mv (.c (.int .i64 0)), none⟩]) (.block 0 (.loop (.seq (.seq (.reg false [⟨some 14, .mv (.t 4), none⟩, ⟨some 15, .mv (.t 3), none⟩, ⟨some 16, .bin .lss (.t 14) (.t 15), none⟩]) (.cond (.t 16) .skip (.exit 0))) (.seq (.block 1 (.seq (.seq (.reg false [⟨some 19, .mv (.t 0), none⟩, ⟨some 20, .mv (.t 4), none⟩, ⟨some 21, .ia 1 (.t 19) (.t 20), none⟩, ⟨some 22, .ld1 (.t 21), none⟩, ⟨some 23, .len (.t 22), none⟩, ⟨some 24, .mv (.t 3), none⟩, ⟨some 25, .bin .neq (.t 23) (.t 24), none⟩]) (.cond (.t 25) (.seq (.reg false [⟨some 2, .mv (.c (.bool false)), none⟩]) .ret) .skip)) (.seq (.reg false [⟨some 5, .mv (.c (.int .i64 0)), none⟩]) (.block 2 (.loop (.seq (.seq (.reg false [⟨some 26, .mv (.t 5), none⟩, ⟨some 27, .mv (.t 3), none⟩, ⟨some 28, .bin .lss (.t 26) (.t 27), none⟩]) (.cond (.t 28) .skip (.exit 2))) (.seq (.block 3 (.seq (.reg false [⟨some 31, .mv (.t 0), none⟩, ⟨some 32, .mv (.t 4), none⟩, ⟨some 33, .ia 1 (.t 31) (.t 32), none⟩, ⟨some 34, .ld1 (.t 33), none⟩, ⟨some 35, .mv (.t 5), none⟩, ⟨some 36, .ia 1 (.t 34) (.t 35), none⟩, ⟨some 37, .ld1 (.t 36), none⟩, ⟨some 38, .call (.f 57) [(.t 37), (.c (.int .i64 (-20))), (.c (.int .i64 20))], none⟩, ⟨some 39, .un .not (.t 38), none⟩]) (.cond (.t 39) (.seq (.reg false [⟨some 2, .mv (.c (.bool false)), none⟩]) .ret) .skip))) (.reg false [⟨some 29, .mv (.t 5), none⟩, ⟨some 30, .bin .add (.t 29) (.c (.int .i64 1)), none⟩, ⟨some 5, .mv (.t 30), none⟩])))))))) (.reg false [⟨some 17, .mv (.t 4), none⟩, ⟨some 18, .bin .add (.t 17) (.c (.int .i64 1)), none⟩, ⟨some 4, .mv (.t 18), none⟩])))))) (.seq (.reg false [⟨some 2, .mv (.c (.bool true)), none⟩]) .ret))))), 40, [(.t 2)]⟩
theorem k_spec_l01Matrix : compF Try.prog Try.f56 = some c_spec_l01Matrix := by kernel_rfl
def c_impl_IsMatrix : F := ⟨(.seq (.reg false [⟨some 2, .mv (.c (.bool false)), none⟩]) (.seq (.reg false [⟨some 3, .mv (.t 0), none⟩, ⟨some 4, .len (.t 3), none⟩, ⟨some 5, .call (.f 60) [(.t 4), (.c (.int .i64 1)), (.c (.int .i64 5))], none⟩, ⟨some 6, .mv (.t 5), none⟩, ⟨some 7, .mv (.t 0), some (6, true)⟩, ⟨some 8, .mv (.t 0), some (6, true)⟩, ⟨some 9, .len (.t 8), some (6, true)⟩, ⟨some 10, .call (.f 90) [(.t 7), (.t 9)], some (6, true)⟩, ⟨some 11, .pick (.t 6) (.t 10) (.c (.bool false)), none⟩, ⟨some 12, .mv (.t 11), none⟩, ⟨some 13, .mv (.t 0), some (12, true)⟩, ⟨some 14, .call (.f 91) [(.t 13), (.f 92)], some (12, true)⟩, ⟨some 15, .un .not (.t 14), some (12, true)⟩, ⟨some 16, .pick (.t 12) (.t 15) (.c (.bool false)), none⟩, ⟨some 2, .mv (.t 16), none⟩]) .ret)), 17, [(.t 2)]⟩
theorem k_impl_IsMatrix : compF Try.prog Try.f47 = some c_impl_IsMatrix := by kernel_rfl
def c_impl_isSquare : F := ⟨(.seq (.reg false [⟨some 3, .box 3 (.t 1), none⟩, ⟨some 4, .mv (.c (.bool false)), none⟩]) (.seq (.reg false [⟨some 5, .mv (.t 0), none⟩, ⟨some 6, .len (.t 5), none⟩, ⟨some 7, .ld1 (.t 3), none⟩, ⟨some 8, .bin .eql (.t 6) (.t 7), none⟩, ⟨some 9, .mv (.t 8), none⟩, ⟨some 10, .mv (.t 0), some (9, true)⟩, ⟨some 11, .mkf 123 [(.t 3)], some (9, true)⟩, ⟨some 12, .call (.f 91) [(.t 10), (.t 11)], some (9, true)⟩, ⟨some 13, .un .not (.t 12), some (9, true)⟩, ⟨some 14, .pick (.t 9) (.t 13) (.c (.bool false)), none⟩, ⟨some 4, .mv (.t 14), none⟩]) .ret)), 15, [(.t 4)]⟩
theorem k_impl_isSquare : compF Try.prog Try.f90 = some c_impl_isSquare := by kernel_rfl
def c_impl_isSquare_1 : F := ⟨(.seq (.reg false [⟨some 3, .mv (.c (.bool false)), none⟩]) (.seq (.reg false [⟨some 4, .mv (.t 0), none⟩, ⟨some 5, .len (.t 4), none⟩, ⟨some 6, .ld1 (.t 1), none⟩, ⟨some 7, .bin .neq (.t 5) (.t 6), none⟩, ⟨some 3, .mv (.t 7), none⟩]) .ret)), 8, [(.t 3)]⟩
theorem k_impl_isSquare_1 : compF Try.prog Try.f123 = some c_impl_isSquare_1 := by kernel_rfl
def c_impl_IsMatrix_1 : F := ⟨(.seq (.reg false [⟨some 2, .mv (.c (.bool false)), none⟩]) (.seq (.reg false [⟨some 3, .mv (.t 0), none⟩, ⟨some 4, .call (.f 93) [(.t 3), (.c (.int .i64 20))], none⟩, ⟨some 5, .un .not (.t 4), none⟩, ⟨some 2, .mv (.t 5), none⟩]) .ret)), 6, [(.t 2)]⟩
theorem k_impl_IsMatrix_1 : compF Try.prog Try.f92 = some c_impl_IsMatrix_1 := by kernel_rfl
def c_impl_allUpTo : F := ⟨(.seq (.reg false [⟨some 3, .box 2 (.t 1), none⟩, ⟨some 4, .mv (.c (.bool false)), none⟩]) (.seq (.reg false [⟨some 5, .mv (.t 0), none⟩, ⟨some 6, .mkf 124 [(.t 3)], none⟩, ⟨some 7, .call (.f 111) [(.t 5), (.t 6)], none⟩, ⟨some 8, .un .not (.t 7), none⟩, ⟨some 4, .mv (.t 8), none⟩]) .ret)), 9, [(.t 4)]⟩
theorem k_impl_allUpTo : compF Try.prog Try.f93 = some c_impl_allUpTo := by kernel_rfl
def c_impl_allUpTo_1 : F := ⟨(.seq (.reg false [⟨some 3, .mv (.c (.bool false)), none⟩]) (.seq (.reg false [⟨some 4, .mv (.t 0), none⟩, ⟨some 5, .ld1 (.t 1), none⟩, ⟨some 6, .call (.f 125) [(.t 4), (.t 5)], none⟩, ⟨some 7, .un .not (.t 6), none⟩, ⟨some 3, .mv (.t 7), none⟩]) .ret)), 8, [(.t 3)]⟩
theorem k_impl_allUpTo_1 : compF Try.prog Try.f124 = some c_impl_allUpTo_1 := by kernel_rfl

def within (m : Int) (l : List Int) : Bool := l.all fun x => decide (-m ≤ x ∧ x ≤ m)
def isMat (ll : List (List Int)) : Bool := decide (1 ≤ ll.length ∧ ll.length ≤ 5) && ll.all fun l => decide (l.length = ll.length) && within 20 l
theorem any_range {α : Type} (l : List α) (d : α) (p : α → Bool) : ((List.range l.length).any fun k => p (l.getD k d)) = l.any p := by
  rw [Bool.eq_iff_iff]
  simp only [List.any_eq_true, List.mem_range]
  constructor
  · rintro ⟨k, hk, h⟩
    exact ⟨_, getD_mem hk, h⟩
  · rintro ⟨x, hx, h⟩
    obtain ⟨k, hk, rfl⟩ := List.mem_iff_getElem.1 hx
    exact ⟨k, hk, by simpa [List.getD, hk] using h⟩
theorem impl_allUpTo1 (a c : Int) (hc : in64 (-c)) {h : AH} {i n : Nat} {op : Nat} {wr : Bool} {ty : Nat} (hb : h i = some ⟨ty, [.int .i64 c], wr, op⟩) :
    Q Try.prog 124 [.int .i64 a, .ptr i 0] h n (.bool (!decide (-c ≤ a ∧ a ≤ c))) := by
  refine q_intro Try.func124 k_impl_allUpTo_1 ?_
  simp (maxSteps := 2000000) -implicitDefEqProofs (disch := omega) only [c_impl_allUpTo_1, hb, xsW, xsC, xsD, xsE, fillA, reduceCtorEq, Nat.reduceAdd, Nat.reduceSub, Nat.reduceLeDiff, Nat.reduceMul, Int.reduceLT, Int.reduceLE, Int.reduceEq, Int.reduceNe, Int.reduceAdd, Int.reduceSub, Int.reduceMul, Int.reduceNeg, Int.reduceToNat]
  refine q_use (impl_upTo _ _ hc _ _) fun n1 hn1 => ?_
  simp (maxSteps := 2000000) -implicitDefEqProofs (disch := omega) only [xsW, xsC, xsD, xsE, fillA, reduceCtorEq, Nat.reduceAdd, Nat.reduceSub, Nat.reduceLeDiff, Nat.reduceMul, Int.reduceLT, Int.reduceLE, Int.reduceEq, Int.reduceNe, Int.reduceAdd, Int.reduceSub, Int.reduceMul, Int.reduceNeg, Int.reduceToNat]
theorem impl_allUpTo {w : Bool} {lo hi : Nat} {h : AH} {v : AV} {l : List Int} (s : Ints w lo hi h v l) (hl : l.length ≤ 4611686018427387904) (c : Int) (hc : in64 (-c)) (n : Nat) (hn : hi ≤ n) :
    Q Try.prog 93 [v, .int .i64 c] h n (.bool (within c l)) := by
  refine q_intro Try.func93 k_impl_allUpTo ?_
  have hs := s.slen
  simp (maxSteps := 2000000) -implicitDefEqProofs (disch := omega) only [c_impl_allUpTo, xsW, xsC, xsD, xsE, fillA, reduceCtorEq, Nat.reduceAdd, Nat.reduceSub, Nat.reduceLeDiff, Nat.reduceMul, Int.reduceLT, Int.reduceLE, Int.reduceEq, Int.reduceNe, Int.reduceAdd, Int.reduceSub, Int.reduceMul, Int.reduceNeg, Int.reduceToNat]
  refine q_use (has_ints (Ints.keep s fun i _ hi' => by rw [upd_other (by omega)]) (by omega) _ _ (fun k => !decide (-c ≤ l.getD k 0 ∧ l.getD k 0 ≤ c)) _ fun k n' hk _ => ?_) fun n1 hn1 => ?_
  · rw [ints_getD l k (by omega)]
    exact impl_allUpTo1 _ _ hc (upd_same _ _ _)
  · rw [hs, any_range l 0 (fun x => !decide (-c ≤ x ∧ x ≤ c))]
    simp (maxSteps := 2000000) -implicitDefEqProofs (disch := omega) only [xsW, xsC, xsD, xsE, fillA, reduceCtorEq, Nat.reduceAdd, Nat.reduceSub, Nat.reduceLeDiff, Nat.reduceMul, Int.reduceLT, Int.reduceLE, Int.reduceEq, Int.reduceNe, Int.reduceAdd, Int.reduceSub, Int.reduceMul, Int.reduceNeg, Int.reduceToNat]
    rw [within, Bool.eq_iff_iff]; simp
theorem impl_isSquare1 {w : Bool} {lo hi : Nat} {h : AH} {v : AV} {l : List Int} (s : Ints w lo hi h v l) (c : Int) {i n : Nat} {op : Nat} {wr : Bool} {ty : Nat} (hb : h i = some ⟨ty, [.int .i64 c], wr, op⟩) :
    Q Try.prog 123 [v, .ptr i 0] h n (.bool (decide (¬ (l.length : Int) = c))) := by
  refine q_intro Try.func123 k_impl_isSquare_1 ?_
  simp (maxSteps := 2000000) -implicitDefEqProofs (disch := omega) only [c_impl_isSquare_1, hb, s.ln, xsW, xsC, xsD, xsE, fillA, reduceCtorEq, Nat.reduceAdd, Nat.reduceSub, Nat.reduceLeDiff, Nat.reduceMul, Int.reduceLT, Int.reduceLE, Int.reduceEq, Int.reduceNe, Int.reduceAdd, Int.reduceSub, Int.reduceMul, Int.reduceNeg, Int.reduceToNat]
theorem impl_isSquare {w : Bool} {lo hi : Nat} {h : AH} {v : AV} {vs : List AV} {ll : List (List Int)} (s : Rows w lo hi h v vs ll) (hl : ll.length ≤ 4611686018427387904) (c : Int) (n : Nat) (hn : hi ≤ n) :
    Q Try.prog 90 [v, .int .i64 c] h n (.bool (decide ((ll.length : Int) = c) && ll.all fun l => decide ((l.length : Int) = c))) := by
  refine q_intro Try.func90 k_impl_isSquare ?_
  have hs := s.slen
  simp (maxSteps := 2000000) -implicitDefEqProofs (disch := omega) only [c_impl_isSquare, s.ln, xsW, xsC, xsD, xsE, fillA, reduceCtorEq, Nat.reduceAdd, Nat.reduceSub, Nat.reduceLeDiff, Nat.reduceMul, Int.reduceLT, Int.reduceLE, Int.reduceEq, Int.reduceNe, Int.reduceAdd, Int.reduceSub, Int.reduceMul, Int.reduceNeg, Int.reduceToNat]
  (refine gd_dec (fun hc => ?_) (fun hc => ?_) <;> simp (maxSteps := 2000000) -implicitDefEqProofs (disch := omega) only [xsW, xsC, xsD, xsE, fillA, reduceCtorEq, Nat.reduceAdd, Nat.reduceSub, Nat.reduceLeDiff, Nat.reduceMul, Int.reduceLT, Int.reduceLE, Int.reduceEq, Int.reduceNe, Int.reduceAdd, Int.reduceSub, Int.reduceMul, Int.reduceNeg, Int.reduceToNat,  hc])
  have s' := s.keep (h' := upd h n (some ⟨3, [.int .i64 c], true, 0⟩)) fun i _ hi' => by rw [upd_other (by omega)]
  refine q_use (has_rows s'.out (by omega) _ _ (fun k => decide (¬ ((ll.getD k []).length : Int) = c)) _ fun k n' hk _ => impl_isSquare1 (s'.row k (by omega)) c (upd_same _ _ _)) fun n1 hn1 => ?_
  rw [hs, any_range ll [] (fun x => decide (¬ (x.length : Int) = c))]
  simp (maxSteps := 2000000) -implicitDefEqProofs (disch := omega) only [xsW, xsC, xsD, xsE, fillA, reduceCtorEq, Nat.reduceAdd, Nat.reduceSub, Nat.reduceLeDiff, Nat.reduceMul, Int.reduceLT, Int.reduceLE, Int.reduceEq, Int.reduceNe, Int.reduceAdd, Int.reduceSub, Int.reduceMul, Int.reduceNeg, Int.reduceToNat]
  rw [Bool.eq_iff_iff]; simp
theorem impl_IsMatrix1 {w : Bool} {lo hi : Nat} {h : AH} {v : AV} {l : List Int} (s : Ints w lo hi h v l) (hl : l.length ≤ 4611686018427387904) (n : Nat) (hn : hi ≤ n) :
    Q Try.prog 92 [v] h n (.bool (!within 20 l)) := by
  refine q_intro Try.func92 k_impl_IsMatrix_1 ?_
  simp (maxSteps := 2000000) -implicitDefEqProofs (disch := omega) only [c_impl_IsMatrix_1, xsW, xsC, xsD, xsE, fillA, reduceCtorEq, Nat.reduceAdd, Nat.reduceSub, Nat.reduceLeDiff, Nat.reduceMul, Int.reduceLT, Int.reduceLE, Int.reduceEq, Int.reduceNe, Int.reduceAdd, Int.reduceSub, Int.reduceMul, Int.reduceNeg, Int.reduceToNat]
  refine q_use (impl_allUpTo s hl _ (by unfold in64; omega) _ hn) fun n1 hn1 => ?_
  simp (maxSteps := 2000000) -implicitDefEqProofs (disch := omega) only [xsW, xsC, xsD, xsE, fillA, reduceCtorEq, Nat.reduceAdd, Nat.reduceSub, Nat.reduceLeDiff, Nat.reduceMul, Int.reduceLT, Int.reduceLE, Int.reduceEq, Int.reduceNe, Int.reduceAdd, Int.reduceSub, Int.reduceMul, Int.reduceNeg, Int.reduceToNat]
theorem impl_IsMatrix {w : Bool} {lo hi : Nat} {h : AH} {v : AV} {vs : List AV} {ll : List (List Int)} (s : Rows w lo hi h v vs ll) (hl : ll.length ≤ 1048576) (hll : ∀ l ∈ ll, l.length ≤ 1048576) (n : Nat) (hn : hi ≤ n) :
    Q Try.prog 47 [v] h n (.bool (isMat ll)) := by
  refine q_intro Try.func47 k_impl_IsMatrix ?_
  have hs := s.slen
  simp (maxSteps := 2000000) -implicitDefEqProofs (disch := omega) only [c_impl_IsMatrix, s.ln, xsW, xsC, xsD, xsE, fillA, reduceCtorEq, Nat.reduceAdd, Nat.reduceSub, Nat.reduceLeDiff, Nat.reduceMul, Int.reduceLT, Int.reduceLE, Int.reduceEq, Int.reduceNe, Int.reduceAdd, Int.reduceSub, Int.reduceMul, Int.reduceNeg, Int.reduceToNat]
  refine q_use (impl_within _ _ _ _ _) fun n1 hn1 => ?_
  simp (maxSteps := 2000000) -implicitDefEqProofs (disch := omega) only [xsW, xsC, xsD, xsE, fillA, reduceCtorEq, Nat.reduceAdd, Nat.reduceSub, Nat.reduceLeDiff, Nat.reduceMul, Int.reduceLT, Int.reduceLE, Int.reduceEq, Int.reduceNe, Int.reduceAdd, Int.reduceSub, Int.reduceMul, Int.reduceNeg, Int.reduceToNat]
  (refine gd_dec (fun h1 => ?_) (fun h1 => ?_) <;> simp (maxSteps := 2000000) -implicitDefEqProofs (disch := omega) only [xsW, xsC, xsD, xsE, fillA, reduceCtorEq, Nat.reduceAdd, Nat.reduceSub, Nat.reduceLeDiff, Nat.reduceMul, Int.reduceLT, Int.reduceLE, Int.reduceEq, Int.reduceNe, Int.reduceAdd, Int.reduceSub, Int.reduceMul, Int.reduceNeg, Int.reduceToNat,  h1])
  · simp (maxSteps := 2000000) -implicitDefEqProofs (disch := omega) only [xsW, xsC, xsD, xsE, fillA, reduceCtorEq, Nat.reduceAdd, Nat.reduceSub, Nat.reduceLeDiff, Nat.reduceMul, Int.reduceLT, Int.reduceLE, Int.reduceEq, Int.reduceNe, Int.reduceAdd, Int.reduceSub, Int.reduceMul, Int.reduceNeg, Int.reduceToNat,  s.ln]
    refine q_use (impl_isSquare s (by omega) _ _ (by omega)) fun n2 hn2 => ?_
    cases hq : (ll.all fun l => decide ((l.length : Int) = ll.length))
    · simp (maxSteps := 2000000) -implicitDefEqProofs (disch := omega) only [xsW, xsC, xsD, xsE, fillA, reduceCtorEq, Nat.reduceAdd, Nat.reduceSub, Nat.reduceLeDiff, Nat.reduceMul, Int.reduceLT, Int.reduceLE, Int.reduceEq, Int.reduceNe, Int.reduceAdd, Int.reduceSub, Int.reduceMul, Int.reduceNeg, Int.reduceToNat]
      rw [Bool.eq_iff_iff]
      simp only [Bool.false_eq_true, false_iff, isMat, Bool.and_eq_true, not_and, List.all_eq_true]
      intro _ hx
      rw [List.all_eq_false] at hq
      obtain ⟨l, hm, hh⟩ := hq
      have := (hx l hm).1
      simp at this hh
      omega
    · simp (maxSteps := 2000000) -implicitDefEqProofs (disch := omega) only [xsW, xsC, xsD, xsE, fillA, reduceCtorEq, Nat.reduceAdd, Nat.reduceSub, Nat.reduceLeDiff, Nat.reduceMul, Int.reduceLT, Int.reduceLE, Int.reduceEq, Int.reduceNe, Int.reduceAdd, Int.reduceSub, Int.reduceMul, Int.reduceNeg, Int.reduceToNat]
      refine q_use (has_rows s.out (by omega) _ _ (fun k => !within 20 (ll.getD k [])) _ fun k n' hk _ => impl_IsMatrix1 (s.row k (by omega)) (by have := hll _ (getD_mem (d := []) (show k < ll.length by omega)); omega) _ (by omega)) fun n3 hn3 => ?_
      rw [hs, any_range ll [] (fun x => !within 20 x)]
      simp (maxSteps := 2000000) -implicitDefEqProofs (disch := omega) only [xsW, xsC, xsD, xsE, fillA, reduceCtorEq, Nat.reduceAdd, Nat.reduceSub, Nat.reduceLeDiff, Nat.reduceMul, Int.reduceLT, Int.reduceLE, Int.reduceEq, Int.reduceNe, Int.reduceAdd, Int.reduceSub, Int.reduceMul, Int.reduceNeg, Int.reduceToNat]
      rw [Bool.eq_iff_iff]
      rw [List.all_eq_true] at hq
      simp only [isMat, Bool.and_eq_true, List.all_eq_true, Bool.not_eq_true', List.any_eq_false, decide_eq_true_eq]
      constructor
      · intro hx
        exact ⟨by omega, fun l hm => ⟨by have := hq l hm; simp at this; omega, by simpa using hx l hm⟩⟩
      · intro hx l hm
        simpa using (hx.2 l hm).2
  · rw [Bool.eq_iff_iff]; simp only [isMat, Bool.false_eq_true, false_iff, Bool.and_eq_true, decide_eq_true_eq, not_and]; intro hx; omega
theorem within_iff (m : Int) (l : List Int) : within m l = true ↔ ∀ j, j < l.length → -m ≤ l.getD j 0 ∧ l.getD j 0 ≤ m := by
  simp only [within, List.all_eq_true, decide_eq_true_eq]
  constructor
  · intro h j hj
    exact h _ (getD_mem hj)
  · intro h x hx
    obtain ⟨k, hk, rfl⟩ := List.mem_iff_getElem.1 hx
    have := h k hk
    simpa [List.getD, hk] using this
theorem isMat_iff (ll : List (List Int)) : isMat ll = true ↔ 1 ≤ ll.length ∧ ll.length ≤ 5 ∧ ∀ k, k < ll.length → (ll.getD k []).length = ll.length ∧ within 20 (ll.getD k []) = true := by
  simp only [isMat, Bool.and_eq_true, decide_eq_true_eq, List.all_eq_true, and_assoc]
  constructor
  · rintro ⟨h1, h2, h⟩
    exact ⟨h1, h2, fun k hk => h _ (getD_mem hk)⟩
  · rintro ⟨h1, h2, h⟩
    refine ⟨h1, h2, fun x hx => ?_⟩
    obtain ⟨k, hk, rfl⟩ := List.mem_iff_getElem.1 hx
    have := h k hk
    simpa [List.getD, hk] using this
theorem isMat_f {ll : List (List Int)} (h : ¬ (1 ≤ ll.length ∧ ll.length ≤ 5 ∧ ∀ k, k < ll.length → (ll.getD k []).length = ll.length ∧ within 20 (ll.getD k []) = true)) : false = isMat ll := by
  cases hm : isMat ll
  · rfl
  · exact absurd ((isMat_iff ll).1 hm) h
theorem spec_l01Matrix {w : Bool} {lo hi : Nat} {h : AH} {v : AV} {vs : List AV} {ll : List (List Int)} (s : Rows w lo hi h v vs ll) (hl : ll.length ≤ 1048576) (n : Nat) :
    Q Try.prog 56 [v] h n (.bool (isMat ll)) := by
  refine q_intro Try.func56 k_spec_l01Matrix ?_
  simp (maxSteps := 2000000) -implicitDefEqProofs (disch := omega) only [c_spec_l01Matrix, s.ln, xsW, xsC, xsD, xsE, fillA, reduceCtorEq, Nat.reduceAdd, Nat.reduceSub, Nat.reduceLeDiff, Nat.reduceMul, Int.reduceLT, Int.reduceLE, Int.reduceEq, Int.reduceNe, Int.reduceAdd, Int.reduceSub, Int.reduceMul, Int.reduceNeg, Int.reduceToNat]
  (refine gd_dec (fun h1 => ?_) (fun h1 => ?_) <;> simp (maxSteps := 2000000) -implicitDefEqProofs (disch := omega) only [xsW, xsC, xsD, xsE, fillA, reduceCtorEq, Nat.reduceAdd, Nat.reduceSub, Nat.reduceLeDiff, Nat.reduceMul, Int.reduceLT, Int.reduceLE, Int.reduceEq, Int.reduceNe, Int.reduceAdd, Int.reduceSub, Int.reduceMul, Int.reduceNeg, Int.reduceToNat,  h1])
  · exact isMat_f fun hx => by omega
  (refine cd_dec (fun h2 => ?_) (fun h2 => ?_) <;> simp (maxSteps := 2000000) -implicitDefEqProofs (disch := omega) only [xsW, xsC, xsD, xsE, fillA, reduceCtorEq, Nat.reduceAdd, Nat.reduceSub, Nat.reduceLeDiff, Nat.reduceMul, Int.reduceLT, Int.reduceLE, Int.reduceEq, Int.reduceNe, Int.reduceAdd, Int.reduceSub, Int.reduceMul, Int.reduceNeg, Int.reduceToNat,  h2])
  · exact isMat_f fun hx => by omega
  refine loop_for ll.length 0 (fun k (_ : Unit) => [v, .any, .bool false, .int .i64 ll.length, .int .i64 k, .any, .any, .any, .any, .any, .any, .any, .any, .any, .any, .any, .any, .any, .any, .any, .any, .any, .any, .any, .any, .any, .any, .any, .any, .any, .any, .any, .any, .any, .any, .any, .any, .any, .any, .any]) (fun k _ => h)
    (fun k _ _ => ∀ j, j < k → (ll.getD j []).length = ll.length ∧ within 20 (ll.getD j []) = true) () (Nat.zero_le _) (fun j hj => absurd hj (Nat.not_lt_zero _)) (by simp [LeL, Le1]) (fun _ _ h => h) ?_
  rintro k - n1 - hk hn1 he
  simp (maxSteps := 2000000) -implicitDefEqProofs (disch := omega) only [xsW, xsC, xsD, xsE, fillA, reduceCtorEq, Nat.reduceAdd, Nat.reduceSub, Nat.reduceLeDiff, Nat.reduceMul, Int.reduceLT, Int.reduceLE, Int.reduceEq, Int.reduceNe, Int.reduceAdd, Int.reduceSub, Int.reduceMul, Int.reduceNeg, Int.reduceToNat,  s.ln]
  (refine cd_dec (fun h3 => ?_) (fun h3 => ?_) <;> simp (maxSteps := 2000000) -implicitDefEqProofs (disch := omega) only [xsW, xsC, xsD, xsE, fillA, reduceCtorEq, Nat.reduceAdd, Nat.reduceSub, Nat.reduceLeDiff, Nat.reduceMul, Int.reduceLT, Int.reduceLE, Int.reduceEq, Int.reduceNe, Int.reduceAdd, Int.reduceSub, Int.reduceMul, Int.reduceNeg, Int.reduceToNat,  h3])
  · have hk' : k < ll.length := by omega
    have hr := s.row k hk'
    simp (maxSteps := 2000000) -implicitDefEqProofs (disch := omega) only [xsW, xsC, xsD, xsE, fillA, reduceCtorEq, Nat.reduceAdd, Nat.reduceSub, Nat.reduceLeDiff, Nat.reduceMul, Int.reduceLT, Int.reduceLE, Int.reduceEq, Int.reduceNe, Int.reduceAdd, Int.reduceSub, Int.reduceMul, Int.reduceNeg, Int.reduceToNat,  s.ia, s.ld, hr.ln]
    (refine cd_dec (fun h4 => ?_) (fun h4 => ?_) <;> simp (maxSteps := 2000000) -implicitDefEqProofs (disch := omega) only [xsW, xsC, xsD, xsE, fillA, reduceCtorEq, Nat.reduceAdd, Nat.reduceSub, Nat.reduceLeDiff, Nat.reduceMul, Int.reduceLT, Int.reduceLE, Int.reduceEq, Int.reduceNe, Int.reduceAdd, Int.reduceSub, Int.reduceMul, Int.reduceNeg, Int.reduceToNat,  h4])
    · exact isMat_f fun hx => by have := hx.2.2 k hk'; omega
    · refine loop_for ll.length 0 (fun j (_ : Unit) => [v, .any, .bool false, .int .i64 ll.length, .int .i64 k, .int .i64 j, .any, .any, .any, .any, .any, .any, .any, .any, .any, .any, .any, .any, .any, .any, .any, .any, .any, .any, .any, .any, .any, .any, .any, .any, .any, .any, .any, .any, .any, .any, .any, .any, .any, .any]) (fun k _ => h)
        (fun j _ _ => ∀ i, i < j → -20 ≤ (ll.getD k []).getD i 0 ∧ (ll.getD k []).getD i 0 ≤ 20) () (Nat.zero_le _) (fun j hj => absurd hj (Nat.not_lt_zero _)) (by simp [LeL, Le1]) (fun _ _ h => h) ?_
      rintro j - n2 - hj hn2 hi
      simp (maxSteps := 2000000) -implicitDefEqProofs (disch := omega) only [xsW, xsC, xsD, xsE, fillA, reduceCtorEq, Nat.reduceAdd, Nat.reduceSub, Nat.reduceLeDiff, Nat.reduceMul, Int.reduceLT, Int.reduceLE, Int.reduceEq, Int.reduceNe, Int.reduceAdd, Int.reduceSub, Int.reduceMul, Int.reduceNeg, Int.reduceToNat]
      (refine cd_dec (fun h5 => ?_) (fun h5 => ?_) <;> simp (maxSteps := 2000000) -implicitDefEqProofs (disch := omega) only [xsW, xsC, xsD, xsE, fillA, reduceCtorEq, Nat.reduceAdd, Nat.reduceSub, Nat.reduceLeDiff, Nat.reduceMul, Int.reduceLT, Int.reduceLE, Int.reduceEq, Int.reduceNe, Int.reduceAdd, Int.reduceSub, Int.reduceMul, Int.reduceNeg, Int.reduceToNat,  h5])
      · simp (maxSteps := 2000000) -implicitDefEqProofs (disch := omega) only [xsW, xsC, xsD, xsE, fillA, reduceCtorEq, Nat.reduceAdd, Nat.reduceSub, Nat.reduceLeDiff, Nat.reduceMul, Int.reduceLT, Int.reduceLE, Int.reduceEq, Int.reduceNe, Int.reduceAdd, Int.reduceSub, Int.reduceMul, Int.reduceNeg, Int.reduceToNat,  s.ia, s.ld, hr.ia, hr.ld]
        refine q_use (spec_l01In _ _ _ _ _) fun n3 hn3 => ?_
        simp (maxSteps := 2000000) -implicitDefEqProofs (disch := omega) only [xsW, xsC, xsD, xsE, fillA, reduceCtorEq, Nat.reduceAdd, Nat.reduceSub, Nat.reduceLeDiff, Nat.reduceMul, Int.reduceLT, Int.reduceLE, Int.reduceEq, Int.reduceNe, Int.reduceAdd, Int.reduceSub, Int.reduceMul, Int.reduceNeg, Int.reduceToNat]
        (refine cd_dec (fun h6 => ?_) (fun h6 => ?_) <;> simp (maxSteps := 2000000) -implicitDefEqProofs (disch := omega) only [xsW, xsC, xsD, xsE, fillA, reduceCtorEq, Nat.reduceAdd, Nat.reduceSub, Nat.reduceLeDiff, Nat.reduceMul, Int.reduceLT, Int.reduceLE, Int.reduceEq, Int.reduceNe, Int.reduceAdd, Int.reduceSub, Int.reduceMul, Int.reduceNeg, Int.reduceToNat,  h6])
        · refine isMat_f fun hx => ?_
          have hw := (hx.2.2 k hk').2
          rw [within_iff] at hw
          have := hw j (by omega)
          omega
        · exact ⟨(), fun i hi' => (Nat.lt_succ_iff_lt_or_eq.1 hi').elim (hi i) (fun e => by rw [e]; omega), by omega, by omega, (by simp [LeL, Le1])⟩
      · refine ⟨(), fun i hi' => (Nat.lt_succ_iff_lt_or_eq.1 hi').elim (he i) (fun e => ?_), by omega, by omega, (by simp [LeL, Le1])⟩
        rw [e, within_iff]
        exact ⟨by omega, fun i hi' => hi i (by omega)⟩
  · symm; rw [isMat_iff]
    exact ⟨by omega, by omega, fun j hj => he j (by omega)⟩
theorem spec_IsMatrix {w : Bool} {lo hi : Nat} {h : AH} {v : AV} {vs : List AV} {ll : List (List Int)} (s : Rows w lo hi h v vs ll) (hl : ll.length ≤ 1048576) (n : Nat) :
    Q Try.prog 48 [v] h n (.bool (isMat ll)) := by
  refine q_intro Try.func48 k_spec_IsMatrix ?_
  simp (maxSteps := 2000000) -implicitDefEqProofs (disch := omega) only [c_spec_IsMatrix, xsW, xsC, xsD, xsE, fillA, reduceCtorEq, Nat.reduceAdd, Nat.reduceSub, Nat.reduceLeDiff, Nat.reduceMul, Int.reduceLT, Int.reduceLE, Int.reduceEq, Int.reduceNe, Int.reduceAdd, Int.reduceSub, Int.reduceMul, Int.reduceNeg, Int.reduceToNat]
  refine q_use (spec_l01Matrix s hl _) fun n1 hn1 => ?_
  simp (maxSteps := 2000000) -implicitDefEqProofs (disch := omega) only [xsW, xsC, xsD, xsE, fillA, reduceCtorEq, Nat.reduceAdd, Nat.reduceSub, Nat.reduceLeDiff, Nat.reduceMul, Int.reduceLT, Int.reduceLE, Int.reduceEq, Int.reduceNe, Int.reduceAdd, Int.reduceSub, Int.reduceMul, Int.reduceNeg, Int.reduceToNat]
end Go.Proofs.Ytkpibnhddhdooaa.L
