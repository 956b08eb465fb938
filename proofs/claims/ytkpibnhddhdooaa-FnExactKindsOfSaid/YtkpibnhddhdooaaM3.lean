/- Elimination without fractions, on lists of rows: no program in sight. -/
import Derived.Test.YtkpibnhddhdooaaM2
namespace Go.Proofs.Ytkpibnhddhdooaa.L
def at2 (ll : List (List Int)) (i k : Nat) : Int := (ll.getD i []).getD k 0
/-- Rows as a matrix. -/
def mx (ll : List (List Int)) : Mx := fun r c => at2 ll r c
def Sq (n : Nat) (ll : List (List Int)) : Prop := ll.length = n ∧ ∀ k, k < n → (ll.getD k []).length = n
/-- The stage i of the elimination: R are the rows in the order that they have now. -/
structure Bare (n i : Nat) (R : Mx) (last : Int) (ll : List (List Int)) : Prop where
  sq : Sq n ll
  lst : last = det i R
  ne : last ≠ 0
  ent : ∀ r c, i ≤ r → r < n → i ≤ c → c < n → at2 ll r c = bord i R r c
  lim : ∃ q, Lim q n R
theorem Bare.start {n : Nat} {ll : List (List Int)} (hs : Sq n ll) (hl : ∃ q, Lim q n (mx ll)) : Bare n 0 (mx ll) 1 ll :=
  ⟨hs, rfl, by decide, fun r c _ _ _ _ => by rw [bord_zero]; rfl, hl⟩
def swp (i j k : Nat) : Nat := if k = i then j else if k = j then i else k
theorem Bare.swap {n i j : Nat} {R : Mx} {last : Int} {ll ll' : List (List Int)} (b : Bare n i R last ll) (hij : i ≤ j) (hj : j < n) (hs : Sq n ll') (he : ∀ r c, r < n → c < n → at2 ll' r c = at2 ll (swp i j r) c) :
    Bare n i (fun r => R (swp i j r)) last ll' ∧ (i ≠ j → det n (fun r => R (swp i j r)) = -det n R) := by
  have low : ∀ a, a < i → swp i j a = a := fun a ha => by unfold swp; rw [if_neg (by omega), if_neg (by omega)]
  have hlt : ∀ r, r < n → swp i j r < n := fun r hr => by unfold swp; split <;> (try split) <;> omega
  have hge : ∀ r, i ≤ r → i ≤ swp i j r := fun r hr => by unfold swp; split <;> (try split) <;> omega
  refine ⟨⟨hs, ?_, b.ne, fun r c hr1 hr2 hc1 hc2 => ?_, ?_⟩, fun hne => ?_⟩
  · rw [b.lst]; exact det_congr fun r c hr hc => by simp only [low r hr]
  · rw [he r c hr2 hc2, b.ent _ c (hge r hr1) (hlt r hr2) hc1 hc2]
    refine det_congr fun a k ha hk => ?_
    by_cases e : a < i
    · simp only [if_pos e, low a e]
    · simp only [if_neg e]
  · obtain ⟨q, hq⟩ := b.lim
    exact ⟨q, fun r c hr hc => hq _ c (hlt r hr) hc⟩
  · refine det_swapr hne (by omega) hj R _ (fun r => ?_) (fun r => ?_) (fun r k h1 h2 => ?_)
    · simp [swp]
    · simp only [swp, if_true]; rw [if_neg (by omega)]
    · simp [swp, h1, h2]
theorem Bare.none {n i : Nat} {R : Mx} {last : Int} {ll : List (List Int)} (b : Bare n i R last ll) (hi : i < n) (h : ∀ r, i ≤ r → r < n → at2 ll r i = 0) : det n R = 0 := by
  have := no_pivot hi R fun r h1 h2 => by rw [← b.ent r i h1 h2 (Nat.le_refl _) hi]; exact h r h1 h2
  rw [← b.lst] at this
  exact (Int.mul_eq_zero.1 this).resolve_left b.ne
theorem bord_dup {i c : Nat} {R : Mx} {r : Nat} (hc : c < i) : bord i R r c = 0 :=
  det_eq (a := c) (b := i) (by omega) (by omega) (by omega) fun k => by simp [hc]
theorem bord_lead (i : Nat) (R : Mx) : bord i R i i = det (i + 1) R :=
  det_congr fun a b ha hb => by
    rw [show (if a < i then a else i) = a by split <;> omega, show (if b < i then b else i) = b by split <;> omega]
theorem Tm_le {n : Nat} (h : n ≤ 5) : Tm n ≤ 12288000000 := by
  match n, h with
  | 0, _ | 1, _ | 2, _ | 3, _ | 4, _ | 5, _ => decide
theorem Tm_le4 {n : Nat} (h : n ≤ 4) : Tm n ≤ 61440000 := by
  match n, h with
  | 0, _ | 1, _ | 2, _ | 3, _ | 4, _ => decide
/-- What a step computes: small enough, and the entry of the next stage. -/
theorem Bare.val {n i : Nat} {R : Mx} {last : Int} {ll : List (List Int)} (b : Bare n i R last ll) (hn : n ≤ 5) {r c : Nat} (hr1 : i < r) (hr2 : r < n) (hc1 : i ≤ c) (hc2 : c < n) :
    (-60000000000000000 ≤ bord i R r c * bord i R i i ∧ bord i R r c * bord i R i i ≤ 60000000000000000) ∧ (-60000000000000000 ≤ bord i R r i * bord i R i c ∧ bord i R r i * bord i R i c ≤ 60000000000000000) ∧
    (bord i R r c * bord i R i i - bord i R r i * bord i R i c).tdiv last = bord (i + 1) R r c ∧ (-60000000000 ≤ bord (i + 1) R r c ∧ bord (i + 1) R r c ≤ 60000000000) := by
  obtain ⟨q, hq⟩ := b.lim
  have B : ∀ r c, r < n → c < n → i ≤ c → -153600000 ≤ bord i R r c ∧ bord i R r c ≤ 153600000 := fun r c h1 h2 h3 => by
    have h5 := hq.bord h1 h2 (show i < n by omega) h3
    have h6 := Tm_le4 (n := i + 1) (by omega)
    omega
  have P : ∀ x y : Int, (-153600000 ≤ x ∧ x ≤ 153600000) → (-153600000 ≤ y ∧ y ≤ 153600000) → -60000000000000000 ≤ x * y ∧ x * y ≤ 60000000000000000 := fun x y hx hy => by
    have := mul_bound hx hy
    omega
  refine ⟨P _ _ (B r c hr2 hc2 hc1) (B i i (by omega) (by omega) (Nat.le_refl _)), P _ _ (B r i hr2 (by omega) (Nat.le_refl _)) (B i c (by omega) hc2 hc1), ?_, ?_⟩
  · rw [show bord i R r i * bord i R i c = bord i R i c * bord i R r i by rw [Int.mul_comm], ← bord_step, ← b.lst, Int.mul_tdiv_cancel_left _ b.ne]
  · by_cases e : c = i
    · rw [bord_dup (by omega)]; omega
    · have h5 := hq.bord (i := i + 1) hr2 hc2 (by omega) (by omega)
      have h6 := Tm_le (n := i + 1 + 1) (by omega)
      omega
theorem Bare.next {n i : Nat} {R : Mx} {last : Int} {ll ll' : List (List Int)} (b : Bare n i R last ll) (hi : i < n) (hp : at2 ll i i ≠ 0) (hs : Sq n ll') (he : ∀ r c, i < r → r < n → i ≤ c → c < n → at2 ll' r c = bord (i + 1) R r c) :
    Bare n (i + 1) R (at2 ll i i) ll' :=
  ⟨hs, by rw [b.ent i i (Nat.le_refl _) hi (Nat.le_refl _) hi, bord_lead], hp, fun r c h1 h2 h3 h4 => he r c (by omega) h2 (by omega) h4, b.lim⟩
theorem det_small {q n : Nat} {A : Mx} (h : Lim q n A) (hn : n ≤ 5) : -60000000000 ≤ det n A ∧ det n A ≤ 60000000000 := by
  have h1 := h.term.1
  have h2 := Tm_le hn
  omega
end Go.Proofs.Ytkpibnhddhdooaa.L
