import Derived.Test.YtkpibnhddhdooaaM3
import Derived.Test.YtkpibnhddhdooaaJ3
/- Sets as bits of numbers: no program in sight. -/
namespace Go.Proofs.Ytkpibnhddhdooaa.L
open Go
/-- The bit i of s, as the program asks for it. -/
def bitI (s : Int) (i : Nat) : Int := bitv .and .i64 (s.fdiv (2 ^ (min i 64))) 1
def hasB (s : Int) (i : Nat) : Bool := decide (bitI s i = 1)
theorem bitv_one (x : Int) : bitv .and .i64 x 1 = x % 2 := by
  simp only [bitv]
  have h : (BitVec.ofInt IntKind.i64.bits x &&& BitVec.ofInt IntKind.i64.bits 1).toNat = (x % 2).toNat := by
    simp only [BitVec.toNat_and, BitVec.toNat_ofInt]
    have e : ((1 : Int) % ((2 ^ IntKind.i64.bits : Nat) : Int)).toNat = 1 := by decide
    rw [e, Nat.and_one_is_mod]
    have h2 : ((2 ^ IntKind.i64.bits : Nat) : Int) = 18446744073709551616 := by decide
    rw [h2]
    omega
  rw [h]
  have : ((x % 2).toNat : Int) = x % 2 := by omega
  rw [this]
  exact wrap_in (by unfold in64; omega)
theorem bitI_eq (s : Int) (i : Nat) : bitI s i = s.fdiv (2 ^ (min i 64)) % 2 := bitv_one _
theorem bitI_or (s : Int) (i : Nat) : bitI s i = 0 ∨ bitI s i = 1 := by rw [bitI_eq]; omega
theorem hasB_t {s : Int} {i : Nat} : hasB s i = true ↔ bitI s i = 1 := by simp [hasB]
theorem hasB_f {s : Int} {i : Nat} : hasB s i = false ↔ bitI s i = 0 := by
  have := bitI_or s i
  simp only [hasB, decide_eq_false_iff_not]; omega
/-- The places below n that a set has. -/
def places (s : Int) (n : Nat) : List Nat := (List.range n).filter (hasB s)
theorem places_succ (s : Int) (n : Nat) : places s (n + 1) = places s n ++ (if hasB s n then [n] else []) := by
  simp only [places, List.range_succ, List.filter_append]
  congr 1
  cases h : hasB s n <;> simp [h]
theorem places_lt {s : Int} {n i : Nat} (h : i ∈ places s n) : i < n := by simp only [places, List.mem_filter, List.mem_range] at h; exact h.1
theorem places_len (s : Int) (n : Nat) : (places s n).length ≤ n := by
  have := List.length_filter_le (hasB s) (List.range n)
  simpa [places] using this
theorem places_nodup (s : Int) (n : Nat) : (places s n).Nodup := List.nodup_range.filter _
/-- The rows and columns of two sets. -/
def partL (ll : List (List Int)) (s t : Int) : List (List Int) := (places s ll.length).map fun i => (places t ll.length).map fun k => at2 ll i k
/-- How many elements a set has. -/
def popc (s : Int) : Nat := (places s 5).length
theorem pop_step : ∀ s : Fin 32, s.val ≠ 0 → ∃ t : Fin 32, t.val < s.val ∧ bitv .and .i64 (s.val : Int) ((s.val : Int) - 1) = (t.val : Int) ∧ popc (s.val : Int) = popc (t.val : Int) + 1 := by decide +kernel
theorem pop_half : ∀ s : Fin 32, popc (s.val : Int) = popc ((s.val / 2 : Nat) : Int) + s.val % 2 := by decide +kernel
theorem pop_zero : popc 0 = 0 := by decide +kernel
theorem getD_map {α β : Type} (l : List α) (f : α → β) (k : Nat) (d : α) (e : β) (hk : k < l.length) : (l.map f).getD k e = f (l.getD k d) := by simp [List.getD, hk]
theorem partL_len (ll : List (List Int)) (s t : Int) : (partL ll s t).length = (places s ll.length).length := by simp [partL]
theorem partL_row (ll : List (List Int)) (s t : Int) {a : Nat} (ha : a < (places s ll.length).length) : (partL ll s t).getD a [] = (places t ll.length).map fun k => at2 ll ((places s ll.length).getD a 0) k :=
  getD_map _ _ _ 0 _ ha
theorem partL_at (ll : List (List Int)) (s t : Int) {a b : Nat} (ha : a < (places s ll.length).length) (hb : b < (places t ll.length).length) : at2 (partL ll s t) a b = at2 ll ((places s ll.length).getD a 0) ((places t ll.length).getD b 0) := by
  unfold at2
  rw [partL_row ll s t ha]
  exact getD_map _ _ _ 0 _ hb
theorem partL_sq (ll : List (List Int)) (s t : Int) (h : (places s ll.length).length = (places t ll.length).length) : Sq (places s ll.length).length (partL ll s t) :=
  ⟨partL_len .., fun k hk => by rw [partL_row ll s t hk]; simp [h]⟩
theorem nodup_getD {l : List Nat} (h : l.Nodup) {a b : Nat} (ha : a < l.length) (hb : b < l.length) (e : l.getD a 0 = l.getD b 0) : a = b := by
  simp only [List.getD, List.getElem?_eq_getElem ha, List.getElem?_eq_getElem hb, Option.getD_some] at e
  exact (List.getElem_inj h).1 e
theorem getD_places_lt {s : Int} {n a : Nat} (ha : a < (places s n).length) : (places s n).getD a 0 < n := by
  refine places_lt (s := s) ?_
  simp [List.getD, ha]
theorem partL_lim {q : Nat} (ll : List (List Int)) (s t : Int) (h : (places s ll.length).length = (places t ll.length).length) (hl : Lim q ll.length (mx ll)) : ∃ q', Lim q' (places s ll.length).length (mx (partL ll s t)) := by
  obtain ⟨q', h'⟩ := hl.sub (m := (places s ll.length).length) (fun a => (places s ll.length).getD a 0) (fun b => (places t ll.length).getD b 0) (fun a ha => getD_places_lt ha) (fun a ha => getD_places_lt (by omega))
    (fun a b ha hb e => nodup_getD (places_nodup _ _) (by omega) (by omega) e)
  refine ⟨q', fun r c hr hc => ?_⟩
  have := h' r c hr hc
  unfold mx at this ⊢
  rw [partL_at ll s t hr (by omega)]
  exact this
end Go.Proofs.Ytkpibnhddhdooaa.L
