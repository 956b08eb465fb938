/- Kinds of matrices, told without the program: least numbers, places of a matrix, cofactors, copositive sets. -/
import Derived.Test.YtkpibnhddhdooaaA20
import Derived.Test.YtkpibnhddhdooaaA12
namespace Go.Proofs.Ytkpibnhddhdooaa.L
open Go
/-- The least of a list. -/
def minL : List Int → Int
  | [] => 0
  | x :: l => l.foldl min x
theorem minL_one (x : Int) : minL [x] = x := rfl
theorem minL_app {l : List Int} (h : l ≠ []) (x : Int) : minL (l ++ [x]) = min (minL l) x := by
  cases l with
  | nil => exact absurd rfl h
  | cons a l => simp [minL, List.foldl_append]
theorem take_app (l : List Int) {k : Nat} (h : k < l.length) : l.take (k + 1) = l.take k ++ [l.getD k 0] := by
  rw [List.take_add_one]; simp [List.getD, h]
theorem minL_take {l : List Int} {k : Nat} (h0 : 0 < k) (h : k < l.length) : minL (l.take (k + 1)) = min (minL (l.take k)) (l.getD k 0) := by
  rw [take_app l h, minL_app]
  intro e
  have := congrArg List.length e
  rw [List.length_take, List.length_nil] at this; omega
theorem minL_le {l : List Int} {x : Int} (h : x ∈ l) : minL l ≤ x := by
  cases l with
  | nil => simp at h
  | cons a l =>
    simp only [minL]
    have key : ∀ (m : List Int) (a : Int), m.foldl min a ≤ a ∧ ∀ x ∈ m, m.foldl min a ≤ x := by
      intro m
      induction m with
      | nil => intro a; simp
      | cons b m ih =>
        intro a
        have h1 := ih (min a b)
        simp only [List.foldl_cons]
        refine ⟨by omega, fun x hx => ?_⟩
        rcases List.mem_cons.1 hx with rfl | hx
        · omega
        · exact h1.2 x hx
    rcases List.mem_cons.1 h with rfl | h
    · exact (key l _).1
    · exact (key l a).2 x h
theorem minL_mem {l : List Int} (h : l ≠ []) : minL l ∈ l := by
  cases l with
  | nil => exact absurd rfl h
  | cons a l =>
    simp only [minL]
    have key : ∀ (m : List Int) (a : Int), m.foldl min a = a ∨ m.foldl min a ∈ m := by
      intro m
      induction m with
      | nil => intro a; simp
      | cons b m ih =>
        intro a
        simp only [List.foldl_cons, List.mem_cons]
        rcases ih (min a b) with e | e
        · rw [e]; omega
        · exact .inr (.inr e)
    rcases key l a with e | e
    · rw [e]; exact List.mem_cons_self
    · exact List.mem_cons_of_mem _ e
theorem minL_ge {l : List Int} (hl : l ≠ []) {b : Int} : b ≤ minL l ↔ ∀ x ∈ l, b ≤ x := by
  constructor
  · intro h x hx
    have := minL_le hx; omega
  · intro h
    exact h _ (minL_mem hl)
/-- All places of a square. -/
def allF (n : Nat) (F : Nat → Nat → Bool) : Bool := (List.range n).all fun i => (List.range n).all fun k => F i k
theorem allF_t {n : Nat} {F : Nat → Nat → Bool} (h : ∀ i k, i < n → k < n → F i k = true) : allF n F = true := by
  simp only [allF, List.all_eq_true, List.mem_range]
  exact fun i hi k hk => h i k hi hk
theorem allF_f {n : Nat} {F : Nat → Nat → Bool} {i k : Nat} (hi : i < n) (hk : k < n) (h : F i k = false) : allF n F = false := by
  cases e : allF n F with
  | false => rfl
  | true =>
    simp only [allF, List.all_eq_true, List.mem_range] at e
    rw [e i hi k hk] at h; cases h
theorem allF_iff {n : Nat} {F : Nat → Nat → Bool} : allF n F = true ↔ ∀ i k, i < n → k < n → F i k = true := by
  simp only [allF, List.all_eq_true, List.mem_range]
  exact ⟨fun h i k hi hk => h i hi k hk, fun h i hi k hk => h i k hi hk⟩
/-- Rows without a row and a column. -/
def wo (r : List (List Int)) (i k m : Nat) : List (List Int) := rowsOf m fun p => cutRow (r.getD (sk i p) []) k
theorem wo_sq {n i k : Nat} {r : List (List Int)} (hs : Sq (n + 1) r) (hk : k < n + 1) : Sq n (wo r i k n) := by
  refine ⟨rowsOf_len _ _, fun j hj => ?_⟩
  have h1 := hs.2 (sk i j) (sk_lt hj)
  rw [wo, rowsOf_get hj, cutRow_len _ _ (by omega), h1]; omega
theorem wo_at {n i k : Nat} {r : List (List Int)} (hs : Sq (n + 1) r) (hk : k < n + 1) {a c : Nat} (ha : a < n) (hc : c < n) : mx (wo r i k n) a c = mi (mx r) i k a c := by
  have h1 := hs.2 (sk i a) (sk_lt ha)
  simp only [mx, at2, mi, wo]
  rw [rowsOf_get ha, cutRow_get _ _ _ (by omega) (by omega)]
theorem wo_lim {n i k : Nat} {r : List (List Int)} (hs : Sq (n + 1) r) (hk : k < n + 1) (hl : ∃ q, Lim q (n + 1) (mx r)) : ∃ q, Lim q n (mx (wo r i k n)) := by
  obtain ⟨q, hq⟩ := hl
  obtain ⟨q', h'⟩ := hq.sub (m := n) (sk i) (sk k) (fun a ha => sk_lt ha) (fun a ha => sk_lt ha) (fun a b _ _ e => by unfold sk at e; grind)
  exact ⟨q', fun a c ha hc => by rw [wo_at hs hk ha hc]; exact h' a c ha hc⟩
theorem ext_getD {α : Type} {l m : List α} {d : α} (h : l.length = m.length) (hg : ∀ i, i < l.length → l.getD i d = m.getD i d) : l = m := by
  refine List.ext_getElem h fun i h1 h2 => ?_
  have := hg i h1
  simpa [List.getD, h1, h2] using this
theorem places_cut_all : ∀ n : Fin 5, ∀ i : Fin 5, i.val < n.val + 1 → places (bitv .andNot .i64 ((pw (n.val + 1) : Int) - 1) (pw i.val : Int)) (n.val + 1) = (List.range n.val).map (sk i.val) := by decide +kernel
theorem places_cut {n i : Nat} (hn : n ≤ 4) (hi : i < n + 1) : places (bitv .andNot .i64 ((pw (n + 1) : Int) - 1) (pw i : Int)) (n + 1) = (List.range n).map (sk i) := places_cut_all ⟨n, by omega⟩ ⟨i, by omega⟩ hi
theorem getD_range_map {α : Type} {n a : Nat} {f : Nat → α} {d : α} (h : a < n) : ((List.range n).map f).getD a d = f a := by simp [List.getD, h]
theorem part_wo {n i k : Nat} {r : List (List Int)} (hn : n ≤ 4) (hs : Sq (n + 1) r) (hi : i < n + 1) (hk : k < n + 1) :
    partL r (bitv .andNot .i64 ((pw (n + 1) : Int) - 1) (pw i : Int)) (bitv .andNot .i64 ((pw (n + 1) : Int) - 1) (pw k : Int)) = wo r i k n := by
  rw [partL, hs.1, places_cut hn hi, places_cut hn hk, wo, rowsOf, List.map_map]
  refine List.map_congr_left fun p hp => ?_
  have hp : p < n := by simpa using hp
  have h1 := hs.2 (sk i p) (sk_lt hp)
  have hc := cutRow_len (r.getD (sk i p) []) k (by omega)
  show ((List.range n).map (sk k)).map (fun c => at2 r (sk i p) c) = _
  rw [List.map_map]
  refine ext_getD (d := 0) (by rw [hc, h1]; simp) fun j hj => ?_
  have hj : j < n := by simpa using hj
  rw [getD_range_map hj, cutRow_get _ _ _ (by omega) (by omega)]
  rfl
/-- The cofactor of a place. -/
def cof (n : Nat) (A : Mx) (i k : Nat) : Int := if (i + k) % 2 = 1 then -det (n - 1) (mi A i k) else det (n - 1) (mi A i k)
theorem mi_lim {n i k : Nat} {A : Mx} (hl : ∃ q, Lim q n A) (hi : i < n) (hk : k < n) : ∃ q, Lim q (n - 1) (mi A i k) := by
  obtain ⟨q, hq⟩ := hl
  obtain ⟨m, rfl⟩ : ∃ m, n = m + 1 := ⟨n - 1, by omega⟩
  exact hq.sub (m := m) (sk i) (sk k) (fun a ha => sk_lt ha) (fun a ha => sk_lt ha) (fun a b _ _ e => by unfold sk at e; grind)
theorem cof_b {n i k : Nat} {A : Mx} (hn : n ≤ 5) (hl : ∃ q, Lim q n A) (hi : i < n) (hk : k < n) : -60000000000 ≤ det (n - 1) (mi A i k) ∧ det (n - 1) (mi A i k) ≤ 60000000000 := by
  obtain ⟨q, hq⟩ := mi_lim hl hi hk
  exact det_small hq (by omega)
/-- The cofactors, row by row, as far as the row i and the column k. -/
def cofR (n : Nat) (A : Mx) : Nat → List Int
  | 0 => []
  | i + 1 => cofR n A i ++ rowOf n (cof n A i)
def cofP (n : Nat) (A : Mx) (i k : Nat) : List Int := cofR n A i ++ rowOf k (cof n A i)
theorem cofP_zero (n : Nat) (A : Mx) (i : Nat) : cofP n A i 0 = cofR n A i := by simp [cofP, rowOf]
theorem cofP_succ (n : Nat) (A : Mx) (i k : Nat) : cofP n A i (k + 1) = cofP n A i k ++ [cof n A i k] := by simp [cofP, rowOf_succ]
theorem cofP_full (n : Nat) (A : Mx) (i : Nat) : cofP n A i n = cofR n A (i + 1) := rfl
theorem cofR_len (n : Nat) (A : Mx) (i : Nat) : (cofR n A i).length = i * n := by
  induction i with
  | zero => simp [cofR]
  | succ i ih => rw [cofR, List.length_append, ih, rowOf_len, Nat.add_mul, Nat.one_mul]
theorem cofP_len (n : Nat) (A : Mx) (i k : Nat) : (cofP n A i k).length = i * n + k := by rw [cofP, List.length_append, cofR_len, rowOf_len]
theorem cofR_mem {n : Nat} {A : Mx} {m : Nat} {x : Int} : x ∈ cofR n A m ↔ ∃ i k, i < m ∧ k < n ∧ x = cof n A i k := by
  induction m with
  | zero => simp [cofR]
  | succ m ih =>
    rw [cofR, List.mem_append, ih]
    simp only [rowOf, List.mem_map, List.mem_range]
    constructor
    · rintro (⟨i, k, h1, h2, h3⟩ | ⟨k, h1, h2⟩)
      · exact ⟨i, k, by omega, h2, h3⟩
      · exact ⟨m, k, by omega, h1, h2.symm⟩
    · rintro ⟨i, k, h1, h2, h3⟩
      by_cases e : i = m
      · subst e; exact .inr ⟨k, h2, h3.symm⟩
      · exact .inl ⟨i, k, by omega, h2, h3⟩
theorem cofP_ge {n : Nat} {A : Mx} (hn : n ≤ 5) (hl : ∃ q, Lim q n A) {i k : Nat} (hi : i ≤ n) (hk : k ≤ n) (hin : i < n ∨ k = 0) : ∀ x ∈ cofP n A i k, -60000000000 ≤ x ∧ x ≤ 60000000000 := by
  intro x hx
  have key : ∀ a c, a < n → c < n → -60000000000 ≤ cof n A a c ∧ cof n A a c ≤ 60000000000 := fun a c ha hc => by
    have := cof_b hn hl ha hc
    unfold cof; split <;> omega
  rcases List.mem_append.1 hx with h | h
  · obtain ⟨a, c, h1, h2, rfl⟩ := cofR_mem.1 h
    exact key a c (by omega) h2
  · simp only [rowOf, List.mem_map, List.mem_range] at h
    obtain ⟨c, h1, rfl⟩ := h
    exact key i c (by omega) (by omega)
/-- A running least number and whether none was there yet. -/
def runL (l : List Int) : Int × Bool := if l = [] then (0, true) else (minL l, false)
theorem runL_app (l : List Int) (x : Int) : runL (l ++ [x]) = (if (runL l).2 = true ∨ x < (runL l).1 then x else (runL l).1, false) := by
  unfold runL
  rw [if_neg (by simp)]
  by_cases h : l = []
  · subst h; simp [minL]
  · rw [if_neg h, minL_app h]
    simp only [Bool.false_eq_true, false_or, Prod.mk.injEq, and_true]
    split <;> omega
/-- A set that is against being copositive. -/
def badS (ll : List (List Int)) (b : Int) (s : Nat) : Bool :=
  decide (minorOf ll (s : Int) (s : Int) < b) && decide (b ≤ minL (cofR (places (s : Int) ll.length).length (mx (partL ll (s : Int) (s : Int))) (places (s : Int) ll.length).length))
def copB (ll : List (List Int)) (b : Int) : Bool := (List.range (pw ll.length)).all fun s => decide (s = 0) || !badS ll b s
theorem copB_t {ll : List (List Int)} {b : Int} (h : ∀ s, 1 ≤ s → s < pw ll.length → badS ll b s = false) : copB ll b = true := by
  simp only [copB, List.all_eq_true, List.mem_range, Bool.or_eq_true, decide_eq_true_eq, Bool.not_eq_true']
  exact fun s hs => (Nat.eq_zero_or_pos s).imp id fun h0 => h s h0 hs
theorem copB_f {ll : List (List Int)} {b : Int} {s : Nat} (h1 : 1 ≤ s) (h2 : s < pw ll.length) (h : badS ll b s = true) : copB ll b = false := by
  cases e : copB ll b with
  | false => rfl
  | true =>
    simp only [copB, List.all_eq_true, List.mem_range, Bool.or_eq_true, decide_eq_true_eq, Bool.not_eq_true'] at e
    rcases e s h2 with h0 | h0
    · omega
    · rw [h0] at h; cases h
theorem pop_pos_all : ∀ n : Fin 6, ∀ s : Fin 32, s.val < pw n.val → 1 ≤ s.val → 1 ≤ (places (s.val : Int) n.val).length := by decide +kernel
theorem pop_pos {n s : Nat} (hn : n ≤ 5) (hs : s < pw n) (h1 : 1 ≤ s) : 1 ≤ (places (s : Int) n).length := by
  have := pw_le hn
  exact pop_pos_all ⟨n, by omega⟩ ⟨s, by omega⟩ hs h1
/-- The sum of a row's other numbers. -/
def othV (ll : List (List Int)) (i : Nat) : Int := sumTo ll.length fun k => if k = i then 0 else ((at2 ll i k).natAbs : Int)
theorem oth_sum {n i : Nat} {f : Nat → Int} (hi : i < n) : (sumTo n fun k => if k = i then 0 else f k) = -f i + sumTo n f := by
  have h : sumTo n f = sumTo n fun k => (if k = i then 0 else f k) + (if k = i then f k else 0) := sumTo_congr fun k _ => by split <;> omega
  have h2 := sumTo_add (n := n) (f := fun k => if k = i then 0 else f k) (g := fun k => if k = i then f k else 0)
  have h3 := sumTo_one (n := n) (c := i) (f := fun k => if k = i then f k else 0) hi fun k _ hk => if_neg hk
  simp only [if_true] at h3
  omega
def domB (ll : List (List Int)) : Bool := (List.range ll.length).all fun i => decide (othV ll i < (at2 ll i i).natAbs)
theorem domB_t {ll : List (List Int)} (h : ∀ i, i < ll.length → othV ll i < (at2 ll i i).natAbs) : domB ll = true := by
  simp only [domB, List.all_eq_true, List.mem_range, decide_eq_true_eq]; exact h
theorem domB_f {ll : List (List Int)} {i : Nat} (hi : i < ll.length) (h : (at2 ll i i).natAbs ≤ othV ll i) : domB ll = false := by
  cases e : domB ll with
  | false => rfl
  | true =>
    simp only [domB, List.all_eq_true, List.mem_range, decide_eq_true_eq] at e
    have := e i hi; omega
theorem oth_b {ll : List (List Int)} (hm : isMat ll = true) {i k : Nat} (hi : i < ll.length) (hk : k ≤ ll.length) : 0 ≤ sumTo k (fun k => ((at2 ll i k).natAbs : Int)) ∧ sumTo k (fun k => ((at2 ll i k).natAbs : Int)) ≤ k * 20 := by
  induction k with
  | zero => simp [sumTo]
  | succ k ih =>
    have := ih (by omega)
    have := isMat_at hm hi (k := k) (by omega)
    rw [sumTo]; omega
theorem oth_b2 {ll : List (List Int)} (hm : isMat ll = true) {i k : Nat} (hi : i < ll.length) (hk : k ≤ ll.length) : 0 ≤ sumTo k (fun k => if k = i then 0 else ((at2 ll i k).natAbs : Int)) ∧ sumTo k (fun k => if k = i then 0 else ((at2 ll i k).natAbs : Int)) ≤ k * 20 := by
  induction k with
  | zero => simp [sumTo]
  | succ k ih =>
    have := ih (by omega)
    have := isMat_at hm hi (k := k) (by omega)
    rw [sumTo]; split <;> omega
/-- The twelve kinds. -/
def zB (ll : List (List Int)) : Bool := allF ll.length fun i k => decide (i = k) || decide (at2 ll i k ≤ 0)
def upB (ll : List (List Int)) : Bool := allF ll.length fun i k => decide (k ≤ i) || decide (at2 ll i k = 0)
def loB (ll : List (List Int)) : Bool := allF ll.length fun i k => decide (i ≤ k) || decide (at2 ll i k = 0)
def sameB (ll : List (List Int)) : Bool := allF ll.length fun i k => decide (at2 ll i k = at2 ll k i)
def pB (ll : List (List Int)) (b : Int) : Bool := decide (b ≤ minL (minorsL ll))
def kindB (ll : List (List Int)) (kind : Int) : Bool :=
  if kind = 0 then pB ll 1 else if kind = 1 then pB ll 0 else if kind = 2 then zB ll else if kind = 3 then zB ll && pB ll 1 else if kind = 4 then pB (cmpF2 ll) 1
  else if kind = 5 then pB (symF ll) 1 else if kind = 6 then pB (symF ll) 0 else if kind = 7 then copB (symF ll) 0 else if kind = 8 then copB (symF ll) 1
  else if kind = 9 then sameB ll else if kind = 10 then domB ll else upB ll || loB ll
theorem rowsOf_at {n : Nat} {F : Nat → Nat → Int} {i k : Nat} (hi : i < n) (hk : k < n) : at2 (rowsOf n fun i => rowOf n (F i)) i k = F i k := by
  rw [at2, rowsOf_get hi, rowOf_get hk]
theorem zB_cmp (ll : List (List Int)) : zB (cmpF2 ll) = true := by
  refine allF_t fun i k hi hk => ?_
  rw [cmpF2, rowsOf_len] at hi hk
  rw [cmpF2, rowsOf_at hi hk]
  unfold cmp2
  by_cases h : i = k
  · simp [h]
  · rw [if_neg h, Bool.or_eq_true]
    exact .inr (decide_eq_true (by omega))
theorem rowsOf_sq (n : Nat) (F : Nat → Nat → Int) : Sq n (rowsOf n fun i => rowOf n (F i)) := ⟨rowsOf_len _ _, fun k hk => by rw [rowsOf_get hk, rowOf_len]⟩
theorem rowsOf_lim {n : Nat} {F : Nat → Nat → Int} (h : ∀ i k, i < n → k < n → -40 ≤ F i k ∧ F i k ≤ 40) : ∃ q, Lim q n (mx (rowsOf n fun i => rowOf n (F i))) :=
  ⟨n, fun r c hr hc => by rw [mx, rowsOf_at hr hc]; have := h r c hr hc; split <;> omega⟩
theorem symF_facts {ll : List (List Int)} (hm : isMat ll = true) : (symF ll).length = ll.length ∧ Sq ll.length (symF ll) ∧ ∃ q, Lim q ll.length (mx (symF ll)) :=
  ⟨rowsOf_len _ _, rowsOf_sq _ _, rowsOf_lim fun i k hi hk => by have := isMat_at hm hi hk; have := isMat_at hm hk hi; omega⟩
theorem cmpF_facts {ll : List (List Int)} (hm : isMat ll = true) : (cmpF2 ll).length = ll.length ∧ Sq ll.length (cmpF2 ll) ∧ ∃ q, Lim q ll.length (mx (cmpF2 ll)) :=
  ⟨rowsOf_len _ _, rowsOf_sq _ _, rowsOf_lim fun i k hi hk => by have := isMat_at hm hi hk; unfold cmp2; split <;> omega⟩
end Go.Proofs.Ytkpibnhddhdooaa.L
