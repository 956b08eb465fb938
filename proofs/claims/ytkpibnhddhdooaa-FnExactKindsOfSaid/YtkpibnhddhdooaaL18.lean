import Derived.Test.YtkpibnhddhdooaaJ3
/- Lists that grow by append. -/
namespace Go.Proofs.Ytkpibnhddhdooaa.L
open Go
set_option linter.unusedSimpArgs false
set_option linter.unusedVariables false

/-- v is a list under way: nil, empty in a block of its own, or grown. -/
structure Acc (lo hi : Nat) (h : AH) (ty es : Nat) (v : AV) (cs : List AV) : Prop where
  len : cs.length = slen v * es
  shape : v = .nilsl ∨ (∃ i b, v = .sl i 0 0 0 ∧ lo ≤ i ∧ i < hi ∧ h i = some b ∧ b.wr = true) ∨ ∃ i m, v = .so i m ∧ lo ≤ i ∧ i < hi ∧ h i = some ⟨ty, cs, true, es⟩

section
variable {lo hi : Nat} {h : AH} {ty es : Nat} {v : AV} {cs : List AV}
theorem Acc.nil : Acc lo hi h ty es .nilsl [] := ⟨by simp [slen], .inl rfl⟩
theorem Acc.empty {i : Nat} {b : Blk} (hb : h i = some b) (hw : b.wr = true) (h1 : lo ≤ i) (h2 : i < hi) : Acc lo hi h ty es (.sl i 0 0 0) [] := ⟨by simp [slen], .inr (.inl ⟨i, b, rfl, h1, h2, hb, hw⟩)⟩
theorem Acc.keep1 {h' : AH} (a : Acc lo hi h ty es v cs) (k : isSl v = true → h' (bid v) = h (bid v)) : Acc lo hi h' ty es v cs :=
  ⟨a.len, a.shape.imp id (Or.imp (fun ⟨i, b, h1, h2, h3, h4, h5⟩ => ⟨i, b, h1, h2, h3, by subst h1; have := k rfl; simp only [bid] at this; rw [this]; exact h4, h5⟩)
    fun ⟨i, m, h1, h2, h3, h4⟩ => ⟨i, m, h1, h2, h3, by subst h1; have := k rfl; simp only [bid] at this; rw [this]; exact h4⟩)⟩
theorem Acc.own (a : Acc lo hi h ty es v cs) (hs : isSl v = true) : lo ≤ bid v ∧ bid v < hi := by
  rcases a.shape with rfl | ⟨i, b, rfl, h1, h2, _⟩ | ⟨i, m, rfl, h1, h2, _⟩
  · simp [isSl] at hs
  · exact ⟨h1, h2⟩
  · exact ⟨h1, h2⟩
theorem Acc.keep {h' : AH} (a : Acc lo hi h ty es v cs) (k : ∀ i, lo ≤ i → i < hi → h' i = h i) : Acc lo hi h' ty es v cs := a.keep1 fun hs => k _ (a.own hs).1 (a.own hs).2
theorem Acc.wide {lo' hi' : Nat} (a : Acc lo hi h ty es v cs) (h1 : lo' ≤ lo) (h2 : hi ≤ hi') : Acc lo' hi' h ty es v cs :=
  ⟨a.len, a.shape.imp id (Or.imp (fun ⟨i, b, g1, g2, g3, g⟩ => ⟨i, b, g1, by omega, by omega, g⟩) fun ⟨i, m, g1, g2, g3, g⟩ => ⟨i, m, g1, by omega, by omega, g⟩)⟩
theorem Acc.any (a : Acc lo hi h ty es v cs) : v = .nilsl ∨ v = .sl0 ∨ isSl v = true := by
  rcases a.shape with rfl | ⟨i, b, rfl, _⟩ | ⟨i, m, rfl, _⟩
  · exact .inl rfl
  · exact .inr (.inr (by simp [isSl]))
  · exact .inr (.inr rfl)
/-- A list under way is a slice. -/
theorem Acc.sl (a : Acc lo hi h ty es v cs) : Sl true lo hi h es v cs := by
  have hl := a.len
  rcases a.shape with rfl | ⟨i, b, rfl, h1, h2, hb, hw⟩ | ⟨i, m, rfl, h1, h2, hb⟩
  · exact ⟨hl, .inl rfl⟩
  · have : cs = [] := by simpa [slen] using hl
    subst this
    exact ⟨hl, .inr (.inr ⟨by simp [isSl], h1, h2, b, hb, fun _ => hw, by simp [boff], by simp [cutA]⟩)⟩
  · exact Sl.of_so hb hl h1 h2
/-- append to a list under way. -/
theorem app_acc {n0 : Nat} {W : Nat → Prop} {n m : Nat} {x : AV} {xs : List AV} {K : AV → AH → Nat → Prop} (a : Acc lo n h ty es v cs) (hlo : n0 ≤ lo) (hln : lo ≤ n) (hx : Src h es x m xs) (hxl : xs.length = m * es) (h1 : xs.all AV.one = true) (hm : slen v + m ≤ 1073741824)
    (k : ∀ v' h' n', n ≤ n' → n' ≤ n + 1 → Acc lo n' h' ty es v' (cs ++ xs) → (∀ j, j < n → (isSl v = true → j ≠ bid v) → h' j = h j) → (∀ j, j < lo → h' j = h j) → (v' = v ∧ h' = h ∨ isSl v' = true ∧ bid v' = n) → K v' h' n') :
    AppC n0 W ty es v x h n K := by
  have hl := a.len
  rcases a.shape with rfl | ⟨i, b, rfl, g1, g2, hb, hw⟩ | ⟨i, m0, rfl, g1, g2, hb⟩
  · have hc : cs = [] := by simpa [slen] using hl
    subst hc
    by_cases h0 : m = 0
    · subst h0
      have : xs = [] := by simpa using hxl
      subst this
      exact ⟨_, _, _, none', App.nil0 hx, fun _ _ h => h.elim, k _ _ _ (Nat.le_refl _) (by omega) (by simpa using a) (fun _ _ _ => rfl) (fun _ _ => rfl) (.inl ⟨rfl, rfl⟩)⟩
    · exact ⟨_, _, _, none', App.nil hx h1 h0 (by simpa [slen] using hm), fun _ _ h => h.elim,
        k _ _ _ (by omega) (Nat.le_refl _) ⟨by simp [slen, hxl], .inr (.inr ⟨n, m, rfl, hln, by omega, by simp [upd]⟩)⟩ (fun j hj _ => upd_other (by omega)) (fun j hj => upd_other (by omega)) (.inr ⟨rfl, rfl⟩)⟩
  · have hc : cs = [] := by simpa [slen] using hl
    subst hc
    by_cases h0 : m = 0
    · subst h0
      have : xs = [] := by simpa using hxl
      subst this
      exact ⟨_, _, _, none', App.same hx (Nat.le_refl _), fun _ _ h => h.elim, k _ _ _ (Nat.le_refl _) (by omega) (by simpa using a) (fun _ _ _ => rfl) (fun _ _ => rfl) (.inl ⟨rfl, rfl⟩)⟩
    · have hos : Src h es (.sl i 0 0 0) 0 [] := ⟨rfl, b, hb, by simp, by simp [cutA]⟩
      exact ⟨_, _, _, none', App.grow hos hx h1 h0 (by omega) (by simpa [slen] using hm), fun _ _ h => h.elim,
        k _ _ _ (by omega) (Nat.le_refl _) ⟨by simp [slen, hxl], .inr (.inr ⟨n, 0 + m, rfl, hln, by omega, by simp [upd]⟩)⟩ (fun j hj _ => upd_other (by omega)) (fun j hj => upd_other (by omega)) (.inr ⟨rfl, rfl⟩)⟩
  · refine ⟨_, _, _, (· = i), App.open_ hb rfl rfl rfl hl hx h1 (by simpa [slen] using hm) g2, fun j _ hj => .inl (by subst hj; omega),
      k _ _ _ (by omega) (Nat.le_refl _) ⟨by simp only [slen, List.length_append, hxl, hl, Nat.add_mul], .inr (.inr ⟨n, m0 + m, rfl, hln, by omega, by simp [upd]⟩)⟩ (fun j hj hne => ?_) (fun j hj => ?_) (.inr ⟨rfl, rfl⟩)⟩
    · have := hne rfl
      simp only [bid] at this
      rw [upd_other (by omega), upd_other this]
    · rw [upd_other (by omega), upd_other (by omega)]
end
/-- Rows under way: a list of rows that grows, all in new memory from n to m. -/
structure Grow (n m : Nat) (h hp : AH) (ty : Nat) (out : AV) (ws : List AV) (ll : List (List Int)) : Prop where
  le : n ≤ m
  old : ∀ i, i < n → hp i = h i
  acc : Acc n m hp ty 1 out ws
  rows : RowsV true n m hp ws ll
  apart : ∀ j, j < ll.length → isSl (ws.getD j .any) = true → isSl out = true → bid (ws.getD j .any) ≠ bid out
theorem Grow.start {n : Nat} {h : AH} {ty : Nat} : Grow n n h h ty .nilsl [] [] := ⟨Nat.le_refl _, fun _ _ => rfl, Acc.nil, RowsV.nil, fun j hj => absurd hj (Nat.not_lt_zero _)⟩
theorem Grow.start0 {n : Nat} {h : AH} {ty : Nat} {b : Blk} (hw : b.wr = true) : Grow n (n + 1) h (upd h n (some b)) ty (.sl n 0 0 0) [] [] :=
  ⟨by omega, fun i hi => upd_other (by omega), Acc.empty (upd_same _ _ _) hw (Nat.le_refl _) (by omega), RowsV.nil, fun j hj => absurd hj (Nat.not_lt_zero _)⟩
/-- The numbers f 0 .. f (n-1). -/
def rowOf (n : Nat) (f : Nat → Int) : List Int := (List.range n).map f
theorem rowOf_len (n : Nat) (f : Nat → Int) : (rowOf n f).length = n := by simp [rowOf]
theorem rowOf_succ (n : Nat) (f : Nat → Int) : rowOf (n + 1) f = rowOf n f ++ [f n] := by simp [rowOf, List.range_succ]
theorem rowOf_get {n j : Nat} {f : Nat → Int} (hj : j < n) : (rowOf n f).getD j 0 = f j := by simp [rowOf, List.getD, hj]
def rowsOf (n : Nat) (f : Nat → List Int) : List (List Int) := (List.range n).map f
theorem rowsOf_len (n : Nat) (f : Nat → List Int) : (rowsOf n f).length = n := by simp [rowsOf]
theorem rowsOf_succ (n : Nat) (f : Nat → List Int) : rowsOf (n + 1) f = rowsOf n f ++ [f n] := by simp [rowsOf, List.range_succ]
theorem rowsOf_get {n j : Nat} {f : Nat → List Int} (hj : j < n) : (rowsOf n f).getD j [] = f j := by simp [rowsOf, List.getD, hj]
theorem ints_snoc (l : List Int) (x : Int) : ints l ++ [.int .i64 x] = ints (l ++ [x]) := by simp [ints]
/-- A list of numbers under way, one more. -/
theorem app_int {lo n0 n : Nat} {W : Nat → Prop} {h : AH} {ty : Nat} {v x : AV} {l : List Int} {y : Int} {K : AV → AH → Nat → Prop} (a : Acc lo n h ty 1 v (ints l)) (hlo : n0 ≤ lo) (hln : lo ≤ n) (hx : Src h 1 x 1 [.int .i64 y]) (hl : l.length ≤ 1048576)
    (k : ∀ v' h' n', n ≤ n' → Acc lo n' h' ty 1 v' (ints (l ++ [y])) → (∀ j, j < lo → h' j = h j) → K v' h' n') : AppC n0 W ty 1 v x h n K := by
  have hs : slen v = l.length := by have := a.len; rw [ints_len] at this; omega
  exact app_acc a hlo hln hx rfl rfl (by omega) fun v' h' n' k1 _ k3 _ k5 _ => k v' h' n' k1 (by rw [← ints_snoc]; exact k3) k5
/-- One row more. -/
theorem Grow.app {n m m1 mB : Nat} {h hp hB : AH} {ty : Nat} {out : AV} {ws : List AV} {ll : List (List Int)} (g : Grow n m h hp ty out ws ll) {v1 : AV} {l : List Int} (hv1 : Ints true m m1 hB v1 l) (hold : ∀ i, i < m → hB i = hp i)
    (h1 : m ≤ m1) (h2 : m1 ≤ mB) {n0 : Nat} {W : Nat → Prop} {x : AV} {K : AV → AH → Nat → Prop} (h0 : n0 ≤ n) (hx : Src hB 1 x 1 [v1]) (hb : ll.length ≤ 1048576)
    (k : ∀ out' h' n', mB ≤ n' → Grow n n' h h' ty out' (ws ++ [v1]) (ll ++ [l]) → K out' h' n') : AppC n0 W ty 1 out x hB mB K := by
  have a : Acc n mB hB ty 1 out ws := (g.acc.keep fun i _ hi => hold i hi).wide (Nat.le_refl _) (by omega)
  have hlen := g.rows.len
  have hs : slen out = ll.length := by have := g.acc.len; omega
  have hle := g.le
  refine app_acc a h0 (by omega) hx rfl (by simp [one_any (Sl.any hv1)]) (by omega) fun v' h' n' k1 k2 k3 k4 k5 k6 => ?_
  have hr : RowsV true n n' h' (ws ++ [v1]) (ll ++ [l]) := by
    have hr0 : RowsV true n mB hB (ws ++ [v1]) (ll ++ [l]) := (g.rows.snoc (fun i _ hi => hold i hi) hv1 hle h1).wide (Nat.le_refl _) h2
    refine (hr0.keep1 fun j hj hsl => ?_).wide (Nat.le_refl _) k1
    simp only [List.length_append, List.length_cons, List.length_nil] at hj
    have hown := Sl.own (hr0.row j (by simpa using hj)) hsl
    refine k4 _ hown.2 fun ho => ?_
    by_cases e : j < ll.length
    · rw [getD_snoc_lt (by omega)] at hsl ⊢
      exact g.apart j e hsl ho
    · rw [getD_snoc_eq (by omega)] at hsl ⊢
      have h3 := (Sl.own hv1 hsl).1
      have h4 := (g.acc.own ho).2
      omega
  refine k v' h' n' k1 ⟨by omega, fun i hi => ?_, k3, hr, fun j hj hsl ho => ?_⟩
  · rw [k5 i hi, hold i (by omega), g.old i hi]
  · have hown := Sl.own (hr.row j hj) hsl
    simp only [List.length_append, List.length_cons, List.length_nil] at hj
    rcases k6 with ⟨rfl, rfl⟩ | ⟨_, k7⟩
    · by_cases e : j < ll.length
      · rw [getD_snoc_lt (by omega)] at hsl ⊢
        exact g.apart j e hsl ho
      · rw [getD_snoc_eq (by omega)] at hsl ⊢
        have h3 := (Sl.own hv1 hsl).1
        have h4 := (g.acc.own ho).2
        omega
    · rw [k7]
      by_cases e : j < ll.length
      · rw [getD_snoc_lt (by omega)] at hsl ⊢
        have := (Sl.own (g.rows.row j e) hsl).2
        omega
      · rw [getD_snoc_eq (by omega)] at hsl ⊢
        have := (Sl.own hv1 hsl).2
        omega
theorem Grow.rowsOf {n m : Nat} {h hp : AH} {ty : Nat} {out : AV} {ws : List AV} {ll : List (List Int)} (g : Grow n m h hp ty out ws ll) {h2 : AH} (hh : ∀ i, n ≤ i → i < m → h2 i = hp i) : Rows true n m h2 out ws ll := by
  refine ⟨(g.acc.keep fun i a b => hh i a b).sl, g.rows.keep fun i a b => hh i a b, fun _ k hk hsl => ?_⟩
  by_cases ho : isSl out = true
  · exact g.apart k hk hsl ho
  · have : out = .nilsl := by
      rcases g.acc.shape with e | ⟨i, b, rfl, _⟩ | ⟨i, m, rfl, _⟩
      · exact e
      · simp [isSl] at ho
      · simp [isSl] at ho
    subst this
    have h1 := g.acc.len
    have h3 := g.rows.len
    simp [slen] at h1
    subst h1
    simp at h3
    omega
end Go.Proofs.Ytkpibnhddhdooaa.L
