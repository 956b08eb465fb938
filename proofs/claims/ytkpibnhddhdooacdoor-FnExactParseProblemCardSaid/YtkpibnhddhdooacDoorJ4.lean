/- Slices that come in as arguments, told to the logic: blocks that are only read. -/
import Derived.Test.YtkpibnhddhdooacDoorJ3
import Derived.Deep.Matrix
import Derived.Deep.SlicePairs
import Derived.OpenShut
import Derived.Handed
import Derived.LaidLaws
import Derived.Lib.LaidTab
import Derived.Stop.LaidErr
set_option linter.unusedSimpArgs false
set_option linter.unusedVariables false
namespace Go.Proofs.YtkpibnhddhdooacDoor.L
open Go
open Go.RowKit Go.ChangeShapes Go.WideShapes Go.ChangeAt Go.Joins Go.Deep

structure Tell (W : World) (ρ : Rho) (h : AH) (n : Nat) : Prop where
  sim : Sim ρ h W
  free : ∀ i, n ≤ i → ρ i = none
  ro : ∀ i b, h i = some b → b.wr = false ∧ i < n

theorem Tell.none (W : World) : Tell W rho0 emp 0 := ⟨Sim.emp _ _, fun _ _ => rfl, fun _ _ h => by simp [L.emp] at h⟩
theorem put_ext {ρ : Rho} {n : Nat} {r : Ref} (h : ρ n = Option.none) : Ext ρ (ρ.put n r) := fun i q hq => by
  simp only [Rho.put]; split
  · rename_i e; subst e; rw [h] at hq; cases hq
  · exact hq
theorem BlkAt.ext {ρ ρ' : Rho} {w : World} {r : Ref} {b : Blk} (h : BlkAt ρ w r b) (e : Ext ρ ρ') : BlkAt ρ' w r b :=
  ⟨fun k c hc => by obtain ⟨v, h1, h2⟩ := h.cells k c hc; exact ⟨v, h1, h2.mono e⟩, h.own, h.fix⟩
theorem Tell.add {W : World} {ρ : Rho} {h : AH} {n : Nat} (t : Tell W ρ h n) (b off c ty : Nat) (cells : List AV) (hc : ∀ k x, cells[k]? = some x → ∃ v, W.cell? ⟨b, off + k, .none⟩ = some v ∧ Is ρ x v) :
    Tell W (ρ.put n ⟨b, off, c⟩) (upd h n (some ⟨ty, cells, false, 0⟩)) (n + 1) := by
  have he : Ext ρ (ρ.put n ⟨b, off, c⟩) := put_ext (t.free n (Nat.le_refl _))
  refine ⟨⟨fun i q hq => ?_, fun i j bi bj ri rj h1 h2 h3 h4 => ?_⟩, fun i hi => ?_, fun i q hq => ?_⟩
  · simp only [upd] at hq
    split at hq
    · rename_i e; subst e
      cases hq
      refine ⟨⟨b, off, c⟩, by simp [Rho.put], fun k x hx => ?_, fun hw => (by cases hw), fun _ h => absurd rfl h⟩
      obtain ⟨v, h1, h2⟩ := hc k x hx
      exact ⟨v, h1, h2.mono he⟩
    · obtain ⟨r, h1, h2⟩ := t.sim.lies i q hq
      exact ⟨r, he _ _ h1, h2.ext he⟩
  · simp only [upd] at h1
    split at h1
    · cases h1; cases h4
    · rw [(t.ro i bi h1).1] at h4; cases h4
  · simp only [Rho.put]; rw [if_neg (by omega)]; exact t.free i (by omega)
  · simp only [upd] at hq
    split at hq
    · rename_i e; cases hq; exact ⟨rfl, by omega⟩
    · have := t.ro i q hq; exact ⟨this.1, by omega⟩

section
variable {H : Type} {enc : TypeId × Value → H} {P : Program} {W : World} {base : Nat}
end

structure Acc (lo hi : Nat) (h : AH) (ty es : Nat) (v : AV) (cs : List AV) : Prop where
  len : cs.length = slen v * es
  shape : v = .nilsl ∨ (∃ i b, v = .sl i 0 0 0 ∧ lo ≤ i ∧ i < hi ∧ h i = some b ∧ b.wr = true) ∨ ∃ i m, v = .so i m ∧ lo ≤ i ∧ i < hi ∧ h i = some ⟨ty, cs, true, es⟩

section
variable {lo hi : Nat} {h : AH} {ty es : Nat} {v : AV} {cs : List AV}
theorem Acc.nil : Acc lo hi h ty es .nilsl [] := ⟨by simp [slen], .inl rfl⟩
theorem Acc.empty {i : Nat} {b : Blk} (hb : h i = some b) (hw : b.wr = true) (h1 : lo ≤ i) (h2 : i < hi) : Acc lo hi h ty es (.sl i 0 0 0) [] := ⟨by simp [slen], .inr (.inl ⟨i, b, rfl, h1, h2, hb, hw⟩)⟩
theorem Acc.keep1 {h' : AH} (a : Acc lo hi h ty es v cs) (k : isSl v = true → h' (bid v) = h (bid v)) : Acc lo hi h' ty es v cs :=
  ⟨a.len, a.shape.imp id (Or.imp (fun ⟨i, b, h1, h2, h3, h4, h5⟩ => ⟨i, b, h1, h2, h3, by subst h1; have := k rfl; simp only [bid] at this; rw [this]; exact h4, h5⟩)
    fun ⟨i, m, h1, h2, h3, h4⟩ => ⟨i, m, h1, h2, h3, by subst h1; have := k rfl; simp only [bid] at this; rw [this]; exact h4⟩)⟩
theorem Acc.own (a : Acc lo hi h ty es v cs) (hs : isSl v = true) : lo ≤ bid v ∧ bid v < hi := by
  rcases a.shape with rfl | ⟨i, b, rfl, h1, h2, _⟩ | ⟨i, m, rfl, h1, h2, _⟩
  · simp [isSl] at hs
  · exact ⟨h1, h2⟩
  · exact ⟨h1, h2⟩
theorem Acc.keep {h' : AH} (a : Acc lo hi h ty es v cs) (k : ∀ i, lo ≤ i → i < hi → h' i = h i) : Acc lo hi h' ty es v cs := a.keep1 fun hs => k _ (a.own hs).1 (a.own hs).2
theorem Acc.wide {lo' hi' : Nat} (a : Acc lo hi h ty es v cs) (h1 : lo' ≤ lo) (h2 : hi ≤ hi') : Acc lo' hi' h ty es v cs :=
  ⟨a.len, a.shape.imp id (Or.imp (fun ⟨i, b, g1, g2, g3, g⟩ => ⟨i, b, g1, by omega, by omega, g⟩) fun ⟨i, m, g1, g2, g3, g⟩ => ⟨i, m, g1, by omega, by omega, g⟩)⟩
theorem Acc.any (a : Acc lo hi h ty es v cs) : v = .nilsl ∨ v = .sl0 ∨ isSl v = true := by
  rcases a.shape with rfl | ⟨i, b, rfl, _⟩ | ⟨i, m, rfl, _⟩
  · exact .inl rfl
  · exact .inr (.inr (by simp [isSl]))
  · exact .inr (.inr rfl)
theorem Acc.sl (a : Acc lo hi h ty es v cs) : Sl true lo hi h es v cs := by
  have hl := a.len
  rcases a.shape with rfl | ⟨i, b, rfl, h1, h2, hb, hw⟩ | ⟨i, m, rfl, h1, h2, hb⟩
  · exact ⟨hl, .inl rfl⟩
  · have : cs = [] := by simpa [slen] using hl
    subst this
    exact ⟨hl, .inr (.inr ⟨by simp [isSl], h1, h2, b, hb, fun _ => hw, by simp [boff], by simp [cutA]⟩)⟩
  · exact Sl.of_so hb hl h1 h2
theorem app_acc {n0 : Nat} {W : Nat → Prop} {n m : Nat} {x : AV} {xs : List AV} {K : AV → AH → Nat → Prop} (a : Acc lo n h ty es v cs) (hlo : n0 ≤ lo) (hln : lo ≤ n) (hx : Src h es x m xs) (hxl : xs.length = m * es) (h1 : xs.all AV.one = true) (hm : slen v + m ≤ 1073741824)
    (k : ∀ v' h' n', n ≤ n' → n' ≤ n + 1 → Acc lo n' h' ty es v' (cs ++ xs) → (∀ j, j < n → (isSl v = true → j ≠ bid v) → h' j = h j) → (∀ j, j < lo → h' j = h j) → (v' = v ∧ h' = h ∨ isSl v' = true ∧ bid v' = n) → K v' h' n') :
    AppC n0 W ty es v x h n K := by
  have hl := a.len
  rcases a.shape with rfl | ⟨i, b, rfl, g1, g2, hb, hw⟩ | ⟨i, m0, rfl, g1, g2, hb⟩
  · have hc : cs = [] := by simpa [slen] using hl
    subst hc
    by_cases h0 : m = 0
    · subst h0
      have : xs = [] := by simpa using hxl
      subst this
      exact ⟨_, _, _, none', App.nil0 hx, fun _ _ h => h.elim, k _ _ _ (Nat.le_refl _) (by omega) (by simpa using a) (fun _ _ _ => rfl) (fun _ _ => rfl) (.inl ⟨rfl, rfl⟩)⟩
    · exact ⟨_, _, _, none', App.nil hx h1 h0 (by simpa [slen] using hm), fun _ _ h => h.elim,
        k _ _ _ (by omega) (Nat.le_refl _) ⟨by simp [slen, hxl], .inr (.inr ⟨n, m, rfl, hln, by omega, by simp [upd]⟩)⟩ (fun j hj _ => upd_other (by omega)) (fun j hj => upd_other (by omega)) (.inr ⟨rfl, rfl⟩)⟩
  · have hc : cs = [] := by simpa [slen] using hl
    subst hc
    by_cases h0 : m = 0
    · subst h0
      have : xs = [] := by simpa using hxl
      subst this
      exact ⟨_, _, _, none', App.same hx (Nat.le_refl _), fun _ _ h => h.elim, k _ _ _ (Nat.le_refl _) (by omega) (by simpa using a) (fun _ _ _ => rfl) (fun _ _ => rfl) (.inl ⟨rfl, rfl⟩)⟩
    · have hos : Src h es (.sl i 0 0 0) 0 [] := ⟨rfl, b, hb, by simp, by simp [cutA]⟩
      exact ⟨_, _, _, none', App.grow hos hx h1 h0 (by omega) (by simpa [slen] using hm), fun _ _ h => h.elim,
        k _ _ _ (by omega) (Nat.le_refl _) ⟨by simp [slen, hxl], .inr (.inr ⟨n, 0 + m, rfl, hln, by omega, by simp [upd]⟩)⟩ (fun j hj _ => upd_other (by omega)) (fun j hj => upd_other (by omega)) (.inr ⟨rfl, rfl⟩)⟩
  · refine ⟨_, _, _, (· = i), App.open_ hb rfl rfl rfl hl hx h1 (by simpa [slen] using hm) g2, fun j _ hj => .inl (by subst hj; omega),
      k _ _ _ (by omega) (Nat.le_refl _) ⟨by simp only [slen, List.length_append, hxl, hl, Nat.add_mul], .inr (.inr ⟨n, m0 + m, rfl, hln, by omega, by simp [upd]⟩)⟩ (fun j hj hne => ?_) (fun j hj => ?_) (.inr ⟨rfl, rfl⟩)⟩
    · have := hne rfl
      simp only [bid] at this
      rw [upd_other (by omega), upd_other this]
    · rw [upd_other (by omega), upd_other (by omega)]
end
structure Grow (n m : Nat) (h hp : AH) (ty : Nat) (out : AV) (ws : List AV) (ll : List (List Int)) : Prop where
  le : n ≤ m
  old : ∀ i, i < n → hp i = h i
  acc : Acc n m hp ty 1 out ws
  rows : RowsV true n m hp ws ll
  apart : ∀ j, j < ll.length → isSl (ws.getD j .any) = true → isSl out = true → bid (ws.getD j .any) ≠ bid out
theorem Grow.start {n : Nat} {h : AH} {ty : Nat} : Grow n n h h ty .nilsl [] [] := ⟨Nat.le_refl _, fun _ _ => rfl, Acc.nil, RowsV.nil, fun j hj => absurd hj (Nat.not_lt_zero _)⟩
def rowsOf (n : Nat) (f : Nat → List Int) : List (List Int) := (List.range n).map f
theorem ints_snoc (l : List Int) (x : Int) : ints l ++ [.int .i64 x] = ints (l ++ [x]) := by simp [ints]
theorem app_int {lo n0 n : Nat} {W : Nat → Prop} {h : AH} {ty : Nat} {v x : AV} {l : List Int} {y : Int} {K : AV → AH → Nat → Prop} (a : Acc lo n h ty 1 v (ints l)) (hlo : n0 ≤ lo) (hln : lo ≤ n) (hx : Src h 1 x 1 [.int .i64 y]) (hl : l.length ≤ 1048576)
    (k : ∀ v' h' n', n ≤ n' → Acc lo n' h' ty 1 v' (ints (l ++ [y])) → (∀ j, j < lo → h' j = h j) → K v' h' n') : AppC n0 W ty 1 v x h n K := by
  have hs : slen v = l.length := by have := a.len; rw [ints_len] at this; omega
  exact app_acc a hlo hln hx rfl rfl (by omega) fun v' h' n' k1 _ k3 _ k5 _ => k v' h' n' k1 (by rw [← ints_snoc]; exact k3) k5
theorem Grow.app {n m m1 mB : Nat} {h hp hB : AH} {ty : Nat} {out : AV} {ws : List AV} {ll : List (List Int)} (g : Grow n m h hp ty out ws ll) {v1 : AV} {l : List Int} (hv1 : Ints true m m1 hB v1 l) (hold : ∀ i, i < m → hB i = hp i)
    (h1 : m ≤ m1) (h2 : m1 ≤ mB) {n0 : Nat} {W : Nat → Prop} {x : AV} {K : AV → AH → Nat → Prop} (h0 : n0 ≤ n) (hx : Src hB 1 x 1 [v1]) (hb : ll.length ≤ 1048576)
    (k : ∀ out' h' n', mB ≤ n' → Grow n n' h h' ty out' (ws ++ [v1]) (ll ++ [l]) → K out' h' n') : AppC n0 W ty 1 out x hB mB K := by
  have a : Acc n mB hB ty 1 out ws := (g.acc.keep fun i _ hi => hold i hi).wide (Nat.le_refl _) (by omega)
  have hlen := g.rows.len
  have hs : slen out = ll.length := by have := g.acc.len; omega
  have hle := g.le
  refine app_acc a h0 (by omega) hx rfl (by simp [one_any (Sl.any hv1)]) (by omega) fun v' h' n' k1 k2 k3 k4 k5 k6 => ?_
  have hr : RowsV true n n' h' (ws ++ [v1]) (ll ++ [l]) := by
    have hr0 : RowsV true n mB hB (ws ++ [v1]) (ll ++ [l]) := (g.rows.snoc (fun i _ hi => hold i hi) hv1 hle h1).wide (Nat.le_refl _) h2
    refine (hr0.keep1 fun j hj hsl => ?_).wide (Nat.le_refl _) k1
    simp only [List.length_append, List.length_cons, List.length_nil] at hj
    have hown := Sl.own (hr0.row j (by simpa using hj)) hsl
    refine k4 _ hown.2 fun ho => ?_
    by_cases e : j < ll.length
    · rw [getD_snoc_lt (by omega)] at hsl ⊢
      exact g.apart j e hsl ho
    · rw [getD_snoc_eq (by omega)] at hsl ⊢
      have h3 := (Sl.own hv1 hsl).1
      have h4 := (g.acc.own ho).2
      omega
  refine k v' h' n' k1 ⟨by omega, fun i hi => ?_, k3, hr, fun j hj hsl ho => ?_⟩
  · rw [k5 i hi, hold i (by omega), g.old i hi]
  · have hown := Sl.own (hr.row j hj) hsl
    simp only [List.length_append, List.length_cons, List.length_nil] at hj
    rcases k6 with ⟨rfl, rfl⟩ | ⟨_, k7⟩
    · by_cases e : j < ll.length
      · rw [getD_snoc_lt (by omega)] at hsl ⊢
        exact g.apart j e hsl ho
      · rw [getD_snoc_eq (by omega)] at hsl ⊢
        have h3 := (Sl.own hv1 hsl).1
        have h4 := (g.acc.own ho).2
        omega
    · rw [k7]
      by_cases e : j < ll.length
      · rw [getD_snoc_lt (by omega)] at hsl ⊢
        have := (Sl.own (g.rows.row j e) hsl).2
        omega
      · rw [getD_snoc_eq (by omega)] at hsl ⊢
        have := (Sl.own hv1 hsl).2
        omega
theorem Grow.rowsOf {n m : Nat} {h hp : AH} {ty : Nat} {out : AV} {ws : List AV} {ll : List (List Int)} (g : Grow n m h hp ty out ws ll) {h2 : AH} (hh : ∀ i, n ≤ i → i < m → h2 i = hp i) : Rows true n m h2 out ws ll := by
  refine ⟨(g.acc.keep fun i a b => hh i a b).sl, g.rows.keep fun i a b => hh i a b, fun _ k hk hsl => ?_⟩
  by_cases ho : isSl out = true
  · exact g.apart k hk hsl ho
  · have : out = .nilsl := by
      rcases g.acc.shape with e | ⟨i, b, rfl, _⟩ | ⟨i, m, rfl, _⟩
      · exact e
      · simp [isSl] at ho
      · simp [isSl] at ho
    subst this
    have h1 := g.acc.len
    have h3 := g.rows.len
    simp [slen] at h1
    subst h1
    simp at h3
    omega

def wr (h : AH) (i o : Nat) (c : AV) : AH := upd h i ((h i).map fun b => { b with cells := putA b.cells o [c] })
theorem wr_other {h : AH} {i o j : Nat} {c : AV} (e : j ≠ i) : wr h i o c j = h j := upd_other e

section
variable {lo hi : Nat} {h : AH} {v : AV} {cs : List AV} {es : Nat}
theorem putA_len {z : List AV} {k : Nat} {x : AV} (hk : k < z.length) : (putA z k [x]).length = z.length := by
  simp [putA]; omega
theorem putA_eq_set {z : List AV} {k : Nat} {x : AV} (hk : k < z.length) : putA z k [x] = z.set k x := by
  rw [putA, List.set_eq_take_append_cons_drop, if_pos hk]; simp
theorem cutA_set {z : List AV} {o m k : Nat} {x : AV} (hk : k < m) (hl : o + m ≤ z.length) : cutA (z.set (o + k) x) o m = (cutA z o m).set k x := by
  refine List.ext_getElem? fun i => ?_
  simp only [cutA, List.getElem?_take, List.getElem?_drop, List.getElem?_set, List.length_take, List.length_drop]
  by_cases e : i < m
  · rw [if_pos e]
    by_cases e2 : k = i
    · subst e2
      rw [if_pos rfl, if_pos rfl, if_pos (by omega), if_pos (by omega)]
    · rw [if_neg (by omega), if_neg e2, if_pos e]
  · rw [if_neg e, if_neg (by omega), if_neg e]
theorem Sl.wr (s : Sl true lo hi h es v cs) {k : Nat} (hk : k < cs.length) (x : AV) : Sl true lo hi (wr h (bid v) (boff v + k) x) es v (cs.set k x) := by
  refine ⟨by simpa using s.len, ?_⟩
  rcases s.shape with rfl | ⟨hw, _⟩ | ⟨h1, h2, h3, b, hb, hw, hl, hc⟩
  · exact .inl rfl
  · cases hw
  · refine .inr (.inr ⟨h1, h2, h3, { b with cells := putA b.cells (boff v + k) [x] }, by simp [L.wr, upd, hb], hw, ?_, ?_⟩)
    · simp only [List.length_set]; rw [putA_len (by omega)]; exact hl
    · simp only [List.length_set]
      rw [putA_eq_set (by omega), cutA_set hk hl, hc]
theorem Sl.st (s : Sl true lo hi h es v cs) {k : Nat} (hk : k < cs.length) {x : AV} (hx : x.one = true) (hc : x.cells = [x]) (hsx : x.storable = true) {n0 n : Nat} {W : Nat → Prop} (hW : ∀ i, lo ≤ i → i < hi → n0 ≤ i ∨ W i) (hn : hi ≤ n) (K : AV → AH → Nat → Prop) :
    S1 n0 W 1 (.ptr (bid v) (boff v + k)) x K h n = K .any (L.wr h (bid v) (boff v + k) x) n := by
  rcases s.shape with rfl | ⟨hw, _⟩ | ⟨h1, h2, h3, ⟨ty, cells, w, op⟩, hb, hw, hl, hcc⟩
  · have := s.len; simp [slen] at this; subst this; simp at hk
  · cases hw
  · have hw' : w = true := hw rfl
    subst hw'
    rw [s1, hb, s2, hsx, hc]
    simp only [L.wr, hb, Option.map_some]
    simp only at hl
    exact propext ⟨fun h => h.2.2.2.2.2, fun h => ⟨trivial, rfl, by omega, by omega, hW _ h2 h3, h⟩⟩
end

section
variable {lo hi : Nat} {h : AH} {v : AV} {l : List Int}
theorem ints_set (l : List Int) (k : Nat) (x : Int) : (ints l).set k (.int .i64 x) = ints (l.set k x) := by simp [ints, List.map_set]
theorem Ints.wr (s : Ints true lo hi h v l) {k : Nat} (hk : k < l.length) (x : Int) : Ints true lo hi (wr h (bid v) (boff v + k) (.int .i64 x)) v (l.set k x) := by
  unfold Ints
  rw [← ints_set]
  exact Sl.wr s (by rw [ints_len]; exact hk) _
theorem Ints.st (s : Ints true lo hi h v l) {k : Nat} (hk : k < l.length) {x : Int} {n0 n : Nat} {W : Nat → Prop} (hW : ∀ i, lo ≤ i → i < hi → n0 ≤ i ∨ W i) (hn : hi ≤ n) (K : AV → AH → Nat → Prop) :
    S1 n0 W 1 (.ptr (bid v) (boff v + k)) (.int .i64 x) K h n = K .any (L.wr h (bid v) (boff v + k) (.int .i64 x)) n :=
  Sl.st s (by rw [ints_len]; exact hk) rfl rfl rfl hW hn K
end
theorem getD_set {α : Type} {l : List α} {i j : Nat} {x d : α} : (l.set i x).getD j d = if i = j ∧ j < l.length then x else l.getD j d := by
  simp only [List.getD, List.getElem?_set]
  by_cases e : i = j
  · subst e
    by_cases e2 : i < l.length
    · simp [e2]
    · simp [e2]
  · simp [e]
theorem RowsV.wr {lo hi : Nat} {h : AH} {vs : List AV} {ll : List (List Int)} (s : RowsV true lo hi h vs ll) {i k : Nat} (hi' : i < ll.length) (hk : k < (ll.getD i []).length) (x : Int) :
    RowsV true lo hi (wr h (bid (vs.getD i .any)) (boff (vs.getD i .any) + k) (.int .i64 x)) vs (ll.set i ((ll.getD i []).set k x)) := by
  refine ⟨by simpa using s.len, fun j hj => ?_, fun _ j m hj hm => ?_⟩
  · simp only [List.length_set] at hj
    rw [getD_set]
    by_cases e : i = j
    · subst e
      rw [if_pos ⟨rfl, hj⟩]
      exact (s.row i hi').wr hk x
    · rw [if_neg fun h => e h.1]
      refine Sl.keep1 (s.row j hj) fun hs => wr_other ?_
      have hne : vs.getD i .any ≠ .nilsl := by
        intro e'
        have := (s.row i hi').slen
        rw [e'] at this
        change 0 = _ at this
        omega
      exact s.apart rfl j i hj hi' (fun e' => e e'.symm) hs (Sl.isReal (s.row i hi') hne)
  · simp only [List.length_set] at hj hm
    exact s.apart rfl j m hj hm
theorem Rows.wr {lo hi : Nat} {h : AH} {v : AV} {vs : List AV} {ll : List (List Int)} (s : Rows true lo hi h v vs ll) {i k : Nat} (hi' : i < ll.length) (hk : k < (ll.getD i []).length) (x : Int) :
    Rows true lo hi (L.wr h (bid (vs.getD i .any)) (boff (vs.getD i .any) + k) (.int .i64 x)) v vs (ll.set i ((ll.getD i []).set k x)) := by
  have hne : vs.getD i .any ≠ .nilsl := by
    intro e'
    have := (s.row i hi').slen
    rw [e'] at this
    change 0 = _ at this
    omega
  refine ⟨s.out.keep1 fun _ => wr_other fun e => s.outer rfl i hi' (Sl.isReal (s.row i hi') hne) e.symm, s.rows.wr hi' hk x, fun _ j hj => ?_⟩
  simp only [List.length_set] at hj
  exact s.outer rfl j hj

theorem RowsV.row1 {lo hi : Nat} {h h' : AH} {vs : List AV} {ll : List (List Int)} (s : RowsV true lo hi h vs ll) {i : Nat} (hi' : i < ll.length) {l : List Int} (hl : Ints true lo hi h' (vs.getD i .any) l) (hne : isSl (vs.getD i .any) = true ∨ h' = h)
    (hk : ∀ j, j ≠ bid (vs.getD i .any) → h' j = h j) : RowsV true lo hi h' vs (ll.set i l) := by
  refine ⟨by simpa using s.len, fun j hj => ?_, fun _ j m hj hm => ?_⟩
  · simp only [List.length_set] at hj
    rw [getD_set]
    by_cases e : i = j
    · subst e
      rw [if_pos ⟨rfl, hj⟩]
      exact hl
    · rw [if_neg fun h => e h.1]
      rcases hne with hne | rfl
      · exact Sl.keep1 (s.row j hj) fun hs => hk _ (s.apart rfl j i hj hi' (fun e' => e e'.symm) hs hne)
      · exact s.row j hj
  · simp only [List.length_set] at hj hm
    exact s.apart rfl j m hj hm
theorem Rows.row1 {lo hi : Nat} {h h' : AH} {v : AV} {vs : List AV} {ll : List (List Int)} (s : Rows true lo hi h v vs ll) {i : Nat} (hi' : i < ll.length) {l : List Int} (hl : Ints true lo hi h' (vs.getD i .any) l) (hne : isSl (vs.getD i .any) = true ∨ h' = h)
    (hk : ∀ j, j ≠ bid (vs.getD i .any) → h' j = h j) : Rows true lo hi h' v vs (ll.set i l) := by
  refine ⟨?_, s.rows.row1 hi' hl hne hk, fun _ j hj => ?_⟩
  · rcases hne with hne | rfl
    · exact s.out.keep1 fun _ => hk _ fun e => s.outer rfl i hi' hne e.symm
    · exact s.out
  · simp only [List.length_set] at hj
    exact s.outer rfl j hj
def markL (k : Int) (m : Nat) : List Int := (List.range m).map (fun i : Nat => k + (i : Int))
theorem markL_len (k : Int) (m : Nat) : (markL k m).length = m := by simp [markL]
theorem markL_get (k : Int) (m j : Nat) (hj : j < m) : (markL k m).getD j 0 = k + j := by simp [markL, List.getD, hj]
theorem markL_step (k : Int) (l : List Int) (j : Nat) (hj : j < l.length) : (markL k j ++ l.drop j).set j (k + j) = markL k (j + 1) ++ l.drop (j + 1) := by
  have h1 : (markL k j).length = j := markL_len k j
  rw [List.set_append, if_neg (by omega), h1, Nat.sub_self, List.drop_eq_getElem_cons hj, List.set_cons_zero]
  simp [markL, List.range_succ]
def tot : List (List Int) → Nat
  | [] => 0
  | l :: ll => l.length + tot ll
def markLL : Int → List (List Int) → List (List Int)
  | _, [] => []
  | k, l :: ll => markL k l.length :: markLL (k + l.length) ll
theorem markLL_len : ∀ (k : Int) (ll : List (List Int)), (markLL k ll).length = ll.length
  | _, [] => rfl
  | k, l :: ll => by simp [markLL, markLL_len]
theorem tot_snoc : ∀ (ll : List (List Int)) (l : List Int), tot (ll ++ [l]) = tot ll + l.length
  | [], l => by simp [tot]
  | a :: ll, l => by simp [tot, tot_snoc ll l]; omega
theorem markLL_snoc : ∀ (k : Int) (ll : List (List Int)) (l : List Int), markLL k (ll ++ [l]) = markLL k ll ++ [markL (k + tot ll) l.length]
  | k, [], l => by simp [markLL, tot]
  | k, a :: ll, l => by
    simp only [List.cons_append, markLL, tot, markLL_snoc]
    rw [show k + a.length + (tot ll : Int) = k + ((a.length + tot ll : Nat) : Int) by omega]
theorem markLL_step (k : Int) (ll : List (List Int)) (j : Nat) (hj : j < ll.length) :
    (markLL k (ll.take j) ++ ll.drop j).set j (markL (k + tot (ll.take j)) (ll.getD j []).length) = markLL k (ll.take (j + 1)) ++ ll.drop (j + 1) := by
  have h1 : (markLL k (ll.take j)).length = j := by rw [markLL_len]; simp; omega
  rw [take_succ_getD (d := []) hj, markLL_snoc, List.set_append, if_neg (by omega), h1, Nat.sub_self, List.drop_eq_getElem_cons hj, List.set_cons_zero]
  simp
theorem markLL_get : ∀ (k : Int) (ll : List (List Int)) (j : Nat), j < ll.length → (markLL k ll).getD j [] = markL (k + tot (ll.take j)) (ll.getD j []).length
  | _, [], j, h => absurd h (Nat.not_lt_zero _)
  | k, l :: ll, 0, _ => by simp [markLL, tot, List.getD]
  | k, l :: ll, j + 1, h => by
    have := markLL_get (k + l.length) ll j (by simpa using h)
    simp only [markLL, List.getD_cons_succ, this, List.take_succ_cons, tot]
    rw [show k + l.length + (tot (ll.take j) : Int) = k + ((l.length + tot (ll.take j) : Nat) : Int) by omega]
theorem tot_take (ll : List (List Int)) (j : Nat) : tot (ll.take j) ≤ tot ll := by
  induction ll generalizing j with
  | nil => simp [tot]
  | cons l ll ih =>
    cases j with
    | zero => simp [tot]
    | succ j => simp only [List.take_succ_cons, tot]; have := ih j; omega
def MQ (P : Program) (f : Nat) (args : List AV) (h : AH) (n lo hi : Nat) (R : AV → AH → Nat → Prop) : Prop :=
  ∃ v h' n', BCalls P (fun i => lo ≤ i ∧ i < hi) f args h n v h' n' ∧ R v h' n'
theorem mq_use {P : Program} {n0 : Nat} {W : Nat → Prop} {f : Nat} {args : List AV} {h : AH} {n lo hi : Nat} {R : AV → AH → Nat → Prop} {K : AV → AH → Nat → Prop} (q : MQ P f args h n lo hi R) (hlo : ∀ i, lo ≤ i → i < hi → n0 ≤ i ∨ W i)
    (hk : ∀ v h' n', n ≤ n' → R v h' n' → K v h' n') : CallC P n0 W false f args h n K := by
  obtain ⟨v, h', n', c, hr⟩ := q
  exact ⟨v, h', n', _, c, fun i _ hi => hlo i hi.1 hi.2, (fun h => (by cases h)), hk v h' n' c.2.1 hr⟩
theorem mq_intro {P : Program} {f : Nat} {args : List AV} {h : AH} {n lo hi : Nat} {R : AV → AH → Nat → Prop} {fn : Func} {F' : F} (hf : P.funcs[f]? = some fn) (hF : compF P fn = some F')
    (hx : X P n (fun i => lo ≤ i ∧ i < hi) F'.c (args ++ List.replicate (F'.nt - args.length) .any) h n (KS P n (fun i => lo ≤ i ∧ i < hi) [] (KF F'.rs R))) : MQ P f args h n lo hi R := by
  obtain ⟨v, h', n', hr, c⟩ := f_intro (K := R) hf hF hx
  exact ⟨v, h', n', c, hr⟩
end Go.Proofs.YtkpibnhddhdooacDoor.L
namespace Go.Proofs.YtkpibnhddhdooacDoor.L
open Go
open Go.RowKit Go.ChangeShapes Go.WideShapes Go.ChangeAt Go.Joins Go.Deep

def frA (p : Int × Int) : AV := .agg [.int .i64 p.1, .int .i64 p.2]
def fracs (l : List (Int × Int)) : List AV := (l.map fun p => [AV.int .i64 p.1, AV.int .i64 p.2]).flatten
theorem fracs_len (l : List (Int × Int)) : (fracs l).length = l.length * 2 := by
  induction l with
  | nil => rfl
  | cons a l ih => simp [fracs] at ih ⊢; omega
theorem fracs_cut (l : List (Int × Int)) (k : Nat) (hk : k < l.length) : AV.agg (cutA (fracs l) (k * 2) 2) = frA (l.getD k (0, 0)) := by
  induction l generalizing k with
  | nil => simp at hk
  | cons a l ih =>
    cases k with
    | zero => simp [fracs, cutA, frA, List.getD]
    | succ k =>
      have := ih k (by simpa using hk)
      simpa [fracs, cutA, frA, List.getD, Nat.succ_mul] using this
def Fracs (w : Bool) (lo hi : Nat) (h : AH) (v : AV) (l : List (Int × Int)) : Prop := Sl w lo hi h 2 v (fracs l)
section
variable {w : Bool} {lo hi : Nat} {h : AH} {v : AV} {l : List (Int × Int)}
theorem Fracs.slen (s : Fracs w lo hi h v l) : slen v = l.length := by have := Sl.len s; rw [fracs_len] at this; omega
theorem Fracs.nil : Fracs w lo hi h .nilsl [] := Sl.nil
theorem Fracs.ln (s : Fracs w lo hi h v l) (K : AV → AH → Nat → Prop) (h' : AH) (n : Nat) : LN v K h' n = K (.int .i64 l.length) h' n := by rw [Sl.ln s, s.slen]
theorem Fracs.ia (s : Fracs w lo hi h v l) {k : IntKind} {j : Int} (h0 : 0 ≤ j) (h1 : j < l.length) (K : AV → AH → Nat → Prop) (h' : AH) (n : Nat) :
    IA 2 v (.int k j) K h' n = K (.ptr (bid v) (boff v + j.toNat * 2)) h' n := by rw [Sl.ia s h0 (by rw [s.slen]; exact h1)]
theorem Fracs.ld (s : Fracs w lo hi h v l) {k : Nat} (hk : k < l.length) (K : AV → AH → Nat → Prop) (h' : AH) (n : Nat) : M2 2 (h (bid v)) (boff v + k * 2) K h' n = K (frA (l.getD k (0, 0))) h' n := by
  rw [Sl.ld2 s (by rw [fracs_len]; omega) (by omega), fracs_cut l k hk]
theorem Fracs.keep {h' : AH} (s : Fracs w lo hi h v l) (k : ∀ i, lo ≤ i → i < hi → h' i = h i) : Fracs w lo hi h' v l := Sl.keep s k
theorem Fracs.ro (s : Fracs w lo hi h v l) : Fracs false lo hi h v l := Sl.ro s
theorem Fracs.wide {lo' hi' : Nat} (s : Fracs w lo hi h v l) (h1 : lo' ≤ lo) (h2 : hi ≤ hi') : Fracs w lo' hi' h v l := Sl.wide s h1 h2
theorem Fracs.below (s : Fracs w lo hi h v l) (hl : l ≠ []) : lo ≤ bid v ∧ bid v < hi := by
  refine Sl.below s ?_
  rw [s.slen]
  cases l with
  | nil => exact absurd rfl hl
  | cons a l => simp
end
section
variable {lo hi : Nat} {h : AH} {v : AV} {l : List (Int × Int)}
end
section
variable {H : Type} {enc : TypeId × Value → H} {P : Program} {W : World} {base : Nat}
end
structure FowsV (w : Bool) (lo hi : Nat) (h : AH) (vs : List AV) (ll : List (List (Int × Int))) : Prop where
  len : vs.length = ll.length
  row : ∀ k, k < ll.length → Fracs w lo hi h (vs.getD k .any) (ll.getD k [])
  apart : w = true → ∀ j k, j < ll.length → k < ll.length → j ≠ k → isSl (vs.getD j .any) = true → isSl (vs.getD k .any) = true → bid (vs.getD j .any) ≠ bid (vs.getD k .any)
theorem FowsV.nil {w : Bool} {lo hi : Nat} {h : AH} : FowsV w lo hi h [] [] := ⟨rfl, fun k hk => absurd hk (Nat.not_lt_zero _), fun _ j k hk => absurd hk (Nat.not_lt_zero _)⟩
theorem FowsV.keep {w : Bool} {lo hi : Nat} {h h' : AH} {vs : List AV} {ll : List (List (Int × Int))} (s : FowsV w lo hi h vs ll) (k : ∀ i, lo ≤ i → i < hi → h' i = h i) : FowsV w lo hi h' vs ll := ⟨s.len, fun j hj => (s.row j hj).keep k, s.apart⟩
theorem FowsV.ro {w : Bool} {lo hi : Nat} {h : AH} {vs : List AV} {ll : List (List (Int × Int))} (s : FowsV w lo hi h vs ll) : FowsV false lo hi h vs ll := ⟨s.len, fun j hj => (s.row j hj).ro, fun h => (by cases h)⟩
theorem FowsV.wide {w : Bool} {lo hi lo' hi' : Nat} {h : AH} {vs : List AV} {ll : List (List (Int × Int))} (s : FowsV w lo hi h vs ll) (h1 : lo' ≤ lo) (h2 : hi ≤ hi') : FowsV w lo' hi' h vs ll := ⟨s.len, fun j hj => (s.row j hj).wide h1 h2, s.apart⟩
theorem FowsV.snoc {w : Bool} {lo mid hi : Nat} {h h' : AH} {vs : List AV} {ll : List (List (Int × Int))} {v : AV} {l : List (Int × Int)} (s : FowsV w lo mid h vs ll) (hk : ∀ i, lo ≤ i → i < mid → h' i = h i) (hv : Fracs w mid hi h' v l) (h1 : lo ≤ mid) (h2 : mid ≤ hi) :
    FowsV w lo hi h' (vs ++ [v]) (ll ++ [l]) := by
  have hlen := s.len
  refine ⟨by simp [hlen], fun k hk' => ?_, fun hw j k hj hk' hne h3 h4 => ?_⟩
  · simp only [List.length_append, List.length_cons, List.length_nil] at hk'
    by_cases e : k < ll.length
    · rw [getD_snoc_lt (by omega), getD_snoc_lt e]; exact ((s.row k e).keep hk).wide (Nat.le_refl _) h2
    · rw [getD_snoc_eq (by omega), getD_snoc_eq (by omega)]; exact hv.wide h1 (Nat.le_refl _)
  · subst hw
    simp only [List.length_append, List.length_cons, List.length_nil] at hj hk'
    by_cases e : j < ll.length
    · by_cases e' : k < ll.length
      · rw [getD_snoc_lt (by omega)] at h3
        rw [getD_snoc_lt (by omega)] at h4
        rw [getD_snoc_lt (by omega), getD_snoc_lt (by omega)]
        exact s.apart rfl j k e e' hne h3 h4
      · rw [getD_snoc_lt (by omega)] at h3
        rw [getD_snoc_eq (by omega)] at h4
        rw [getD_snoc_lt (by omega), getD_snoc_eq (by omega)]
        have := (Sl.own (s.row j e) h3).2
        have := (Sl.own hv h4).1
        omega
    · rw [getD_snoc_eq (by omega)] at h3
      rw [getD_snoc_lt (show k < vs.length by omega)] at h4
      rw [getD_snoc_eq (by omega), getD_snoc_lt (by omega)]
      have := (Sl.own (s.row k (by omega)) h4).2
      have := (Sl.own hv h3).1
      omega
theorem FowsV.keep1 {lo hi : Nat} {h h' : AH} {vs : List AV} {ll : List (List (Int × Int))} (s : FowsV true lo hi h vs ll) (k : ∀ j, j < ll.length → isSl (vs.getD j .any) = true → h' (bid (vs.getD j .any)) = h (bid (vs.getD j .any))) : FowsV true lo hi h' vs ll :=
  ⟨s.len, fun j hj => Sl.keep1 (s.row j hj) (k j hj), s.apart⟩
structure Fows (w : Bool) (lo hi : Nat) (h : AH) (v : AV) (vs : List AV) (ll : List (List (Int × Int))) : Prop where
  out : Sl w lo hi h 1 v vs
  rows : FowsV w lo hi h vs ll
  outer : w = true → ∀ k, k < ll.length → isSl (vs.getD k .any) = true → bid (vs.getD k .any) ≠ bid v
section
variable {w : Bool} {lo hi : Nat} {h : AH} {v : AV} {vs : List AV} {ll : List (List (Int × Int))}
theorem Fows.len (s : Fows w lo hi h v vs ll) : vs.length = ll.length := s.rows.len
theorem Fows.row (s : Fows w lo hi h v vs ll) : ∀ k, k < ll.length → Fracs w lo hi h (vs.getD k .any) (ll.getD k []) := s.rows.row
theorem Fows.slen (s : Fows w lo hi h v vs ll) : slen v = ll.length := by have := s.out.len; have := s.len; omega
theorem Fows.ln (s : Fows w lo hi h v vs ll) (K : AV → AH → Nat → Prop) (h' : AH) (n : Nat) : LN v K h' n = K (.int .i64 ll.length) h' n := by rw [s.out.ln, s.slen]
theorem Fows.ia (s : Fows w lo hi h v vs ll) {k : IntKind} {j : Int} (h0 : 0 ≤ j) (h1 : j < ll.length) (K : AV → AH → Nat → Prop) (h' : AH) (n : Nat) :
    IA 1 v (.int k j) K h' n = K (.ptr (bid v) (boff v + j.toNat)) h' n := by rw [s.out.ia h0 (by rw [s.slen]; exact h1), Nat.mul_one]
theorem Fows.ld (s : Fows w lo hi h v vs ll) {k : Nat} (hk : k < ll.length) (K : AV → AH → Nat → Prop) (h' : AH) (n : Nat) : L2 (h (bid v)) (boff v + k) K h' n = K (vs.getD k .any) h' n :=
  s.out.ld (by rw [s.len]; exact hk) K h' n
theorem Fows.keep {h' : AH} (s : Fows w lo hi h v vs ll) (k : ∀ i, lo ≤ i → i < hi → h' i = h i) : Fows w lo hi h' v vs ll := ⟨s.out.keep k, s.rows.keep k, s.outer⟩
theorem Fows.ro (s : Fows w lo hi h v vs ll) : Fows false lo hi h v vs ll := ⟨s.out.ro, s.rows.ro, fun h => (by cases h)⟩
theorem Fows.wide {lo' hi' : Nat} (s : Fows w lo hi h v vs ll) (h1 : lo' ≤ lo) (h2 : hi ≤ hi') : Fows w lo' hi' h v vs ll := ⟨s.out.wide h1 h2, s.rows.wide h1 h2, s.outer⟩
end

structure GrowF (n m : Nat) (h hp : AH) (ty : Nat) (out : AV) (ws : List AV) (ll : List (List (Int × Int))) : Prop where
  le : n ≤ m
  old : ∀ i, i < n → hp i = h i
  acc : Acc n m hp ty 1 out ws
  rows : FowsV true n m hp ws ll
  apart : ∀ j, j < ll.length → isSl (ws.getD j .any) = true → isSl out = true → bid (ws.getD j .any) ≠ bid out
theorem GrowF.start {n : Nat} {h : AH} {ty : Nat} : GrowF n n h h ty .nilsl [] [] := ⟨Nat.le_refl _, fun _ _ => rfl, Acc.nil, FowsV.nil, fun j hj => absurd hj (Nat.not_lt_zero _)⟩
theorem GrowF.app {n m m1 mB : Nat} {h hp hB : AH} {ty : Nat} {out : AV} {ws : List AV} {ll : List (List (Int × Int))} (g : GrowF n m h hp ty out ws ll) {v1 : AV} {l : List (Int × Int)} (hv1 : Fracs true m m1 hB v1 l) (hold : ∀ i, i < m → hB i = hp i)
    (h1 : m ≤ m1) (h2 : m1 ≤ mB) {n0 : Nat} {W : Nat → Prop} {x : AV} {K : AV → AH → Nat → Prop} (h0 : n0 ≤ n) (hx : Src hB 1 x 1 [v1]) (hb : ll.length ≤ 1048576)
    (k : ∀ out' h' n', mB ≤ n' → GrowF n n' h h' ty out' (ws ++ [v1]) (ll ++ [l]) → K out' h' n') : AppC n0 W ty 1 out x hB mB K := by
  have a : Acc n mB hB ty 1 out ws := (g.acc.keep fun i _ hi => hold i hi).wide (Nat.le_refl _) (by omega)
  have hlen := g.rows.len
  have hs : slen out = ll.length := by have := g.acc.len; omega
  have hle := g.le
  refine app_acc a h0 (by omega) hx rfl (by simp [one_any (Sl.any hv1)]) (by omega) fun v' h' n' k1 k2 k3 k4 k5 k6 => ?_
  have hr : FowsV true n n' h' (ws ++ [v1]) (ll ++ [l]) := by
    have hr0 : FowsV true n mB hB (ws ++ [v1]) (ll ++ [l]) := (g.rows.snoc (fun i _ hi => hold i hi) hv1 hle h1).wide (Nat.le_refl _) h2
    refine (hr0.keep1 fun j hj hsl => ?_).wide (Nat.le_refl _) k1
    simp only [List.length_append, List.length_cons, List.length_nil] at hj
    have hown := Sl.own (hr0.row j (by simpa using hj)) hsl
    refine k4 _ hown.2 fun ho => ?_
    by_cases e : j < ll.length
    · rw [getD_snoc_lt (by omega)] at hsl ⊢
      exact g.apart j e hsl ho
    · rw [getD_snoc_eq (by omega)] at hsl ⊢
      have h3 := (Sl.own hv1 hsl).1
      have h4 := (g.acc.own ho).2
      omega
  refine k v' h' n' k1 ⟨by omega, fun i hi => ?_, k3, hr, fun j hj hsl ho => ?_⟩
  · rw [k5 i hi, hold i (by omega), g.old i hi]
  · have hown := Sl.own (hr.row j hj) hsl
    simp only [List.length_append, List.length_cons, List.length_nil] at hj
    rcases k6 with ⟨rfl, rfl⟩ | ⟨_, k7⟩
    · by_cases e : j < ll.length
      · rw [getD_snoc_lt (by omega)] at hsl ⊢
        exact g.apart j e hsl ho
      · rw [getD_snoc_eq (by omega)] at hsl ⊢
        have h3 := (Sl.own hv1 hsl).1
        have h4 := (g.acc.own ho).2
        omega
    · rw [k7]
      by_cases e : j < ll.length
      · rw [getD_snoc_lt (by omega)] at hsl ⊢
        have := (Sl.own (g.rows.row j e) hsl).2
        omega
      · rw [getD_snoc_eq (by omega)] at hsl ⊢
        have := (Sl.own hv1 hsl).2
        omega
theorem FowsV.pick {w : Bool} {lo hi : Nat} {h : AH} {vs : List AV} {ll : List (List (Int × Int))} (s : FowsV w lo hi h vs ll) {js : List Nat} (hn : js.Nodup) (hj : ∀ j ∈ js, j < ll.length) :
    FowsV w lo hi h (js.map fun j => vs.getD j .any) (js.map fun j => ll.getD j []) := by
  have e1 : ∀ k, k < js.length → (js.map fun j => vs.getD j .any).getD k .any = vs.getD (js.getD k 0) .any := fun k hk => by simp [List.getD, hk]
  have e2 : ∀ k, k < js.length → (js.map fun j => ll.getD j []).getD k [] = ll.getD (js.getD k 0) [] := fun k hk => by simp [List.getD, hk]
  have hm : ∀ k, k < js.length → js.getD k 0 < ll.length := fun k hk => hj _ (getD_mem hk)
  refine ⟨by simp, fun k hk => ?_, fun hw j k hj' hk hne h3 h4 => ?_⟩
  · rw [List.length_map] at hk
    rw [e1 k hk, e2 k hk]
    exact s.row _ (hm k hk)
  · rw [List.length_map] at hk hj'
    rw [e1 j hj'] at h3
    rw [e1 k hk] at h4
    rw [e1 j hj', e1 k hk]
    refine s.apart hw _ _ (hm j hj') (hm k hk) (fun e => hne ?_) h3 h4
    simp only [List.getD, List.getElem?_eq_getElem hj', List.getElem?_eq_getElem hk, Option.getD_some] at e
    exact (List.getElem_inj hn).1 e
end Go.Proofs.YtkpibnhddhdooacDoor.L
namespace Go.Proofs.YtkpibnhddhdooacDoor.L
open Go
open Go.RowKit Go.ChangeShapes Go.WideShapes Go.ChangeAt Go.Joins Go.Deep

section
variable {H : Type} {enc : TypeId × Value → H} {P : Program} {W : World} {base : Nat}
end
end Go.Proofs.YtkpibnhddhdooacDoor.L
namespace Go.Proofs.YtkpibnhddhdooacDoor.L
open Go
open Go.RowKit Go.ChangeShapes Go.WideShapes Go.ChangeAt Go.Joins

theorem Tell.fix {W : World} {ρ : Rho} {h : AH} {n : Nat} (T : Tell W ρ h n) (g ty : Nat) (cells : List AV) {cs : Array Value} {t : Nat} {z : Nat × Nat} (hg : W.heap[g]? = some (.cells cs t z)) (hs : cs.size = cells.length) (hc : ∀ (k : Nat) (x : AV), cells[k]? = some x → ∃ v, cs[k]? = some v ∧ ∀ ρ, Is ρ x v) :
    Tell W (ρ.put n ⟨g, 0, 0⟩) (upd h n (some ⟨ty, cells, false, g + 1⟩)) (n + 1) := by
  have he : Ext ρ (ρ.put n ⟨g, 0, 0⟩) := put_ext (T.free n (Nat.le_refl _))
  refine ⟨⟨fun i q hq => ?_, fun i j bi bj ri rj h1 h2 h3 h4 => ?_⟩, fun i hi => ?_, fun i q hq => ?_⟩
  · simp only [upd] at hq
    split at hq
    · rename_i e; subst e
      cases hq
      refine ⟨⟨g, 0, 0⟩, by simp [Rho.put], fun k x hx => ?_, fun hw => (by cases hw), fun _ _ _ => ⟨rfl, rfl, cs, t, z, hg, hs⟩⟩
      obtain ⟨v, h1, h2⟩ := hc k x hx
      exact ⟨v, by rw [Nat.zero_add, cell_of_row W g k cs _ _ hg]; exact h1, h2 _⟩
    · obtain ⟨r, h1, h2⟩ := T.sim.lies i q hq
      exact ⟨r, he _ _ h1, h2.ext he⟩
  · simp only [upd] at h1
    split at h1
    · cases h1; cases h4
    · rw [(T.ro i bi h1).1] at h4; cases h4
  · simp only [Rho.put]; rw [if_neg (by omega)]; exact T.free i (by omega)
  · simp only [upd] at hq
    split at hq
    · rename_i e; cases hq; exact ⟨rfl, by omega⟩
    · have := T.ro i q hq; exact ⟨this.1, by omega⟩
theorem var_cells {P : Program} {W : World} {name : String} {g : Nat} {cs : Array Value} (hg : P.globalNamed name = some g) (h : W.var? P name = some cs) : ∃ (t : Nat) (z : Nat × Nat), W.heap[g]? = some (.cells cs t z) := by
  unfold World.var? at h
  rw [hg] at h
  simp only [Option.bind_some] at h
  split at h
  · rename_i c t z e; cases h; exact ⟨t, z, e⟩
  · cases h
theorem tell_tab {P : Program} {W : World} {name : String} {g : Nat} {k : IntKind} {zs : List Int} (hg : P.globalNamed name = some g) (h : Lib.TabIs P W name k zs) {ρ : Rho} {a : AH} {n : Nat} (T : Tell W ρ a n) :
    Tell W (ρ.put n ⟨g, 0, 0⟩) (upd a n (some ⟨0, zs.map fun z => .int k z, false, g + 1⟩)) (n + 1) := by
  obtain ⟨t, z, e⟩ := var_cells hg h
  refine T.fix g 0 _ e (by simp) fun i x hx => ?_
  simp only [List.getElem?_map, Option.map_eq_some_iff] at hx
  obtain ⟨y, hy, rfl⟩ := hx
  exact ⟨.int k y, by simp [hy], fun ρ => by simp only [Is]⟩

section
variable {H : Type} {enc : TypeId × Value → H}
end
end Go.Proofs.YtkpibnhddhdooacDoor.L
