/- Lists of fractions: told, read, written, grown. -/
import Derived.Test.YtkpibnhddhdooabL17
import Derived.Test.YtkpibnhddhdooabL19
import Derived.Deep.SlicePairs
namespace Go.Proofs.Ytkpibnhddhdooab.L
open Go
open Go.RowKit Go.ChangeShapes Go.WideShapes Go.ChangeAt Go.Joins Go.Deep
set_option linter.unusedSimpArgs false
set_option linter.unusedVariables false

def frA (p : Int × Int) : AV := .agg [.int .i64 p.1, .int .i64 p.2]
/-- The cells of a list of fractions. -/
def fracs (l : List (Int × Int)) : List AV := (l.map fun p => [AV.int .i64 p.1, AV.int .i64 p.2]).flatten
theorem fracs_len (l : List (Int × Int)) : (fracs l).length = l.length * 2 := by
  induction l with
  | nil => rfl
  | cons a l ih => simp [fracs] at ih ⊢; omega
theorem fracs_cons (p : Int × Int) (l : List (Int × Int)) : fracs (p :: l) = .int .i64 p.1 :: .int .i64 p.2 :: fracs l := rfl
theorem fracs_nil : fracs [] = [] := rfl
theorem fracs_append (l m : List (Int × Int)) : fracs (l ++ m) = fracs l ++ fracs m := by simp [fracs]
theorem fracs_snoc (l : List (Int × Int)) (p : Int × Int) : fracs l ++ [.int .i64 p.1, .int .i64 p.2] = fracs (l ++ [p]) := by simp [fracs]
theorem fracs_take (l : List (Int × Int)) (k : Nat) : (fracs l).take (k * 2) = fracs (l.take k) := by
  induction l generalizing k with
  | nil => simp [fracs]
  | cons a l ih =>
    cases k with
    | zero => simp [fracs]
    | succ k => simp only [Nat.succ_mul, fracs_cons, List.take_succ_cons, ih]
theorem fracs_drop (l : List (Int × Int)) (k : Nat) : (fracs l).drop (k * 2) = fracs (l.drop k) := by
  induction l generalizing k with
  | nil => simp [fracs]
  | cons a l ih =>
    cases k with
    | zero => simp [fracs]
    | succ k => simp only [Nat.succ_mul, fracs_cons, List.drop_succ_cons, ih]
theorem fracs_cut (l : List (Int × Int)) (k : Nat) (hk : k < l.length) : AV.agg (cutA (fracs l) (k * 2) 2) = frA (l.getD k (0, 0)) := by
  induction l generalizing k with
  | nil => simp at hk
  | cons a l ih =>
    cases k with
    | zero => simp [fracs, cutA, frA, List.getD]
    | succ k =>
      have := ih k (by simpa using hk)
      simpa [fracs, cutA, frA, List.getD, Nat.succ_mul] using this
theorem fracs_num (l : List (Int × Int)) (k : Nat) (hk : k < l.length) : (fracs l).getD (k * 2) .any = .int .i64 (l.getD k (0, 0)).1 := by
  induction l generalizing k with
  | nil => simp at hk
  | cons a l ih =>
    cases k with
    | zero => simp [fracs_cons, List.getD]
    | succ k => simpa [fracs_cons, Nat.succ_mul, List.getD] using ih k (by simpa using hk)
theorem fracs_den (l : List (Int × Int)) (k : Nat) (hk : k < l.length) : (fracs l).getD (k * 2 + 1) .any = .int .i64 (l.getD k (0, 0)).2 := by
  induction l generalizing k with
  | nil => simp at hk
  | cons a l ih =>
    cases k with
    | zero => simp [fracs_cons, List.getD]
    | succ k => simpa [fracs_cons, Nat.succ_mul, List.getD] using ih k (by simpa using hk)
theorem fracs_set_num (l : List (Int × Int)) (k : Nat) (x : Int) : (fracs l).set (k * 2) (.int .i64 x) = fracs (l.set k (x, (l.getD k (0, 0)).2)) := by
  induction l generalizing k with
  | nil => simp [fracs]
  | cons a l ih =>
    cases k with
    | zero => simp [fracs_cons, List.getD]
    | succ k => simpa [fracs_cons, Nat.succ_mul, List.getD] using ih k
theorem fracs_set_den (l : List (Int × Int)) (k : Nat) (x : Int) : (fracs l).set (k * 2 + 1) (.int .i64 x) = fracs (l.set k ((l.getD k (0, 0)).1, x)) := by
  induction l generalizing k with
  | nil => simp [fracs]
  | cons a l ih =>
    cases k with
    | zero => simp [fracs_cons, List.getD]
    | succ k => simpa [fracs_cons, Nat.succ_mul, List.getD] using ih k
theorem fracs_one (l : List (Int × Int)) : (fracs l).all AV.one = true := by
  induction l with
  | nil => rfl
  | cons a l ih => rw [fracs_cons]; simp [ih, AV.one]

/-- A slice of fractions. -/
def Fracs (w : Bool) (lo hi : Nat) (h : AH) (v : AV) (l : List (Int × Int)) : Prop := Sl w lo hi h 2 v (fracs l)
section
variable {w : Bool} {lo hi : Nat} {h : AH} {v : AV} {l : List (Int × Int)}
theorem Fracs.slen (s : Fracs w lo hi h v l) : slen v = l.length := by have := Sl.len s; rw [fracs_len] at this; omega
theorem Fracs.nil : Fracs w lo hi h .nilsl [] := Sl.nil
theorem Fracs.ln (s : Fracs w lo hi h v l) (K : AV → AH → Nat → Prop) (h' : AH) (n : Nat) : LN v K h' n = K (.int .i64 l.length) h' n := by rw [Sl.ln s, s.slen]
theorem Fracs.ia (s : Fracs w lo hi h v l) {k : IntKind} {j : Int} (h0 : 0 ≤ j) (h1 : j < l.length) (K : AV → AH → Nat → Prop) (h' : AH) (n : Nat) :
    IA 2 v (.int k j) K h' n = K (.ptr (bid v) (boff v + j.toNat * 2)) h' n := by rw [Sl.ia s h0 (by rw [s.slen]; exact h1)]
theorem Fracs.ld (s : Fracs w lo hi h v l) {k : Nat} (hk : k < l.length) (K : AV → AH → Nat → Prop) (h' : AH) (n : Nat) : M2 2 (h (bid v)) (boff v + k * 2) K h' n = K (frA (l.getD k (0, 0))) h' n := by
  rw [Sl.ld2 s (by rw [fracs_len]; omega) (by omega), fracs_cut l k hk]
theorem Fracs.ldn (s : Fracs w lo hi h v l) {k : Nat} (hk : k < l.length) (K : AV → AH → Nat → Prop) (h' : AH) (n : Nat) : L2 (h (bid v)) (boff v + k * 2) K h' n = K (.int .i64 (l.getD k (0, 0)).1) h' n := by
  rw [Sl.ld s (by rw [fracs_len]; omega), fracs_num l k hk]
theorem Fracs.ldd (s : Fracs w lo hi h v l) {k : Nat} (hk : k < l.length) (K : AV → AH → Nat → Prop) (h' : AH) (n : Nat) : L2 (h (bid v)) (boff v + k * 2 + 1) K h' n = K (.int .i64 (l.getD k (0, 0)).2) h' n := by
  rw [Nat.add_assoc, Sl.ld s (by rw [fracs_len]; omega), fracs_den l k hk]
theorem Fracs.ldn0 (s : Fracs w lo hi h v l) (hk : 0 < l.length) (K : AV → AH → Nat → Prop) (h' : AH) (n : Nat) : L2 (h (bid v)) (boff v) K h' n = K (.int .i64 (l.getD 0 (0, 0)).1) h' n := s.ldn hk K h' n
theorem Fracs.ldd0 (s : Fracs w lo hi h v l) (hk : 0 < l.length) (K : AV → AH → Nat → Prop) (h' : AH) (n : Nat) : L2 (h (bid v)) (boff v + 1) K h' n = K (.int .i64 (l.getD 0 (0, 0)).2) h' n := by have := s.ldd hk K h' n; simpa using this
theorem Fracs.keep {h' : AH} (s : Fracs w lo hi h v l) (k : ∀ i, lo ≤ i → i < hi → h' i = h i) : Fracs w lo hi h' v l := Sl.keep s k
theorem Fracs.ro (s : Fracs w lo hi h v l) : Fracs false lo hi h v l := Sl.ro s
theorem Fracs.wide {lo' hi' : Nat} (s : Fracs w lo hi h v l) (h1 : lo' ≤ lo) (h2 : hi ≤ hi') : Fracs w lo' hi' h v l := Sl.wide s h1 h2
theorem Fracs.below (s : Fracs w lo hi h v l) (hl : l ≠ []) : lo ≤ bid v ∧ bid v < hi := by
  refine Sl.below s ?_
  rw [s.slen]
  cases l with
  | nil => exact absurd rfl hl
  | cons a l => simp
end
section
variable {lo hi : Nat} {h : AH} {v : AV} {l : List (Int × Int)}
theorem Fracs.stn (s : Fracs true lo hi h v l) {k : Nat} (hk : k < l.length) {x : Int} {n0 n : Nat} {W : Nat → Prop} (hW : ∀ i, lo ≤ i → i < hi → n0 ≤ i ∨ W i) (hn : hi ≤ n) (K : AV → AH → Nat → Prop) :
    S1 n0 W 1 (.ptr (bid v) (boff v + k * 2)) (.int .i64 x) K h n = K .any (L.wr h (bid v) (boff v + k * 2) (.int .i64 x)) n :=
  Sl.st s (by rw [fracs_len]; omega) rfl rfl rfl hW hn K
theorem Fracs.std (s : Fracs true lo hi h v l) {k : Nat} (hk : k < l.length) {x : Int} {n0 n : Nat} {W : Nat → Prop} (hW : ∀ i, lo ≤ i → i < hi → n0 ≤ i ∨ W i) (hn : hi ≤ n) (K : AV → AH → Nat → Prop) :
    S1 n0 W 1 (.ptr (bid v) (boff v + k * 2 + 1)) (.int .i64 x) K h n = K .any (L.wr h (bid v) (boff v + k * 2 + 1) (.int .i64 x)) n := by
  rw [Nat.add_assoc]
  exact Sl.st s (by rw [fracs_len]; omega) rfl rfl rfl hW hn K
theorem Fracs.wrn (s : Fracs true lo hi h v l) {k : Nat} (hk : k < l.length) (x : Int) : Fracs true lo hi (wr h (bid v) (boff v + k * 2) (.int .i64 x)) v (l.set k (x, (l.getD k (0, 0)).2)) := by
  unfold Fracs
  rw [← fracs_set_num]
  exact Sl.wr s (by rw [fracs_len]; omega) _
theorem Fracs.wrd (s : Fracs true lo hi h v l) {k : Nat} (hk : k < l.length) (x : Int) : Fracs true lo hi (wr h (bid v) (boff v + k * 2 + 1) (.int .i64 x)) v (l.set k ((l.getD k (0, 0)).1, x)) := by
  unfold Fracs
  rw [← fracs_set_den, Nat.add_assoc]
  exact Sl.wr s (by rw [fracs_len]; omega) _
/-- A list of fractions under way, one more. -/
theorem app_frac {n0 n : Nat} {W : Nat → Prop} {ty : Nat} {x : AV} {p : Int × Int} {K : AV → AH → Nat → Prop} (a : Acc lo n h ty 2 v (fracs l)) (hlo : n0 ≤ lo) (hln : lo ≤ n) (hx : Src h 2 x 1 [.int .i64 p.1, .int .i64 p.2]) (hl : l.length ≤ 1048576)
    (k : ∀ v' h' n', n ≤ n' → Acc lo n' h' ty 2 v' (fracs (l ++ [p])) → (∀ j, j < lo → h' j = h j) → K v' h' n') : AppC n0 W ty 2 v x h n K := by
  have hs : slen v = l.length := by have := a.len; rw [fracs_len] at this; omega
  exact app_acc a hlo hln hx rfl rfl (by omega) fun v' h' n' k1 _ k3 _ k5 _ => k v' h' n' k1 (by rw [← fracs_snoc]; exact k3) k5
/-- Numbers in a row as fractions. -/
def markF (k : Int) (m : Nat) : List (Int × Int) := (List.range m).map (fun i : Nat => (k + 2 * (i : Int), k + 2 * (i : Int) + 1))
theorem markF_len (k : Int) (m : Nat) : (markF k m).length = m := by simp [markF]
theorem markF_get (k : Int) (m j : Nat) (hj : j < m) : (markF k m).getD j (0, 0) = (k + 2 * j, k + 2 * j + 1) := by simp [markF, List.getD, hj]
theorem markF_step (k : Int) (l : List (Int × Int)) (j : Nat) (hj : j < l.length) : (markF k j ++ l.drop j).set j (k + 2 * j, k + 2 * j + 1) = markF k (j + 1) ++ l.drop (j + 1) := by
  have h1 : (markF k j).length = j := markF_len k j
  rw [List.set_append, if_neg (by omega), h1, Nat.sub_self, List.drop_eq_getElem_cons hj, List.set_cons_zero]
  simp [markF, List.range_succ]
end
section
variable {H : Type} {enc : TypeId × Value → H} {P : Program} {W : World} {base : Nat}
theorem cells_flat {V0 V1 : Nat → Int} (m : Nat) : fracs ((List.range m).map fun i => (V0 i, V1 i)) = ((List.range m).map fun i => [AV.int .i64 (V0 i), AV.int .i64 (V1 i)]).flatten := by
  simp [fracs, Function.comp_def]
theorem tell_fracs {t e q : TypeId} {f0 f1 : Field} (hu : P.underlying t = some (.slice e)) (he : P.underlying e = some (.struct #[f0, f1])) (ce : P.cellsOf e = 2) (o0 : f0.offset = 0) (o1 : f1.offset = 1) (t0 : f0.type = q) (t1 : f1.type = q) (cq : P.cellsOf q = 1) (hq : P.underlying q = some (.int .i64))
    {ρ : Rho} {h : AH} {n : Nat} (T : Tell W ρ h n) {v : Value} {d : DataW H} {p : List MemPlace} (hv : Value.okWide P W .any base t v) (ht : DataW.Trod enc P W 0 (fun _ => true) true t v d p) :
    ∃ ρ' h' n' av l, Tell W ρ' h' n' ∧ Ext ρ ρ' ∧ n ≤ n' ∧ (∀ i, i < n → h' i = h i) ∧ Is ρ' av v ∧ Fracs false n n' h' av l ∧ l.length ≤ maxLen := by
  obtain ⟨a0, len, cap, rfl⟩ := okWide_slice hu hv
  obtain ⟨fuel, hf⟩ := ht
  rcases open_slice_pairs hu he ce o0 o1 (by rw [t0]; exact cq) (by rw [t1]; exact cq) (by simpa [Value.cells] using hf) with ⟨hcs, hx⟩ | ⟨a, len', cap', m, fu, V0, V1, D0, D1, P0, P1, hcs, _, hl, hm, hmm, hx, hc⟩
  · simp at hcs
    obtain ⟨rfl, rfl, rfl⟩ := hcs
    exact ⟨ρ, h, n, .nilsl, [], T, Ext.refl _, Nat.le_refl _, fun _ _ => rfl, by simp only [Is], Sl.nil, by simp⟩
  · simp at hcs
    obtain ⟨rfl, rfl, rfl⟩ := hcs
    simp only [if_true] at hmm
    subst hmm
    have each : ∀ i, i < m → ∃ q : Int × Int, V0 i = .int .i64 q.1 ∧ V1 i = .int .i64 q.2 := by
      intro i hi
      obtain ⟨_, _, h3, h4⟩ := hc i hi
      rw [t0] at h3
      rw [t1] at h4
      obtain ⟨x, e1, _⟩ := DataW.trod_int hq h3
      obtain ⟨y, e2, _⟩ := DataW.trod_int hq h4
      exact ⟨(x, y), by simpa using e1, by simpa using e2⟩
    obtain ⟨q, hq'⟩ := choose_lt each
    have hL : ∀ k, k ≤ m → ((List.range m).map q).take k = (List.range k).map q := fun k hk => by rw [← List.map_take, List.take_range, Nat.min_eq_left hk]
    by_cases hcap : m = 0
    · have hl0 : len = 0 := by omega
      subst hcap; subst hl0
      exact ⟨ρ, h, n, .sl0, [], T, Ext.refl _, Nat.le_refl _, fun _ _ => rfl, by simp only [Is]; exact ⟨_, rfl⟩, ⟨by simp [L.slen, fracs], .inr (.inl ⟨rfl, rfl⟩)⟩, by simp⟩
    · obtain ⟨b, off, spot⟩ := a
      have hspot : spot = .none := by simpa [Addr.add] using World.cell?_spot (hc 0 (by omega)).1
      subst hspot
      have hcell : ∀ k x, (fracs ((List.range m).map q))[k]? = some x → ∃ v, W.cell? ⟨b, off + k, .none⟩ = some v ∧ Is ρ x v := by
        intro k x hx
        have hk : k < m * 2 := by
          have := (List.getElem?_eq_some_iff.1 hx).1
          simpa [fracs_len] using this
        have hk2 : k / 2 < m := by omega
        have hx' : (fracs ((List.range m).map q)).getD k .any = x := by simp [List.getD, hx]
        have hq2 : ((List.range m).map q).getD (k / 2) (0, 0) = q (k / 2) := by simp [List.getD, hk2]
        obtain ⟨c1, c2, _⟩ := hc (k / 2) hk2
        obtain ⟨v1, v2⟩ := hq' (k / 2) hk2
        rw [add_plain] at c1
        rw [add_plain] at c2
        by_cases e : k % 2 = 0
        · have ek : k = k / 2 * 2 := by omega
          rw [ek, fracs_num _ _ (by simpa using hk2), hq2] at hx'
          subst hx'
          exact ⟨_, by rw [ek]; simpa using c1, by rw [v1]; simp only [Is]⟩
        · have ek : k = k / 2 * 2 + 1 := by omega
          rw [ek, fracs_den _ _ (by simpa using hk2), hq2] at hx'
          subst hx'
          exact ⟨_, by rw [ek]; simpa [Nat.add_assoc] using c2, by rw [v2]; simp only [Is]⟩
      refine ⟨_, _, n + 1, .sl n 0 len m, (List.range len).map q, T.add b off 0 0 _ hcell, put_ext (T.free n (Nat.le_refl _)), by omega, fun i hi => upd_other (by omega), ?_, ⟨?_, .inr (.inr ⟨by simp [isSl, hl], Nat.le_refl _, by simp [bid], _, upd_same _ _ _, fun h => (by cases h), ?_, ?_⟩)⟩, by simp; omega⟩
      · simp only [Is]
        exact ⟨⟨b, off, 0⟩, by simp [Rho.put], by simp⟩
      · rw [fracs_len]; simp [L.slen]
      · simp only [boff, fracs_len, List.length_map, List.length_range]; omega
      · simp only [cutA, boff, List.drop_zero, fracs_len, List.length_map, List.length_range]
        rw [fracs_take, hL len hl]
end
end Go.Proofs.Ytkpibnhddhdooab.L
