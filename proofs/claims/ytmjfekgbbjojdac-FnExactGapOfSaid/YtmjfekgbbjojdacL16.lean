/- Slices told by their contents: reading, keeping, handing on. -/
import Derived.Test.YtmjfekgbbjojdacL13
namespace Go.Proofs.Ytmjfekgbbjojdac.L
open Go
set_option linter.unusedSimpArgs false
set_option linter.unusedVariables false

def bid : AV → Nat
  | .sl i _ _ _ => i
  | .so i _ => i
  | .sx i _ _ => i
  | _ => 0
def boff : AV → Nat
  | .sl _ o _ _ => o
  | .sx _ o _ => o
  | _ => 0
def slen : AV → Nat
  | .sl _ _ n _ => n
  | .so _ n => n
  | .sx _ _ n => n
  | _ => 0
def isSl : AV → Bool
  | .sl _ _ n c => decide (n ≤ c)
  | .so _ _ => true
  | .sx _ _ _ => true
  | _ => false

/-- v is a slice whose elements' cells are cs, in a block named from lo to hi. -/
structure Sl (w : Bool) (lo hi : Nat) (h : AH) (es : Nat) (v : AV) (cs : List AV) : Prop where
  len : cs.length = slen v * es
  shape : v = .nilsl ∨ (w = false ∧ v = .sl0) ∨ isSl v = true ∧ lo ≤ bid v ∧ bid v < hi ∧ ∃ b, h (bid v) = some b ∧ (w = true → b.wr = true) ∧ boff v + cs.length ≤ b.cells.length ∧ cutA b.cells (boff v) cs.length = cs

theorem cutA_get {cells : List AV} {o m k : Nat} (hk : k < m) (hl : o + m ≤ cells.length) : (cutA cells o m)[k]? = cells[o + k]? := by
  simp [cutA, List.getElem?_take, hk]
theorem cutA_cutA {cells : List AV} {o m k z : Nat} (hk : k + z ≤ m) : cutA (cutA cells o m) k z = cutA cells (o + k) z := by
  simp only [cutA, List.drop_take, List.drop_drop, List.take_take]
  rw [show min z (m - k) = z by omega]
theorem cutA_len {cells : List AV} {o m : Nat} (hl : o + m ≤ cells.length) : (cutA cells o m).length = m := by simp [cutA]; omega

theorem getD_mem {α : Type} {l : List α} {k : Nat} {d : α} (h : k < l.length) : l.getD k d ∈ l := by simp [List.getD, h]

section
variable {w : Bool} {lo hi : Nat} {h : AH} {es : Nat} {v : AV} {cs : List AV}
theorem Sl.nil : Sl w lo hi h es .nilsl [] := ⟨by simp [slen], .inl rfl⟩
theorem Sl.keep {h' : AH} (s : Sl w lo hi h es v cs) (k : ∀ i, lo ≤ i → i < hi → h' i = h i) : Sl w lo hi h' es v cs :=
  ⟨s.len, s.shape.imp id (Or.imp id fun ⟨h1, h2, h3, b, h4, h5⟩ => ⟨h1, h2, h3, b, by rw [k _ h2 h3]; exact h4, h5⟩)⟩
theorem Sl.wide {lo' hi' : Nat} (s : Sl w lo hi h es v cs) (h1 : lo' ≤ lo) (h2 : hi ≤ hi') : Sl w lo' hi' h es v cs :=
  ⟨s.len, s.shape.imp id (Or.imp id fun ⟨g1, g2, g3, g⟩ => ⟨g1, by omega, by omega, g⟩)⟩
theorem Sl.ro (s : Sl w lo hi h es v cs) : Sl false lo hi h es v cs :=
  ⟨s.len, s.shape.imp id (Or.imp (fun h => ⟨rfl, h.2⟩) fun ⟨h1, h2, h3, b, h4, _, h5⟩ => ⟨h1, h2, h3, b, h4, fun h => (by cases h), h5⟩)⟩
theorem Sl.any (s : Sl w lo hi h es v cs) : v = .nilsl ∨ v = .sl0 ∨ isSl v = true := s.shape.imp id (Or.imp (fun h => h.2) fun h => h.1)
theorem Sl.isReal (s : Sl true lo hi h es v cs) (h0 : v ≠ .nilsl) : isSl v = true := by
  rcases s.shape with rfl | ⟨hw, _⟩ | ⟨h1, _⟩
  · exact absurd rfl h0
  · cases hw
  · exact h1
theorem one_any (s : v = .nilsl ∨ v = .sl0 ∨ isSl v = true) : v.one = true := by
  rcases s with rfl | rfl | s
  · rfl
  · rfl
  · cases v <;> first | rfl | simp [isSl] at s
theorem sto_any (s : v = .nilsl ∨ v = .sl0 ∨ isSl v = true) : v.storable = true := by
  rcases s with rfl | rfl | s
  · rfl
  · rfl
  · cases v <;> first | rfl | simp [isSl] at s
theorem cel_any (s : v = .nilsl ∨ v = .sl0 ∨ isSl v = true) : v.cells = [v] := by
  rcases s with rfl | rfl | s
  · rfl
  · rfl
  · cases v <;> first | rfl | simp [isSl] at s
theorem ln_any (s : v = .nilsl ∨ v = .sl0 ∨ isSl v = true) (K : AV → AH → Nat → Prop) (h' : AH) (n : Nat) : LN v K h' n = K (.int .i64 (slen v)) h' n := by
  rcases s with rfl | rfl | s
  · rfl
  · rfl
  · cases v <;> first | rfl | simp [isSl] at s
theorem Sl.ln (s : Sl w lo hi h es v cs) (K : AV → AH → Nat → Prop) (h' : AH) (n : Nat) : LN v K h' n = K (.int .i64 (slen v)) h' n := ln_any s.any K h' n
theorem ia_any (s : v = .nilsl ∨ v = .sl0 ∨ isSl v = true) {es' : Nat} {k : IntKind} {j : Int} (h0 : 0 ≤ j) (h1 : j < slen v) (K : AV → AH → Nat → Prop) (h' : AH) (n : Nat) :
    IA es' v (.int k j) K h' n = K (.ptr (bid v) (boff v + j.toNat * es')) h' n := by
  rcases s with rfl | rfl | s
  · simp [slen] at h1; omega
  · simp [slen] at h1; omega
  · cases v with
    | sl i o m c => simp only [slen] at h1; simp only [ia_s, bid, boff]; exact propext ⟨fun h => h.2.2, fun h => ⟨h0, by omega, h⟩⟩
    | so i m => simp only [slen] at h1; simp only [ia_o, bid, boff, Nat.zero_add]; exact propext ⟨fun h => h.2.2, fun h => ⟨h0, by omega, h⟩⟩
    | sx i o m => simp only [slen] at h1; simp only [ia_x, bid, boff]; exact propext ⟨fun h => h.2.2, fun h => ⟨h0, by omega, h⟩⟩
    | _ => simp [isSl] at s
theorem Sl.ia (s : Sl w lo hi h es v cs) {es' : Nat} {k : IntKind} {j : Int} (h0 : 0 ≤ j) (h1 : j < slen v) (K : AV → AH → Nat → Prop) (h' : AH) (n : Nat) :
    IA es' v (.int k j) K h' n = K (.ptr (bid v) (boff v + j.toNat * es')) h' n := ia_any s.any h0 h1 K h' n
theorem Sl.cell (s : Sl w lo hi h es v cs) {k : Nat} (hk : k < cs.length) : lo ≤ bid v ∧ bid v < hi ∧ ∃ b, h (bid v) = some b ∧ b.cells[boff v + k]? = some (cs.getD k .any) := by
  rcases s.shape with rfl | ⟨_, rfl⟩ | ⟨_, h1, h2, b, hb, hw, hl, hc⟩
  · have := s.len; simp [slen] at this; subst this; simp at hk
  · have := s.len; simp [slen] at this; subst this; simp at hk
  · refine ⟨h1, h2, b, hb, ?_⟩
    rw [← cutA_get hk hl, hc]
    simp [List.getD, hk]
theorem Sl.ld (s : Sl w lo hi h es v cs) {k : Nat} (hk : k < cs.length) (K : AV → AH → Nat → Prop) (h' : AH) (n : Nat) : L2 (h (bid v)) (boff v + k) K h' n = K (cs.getD k .any) h' n := by
  obtain ⟨_, _, ⟨ty, cells, wr, op⟩, hb, hc⟩ := s.cell hk
  rw [hb, l2, hc, l3]
theorem Sl.below (s : Sl w lo hi h es v cs) (hk : 0 < slen v) : lo ≤ bid v ∧ bid v < hi := by
  rcases s.shape with rfl | ⟨_, rfl⟩ | ⟨_, h1, h2, _⟩
  · simp [slen] at hk
  · simp [slen] at hk
  · exact ⟨h1, h2⟩
theorem Sl.own (s : Sl true lo hi h es v cs) (hs : isSl v = true) : lo ≤ bid v ∧ bid v < hi := by
  rcases s.shape with rfl | ⟨hw, _⟩ | ⟨_, h1, h2, _⟩
  · simp [isSl] at hs
  · cases hw
  · exact ⟨h1, h2⟩
theorem Sl.keep1 {h' : AH} (s : Sl true lo hi h es v cs) (k : isSl v = true → h' (bid v) = h (bid v)) : Sl true lo hi h' es v cs :=
  ⟨s.len, s.shape.imp id (Or.imp id fun ⟨h1, h2, h3, b, h4, h5⟩ => ⟨h1, h2, h3, b, by rw [k h1]; exact h4, h5⟩)⟩
theorem Sl.ld2 (s : Sl w lo hi h es v cs) {k z : Nat} (hk : k + z ≤ cs.length) (hz : 0 < z) (K : AV → AH → Nat → Prop) (h' : AH) (n : Nat) : M2 z (h (bid v)) (boff v + k) K h' n = K (.agg (cutA cs k z)) h' n := by
  rcases s.shape with rfl | ⟨_, rfl⟩ | ⟨_, h1, h2, ⟨ty, cells, wr, op⟩, hb, hw, hl, hc⟩
  · have := s.len; simp [slen] at this; subst this; simp at hk; omega
  · have := s.len; simp [slen] at this; subst this; simp at hk; omega
  · have e : cutA cells (boff v + k) z = cutA cs k z := by
      rw [← cutA_cutA hk]; simp only at hc; rw [hc]
    rw [hb, m2, e]
    simp only at hl
    exact propext ⟨fun h => h.2, fun h => ⟨by omega, h⟩⟩
theorem Sl.src (s : Sl w lo hi h es v cs) : Src h es v (slen v) cs := by
  rcases s.shape with rfl | ⟨_, rfl⟩ | ⟨hs, _, _, b, hb, _, hl, hc⟩
  · have := s.len; simp [slen] at this; simp [Src, slen, this]
  · have := s.len; simp [slen] at this; simp [Src, slen, this]
  · have hn := s.len
    rw [hn] at hl hc
    cases v with
    | sl i o m c => exact ⟨rfl, b, hb, hl, hc.symm⟩
    | so i m => exact ⟨rfl, b, hb, by simpa [boff] using hl, hc.symm⟩
    | sx i o m => exact ⟨rfl, b, hb, hl, hc.symm⟩
    | _ => simp [isSl] at hs
end

theorem Sl.of_sl {w : Bool} {lo hi es i m c ty op : Nat} {h : AH} {cs : List AV} (hb : h i = some ⟨ty, cs, true, op⟩) (hl : cs.length = m * es) (hc : m ≤ c) (h1 : lo ≤ i) (h2 : i < hi) : Sl w lo hi h es (.sl i 0 m c) cs :=
  ⟨hl, .inr (.inr ⟨by simp [isSl, hc], h1, h2, _, hb, fun _ => rfl, by simp [boff], by simp [boff, cutA]⟩)⟩
theorem Sl.of_so {w : Bool} {lo hi es i m ty op : Nat} {h : AH} {cs : List AV} (hb : h i = some ⟨ty, cs, true, op⟩) (hl : cs.length = m * es) (h1 : lo ≤ i) (h2 : i < hi) : Sl w lo hi h es (.so i m) cs :=
  ⟨hl, .inr (.inr ⟨by simp [isSl], h1, h2, _, hb, fun _ => rfl, by simp [boff], by simp [boff, cutA]⟩)⟩
theorem Sl.slo {w : Bool} {lo hi : Nat} {h h' : AH} {es n : Nat} {v : AV} {cs : List AV} {K : AV → AH → Nat → Prop} {k0 : IntKind} (s : Sl w lo hi h es v cs) (hv : v ≠ .sl0) {l : Int} (h0 : 0 ≤ l) (h1 : l ≤ slen v) (k : ∀ v', Sl w lo hi h es v' (cs.drop (l.toNat * es)) → slen v' = slen v - l.toNat → (isSl v = true → isSl v' = true ∧ bid v' = bid v ∧ (v = .nilsl ∨ v' ≠ .nilsl) ∧ v' ≠ .sl0) → K v' h' n) :
    SL es v (some (.int k0 l)) none none K h' n := by
  have hlen := s.len
  have key : ∀ v', slen v' = slen v - l.toNat → isSl v' = true → bid v' = bid v → (slen v' ≠ 0 → boff v' = boff v + l.toNat * es) → (slen v' = 0 → boff v' = boff v ∨ boff v' = boff v + l.toNat * es) → isSl v = true → Sl w lo hi h es v' (cs.drop (l.toNat * es)) := by
    intro v' e1 e2 e3 e4 e5 hs
    have hm : slen v' * es = cs.length - l.toNat * es := by rw [e1, Nat.sub_mul, hlen]
    refine ⟨by rw [List.length_drop, hm], ?_⟩
    rcases s.shape with rfl | ⟨_, rfl⟩ | ⟨_, g1, g2, b, hb, hw, hl, hc⟩
    · simp [isSl] at hs
    · simp [isSl] at hs
    · refine .inr (.inr ⟨e2, by omega, by omega, b, by rw [e3]; exact hb, hw, ?_, ?_⟩)
      · rw [List.length_drop]
        by_cases z : slen v' = 0
        · have : cs.length - l.toNat * es = 0 := by rw [← hm, z]; simp
          have h2 : l.toNat * es ≤ cs.length := by rw [hlen]; exact Nat.mul_le_mul_right _ (by omega)
          rcases e5 z with e | e <;> omega
        · rw [e4 z]
          have h2 : l.toNat * es ≤ cs.length := by rw [hlen]; exact Nat.mul_le_mul_right _ (by omega)
          omega
      · rw [List.length_drop]
        by_cases z : slen v' = 0
        · have h3 : cs.length - l.toNat * es = 0 := by rw [← hm, z]; simp
          rw [h3]
          simp only [cutA, List.take_zero]
          exact (List.drop_of_length_le (by omega)).symm
        · rw [e4 z]
          rw [← hc]
          simp only [cutA, List.drop_take, List.drop_drop, List.length_take, List.length_drop]
          congr 1
          omega
  rcases s.any with rfl | rfl | hs
  · have : l = 0 := by simp [slen] at h1; omega
    subst this
    rw [sl_nlo]
    exact k _ (by simpa using s) (by simp [slen]) (fun h => by simp [isSl] at h)
  · exact absurd rfl hv
  · cases v with
    | sl i o m c =>
      simp only [slen] at h1
      rw [sl_lo]
      have hmc : m ≤ c := by simpa [isSl] using hs
      refine ⟨h0, h1, k _ (key _ rfl (by simp [isSl]; omega) rfl (fun z => ?_) (fun z => ?_) hs) rfl fun _ => ⟨by simp [isSl]; omega, rfl, .inr (by simp), by simp⟩⟩
      · simp only [slen] at z
        simp only [boff]
        rw [if_neg (by omega)]
      · simp only [boff]
        split
        · exact .inl rfl
        · exact .inr rfl
    | so i m =>
      simp only [slen] at h1
      rw [sl_sol]
      exact ⟨h0, h1, k _ (key _ rfl rfl rfl (fun _ => by simp [boff]) (fun _ => .inr (by simp [boff])) hs) rfl fun _ => ⟨rfl, rfl, .inr (by simp), by simp⟩⟩
    | sx i o m =>
      simp only [slen] at h1
      rw [sl_xlo]
      exact ⟨h0, h1, k _ (key _ rfl rfl rfl (fun _ => by simp [boff]) (fun _ => .inr (by simp [boff])) hs) rfl fun _ => ⟨rfl, rfl, .inr (by simp), by simp⟩⟩
    | _ => simp [isSl] at hs
theorem Sl.shi {w : Bool} {lo hi : Nat} {h h' : AH} {es n : Nat} {v : AV} {cs : List AV} {K : AV → AH → Nat → Prop} {k0 : IntKind} (s : Sl w lo hi h es v cs) (hv : v ≠ .sl0) {l : Int} (h0 : 0 ≤ l) (h1 : l ≤ slen v) (k : ∀ v', Sl w lo hi h es v' (cs.take (l.toNat * es)) → slen v' = l.toNat → (isSl v = true → isSl v' = true ∧ bid v' = bid v ∧ (v = .nilsl ∨ v' ≠ .nilsl) ∧ v' ≠ .sl0) → K v' h' n) :
    SL es v none (some (.int k0 l)) none K h' n := by
  have hlen := s.len
  have h2 : l.toNat * es ≤ cs.length := by rw [hlen]; exact Nat.mul_le_mul_right _ (by omega)
  have key : ∀ v', slen v' = l.toNat → isSl v' = true → bid v' = bid v → boff v' = boff v → isSl v = true → Sl w lo hi h es v' (cs.take (l.toNat * es)) := by
    intro v' e1 e2 e3 e4 hs
    have h3 : (cs.take (l.toNat * es)).length = l.toNat * es := by simp; omega
    refine ⟨by rw [h3, e1], ?_⟩
    rcases s.shape with rfl | ⟨_, rfl⟩ | ⟨_, g1, g2, b, hb, hw, hl, hc⟩
    · simp [isSl] at hs
    · simp [isSl] at hs
    · refine .inr (.inr ⟨e2, by omega, by omega, b, by rw [e3]; exact hb, hw, by omega, ?_⟩)
      rw [h3, e4, ← hc]
      simp only [cutA, List.take_take]
      congr 1
      omega
  rcases s.any with rfl | rfl | hs
  · have : l = 0 := by simp [slen] at h1; omega
    subst this
    rw [sl_nhi]
    have : cs = [] := by simpa [slen] using hlen
    subst this
    exact k _ (by simpa using s) (by simp [slen]) (fun h => by simp [isSl] at h)
  · exact absurd rfl hv
  · cases v with
    | sl i o m c =>
      simp only [slen] at h1
      rw [sl_hi]
      have hmc : m ≤ c := by simpa [isSl] using hs
      exact ⟨h0, by omega, k _ (key _ rfl (by simp [isSl]; omega) rfl (by simp [boff]) hs) rfl fun _ => ⟨by simp [isSl]; omega, rfl, .inr (by simp), by simp⟩⟩
    | so i m =>
      simp only [slen] at h1
      rw [sl_so]
      exact ⟨h0, h1, k _ (key _ rfl rfl rfl rfl hs) rfl fun _ => ⟨rfl, rfl, .inr (by simp), by simp⟩⟩
    | sx i o m =>
      simp only [slen] at h1
      rw [sl_xhi]
      exact ⟨h0, h1, k _ (key _ rfl rfl rfl rfl hs) rfl fun _ => ⟨rfl, rfl, .inr (by simp), by simp⟩⟩
    | _ => simp [isSl] at hs
/-- A slice of whole numbers. -/
def ints (l : List Int) : List AV := l.map (AV.int .i64)
def Ints (w : Bool) (lo hi : Nat) (h : AH) (v : AV) (l : List Int) : Prop := Sl w lo hi h 1 v (ints l)
section
variable {w : Bool} {lo hi : Nat} {h : AH} {v : AV} {l : List Int}
theorem Ints.slen (s : Ints w lo hi h v l) : slen v = l.length := by have := Sl.len s; simp [ints] at this; omega
theorem Ints.ln (s : Ints w lo hi h v l) (K : AV → AH → Nat → Prop) (h' : AH) (n : Nat) : LN v K h' n = K (.int .i64 l.length) h' n := by rw [Sl.ln s, s.slen]
theorem Ints.ia (s : Ints w lo hi h v l) {k : IntKind} {j : Int} (h0 : 0 ≤ j) (h1 : j < l.length) (K : AV → AH → Nat → Prop) (h' : AH) (n : Nat) :
    IA 1 v (.int k j) K h' n = K (.ptr (bid v) (boff v + j.toNat)) h' n := by rw [Sl.ia s h0 (by rw [s.slen]; exact h1), Nat.mul_one]
theorem ints_getD (l : List Int) (k : Nat) (hk : k < l.length) : (ints l).getD k .any = .int .i64 (l.getD k 0) := by simp [ints, List.getD, hk]
theorem Ints.ld (s : Ints w lo hi h v l) {k : Nat} (hk : k < l.length) (K : AV → AH → Nat → Prop) (h' : AH) (n : Nat) : L2 (h (bid v)) (boff v + k) K h' n = K (.int .i64 (l.getD k 0)) h' n := by
  rw [Sl.ld s (by simpa [ints] using hk), ints_getD l k hk]
theorem Ints.ld0 (s : Ints w lo hi h v l) (hk : 0 < l.length) (K : AV → AH → Nat → Prop) (h' : AH) (n : Nat) : L2 (h (bid v)) (boff v) K h' n = K (.int .i64 (l.getD 0 0)) h' n := s.ld hk K h' n
theorem Ints.keep {h' : AH} (s : Ints w lo hi h v l) (k : ∀ i, lo ≤ i → i < hi → h' i = h i) : Ints w lo hi h' v l := Sl.keep s k
theorem Ints.ro (s : Ints w lo hi h v l) : Ints false lo hi h v l := Sl.ro s
theorem Ints.wide {lo' hi' : Nat} (s : Ints w lo hi h v l) (h1 : lo' ≤ lo) (h2 : hi ≤ hi') : Ints w lo' hi' h v l := Sl.wide s h1 h2
end

/-- Rows of whole numbers, as values vs. -/
structure RowsV (w : Bool) (lo hi : Nat) (h : AH) (vs : List AV) (ll : List (List Int)) : Prop where
  len : vs.length = ll.length
  row : ∀ k, k < ll.length → Ints w lo hi h (vs.getD k .any) (ll.getD k [])
  apart : w = true → ∀ j k, j < ll.length → k < ll.length → j ≠ k → isSl (vs.getD j .any) = true → isSl (vs.getD k .any) = true → bid (vs.getD j .any) ≠ bid (vs.getD k .any)
theorem RowsV.nil {w : Bool} {lo hi : Nat} {h : AH} : RowsV w lo hi h [] [] := ⟨rfl, fun k hk => absurd hk (Nat.not_lt_zero _), fun _ j k hk => absurd hk (Nat.not_lt_zero _)⟩
theorem RowsV.keep {w : Bool} {lo hi : Nat} {h h' : AH} {vs : List AV} {ll : List (List Int)} (s : RowsV w lo hi h vs ll) (k : ∀ i, lo ≤ i → i < hi → h' i = h i) : RowsV w lo hi h' vs ll := ⟨s.len, fun j hj => (s.row j hj).keep k, s.apart⟩
theorem RowsV.ro {w : Bool} {lo hi : Nat} {h : AH} {vs : List AV} {ll : List (List Int)} (s : RowsV w lo hi h vs ll) : RowsV false lo hi h vs ll := ⟨s.len, fun j hj => (s.row j hj).ro, fun h => (by cases h)⟩
theorem RowsV.wide {w : Bool} {lo hi lo' hi' : Nat} {h : AH} {vs : List AV} {ll : List (List Int)} (s : RowsV w lo hi h vs ll) (h1 : lo' ≤ lo) (h2 : hi ≤ hi') : RowsV w lo' hi' h vs ll := ⟨s.len, fun j hj => (s.row j hj).wide h1 h2, s.apart⟩
theorem getD_snoc_lt {α : Type} {l : List α} {x d : α} {k : Nat} (hk : k < l.length) : (l ++ [x]).getD k d = l.getD k d := by simp [List.getD, List.getElem?_append_left hk]
theorem getD_snoc_eq {α : Type} {l : List α} {x d : α} {k : Nat} (hk : k = l.length) : (l ++ [x]).getD k d = x := by subst hk; simp [List.getD]
theorem Ints.below {w : Bool} {lo hi : Nat} {h : AH} {v : AV} {l : List Int} (s : Ints w lo hi h v l) (hl : l ≠ []) : lo ≤ bid v ∧ bid v < hi := by
  refine Sl.below s ?_
  rw [s.slen]
  cases l with
  | nil => exact absurd rfl hl
  | cons a l => simp
theorem RowsV.snoc {w : Bool} {lo mid hi : Nat} {h h' : AH} {vs : List AV} {ll : List (List Int)} {v : AV} {l : List Int} (s : RowsV w lo mid h vs ll) (hk : ∀ i, lo ≤ i → i < mid → h' i = h i) (hv : Ints w mid hi h' v l) (h1 : lo ≤ mid) (h2 : mid ≤ hi) :
    RowsV w lo hi h' (vs ++ [v]) (ll ++ [l]) := by
  have hlen := s.len
  refine ⟨by simp [hlen], fun k hk' => ?_, fun hw j k hj hk' hne h3 h4 => ?_⟩
  · simp only [List.length_append, List.length_cons, List.length_nil] at hk'
    by_cases e : k < ll.length
    · rw [getD_snoc_lt (by omega), getD_snoc_lt e]; exact ((s.row k e).keep hk).wide (Nat.le_refl _) h2
    · rw [getD_snoc_eq (by omega), getD_snoc_eq (by omega)]; exact hv.wide h1 (Nat.le_refl _)
  · subst hw
    simp only [List.length_append, List.length_cons, List.length_nil] at hj hk'
    by_cases e : j < ll.length
    · by_cases e' : k < ll.length
      · rw [getD_snoc_lt (by omega)] at h3
        rw [getD_snoc_lt (by omega)] at h4
        rw [getD_snoc_lt (by omega), getD_snoc_lt (by omega)]
        exact s.apart rfl j k e e' hne h3 h4
      · rw [getD_snoc_lt (by omega)] at h3
        rw [getD_snoc_eq (by omega)] at h4
        rw [getD_snoc_lt (by omega), getD_snoc_eq (by omega)]
        have := (Sl.own (s.row j e) h3).2
        have := (Sl.own hv h4).1
        omega
    · rw [getD_snoc_eq (by omega)] at h3
      rw [getD_snoc_lt (show k < vs.length by omega)] at h4
      rw [getD_snoc_eq (by omega), getD_snoc_lt (by omega)]
      have := (Sl.own (s.row k (by omega)) h4).2
      have := (Sl.own hv h3).1
      omega
theorem RowsV.keep1 {lo hi : Nat} {h h' : AH} {vs : List AV} {ll : List (List Int)} (s : RowsV true lo hi h vs ll) (k : ∀ j, j < ll.length → isSl (vs.getD j .any) = true → h' (bid (vs.getD j .any)) = h (bid (vs.getD j .any))) : RowsV true lo hi h' vs ll :=
  ⟨s.len, fun j hj => Sl.keep1 (s.row j hj) (k j hj), s.apart⟩
theorem take_succ_getD {α : Type} {l : List α} {k : Nat} {d : α} (hk : k < l.length) : l.take (k + 1) = l.take k ++ [l.getD k d] := by
  rw [List.take_succ_eq_append_getElem hk]; simp [List.getD, hk]
theorem getD_ext {α : Type} {l l' : List α} {d : α} (h : l.length = l'.length) (he : ∀ j, j < l.length → l.getD j d = l'.getD j d) : l = l' := by
  refine List.ext_getElem h fun j h1 h2 => ?_
  have := he j h1
  simpa [List.getD, h1, h2] using this

/-- A slice of slices of whole numbers: vs are the rows as values. -/
structure Rows (w : Bool) (lo hi : Nat) (h : AH) (v : AV) (vs : List AV) (ll : List (List Int)) : Prop where
  out : Sl w lo hi h 1 v vs
  rows : RowsV w lo hi h vs ll
  outer : w = true → ∀ k, k < ll.length → isSl (vs.getD k .any) = true → bid (vs.getD k .any) ≠ bid v
section
variable {w : Bool} {lo hi : Nat} {h : AH} {v : AV} {vs : List AV} {ll : List (List Int)}
theorem Rows.len (s : Rows w lo hi h v vs ll) : vs.length = ll.length := s.rows.len
theorem Rows.row (s : Rows w lo hi h v vs ll) : ∀ k, k < ll.length → Ints w lo hi h (vs.getD k .any) (ll.getD k []) := s.rows.row
theorem Rows.slen (s : Rows w lo hi h v vs ll) : slen v = ll.length := by have := s.out.len; have := s.len; omega
theorem Rows.ln (s : Rows w lo hi h v vs ll) (K : AV → AH → Nat → Prop) (h' : AH) (n : Nat) : LN v K h' n = K (.int .i64 ll.length) h' n := by rw [s.out.ln, s.slen]
theorem Rows.ia (s : Rows w lo hi h v vs ll) {k : IntKind} {j : Int} (h0 : 0 ≤ j) (h1 : j < ll.length) (K : AV → AH → Nat → Prop) (h' : AH) (n : Nat) :
    IA 1 v (.int k j) K h' n = K (.ptr (bid v) (boff v + j.toNat)) h' n := by rw [s.out.ia h0 (by rw [s.slen]; exact h1), Nat.mul_one]
theorem Rows.ld (s : Rows w lo hi h v vs ll) {k : Nat} (hk : k < ll.length) (K : AV → AH → Nat → Prop) (h' : AH) (n : Nat) : L2 (h (bid v)) (boff v + k) K h' n = K (vs.getD k .any) h' n :=
  s.out.ld (by rw [s.len]; exact hk) K h' n
theorem Rows.ld0 (s : Rows w lo hi h v vs ll) (hk : 0 < ll.length) (K : AV → AH → Nat → Prop) (h' : AH) (n : Nat) : L2 (h (bid v)) (boff v) K h' n = K (vs.getD 0 .any) h' n := s.ld hk K h' n
theorem Rows.keep {h' : AH} (s : Rows w lo hi h v vs ll) (k : ∀ i, lo ≤ i → i < hi → h' i = h i) : Rows w lo hi h' v vs ll := ⟨s.out.keep k, s.rows.keep k, s.outer⟩
theorem Rows.ro (s : Rows w lo hi h v vs ll) : Rows false lo hi h v vs ll := ⟨s.out.ro, s.rows.ro, fun h => (by cases h)⟩
theorem Rows.wide {lo' hi' : Nat} (s : Rows w lo hi h v vs ll) (h1 : lo' ≤ lo) (h2 : hi ≤ hi') : Rows w lo' hi' h v vs ll := ⟨s.out.wide h1 h2, s.rows.wide h1 h2, s.outer⟩
end

/-- A call that hands back v and may leave new memory, of which R tells. -/
def FQ (P : Program) (f : Nat) (args : List AV) (h : AH) (n : Nat) (R : AV → AH → Nat → Prop) : Prop :=
  ∃ v h' n', BCalls P none' f args h n v h' n' ∧ (∀ i, (i < n ∨ n' ≤ i) → h' i = h i) ∧ R v h' n'
theorem fq_use {P : Program} {n0 : Nat} {W : Nat → Prop} {d : Bool} {f : Nat} {args : List AV} {h : AH} {n : Nat} {R : AV → AH → Nat → Prop} {K : AV → AH → Nat → Prop} (q : FQ P f args h n R)
    (hk : ∀ v h' n', n ≤ n' → (∀ i, i < n → h' i = h i) → R v h' n' → K v h' n') : CallC P n0 W d f args h n K := by
  obtain ⟨v, h', n', c, hs, hr⟩ := q
  exact ⟨v, h', n', none', c, fun _ _ h => h.elim, fun _ => ⟨rfl, hs⟩, hk v h' n' c.2.1 (fun i hi => hs i (.inl hi)) hr⟩
/-- For whoever makes new memory: what is said of the heap is said of the new part alone. -/
theorem fq_intro {P : Program} {f : Nat} {args : List AV} {h : AH} {n : Nat} {R : AV → AH → Nat → Prop} {fn : Func} {F' : F} (hf : P.funcs[f]? = some fn) (hF : compF P fn = some F')
    (hx : X P n none' F'.c (args ++ List.replicate (F'.nt - args.length) .any) h n (KS P n none' [] (KF F'.rs fun v h' n' => n ≤ n' → ∀ h2 : AH, (∀ i, n ≤ i → i < n' → h2 i = h' i) → R v h2 n'))) : FQ P f args h n R := by
  obtain ⟨v, h', n', hr, c⟩ := f_intro (K := fun v h' n' => n ≤ n' → ∀ h2 : AH, (∀ i, n ≤ i → i < n' → h2 i = h' i) → R v h2 n') hf hF hx
  refine ⟨v, mix n n' h h', n', ⟨c.1, c.2.1, fun ρ w vs hs ha hf => (c.2.2 ρ w vs hs ha hf).mono fun e w' ⟨rv, ρ', h1, h2, h3, h4⟩ => ⟨rv, ρ', h1, h2, hs.mix h4 hf h3, h4⟩⟩, fun i hi => ?_, hr c.2.1 _ fun i h1 h2 => ?_⟩
  · simp only [mix]; rw [if_neg (by omega)]
  · simp only [mix]; rw [if_pos ⟨h1, h2⟩]
theorem eq_intro {P : Program} {f : Nat} {args : List AV} {h : AH} {n : Nat} {R : AV → Prop} {fn : Func} {F' : F} (hf : P.funcs[f]? = some fn) (hF : compF P fn = some F')
    (hx : X P n none' F'.c (args ++ List.replicate (F'.nt - args.length) .any) h n (KS P n none' [] (KF F'.rs fun v' _ _ => R v'))) : ∃ v, R v ∧ Q P f args h n v := by
  obtain ⟨v', h', n', hr, c⟩ := bcalls (K := fun v' _ _ => R v') hf hF hx
  exact ⟨v', hr, Q.mk c⟩
theorem Q.fq {P : Program} {f : Nat} {args : List AV} {h : AH} {n : Nat} {v : AV} (q : Q P f args h n v) : FQ P f args h n fun v' _ _ => v' = v := by
  obtain ⟨n', c⟩ := q
  exact ⟨v, h, n', c, fun _ _ => rfl, rfl⟩
theorem upd_twice (h : AH) (i : Nat) (a b : Option Blk) : upd (upd h i a) i b = upd h i b := by
  funext j; simp only [upd]; split <;> rfl
theorem fill_step (cs : List AV) (z : AV) (k : Nat) (hk : k < cs.length) : putA (cs.take k ++ List.replicate (cs.length - k) z) k [cs.getD k .any] = cs.take (k + 1) ++ List.replicate (cs.length - (k + 1)) z := by
  have h1 : (cs.take k).length = k := by simp; omega
  have h2 : cs.length - k = (cs.length - (k + 1)) + 1 := by omega
  have h3 : cs.take (k + 1) = cs.take k ++ [cs.getD k .any] := by
    rw [List.take_succ_eq_append_getElem hk]; simp [List.getD, hk]
  simp only [putA, h3]
  rw [List.take_append_of_le_length (by omega), List.take_of_length_le (by omega)]
  congr 1
  rw [List.drop_append, List.drop_of_length_le (by simp; omega), h1]
  simp
  omega
/-- A loop by an invariant on slots, heap and names. -/
def KI (I : Nat → List AV → AH → Nat → Prop) (m : Nat) (K : KT) : KT := fun e t h n => match e with
  | .nrm => ∃ m' t1 h1 n1, m' < m ∧ Wk t h n t1 h1 n1 ∧ I m' t1 h1 n1
  | e => K e t h n
section
variable {I : Nat → List AV → AH → Nat → Prop} {m : Nat} {K : KT} {t : List AV} {h : AH} {n : Nat}
theorem kj_nrm : KI I m K .nrm t h n = ∃ m' t1 h1 n1, m' < m ∧ Wk t h n t1 h1 n1 ∧ I m' t1 h1 n1 := rfl
theorem kj_ex {j : Nat} : KI I m K (.ex j) t h n = K (.ex j) t h n := rfl
theorem kj_ret : KI I m K .ret t h n = K .ret t h n := rfl
theorem loop_inv {P : Program} {n0 : Nat} {W : Nat → Prop} {c : C} (I : Nat → List AV → AH → Nat → Prop) (m : Nat) (t1 : List AV) (h1 : AH) (n1 : Nat) (h0 : Wk t h n t1 h1 n1) (hI : I m t1 h1 n1)
    (step : ∀ m t h n, I m t h n → X P n0 W c t h n (KS P n0 W [] (KI I m K))) : X P n0 W (.loop c) t h n K := by
  refine loop_rule (α := { p : Nat × List AV × AH × Nat // I p.1 p.2.1 p.2.2.1 p.2.2.2 }) (fun p => p.1.2.1) (fun p => p.1.2.2.1) (fun p => p.1.2.2.2) (fun p => p.1.1) ⟨(m, t1, h1, n1), hI⟩ h0 ?_
  rintro ⟨⟨m, t, h, n⟩, hp⟩
  refine X_mono c _ _ _ _ _ (fun e t' h' n' he => ?_) (step m t h n hp)
  cases e with
  | nrm => obtain ⟨m', t1, h1, n1, a, b, c⟩ := he; exact ⟨⟨(m', t1, h1, n1), c⟩, a, b⟩
  | ex id => exact he
  | ret => exact he
end
/-- A loop that counts from k0 up to L: T the slots, H the heap, σ what else changes. -/
def KG {σ : Type} (L n0 : Nat) (T : Nat → σ → List AV) (H : Nat → σ → AH) (Inv : Nat → σ → Nat → Prop) (k : Nat) (K : KT) : KT := fun e t h n => match e with
  | .nrm => ∃ s, Inv (k + 1) s n ∧ k + 1 ≤ L ∧ n0 ≤ n ∧ LeL t (T (k + 1) s) ∧ ∀ i b, H (k + 1) s i = some b → h i = some b
  | e => K e t h n
section
variable {σ : Type} {L m0 k : Nat} {T : Nat → σ → List AV} {H : Nat → σ → AH} {Inv : Nat → σ → Nat → Prop} {K : KT} {t : List AV} {h : AH} {n : Nat}
theorem kg_nrm : KG L m0 T H Inv k K .nrm t h n = ∃ s, Inv (k + 1) s n ∧ k + 1 ≤ L ∧ m0 ≤ n ∧ LeL t (T (k + 1) s) ∧ ∀ i b, H (k + 1) s i = some b → h i = some b := rfl
theorem kg_ex {j : Nat} : KG L m0 T H Inv k K (.ex j) t h n = K (.ex j) t h n := rfl
theorem kg_ret : KG L m0 T H Inv k K .ret t h n = K .ret t h n := rfl
end
theorem loop_for {P : Program} {n0 : Nat} {W : Nat → Prop} {c : C} {t : List AV} {h : AH} {n : Nat} {K : KT} {σ : Type} (L k0 : Nat) (T : Nat → σ → List AV) (H : Nat → σ → AH) (Inv : Nat → σ → Nat → Prop) (s0 : σ) (hk0 : k0 ≤ L) (h0 : Inv k0 s0 n)
    (hT : LeL t (T k0 s0)) (hH : ∀ i b, H k0 s0 i = some b → h i = some b)
    (step : ∀ k s n1, k0 ≤ k → k ≤ L → n ≤ n1 → Inv k s n1 → X P n0 W c (T k s) (H k s) n1 (KS P n0 W [] (KG L n T H Inv k K))) : X P n0 W (.loop c) t h n K := by
  refine loop_rule (α := { p : Nat × σ × Nat // k0 ≤ p.1 ∧ p.1 ≤ L ∧ n ≤ p.2.2 ∧ Inv p.1 p.2.1 p.2.2 }) (fun p => T p.1.1 p.1.2.1) (fun p => H p.1.1 p.1.2.1) (fun p => p.1.2.2) (fun p => L - p.1.1)
    ⟨(k0, s0, n), Nat.le_refl _, hk0, Nat.le_refl _, h0⟩ ⟨hT, hH, Nat.le_refl _⟩ ?_
  rintro ⟨⟨k, s, n1⟩, hp0, hp1, hp2, hp3⟩
  refine X_mono c _ _ _ _ _ (fun e t' h' n' he => ?_) (step k s n1 hp0 hp1 hp2 hp3)
  cases e with
  | nrm =>
    obtain ⟨s', a, b, c, d, e⟩ := he
    exact ⟨⟨(k + 1, s', n'), by simp only at hp0 ⊢; omega, b, c, a⟩, by simp only at b ⊢; omega, d, e, Nat.le_refl _⟩
  | ex id => exact he
  | ret => exact he
theorem fill_avs (ws : List AV) (L : Nat) (z v : AV) (k : Nat) (h : ws.length = k) (hk : k < L) : putA (ws ++ List.replicate (L - k) z) k [v] = (ws ++ [v]) ++ List.replicate (L - (k + 1)) z := by
  subst h
  simp only [putA, List.take_left', List.length_cons, List.length_nil]
  congr 1
  rw [List.drop_append, List.drop_of_length_le (by simp)]
  simp
  omega
theorem fill_ints (l : List Int) (z : AV) (k : Nat) (hk : k < l.length) : putA ((ints l).take k ++ List.replicate (l.length - k) z) k [.int .i64 (l.getD k 0)] = (ints l).take (k + 1) ++ List.replicate (l.length - (k + 1)) z := by
  have := fill_step (ints l) z k (by simpa [ints] using hk)
  rw [ints_getD l k hk] at this
  simpa [ints] using this
theorem ints_len (l : List Int) : (ints l).length = l.length := by simp [ints]
/-- The walk's rules in one. -/
theorem xsW : type_of% (And.intro (And.intro (And.intro (And.intro (And.intro (And.intro (And.intro @y_skip (And.intro @y_reg @y_chk)) (And.intro (And.intro @ch_nil @ch_cons) (And.intro @ne_p @y_seq))) (And.intro (And.intro @y_cond (And.intro @y_block @y_exit)) (And.intro (And.intro @y_ret @ks_nil) (And.intro @ks_seq_nrm @ks_seq_ex)))) (And.intro (And.intro (And.intro @ks_seq_ret (And.intro @ks_blk_nrm @ks_blk_ret)) (And.intro (And.intro @ks_blk_same @ks_blk_ex) (And.intro @z_nil @z_op))) (And.intro (And.intro @z_guard (And.intro @ao_app @po_app)) (And.intro (And.intro @kl_nrm @kl_ex) (And.intro @kl_ret @kf_n))))) (And.intro (And.intro (And.intro (And.intro @kf_r (And.intro @cd_t @cd_f)) (And.intro (And.intro @cd_y @cd_n) (And.intro @gd_y @gd_n))) (And.intro (And.intro @pk_y (And.intro @pk_n @gd_tt)) (And.intro (And.intro @gd_ff @gd_tf) (And.intro @gd_ft (And.intro @gd_no @w_mv))))) (And.intro (And.intro (And.intro @w_pick (And.intro @pk_t @pk_f)) (And.intro (And.intro @w_bin @b_add) (And.intro @b_sub @b_mul))) (And.intro (And.intro @b_quo' (And.intro @b_rem' @b_quo)) (And.intro (And.intro @b_rem @b_and) (And.intro @b_or @b_xor)))))) (And.intro (And.intro (And.intro (And.intro (And.intro @b_andNot (And.intro @b_eql @b_neq)) (And.intro (And.intro @b_lss @b_leq) (And.intro @b_gtr @b_geq))) (And.intro (And.intro @b_shl' (And.intro @b_shl @b_shr')) (And.intro (And.intro @b_shr @u64w) (And.intro @b_sadd @b_seql)))) (And.intro (And.intro (And.intro @b_sneq (And.intro @ki_i64' @ki_i64)) (And.intro (And.intro @ki_u64 @ki_u8) (And.intro @ki_i32 @w_beq))) (And.intro (And.intro @bq_t (And.intro @bq_f @w_nileq)) (And.intro (And.intro @nq_n @nq_i) (And.intro @w_nilseq @sq_n))))) (And.intro (And.intro (And.intro (And.intro @sq_s (And.intro @sq_o @w_neg)) (And.intro (And.intro @ng @w_not) (And.intro @nt @w_alloc))) (And.intro (And.intro @w_box (And.intro @w_build @bd)) (And.intro (And.intro @w_mks @mk_') (And.intro @mk_ @w_lit)))) (And.intro (And.intro (And.intro @lt_ (And.intro @w_ld1 @l1)) (And.intro (And.intro @l2 @l3) (And.intro @w_ld @m1))) (And.intro (And.intro @m2 (And.intro @w_st @s1)) (And.intro (And.intro @s2' @s2) (And.intro @w_nck @nk_p))))))) (And.intro (And.intro (And.intro (And.intro (And.intro (And.intro @nk_f (And.intro @w_cvi @cv)) (And.intro (And.intro @w_cvs @cs_) (And.intro @w_mkf @w_fa))) (And.intro (And.intro @fa (And.intro @w_fld @fl)) (And.intro (And.intro @w_fld1 @f1) (And.intro @w_ia @ia_s')))) (And.intro (And.intro (And.intro @ia_o' (And.intro @ia_x @ia_s)) (And.intro (And.intro @ia_o @w_ixs) (And.intro @w_ext @ex_))) (And.intro (And.intro @w_len (And.intro @ln_s @ln_o)) (And.intro (And.intro @ln_x @ln_n) (And.intro @w_lens @ls_))))) (And.intro (And.intro (And.intro (And.intro @w_cap (And.intro @cp_s @cp_n)) (And.intro (And.intro @w_mx @w_mn) (And.intro @mx_ @mn_))) (And.intro (And.intro @w_app (And.intro (And.intro @w_callw (And.intro @clw @w_call)) @cl)) (And.intro (And.intro @w_slc @sl_lo) (And.intro @sl_hi @sl_so)))) (And.intro (And.intro (And.intro @sl_sol (And.intro @sl_son @sl_nn)) (And.intro (And.intro @w_sls @ss_lo) (And.intro @ss_hi @ss_lh))) (And.intro (And.intro @rf_nil (And.intro @rf_t @rf_c1)) (And.intro (And.intro @rf_ca @r1) (And.intro @r2 @r3)))))) (And.intro (And.intro (And.intro (And.intro (And.intro @r4 (And.intro @r5 @one1)) (And.intro (And.intro @one2 @sto_bool) (And.intro @one_bool @cel_bool))) (And.intro (And.intro @sto_int (And.intro @one_int @cel_int)) (And.intro (And.intro @sto_str @one_str) (And.intro @cel_str @sto_ptr)))) (And.intro (And.intro (And.intro @one_ptr (And.intro @cel_ptr @sto_nilptr)) (And.intro (And.intro @one_nilptr @cel_nilptr) (And.intro @sto_sl @one_sl))) (And.intro (And.intro @cel_sl (And.intro @sto_so @one_so)) (And.intro (And.intro @cel_so @sto_sx) (And.intro @one_sx @cel_sx))))) (And.intro (And.intro (And.intro (And.intro @sto_nilsl (And.intro @one_nilsl @cel_nilsl)) (And.intro (And.intro @sto_fn @one_fn) (And.intro @cel_fn @sto_nilif))) (And.intro (And.intro @one_nilif (And.intro @cel_nilif @sto_iface)) (And.intro (And.intro @one_iface @cel_iface) (And.intro @sto_agg @cel_agg)))) (And.intro (And.intro (And.intro @upd_same (And.intro @upd_other @putA_zero)) (And.intro (And.intro @putA_cons @repA_one) (And.intro @repA_zero @repA_succ))) (And.intro (And.intro (And.intro @kj_nrm @kj_ex) (And.intro @kj_ret @upd_twice)) (And.intro (And.intro @kg_nrm @kg_ex) (And.intro @kg_ret @ints_len)))))))) := And.intro (And.intro (And.intro (And.intro (And.intro (And.intro (And.intro @y_skip (And.intro @y_reg @y_chk)) (And.intro (And.intro @ch_nil @ch_cons) (And.intro @ne_p @y_seq))) (And.intro (And.intro @y_cond (And.intro @y_block @y_exit)) (And.intro (And.intro @y_ret @ks_nil) (And.intro @ks_seq_nrm @ks_seq_ex)))) (And.intro (And.intro (And.intro @ks_seq_ret (And.intro @ks_blk_nrm @ks_blk_ret)) (And.intro (And.intro @ks_blk_same @ks_blk_ex) (And.intro @z_nil @z_op))) (And.intro (And.intro @z_guard (And.intro @ao_app @po_app)) (And.intro (And.intro @kl_nrm @kl_ex) (And.intro @kl_ret @kf_n))))) (And.intro (And.intro (And.intro (And.intro @kf_r (And.intro @cd_t @cd_f)) (And.intro (And.intro @cd_y @cd_n) (And.intro @gd_y @gd_n))) (And.intro (And.intro @pk_y (And.intro @pk_n @gd_tt)) (And.intro (And.intro @gd_ff @gd_tf) (And.intro @gd_ft (And.intro @gd_no @w_mv))))) (And.intro (And.intro (And.intro @w_pick (And.intro @pk_t @pk_f)) (And.intro (And.intro @w_bin @b_add) (And.intro @b_sub @b_mul))) (And.intro (And.intro @b_quo' (And.intro @b_rem' @b_quo)) (And.intro (And.intro @b_rem @b_and) (And.intro @b_or @b_xor)))))) (And.intro (And.intro (And.intro (And.intro (And.intro @b_andNot (And.intro @b_eql @b_neq)) (And.intro (And.intro @b_lss @b_leq) (And.intro @b_gtr @b_geq))) (And.intro (And.intro @b_shl' (And.intro @b_shl @b_shr')) (And.intro (And.intro @b_shr @u64w) (And.intro @b_sadd @b_seql)))) (And.intro (And.intro (And.intro @b_sneq (And.intro @ki_i64' @ki_i64)) (And.intro (And.intro @ki_u64 @ki_u8) (And.intro @ki_i32 @w_beq))) (And.intro (And.intro @bq_t (And.intro @bq_f @w_nileq)) (And.intro (And.intro @nq_n @nq_i) (And.intro @w_nilseq @sq_n))))) (And.intro (And.intro (And.intro (And.intro @sq_s (And.intro @sq_o @w_neg)) (And.intro (And.intro @ng @w_not) (And.intro @nt @w_alloc))) (And.intro (And.intro @w_box (And.intro @w_build @bd)) (And.intro (And.intro @w_mks @mk_') (And.intro @mk_ @w_lit)))) (And.intro (And.intro (And.intro @lt_ (And.intro @w_ld1 @l1)) (And.intro (And.intro @l2 @l3) (And.intro @w_ld @m1))) (And.intro (And.intro @m2 (And.intro @w_st @s1)) (And.intro (And.intro @s2' @s2) (And.intro @w_nck @nk_p))))))) (And.intro (And.intro (And.intro (And.intro (And.intro (And.intro @nk_f (And.intro @w_cvi @cv)) (And.intro (And.intro @w_cvs @cs_) (And.intro @w_mkf @w_fa))) (And.intro (And.intro @fa (And.intro @w_fld @fl)) (And.intro (And.intro @w_fld1 @f1) (And.intro @w_ia @ia_s')))) (And.intro (And.intro (And.intro @ia_o' (And.intro @ia_x @ia_s)) (And.intro (And.intro @ia_o @w_ixs) (And.intro @w_ext @ex_))) (And.intro (And.intro @w_len (And.intro @ln_s @ln_o)) (And.intro (And.intro @ln_x @ln_n) (And.intro @w_lens @ls_))))) (And.intro (And.intro (And.intro (And.intro @w_cap (And.intro @cp_s @cp_n)) (And.intro (And.intro @w_mx @w_mn) (And.intro @mx_ @mn_))) (And.intro (And.intro @w_app (And.intro (And.intro @w_callw (And.intro @clw @w_call)) @cl)) (And.intro (And.intro @w_slc @sl_lo) (And.intro @sl_hi @sl_so)))) (And.intro (And.intro (And.intro @sl_sol (And.intro @sl_son @sl_nn)) (And.intro (And.intro @w_sls @ss_lo) (And.intro @ss_hi @ss_lh))) (And.intro (And.intro @rf_nil (And.intro @rf_t @rf_c1)) (And.intro (And.intro @rf_ca @r1) (And.intro @r2 @r3)))))) (And.intro (And.intro (And.intro (And.intro (And.intro @r4 (And.intro @r5 @one1)) (And.intro (And.intro @one2 @sto_bool) (And.intro @one_bool @cel_bool))) (And.intro (And.intro @sto_int (And.intro @one_int @cel_int)) (And.intro (And.intro @sto_str @one_str) (And.intro @cel_str @sto_ptr)))) (And.intro (And.intro (And.intro @one_ptr (And.intro @cel_ptr @sto_nilptr)) (And.intro (And.intro @one_nilptr @cel_nilptr) (And.intro @sto_sl @one_sl))) (And.intro (And.intro @cel_sl (And.intro @sto_so @one_so)) (And.intro (And.intro @cel_so @sto_sx) (And.intro @one_sx @cel_sx))))) (And.intro (And.intro (And.intro (And.intro @sto_nilsl (And.intro @one_nilsl @cel_nilsl)) (And.intro (And.intro @sto_fn @one_fn) (And.intro @cel_fn @sto_nilif))) (And.intro (And.intro @one_nilif (And.intro @cel_nilif @sto_iface)) (And.intro (And.intro @one_iface @cel_iface) (And.intro @sto_agg @cel_agg)))) (And.intro (And.intro (And.intro @upd_same (And.intro @upd_other @putA_zero)) (And.intro (And.intro @putA_cons @repA_one) (And.intro @repA_zero @repA_succ))) (And.intro (And.intro (And.intro @kj_nrm @kj_ex) (And.intro @kj_ret @upd_twice)) (And.intro (And.intro @kg_nrm @kg_ex) (And.intro @kg_ret @ints_len)))))))
theorem dnot {p : Prop} [Decidable p] : (!decide p) = decide (¬ p) := by simp
/-- Core's rules in one. -/
theorem xsC : type_of% (And.intro (And.intro (And.intro (And.intro (And.intro (And.intro @List.length_cons.{0} @List.length_nil.{0}) (And.intro @List.replicate_succ.{0} @List.replicate_zero.{0})) (And.intro (And.intro @List.cons_append.{0} @List.nil_append.{0}) (And.intro @List.getD_cons_succ.{0} (And.intro @List.getD_cons_zero.{0} @List.set_cons_succ.{0})))) (And.intro (And.intro (And.intro @List.set_cons_zero.{0} @List.map_cons.{0, 0}) (And.intro @List.map_nil.{0, 0} @List.append_nil.{0})) (And.intro (And.intro @Bool.not_true @Bool.not_false) (And.intro @and_true (And.intro @true_and @or_true))))) (And.intro (And.intro (And.intro (And.intro @true_or @or_self) (And.intro @and_self @Bool.true_eq_false)) (And.intro (And.intro @Bool.false_eq_true @decide_eq_true_eq) (And.intro @decide_eq_false_iff_not (And.intro @List.all_cons.{0} @List.all_nil.{0})))) (And.intro (And.intro (And.intro @Bool.and_true @Bool.true_and) (And.intro @Option.some.injEq.{0} (And.intro @List.getElem?_cons_succ.{0} @List.getElem?_cons_zero.{0}))) (And.intro (And.intro @List.cons.injEq.{0} @AV.bool.injEq) (And.intro @AV.int.injEq (And.intro @AV.ptr.injEq @AV.agg.injEq)))))) (And.intro (And.intro (And.intro (And.intro (And.intro @AV.tup.injEq @Option.map_some.{0, 0}) (And.intro @Option.map_none.{0, 0} @not_false_eq_true)) (And.intro (And.intro @not_true_eq_false @Bool.not_eq_true') (And.intro @Bool.not_eq_false' (And.intro @decide_true @decide_false)))) (And.intro (And.intro (And.intro @List.take_succ_cons.{0} @List.take_zero.{0}) (And.intro @List.take_nil.{0} @List.drop_succ_cons.{0})) (And.intro (And.intro @List.drop_zero.{0} @List.drop_nil.{0}) (And.intro @Nat.zero_add (And.intro @Nat.add_zero @Nat.le_refl))))) (And.intro (And.intro (And.intro (And.intro @List.flatten_cons.{0} @List.flatten_nil.{0}) (And.intro @Nat.zero_mul @Nat.mul_one)) (And.intro (And.intro @false_and @and_false) (And.intro @Decidable.not_not (And.intro @Int.toNat_natCast @Int.toNat_zero)))) (And.intro (And.intro (And.intro @List.length_append.{0} @List.length_take.{0}) (And.intro @List.length_replicate.{0} (And.intro @Bool.false_and @Bool.and_false))) (And.intro (And.intro @Bool.or_true @Bool.true_or) (And.intro @Bool.or_false (And.intro @Bool.false_or @dnot))))))) := And.intro (And.intro (And.intro (And.intro (And.intro (And.intro @List.length_cons.{0} @List.length_nil.{0}) (And.intro @List.replicate_succ.{0} @List.replicate_zero.{0})) (And.intro (And.intro @List.cons_append.{0} @List.nil_append.{0}) (And.intro @List.getD_cons_succ.{0} (And.intro @List.getD_cons_zero.{0} @List.set_cons_succ.{0})))) (And.intro (And.intro (And.intro @List.set_cons_zero.{0} @List.map_cons.{0, 0}) (And.intro @List.map_nil.{0, 0} @List.append_nil.{0})) (And.intro (And.intro @Bool.not_true @Bool.not_false) (And.intro @and_true (And.intro @true_and @or_true))))) (And.intro (And.intro (And.intro (And.intro @true_or @or_self) (And.intro @and_self @Bool.true_eq_false)) (And.intro (And.intro @Bool.false_eq_true @decide_eq_true_eq) (And.intro @decide_eq_false_iff_not (And.intro @List.all_cons.{0} @List.all_nil.{0})))) (And.intro (And.intro (And.intro @Bool.and_true @Bool.true_and) (And.intro @Option.some.injEq.{0} (And.intro @List.getElem?_cons_succ.{0} @List.getElem?_cons_zero.{0}))) (And.intro (And.intro @List.cons.injEq.{0} @AV.bool.injEq) (And.intro @AV.int.injEq (And.intro @AV.ptr.injEq @AV.agg.injEq)))))) (And.intro (And.intro (And.intro (And.intro (And.intro @AV.tup.injEq @Option.map_some.{0, 0}) (And.intro @Option.map_none.{0, 0} @not_false_eq_true)) (And.intro (And.intro @not_true_eq_false @Bool.not_eq_true') (And.intro @Bool.not_eq_false' (And.intro @decide_true @decide_false)))) (And.intro (And.intro (And.intro @List.take_succ_cons.{0} @List.take_zero.{0}) (And.intro @List.take_nil.{0} @List.drop_succ_cons.{0})) (And.intro (And.intro @List.drop_zero.{0} @List.drop_nil.{0}) (And.intro @Nat.zero_add (And.intro @Nat.add_zero @Nat.le_refl))))) (And.intro (And.intro (And.intro (And.intro @List.flatten_cons.{0} @List.flatten_nil.{0}) (And.intro @Nat.zero_mul @Nat.mul_one)) (And.intro (And.intro @false_and @and_false) (And.intro @Decidable.not_not (And.intro @Int.toNat_natCast @Int.toNat_zero)))) (And.intro (And.intro (And.intro @List.length_append.{0} @List.length_take.{0}) (And.intro @List.length_replicate.{0} (And.intro @Bool.false_and @Bool.and_false))) (And.intro (And.intro @Bool.or_true @Bool.true_or) (And.intro @Bool.or_false (And.intro @Bool.false_or @dnot))))))
end Go.Proofs.Ytmjfekgbbjojdac.L
