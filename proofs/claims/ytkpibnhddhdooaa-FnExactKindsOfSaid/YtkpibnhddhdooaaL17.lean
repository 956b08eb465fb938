import Derived.Test.YtkpibnhddhdooaaJ3
import Derived.Deep.Matrix
/- Slices that come in as arguments, told to the logic: blocks that are only read. -/
namespace Go.Proofs.Ytkpibnhddhdooaa.L
open Go
open Go.RowKit Go.ChangeShapes Go.WideShapes Go.ChangeAt Go.Joins Go.Deep

structure Tell (W : World) (ρ : Rho) (h : AH) (n : Nat) : Prop where
  sim : Sim ρ h W
  free : ∀ i, n ≤ i → ρ i = none
  ro : ∀ i b, h i = some b → b.wr = false ∧ i < n

theorem Tell.none (W : World) : Tell W rho0 emp 0 := ⟨Sim.emp _ _, fun _ _ => rfl, fun _ _ h => by simp [L.emp] at h⟩
theorem put_ext {ρ : Rho} {n : Nat} {r : Ref} (h : ρ n = Option.none) : Ext ρ (ρ.put n r) := fun i q hq => by
  simp only [Rho.put]; split
  · rename_i e; subst e; rw [h] at hq; cases hq
  · exact hq
theorem BlkAt.ext {ρ ρ' : Rho} {w : World} {r : Ref} {b : Blk} (h : BlkAt ρ w r b) (e : Ext ρ ρ') : BlkAt ρ' w r b :=
  ⟨fun k c hc => by obtain ⟨v, h1, h2⟩ := h.cells k c hc; exact ⟨v, h1, h2.mono e⟩, h.own⟩
theorem Tell.add {W : World} {ρ : Rho} {h : AH} {n : Nat} (t : Tell W ρ h n) (b off c ty : Nat) (cells : List AV) (hc : ∀ k x, cells[k]? = some x → ∃ v, W.cell? ⟨b, off + k, .none⟩ = some v ∧ Is ρ x v) :
    Tell W (ρ.put n ⟨b, off, c⟩) (upd h n (some ⟨ty, cells, false, 0⟩)) (n + 1) := by
  have he : Ext ρ (ρ.put n ⟨b, off, c⟩) := put_ext (t.free n (Nat.le_refl _))
  refine ⟨⟨fun i q hq => ?_, fun i j bi bj ri rj h1 h2 h3 h4 => ?_⟩, fun i hi => ?_, fun i q hq => ?_⟩
  · simp only [upd] at hq
    split at hq
    · rename_i e; subst e
      cases hq
      refine ⟨⟨b, off, c⟩, by simp [Rho.put], fun k x hx => ?_, fun hw => by cases hw⟩
      obtain ⟨v, h1, h2⟩ := hc k x hx
      exact ⟨v, h1, h2.mono he⟩
    · obtain ⟨r, h1, h2⟩ := t.sim.lies i q hq
      exact ⟨r, he _ _ h1, h2.ext he⟩
  · simp only [upd] at h1
    split at h1
    · cases h1; cases h4
    · rw [(t.ro i bi h1).1] at h4; cases h4
  · simp only [Rho.put]; rw [if_neg (by omega)]; exact t.free i (by omega)
  · simp only [upd] at hq
    split at hq
    · rename_i e; cases hq; exact ⟨rfl, by omega⟩
    · have := t.ro i q hq; exact ⟨this.1, by omega⟩

/-- The slice v of whole numbers told. -/
theorem tell_slice {W : World} {ρ : Rho} {h : AH} {n : Nat} (t : Tell W ρ h n) (A : Option Addr) (len cap : Nat) (zs : List Int) (hl : len ≤ cap) (hz : zs.length = cap) (h0 : A = .none → cap = 0)
    (hc : ∀ a, A = some a → ∀ c, c < cap → W.cell? (a.add c) = some (.int .i64 (zs.getD c 0))) :
    ∃ ρ' h' n' av, Tell W ρ' h' n' ∧ Ext ρ ρ' ∧ n ≤ n' ∧ (∀ i, i < n → h' i = h i) ∧ Is ρ' av (.slice A len cap) ∧ Ints false n n' h' av (zs.take len) := by
  by_cases hcap : cap = 0
  · have hl0 : len = 0 := by omega
    subst hcap; subst hl0
    exact ⟨ρ, h, n, .sl0, t, Ext.refl _, Nat.le_refl _, fun _ _ => rfl, by simp only [Is]; exact ⟨_, rfl⟩, ⟨by simp [slen, ints], .inr (.inl ⟨rfl, rfl⟩)⟩⟩
  · cases A with
    | none => exact absurd (h0 rfl) hcap
    | some a =>
      obtain ⟨b, off, rfl, hcell⟩ := ints_at (zs := zs) (fun i hi => hc a rfl i (by omega)) (by omega)
      refine ⟨_, _, n + 1, .sl n 0 len cap, t.add b off 0 0 (ints zs) fun k x hx => ?_, put_ext (t.free n (Nat.le_refl _)), by omega, fun i hi => upd_other (by omega), ?_, ?_⟩
      · have hk : k < zs.length := by
          have := (List.getElem?_eq_some_iff.1 hx).1
          simpa [ints] using this
        refine ⟨_, hcell k hk, ?_⟩
        have e := ints_getD zs k hk
        simp only [List.getD, hx, Option.getD_some] at e
        rw [e]
        simp only [Is, List.getD]
      · simp only [Is]
        exact ⟨⟨b, off, 0⟩, by simp [Rho.put], by simp⟩
      · refine ⟨?_, .inr (.inr ⟨by simp [isSl, hl], Nat.le_refl _, by simp [bid], ⟨0, ints zs, false, 0⟩, by simp [bid, upd], fun h => (by cases h), ?_, ?_⟩)⟩
        · simp [ints, slen]; omega
        · simp [ints, boff]; omega
        · simp only [cutA, boff, List.drop_zero, ints, List.length_map, List.length_take, ← List.map_take]
          rw [hz, Nat.min_eq_left hl]

section
variable {H : Type} {enc : TypeId × Value → H} {P : Program} {W : World} {base : Nat}
theorem tell_ints0 {t e : TypeId} (hu : P.underlying t = some (.slice e)) (he : P.underlying e = some (.int .i64)) (hc : P.cellsOf e = 1) {ρ : Rho} {h : AH} {n : Nat} (T : Tell W ρ h n) {v : Value} {fuel : Nat} {x : DataW H × List MemPlace}
    (hf : DataW.trod enc P W 0 (fun _ => true) true fuel t [v] = some x) :
    ∃ ρ' h' n' av l, Tell W ρ' h' n' ∧ Ext ρ ρ' ∧ n ≤ n' ∧ (∀ i, i < n → h' i = h i) ∧ Is ρ' av v ∧ Ints false n n' h' av l ∧ l.length ≤ maxLen := by
  rcases open_ints hu he hc hf with ⟨hcs, hx⟩ | ⟨a, len', cap', zs, hcs, _, hl, hm, hz, hx, hcell, hwz⟩
  · simp at hcs
    subst hcs
    obtain ⟨ρ', h', n', av, g1, g2, g3, g4, g5, g6⟩ := tell_slice T .none 0 0 [] (Nat.le_refl _) rfl (fun _ => rfl) (fun a h => by cases h)
    exact ⟨ρ', h', n', av, _, g1, g2, g3, g4, g5, g6, by simp⟩
  · simp at hcs
    subst hcs
    simp only [if_true] at hz
    obtain ⟨ρ', h', n', av, g1, g2, g3, g4, g5, g6⟩ := tell_slice T (some a) len' cap' zs hl hz (fun h => by cases h) (fun a' h c hc' => by cases h; exact hcell c (by omega))
    exact ⟨ρ', h', n', av, _, g1, g2, g3, g4, g5, g6, by simp; omega⟩
theorem tell_rows0 {t e q : TypeId} (hu : P.underlying t = some (.slice e)) (he : P.underlying e = some (.slice q)) (hq : P.underlying q = some (.int .i64)) (ce : P.cellsOf e = 1) (cq : P.cellsOf q = 1) {ρ : Rho} {h : AH} {n : Nat} (T : Tell W ρ h n)
    {v : Value} {fuel : Nat} {x : DataW H × List MemPlace} (hf : DataW.trod enc P W 0 (fun _ => true) true fuel t [v] = some x) :
    ∃ ρ' h' n' av vs ll, Tell W ρ' h' n' ∧ Ext ρ ρ' ∧ n ≤ n' ∧ (∀ i, i < n → h' i = h i) ∧ Is ρ' av v ∧ Rows false n n' h' av vs ll ∧ ll.length ≤ maxLen ∧ ∀ l ∈ ll, l.length ≤ maxLen := by
  rcases open_int_rows hu he hq ce cq hf with ⟨hcs, hx⟩ | ⟨a, len, cap, A, L, C, Z, hcs, _, hl, hm, hx, hr⟩
  · simp at hcs
    subst hcs
    exact ⟨ρ, h, n, .nilsl, [], [], T, Ext.refl _, Nat.le_refl _, fun _ _ => rfl, by simp only [Is], ⟨Sl.nil, RowsV.nil, fun h => (by cases h)⟩, by simp, fun l hl => by simp at hl⟩
  · simp at hcs
    subst hcs
    have key : ∀ m, m ≤ cap → ∃ ρ' h' n', ∃ vs : List AV, Tell W ρ' h' n' ∧ Ext ρ ρ' ∧ n ≤ n' ∧ (∀ i, i < n → h' i = h i) ∧ vs.length = m ∧ ∀ r, r < m → Is ρ' (vs.getD r .any) (.slice (A r) (L r) (C r)) ∧ Ints false n n' h' (vs.getD r .any) ((Z r).take (L r)) := by
      intro m
      induction m with
      | zero => intro _; exact ⟨ρ, h, n, [], T, Ext.refl _, Nat.le_refl _, fun _ _ => rfl, rfl, fun r hr => absurd hr (Nat.not_lt_zero _)⟩
      | succ m ih =>
        intro hm
        obtain ⟨ρ1, h1, n1, vs, g1, g2, g3, g4, g5, g6⟩ := ih (by omega)
        obtain ⟨_, q1, q2, q3, q4, q5, q6⟩ := hr m (by omega)
        obtain ⟨ρ2, h2, n2, av, k1, k2, k3, k4, k5, k6⟩ := tell_slice g1 (A m) (L m) (C m) (Z m) q1 q3 q5 (fun a' ha c hc => (q6 a' ha).2 c hc)
        refine ⟨ρ2, h2, n2, vs ++ [av], k1, fun i r hr => k2 _ _ (g2 _ _ hr), by omega, fun i hi => by rw [k4 i (by omega), g4 i hi], by simp [g5], fun r hr' => ?_⟩
        by_cases e : r < m
        · rw [getD_snoc_lt (by omega)]
          exact ⟨(g6 r e).1.mono k2, ((g6 r e).2.keep fun i _ hi => k4 i hi).wide (Nat.le_refl _) k3⟩
        · have : r = m := by omega
          subst this
          rw [getD_snoc_eq (by omega)]
          exact ⟨k5, k6.wide g3 (Nat.le_refl _)⟩
    obtain ⟨ρ1, h1, n1, vs, g1, g2, g3, g4, g5, g6⟩ := key cap (Nat.le_refl _)
    have hlen : ((List.range len).map fun r => (Z r).take (L r)).length = len := by simp
    have hget : ∀ k, k < len → ((List.range len).map fun r => (Z r).take (L r)).getD k [] = (Z k).take (L k) := fun k hk => by simp [List.getD, hk]
    have hvs : ∀ k, k < len → (vs.take len).getD k .any = vs.getD k .any := fun k hk => by simp [List.getD, hk]
    have hbound : ∀ l ∈ ((List.range len).map fun r => (Z r).take (L r)), l.length ≤ maxLen := by
      intro l hm
      obtain ⟨r, hr', rfl⟩ := List.mem_map.1 hm
      have := hr r (by have := List.mem_range.1 hr'; omega)
      simp only [List.length_take]; omega
    by_cases hcap : cap = 0
    · have hl0 : len = 0 := by omega
      subst hcap; subst hl0
      exact ⟨ρ, h, n, .sl0, [], [], T, Ext.refl _, Nat.le_refl _, fun _ _ => rfl, by simp only [Is]; exact ⟨_, rfl⟩, ⟨⟨by simp [slen], .inr (.inl ⟨rfl, rfl⟩)⟩, RowsV.nil, fun h => (by cases h)⟩, by simp, fun l hl => by simp at hl⟩
    · obtain ⟨b, off, spot⟩ := a
      have hspot : spot = .none := by simpa [Addr.add] using World.cell?_spot (hr 0 (by omega)).1
      subst hspot
      have hA := g1.add b off 0 0 vs fun k x hx => by
        have hk : k < cap := by
          have := (List.getElem?_eq_some_iff.1 hx).1; omega
        refine ⟨.slice (A k) (L k) (C k), ?_, ?_⟩
        · have := (hr k hk).1
          rw [add_plain] at this
          exact this
        · have := (g6 k hk).1
          simpa [List.getD, hx] using this
      have hk : ∀ i, i < n1 → upd h1 n1 (some ⟨0, vs, false, 0⟩) i = h1 i := fun i hi => upd_other (by omega)
      refine ⟨_, _, n1 + 1, .sl n1 0 len cap, vs.take len, _, hA, fun i r hr => put_ext (g1.free n1 (Nat.le_refl _)) _ _ (g2 _ _ hr), by omega, fun i hi => by rw [hk i (by omega), g4 i hi], ?_, ⟨?_, ⟨?_, fun k hk' => ?_, fun h => (by cases h)⟩, fun h => (by cases h)⟩, by rw [hlen]; omega, hbound⟩
      · simp only [Is]
        exact ⟨⟨b, off, 0⟩, by simp [Rho.put], by simp⟩
      · refine ⟨by simp [slen]; omega, .inr (.inr ⟨by simp [isSl, hl], g3, by simp [bid], ⟨0, vs, false, 0⟩, by simp [bid, upd], fun h => (by cases h), by simp [boff]; omega, ?_⟩)⟩
        simp only [cutA, boff, List.drop_zero, List.length_take]
        rw [Nat.min_eq_left (by omega)]
      · rw [hlen]; simp; omega
      · rw [hlen] at hk'
        rw [hget k hk', hvs k hk']
        exact ((g6 k (by omega)).2.keep fun i _ hi => hk i hi).wide (Nat.le_refl _) (by omega)
theorem tell_ints {t e : TypeId} (hu : P.underlying t = some (.slice e)) (he : P.underlying e = some (.int .i64)) (hc : P.cellsOf e = 1) {ρ : Rho} {h : AH} {n : Nat} (T : Tell W ρ h n) {v : Value} {d : DataW H} {p : List MemPlace} (hv : Value.okWide P W .any base t v)
    (ht : DataW.Trod enc P W 0 (fun _ => true) true t v d p) :
    ∃ ρ' h' n' av l, Tell W ρ' h' n' ∧ Ext ρ ρ' ∧ n ≤ n' ∧ (∀ i, i < n → h' i = h i) ∧ Is ρ' av v ∧ Ints false n n' h' av l ∧ l.length ≤ maxLen := by
  obtain ⟨a0, len, cap, rfl⟩ := okWide_slice hu hv
  obtain ⟨fuel, hf⟩ := ht
  exact tell_ints0 hu he hc T (by simpa [Value.cells] using hf)
theorem tell_rows {t e q : TypeId} (hu : P.underlying t = some (.slice e)) (he : P.underlying e = some (.slice q)) (hq : P.underlying q = some (.int .i64)) (ce : P.cellsOf e = 1) (cq : P.cellsOf q = 1) {ρ : Rho} {h : AH} {n : Nat} (T : Tell W ρ h n)
    {v : Value} {d : DataW H} {p : List MemPlace} (hv : Value.okWide P W .any base t v) (ht : DataW.Trod enc P W 0 (fun _ => true) true t v d p) :
    ∃ ρ' h' n' av vs ll, Tell W ρ' h' n' ∧ Ext ρ ρ' ∧ n ≤ n' ∧ (∀ i, i < n → h' i = h i) ∧ Is ρ' av v ∧ Rows false n n' h' av vs ll ∧ ll.length ≤ maxLen ∧ ∀ l ∈ ll, l.length ≤ maxLen := by
  obtain ⟨a0, len, cap, rfl⟩ := okWide_slice hu hv
  obtain ⟨fuel, hf⟩ := ht
  exact tell_rows0 hu he hq ce cq T (by simpa [Value.cells] using hf)
/-- A problem: rows and a list. -/
theorem tell_problem {t r e q : TypeId} {f0 f1 : Field} (hs : P.underlying t = some (.struct #[f0, f1])) (hone : oneCellFields P #[f0, f1] = true) (hC : P.cellsOf t = 2) (h0 : f0.type = r) (h1 : f1.type = e)
    (hu : P.underlying r = some (.slice e)) (he : P.underlying e = some (.slice q)) (hq : P.underlying q = some (.int .i64)) (ce : P.cellsOf e = 1) (cq : P.cellsOf q = 1) {ρ : Rho} {h : AH} {n : Nat} (T : Tell W ρ h n)
    {v : Value} {d : DataW H} {p : List MemPlace} (hv : Value.okWide P W .any base t v) (ht : DataW.Trod enc P W 0 (fun _ => true) true t v d p) :
    ∃ ρ' h' n' av bv vs ll l, Tell W ρ' h' n' ∧ Ext ρ ρ' ∧ n ≤ n' ∧ (∀ i, i < n → h' i = h i) ∧ Is ρ' (.agg [av, bv]) v ∧ Rows false n n' h' av vs ll ∧ Ints false n n' h' bv l ∧ ll.length ≤ maxLen ∧ (∀ l ∈ ll, l.length ≤ maxLen) ∧ l.length ≤ maxLen := by
  obtain ⟨c0, c1, y0, y1, m, rfl, rfl, rfl, hy0, hy1⟩ := open_agg2 hs hone hC hv ht
  rw [h0] at hy0
  rw [h1] at hy1
  obtain ⟨ρ1, h1, n1, av, vs, ll, g1, g2, g3, g4, g5, g6, g7, g8⟩ := tell_rows0 hu he hq ce cq T hy0
  obtain ⟨ρ2, h2, n2, bv, l, k1, k2, k3, k4, k5, k6, k7⟩ := tell_ints0 he hq cq g1 hy1
  refine ⟨ρ2, h2, n2, av, bv, vs, ll, l, k1, fun i r hr => k2 _ _ (g2 _ _ hr), by omega, fun i hi => by rw [k4 i (by omega), g4 i hi], ?_, (g6.keep fun i _ hi => k4 i hi).wide (Nat.le_refl _) k3, k6.wide g3 (Nat.le_refl _), g7, g8, k7⟩
  simp only [Is]
  exact ⟨[c0, c1], rfl, IsL.cons (g5.mono k2) (IsL.cons k5 (IsL.nil _))⟩
end
end Go.Proofs.Ytkpibnhddhdooaa.L
