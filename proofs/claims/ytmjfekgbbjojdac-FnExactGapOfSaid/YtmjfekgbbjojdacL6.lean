/- Literals of slices, loads, stores, appends, calls. -/
import Derived.Test.YtmjfekgbbjojdacL5
namespace Go.Proofs.Ytmjfekgbbjojdac.L
open Go
set_option linter.unusedSimpArgs false
set_option linter.unusedVariables false
section
variable {P : Program} {o : Oper} {t : List AV}

/-- Parts by their numbers, each of one element's size. -/
def elemsOf (es : Nat) (ps : List (Nat × AV)) : List (Nat × Nat × AV) := ps.map fun p => (p.1 * es, es, p.2)
theorem compElems_rel {ρ : Rho} {a : Act} {es : Nat} : ∀ {ps : List (Nat × Operand)} {l : List (Nat × A)}, compElems ps = some l → Rel ρ ((l.map (·.2)).flatMap A.reads) t a →
    PartsRel ρ (fun i => some (i * es, es)) (ps.map fun p => (p.1, a.eval p.2)) (elemsOf es (l.map fun p => (p.1, ev t p.2)))
  | [], l, h, _ => by simp only [compElems, Option.some.injEq] at h; subst h; simp [PartsRel, elemsOf]
  | (i, x) :: r, l, h, hr => by
    simp only [compElems] at h
    split at h
    · rename_i y m h2 h3
      cases h
      have ih := compElems_rel (es := es) h3 (fun d hd => hr d (by simp only [List.map_cons, List.flatMap_cons, List.mem_append]; exact .inr hd))
      simp only [elemsOf, List.map_cons, PartsRel] at ih ⊢
      exact ⟨trivial, compA_is h2 fun d hd => hr d (by simp [hd]), ih⟩
    · cases h
theorem o_lit {T e : TypeId} {i : TypeInfo} {z : List AV} {len : Nat} {ps : Array (Nat × Operand)} {l : List (Nat × A)} (ho : o.op = .buildSlice T len ps) (hT : P.underlying T = some (.slice e)) (hi : P.info? e = some i) (hz : zeroOf P e = some z)
    (hs0 : i.size ≠ 0) (hsm : len * i.size ≤ 65536) (hl : compElems ps.toList = some l) {cs : List AV} (hf : fillA (repA len z) (elemsOf i.size (l.map fun p => (p.1, ev t p.2))) = some cs) (n : Nat) :
    RO P none' o (O.lit e i.size len z l).reads t emp n (.sl n 0 len len) (upd emp n (some ⟨e, cs, true, 0⟩)) (n + 1) := by
  obtain ⟨i', v, hi', hiz, hs, hrun, his⟩ := zeroOf_run hz
  rw [hi] at hi'; cases hi'
  refine RO.maker (rv := fun b => .slice (some ⟨b, 0, none⟩) len len) n (fun ρ b hb => by simp only [Is]; exact ⟨_, hb, rfl⟩) fun ρ a hR => ?_
  have hp := compElems_rel (es := i.size) hl (hR.args (xs := l.map (·.2)) (by simp [O.args]))
  obtain ⟨c', h1, h2⟩ := fill_is (c := ((List.replicate len v.cells.toList).flatten.toArray)) hp (by simpa using repA_is (his ρ) len) hf
  refine ⟨c'.toList, h2, fun w => ?_⟩
  by_cases h0 : len * i.size = 0
  · have hlen : len = 0 := by
      rcases Nat.mul_eq_zero.1 h0 with h | h
      · exact h
      · exact absurd h hs0
    subst hlen
    simp at h1
    simp [execOp, ho, Instr.buildSlice, run_underlying hT, sizeOf, typeInfo, hi, newRow, Array.range_zero', h1]
  · have hr := run_buildSlice (P := P) w T e len (ps.map fun p => (p.1, a.eval p.2)) c' i v hT hi hiz (by omega) h0 (by
      rw [← hs]
      have : ((Array.range (len * v.cells.size)).map (v.cells[· % v.cells.size]!)) = (List.replicate len v.cells.toList).flatten.toArray := by
        rw [← rep_range]; apply Array.ext'; simp
      rw [this, hs]
      simpa using h1)
    simp [execOp, ho, hr]

theorem o_ld1 {T : TypeId} {x : Operand} {x' : A} (ho : o.op = .load T x) (hx : compA x = some x') (ha : isAgg' P T = some false) {i off : Nat} (hp : ev t x' = .ptr i off) {h : AH} {b : Blk} (hb : h i = some b) {c : AV} (hc : b.cells[off]? = some c) (n : Nat) :
    RO P none' o (O.ld1 x').reads t h n c h n :=
  ⟨Nat.le_refl _, fun ρ a w Kr Qr hr hs hf hk => by
    have e1 := compA_is hx (hr.arg (x := x') (by simp [O.args]))
    rw [hp] at e1; simp only [Is] at e1
    obtain ⟨r, hr', e1⟩ := e1
    obtain ⟨r', h1, h2⟩ := hs.lies i b hb
    rw [hr'] at h1; cases h1
    obtain ⟨v, h3, h4⟩ := h2.cells off c hc
    refine wp_value (w' := w) (rv := v) ?_ (hk v ρ w h4 hs (Cx.refl ρ w _ _ _ hf))
    simp [execOp, ho, e1, Instr.loadAt, Instr.sureAddr, loadVar, isAgg'_run ha, h3]⟩
theorem o_ld {T : TypeId} {x : Operand} {x' : A} {s : Nat} (ho : o.op = .load T x) (hx : compA x = some x') (ha : isAgg' P T = some true) (hsz : sizeOf' P T = some s) {i off : Nat} (hp : ev t x' = .ptr i off) {h : AH} {b : Blk} (hb : h i = some b)
    (hl : off + s ≤ b.cells.length) (n : Nat) :
    RO P none' o (O.ld s x').reads t h n (.agg (cutA b.cells off s)) h n :=
  ⟨Nat.le_refl _, fun ρ a w Kr Qr hr hs hf hk => by
    have e1 := compA_is hx (hr.arg (x := x') (by simp [O.args]))
    rw [hp] at e1; simp only [Is] at e1
    obtain ⟨r, hr', e1⟩ := e1
    obtain ⟨r', h1, h2⟩ := hs.lies i b hb
    rw [hr'] at h1; cases h1
    have hall : ∀ m, m ≤ s → ∃ vs : List Value, vs.length = m ∧ IsL ρ (cutA b.cells off m) vs ∧ ∀ j v, vs[j]? = some v → w.cell? ((⟨r.b, r.s + off, none⟩ : Addr).add j) = some v := by
      intro m hm
      induction m with
      | zero => exact ⟨[], rfl, by simp [cutA, IsL.nil], fun j v h => by simp at h⟩
      | succ m ih =>
        obtain ⟨vs, g1, g2, g3⟩ := ih (by omega)
        have hlt : off + m < b.cells.length := by omega
        obtain ⟨v, h3, h4⟩ := h2.cells (off + m) b.cells[off + m] (by simp [hlt])
        refine ⟨vs ++ [v], by simp [g1], ?_, fun j u hj => ?_⟩
        · have : cutA b.cells off (m + 1) = cutA b.cells off m ++ [b.cells[off + m]] := by
            simp only [cutA]
            rw [List.take_succ_eq_append_getElem (by simp; omega)]
            simp
          rw [this]
          exact g2.append (IsL.cons h4 (IsL.nil ρ))
        · rw [List.getElem?_append] at hj
          split at hj
          · exact g3 j u hj
          · rename_i hjl
            have : j = m := by
              have := List.getElem?_eq_some_iff.1 hj
              obtain ⟨h5, _⟩ := this
              simp at h5; omega
            subst this
            simp [g1] at hj
            subst hj
            rw [add_none, Nat.add_assoc]; exact h3
    obtain ⟨vs, g1, g2, g3⟩ := hall s (Nat.le_refl _)
    have hrun := run_loadCells_list (P := P) w ⟨r.b, r.s + off, none⟩ vs g3
    rw [g1] at hrun
    refine wp_value (w' := w) (rv := .agg vs.toArray) ?_ (hk _ ρ w (by simp only [Is]; exact ⟨vs, rfl, g2⟩) hs (Cx.refl ρ w _ _ _ hf))
    simp [execOp, ho, e1, Instr.loadAt, Instr.sureAddr, loadVar, isAgg'_run ha, sizeOf'_run hsz, hrun]⟩

/-- One block has been written. -/
theorem Sim.write {ρ : Rho} {h : AH} {w : World} (s : Sim ρ h w) {i : Nat} {b b' : Blk} {r : Ref} {cs cs' : Array Value} (hb : h i = some b) (hw : b.wr = true) (hr : ρ i = some r)
    (hcs : w.heap[r.b]? = some (.cells cs b.ty (0, 0))) (h1 : b'.wr = true) (h2 : b'.ty = b.ty) (h3 : b'.op = b.op) (hs : cs'.size = cs.size) (hlen : b'.cells.length ≤ cs.size) (hcl : b.op = 0 → b'.cells.length = cs.size)
    (hc : ∀ (k : Nat) (c : AV), b'.cells[k]? = some c → ∃ v, cs'[k]? = some v ∧ Is ρ c v) : Sim ρ (upd h i (some b')) (w.setRow r.b cs') := by
  obtain ⟨r', hr', hat⟩ := s.lies i b hb
  rw [hr] at hr'; cases hr'
  obtain ⟨hs0, cs0, hcs0, g1, g2, g3⟩ := hat.own hw
  rw [hcs] at hcs0; cases hcs0
  have hrow := setRow_heap w r.b cs cs' b.ty (0, 0) hcs
  refine ⟨fun j bj hj => ?_, fun j k bj bk rj rk hj hk hjk hwr hne hrj hrk => ?_⟩
  · simp only [upd] at hj
    split at hj
    · rename_i hji
      subst hji; cases hj
      refine ⟨r, hr, fun k c hk => ?_, fun _ => ⟨hs0, cs', by rw [hrow, h2], by omega, fun h0 => by rw [hs]; exact (hcl (h3 ▸ h0)).symm, fun h0 => by rw [hs, h3]; exact g3 (h3 ▸ h0)⟩⟩
      obtain ⟨v, hv, hi⟩ := hc k c hk
      exact ⟨v, by rw [hs0, Nat.zero_add, cell_of_row _ _ _ _ _ _ hrow]; exact hv, hi⟩
    · rename_i hji
      obtain ⟨rj, hrj, hatj⟩ := s.lies j bj hj
      refine ⟨rj, hrj, ?_⟩
      by_cases hne : bj.wr = true ∨ bj.cells ≠ []
      · have hnb := s.inj i j b bj r rj hb hj (Ne.symm hji) hw hne hr hrj
        exact hatj.keep (Ext.refl ρ) (setRow_other w r.b rj.b cs' (Ne.symm hnb))
      · refine ⟨fun k c hk => ?_, fun hb' => absurd (Or.inl hb') hne⟩
        have : bj.cells = [] := by simpa using fun hc => hne (.inr hc)
        simp [this] at hk
  · have old : ∀ m bm, upd h i (some b') m = some bm → ∃ bm', h m = some bm' ∧ (bm.wr = true → bm'.wr = true) ∧ ((bm.wr = true ∨ bm.cells ≠ []) → (bm'.wr = true ∨ bm'.cells ≠ [])) := fun m bm hm => by
      simp only [upd] at hm
      split at hm
      · rename_i hmi; subst hmi; exact ⟨b, hb, fun _ => hw, fun _ => .inl hw⟩
      · exact ⟨bm, hm, id, id⟩
    obtain ⟨bj', hj', wj, _⟩ := old j bj hj
    obtain ⟨bk', hk', _, nk⟩ := old k bk hk
    exact s.inj j k bj' bk' rj rk hj' hk' hjk (wj hwr) (nk hne) hrj hrk

theorem Cx.write {ρ : Rho} {w : World} {i n : Nat} {r : Ref} {cs : Array Value} (hi : i < n) (hr : ρ i = some r) (n' : Nat) (hf : ∀ i, n ≤ i → i < n' → ρ i = none) : Cx ⟨ρ, w, (· = i), n, n'⟩ ρ (w.setRow r.b cs) :=
  ⟨rfl, rfl, rfl, by simp [World.setRow], fun b hb hh => setRow_other w r.b b cs (Ne.symm (hh i r hi rfl hr)), fun _ _ => rfl, fun _ _ => rfl, fun j rj h1 h2 h3 => by rw [hf j h1 h2] at h3; cases h3⟩

theorem put_get {α : Type} {z cs : List α} {off : Nat} (hfit : off + cs.length ≤ z.length) (k : Nat) :
    (z.take off ++ cs ++ z.drop (off + cs.length))[k]? = if k < off then z[k]? else if k < off + cs.length then cs[k - off]? else z[k]? := by
  rw [List.append_assoc, List.getElem?_append]
  simp only [List.length_take]
  split
  · rename_i h1
    rw [if_pos (by omega), List.getElem?_take, if_pos (by omega)]
  · rename_i h1
    rw [if_neg (by omega), List.getElem?_append]
    rw [show min off z.length = off by omega]
    split
    · rename_i h2
      rw [if_pos (by omega)]
    · rename_i h2
      rw [if_neg (by omega), List.getElem?_drop]
      rw [show off + cs.length + (k - off - cs.length) = k by omega]
/-- The cells of a row told from its beginning on. -/
def Pre (ρ : Rho) (z : List AV) (rz : List Value) : Prop := ∀ (k : Nat) (c : AV), z[k]? = some c → ∃ v, rz[k]? = some v ∧ Is ρ c v
theorem Pre.put {ρ : Rho} {z cs : List AV} {rz rv : List Value} {off : Nat} (hz : Pre ρ z rz) (hc : IsL ρ cs rv) (hfit : off + cs.length ≤ z.length) (hl : z.length ≤ rz.length) :
    Pre ρ (putA z off cs) (rz.take off ++ rv ++ rz.drop (off + rv.length)) := by
  intro k c hk
  have hcl := hc.length
  rw [putA, put_get hfit] at hk
  rw [put_get (by omega)]
  split at hk
  · rename_i h; rw [if_pos h]; exact hz k c hk
  · rename_i h
    rw [if_neg h]
    split at hk
    · rename_i h2; rw [if_pos (by omega)]; exact hc.get _ c hk
    · rename_i h2; rw [if_neg (by omega)]; exact hz k c hk

theorem o_st {T : TypeId} {x y : Operand} {x' y' : A} {s : Nat} (ho : o.op = .store T x y) (hx : compA x = some x') (hy : compA y = some y') (hsz : sizeOf' P T = some s) {i off : Nat} (hp : ev t x' = .ptr i off) {h : AH} {b : Blk}
    (hb : h i = some b) (hw : b.wr = true) (hst : (ev t y').storable = true) (hsl : (ev t y').cells.length = s) (hfit : off + s ≤ b.cells.length) {n : Nat} (hin : i < n) :
    RO P (· = i) o (O.st s x' y').reads t h n .any (upd h i (some { b with cells := putA b.cells off (ev t y').cells })) n :=
  ⟨Nat.le_refl _, fun ρ a w Kr Qr hr hs hf hk => by
    have e1 := compA_is hx (hr.arg (x := x') (by simp [O.args]))
    have e2 := compA_is hy (hr.arg (x := y') (by simp [O.args]))
    rw [hp] at e1; simp only [Is] at e1
    obtain ⟨r, hr', e1⟩ := e1
    obtain ⟨r', h1, h2⟩ := hs.lies i b hb
    rw [hr'] at h1; cases h1
    obtain ⟨hs0, cs, hcs, g1, g2, g3⟩ := h2.own hw
    obtain ⟨hst1, hst2⟩ := e2.storable hst
    have hvl : (a.eval y).cells.size = s := by have := hst1.length; simp at this; omega
    have hrun := run_storeCells_at P r.b off b.ty (a.eval y).cells.toList 0 cs w hcs (by simp; omega) hst2
    simp only [Nat.add_zero] at hrun
    refine wp_skip' (w' := w.setRow r.b (cs.toList.take off ++ (a.eval y).cells.toList ++ cs.toList.drop (off + (a.eval y).cells.toList.length)).toArray) ?_ (hk undef ρ _ (by simp only [Is]) (hs.write (b' := { b with cells := putA b.cells off (ev t y').cells }) hb hw hr' hcs hw rfl rfl ?_ ?_ ?_ ?_) (Cx.write hin hr' _ hf))
    · have hst' : (Instr.storeAt T (a.eval x) (a.eval y)).run P w = .ok () (w.setRow r.b (cs.toList.take off ++ (a.eval y).cells.toList ++ cs.toList.drop (off + (a.eval y).cells.toList.length)).toArray) := by
        rw [e1, ← hrun, hs0, Nat.zero_add]
        simp [Instr.storeAt, Instr.sureAddr, storeVar, sizeOf'_run hsz, hvl]
      simp only [execOp, ho, Sem.run_bind, hst', Result.andThen_ok, Sem.run_pure]
    · simp; omega
    · simp only; rw [putA_length (by omega)]; exact g1
    · intro h0; simp only; rw [putA_length (by omega)]; exact (g2 h0).symm
    · have hz : Pre ρ b.cells cs.toList := fun k c hk' => by
        obtain ⟨v, hv, hi⟩ := h2.cells k c hk'
        rw [hs0, Nat.zero_add, cell_of_row _ _ _ _ _ _ hcs] at hv
        exact ⟨v, by simpa using hv, hi⟩
      have := hz.put hst1 (off := off) (by omega) (by simpa using g1)
      intro k c hk'
      obtain ⟨v, hv, hi⟩ := this k c hk'
      exact ⟨v, by simpa using hv, hi⟩⟩
end
end Go.Proofs.Ytmjfekgbbjojdac.L
