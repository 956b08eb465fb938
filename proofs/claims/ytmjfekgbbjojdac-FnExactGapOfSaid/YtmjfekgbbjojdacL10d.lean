/- Regions in which all that touches memory has one order: the text's order serves, and a call may write. -/
import Derived.Test.YtmjfekgbbjojdacL10c
namespace Go.Proofs.Ytmjfekgbbjojdac.L
open Go
set_option linter.unusedSimpArgs false
set_option linter.unusedVariables false

def okDraw3 (ops : Array Oper) (l : List OO) : Bool :=
  let N := ops.size
  (List.range N).all fun i => match ops[i]?, l[i]? with
    | some o, some x =>
      (o.after.toList.all fun e => !Region.binds .any e || decide (e.on < i)) &&
      (x.looks.all fun d => (List.range N).all fun j => match l[j]? with
        | some y => decide (y.dst ≠ some d) || dep ops i j || dep ops j i
        | none => false) &&
      ((List.range N).all fun j => match l[j]? with
        | some y => (decide (i = j) || (match x.dst with | some d => decide (y.dst ≠ some d) | none => true)) &&
            (!(x.tch && y.tch && decide (j < i)) || dep ops i j)
        | none => false)
    | _, _ => false

structure OkD3 (ops : Array Oper) (l : List OO) : Prop where
  at_ : ∀ i, i < ops.size → ∃ x, l[i]? = some x
  lt : ∀ i o, ops[i]? = some o → ∀ e ∈ o.after, Region.binds .any e = true → e.on < i
  look : ∀ i x, i < ops.size → l[i]? = some x → ∀ d ∈ x.looks, ∀ j y, j < ops.size → l[j]? = some y → y.dst = some d → dep ops i j = true ∨ dep ops j i = true
  dst : ∀ i j x y d, i < ops.size → j < ops.size → l[i]? = some x → l[j]? = some y → i ≠ j → x.dst = some d → y.dst ≠ some d
  tt : ∀ i j x y, i < ops.size → j < ops.size → l[i]? = some x → l[j]? = some y → x.tch = true → y.tch = true → j < i → dep ops i j = true

theorem OkD3.of {ops : Array Oper} {l : List OO} (h : okDraw3 ops l = true) : OkD3 ops l := by
  have H : ∀ i, i < ops.size → ∃ o x, ops[i]? = some o ∧ l[i]? = some x ∧ (∀ e ∈ o.after, Region.binds .any e = true → e.on < i) ∧
      (∀ d ∈ x.looks, ∀ j, j < ops.size → ∃ y, l[j]? = some y ∧ (y.dst = some d → dep ops i j = true ∨ dep ops j i = true)) ∧
      (∀ j, j < ops.size → ∃ y, l[j]? = some y ∧ (i ≠ j → ∀ d, x.dst = some d → y.dst ≠ some d) ∧ (x.tch = true → y.tch = true → j < i → dep ops i j = true)) := by
    intro i hi
    have h1 := List.all_eq_true.1 h i (List.mem_range.2 hi)
    split at h1
    · rename_i o x ho hx
      simp only [Bool.and_eq_true] at h1
      obtain ⟨⟨h2, h3⟩, h4⟩ := h1
      refine ⟨o, x, ho, hx, fun e he hb => ?_, fun d hd j hj => ?_, fun j hj => ?_⟩
      · have := List.all_eq_true.1 h2 e (by simpa using he)
        simp only [hb, Bool.not_true, Bool.false_or, decide_eq_true_eq] at this
        exact this
      · have := List.all_eq_true.1 (List.all_eq_true.1 h3 d hd) j (List.mem_range.2 hj)
        split at this
        · rename_i y hy
          refine ⟨y, hy, fun hd' => ?_⟩
          simp only [hd', ne_eq, not_true_eq_false, decide_false, Bool.false_or, Bool.or_eq_true] at this
          exact this
        · cases this
      · have := List.all_eq_true.1 h4 j (List.mem_range.2 hj)
        split at this
        · rename_i y hy
          simp only [Bool.and_eq_true] at this
          obtain ⟨g1, g2⟩ := this
          refine ⟨y, hy, fun hij d hd => ?_, fun e1 e2 e3 => ?_⟩
          · simp only [hd, hij, decide_false, Bool.false_or, decide_eq_true_eq] at g1; exact g1
          · simp only [e1, e2, e3, decide_true, Bool.and_self, Bool.not_true, Bool.false_or] at g2; exact g2
        · cases this
    · cases h1
  refine ⟨fun i hi => ?_, fun i o ho => ?_, fun i x hi hx d hd j y hj hy hyd => ?_, fun i j x y d hi hj hx hy hij hd => ?_, fun i j x y hi hj hx hy => ?_⟩
  · obtain ⟨o, x, _, hx, _⟩ := H i hi; exact ⟨x, hx⟩
  · obtain ⟨o', x, ho', _, h1, _⟩ := H i (Array.getElem?_eq_some_iff.1 ho).1
    rw [ho] at ho'; cases ho'; exact h1
  · obtain ⟨o, x', _, hx', _, h1, _⟩ := H i hi
    rw [hx] at hx'; cases hx'
    obtain ⟨y', hy', h2⟩ := h1 d hd j hj
    rw [hy] at hy'; cases hy'; exact h2 hyd
  · obtain ⟨o, x', _, hx', _, _, h1⟩ := H i hi
    rw [hx] at hx'; cases hx'
    obtain ⟨y', hy', h2, _⟩ := h1 j hj
    rw [hy] at hy'; cases hy'; exact h2 hij d hd
  · obtain ⟨o, x', _, hx', _, _, hh⟩ := H i hi
    rw [hx] at hx'; cases hx'
    obtain ⟨y', hy', _, g⟩ := hh j hj
    rw [hy] at hy'; cases hy'; exact g

theorem OkD3.dep_lt {ops : Array Oper} {l : List OO} (ok : OkD3 ops l) : ∀ (i j : Nat), i < ops.size → dep ops i j = true → j < i := by
  intro i
  induction i using Nat.strongRecOn with
  | _ i ih =>
    intro j hi hj
    obtain ⟨e, he, hb, h1 | ⟨h1, h2⟩⟩ := dep_step (o := ops[i]) (by simp [hi]) hj
    · rw [← h1]; exact ok.lt i _ (by simp [hi]) e he hb
    · have := ih e.on h2 j (by omega) h1; omega

/-- The names where just the operations of D that touch memory have been carried out. -/
def nW (n : Nat) (wr : Nat → Bool) (nS : Nat → Nat) (D : Nat → Bool) : Nat → Nat
  | 0 => n
  | k + 1 => if D k && wr k then nS (k + 1) else nW n wr nS D k

theorem xops_draw3 {P : Program} {n0 : Nat} {W : Nat → Prop} (ops : Array Oper) (l' : List OO) {t : List AV} {h : AH} {n : Nat} {K : List AV → AH → Nat → Prop}
    (hc : compOps P ops ops.toList = some l') (hok : okDraw3 ops l' = true) (hx : xops P n0 W false l' t h n K) :
    ∃ t' h' n', K t' h' n' ∧ n ≤ n' ∧ ∀ (G : Gx) (a : Act) (w : World), G.W = W → G.n0 = n0 → n' ≤ G.n1 → S G t h n a w →
      wpAny P .any ops (fun e' a' w' => e' = .normal ∧ S G t' h' n' a' w') ops.size (Array.replicate ops.size false) a w := by
  obtain ⟨tS, hS, nS, vS, e1, e2, e3, e4, e5⟩ := xops_trace ops ops.toList 0 l' t h n K (fun i o hi => by simpa using hi) ⟨_, hc, Ups.refl _⟩ hx
  have ok := OkD3.of hok
  rw [Array.length_toList] at e4
  have hlen : l'.length = ops.size := by simpa using compOps_length hc
  have step : ∀ i (hi : i < ops.size), ∃ x, l'[i]? = some x ∧ StepAt P n0 W false ops tS hS nS vS i ops[i] x := fun i hi => by
    obtain ⟨x, hx⟩ := ok.at_ i hi
    exact ⟨x, hx, e5 i _ x (by simp [hi]) hx⟩
  have hm : ∀ j, j < ops.size → nS j ≤ nS (j + 1) := fun j hj => by obtain ⟨x, _, hs⟩ := step j hj; exact hs.2.2.1
  let N := ops.size
  let dst : Nat → Option Nat := fun i => (l'[i]?).bind (·.dst)
  let wr : Nat → Bool := fun i => ((l'[i]?).map (·.tch)).getD false
  have hidle : ∀ j, j < N → wr j = false → hS (j + 1) = hS j ∧ nS (j + 1) = nS j := fun j hj hw => by
    obtain ⟨x, hx, _, _, _, _, hst⟩ := step j hj
    have ht : x.tch = false := by simpa [wr, hx] using hw
    simp only [OO.tch, Bool.or_eq_false_iff] at ht
    rcases hst with ⟨_, _, _, _, _, q, q'⟩ | ⟨_, hst, _⟩
    · exact ⟨q, q'⟩
    · cases hst with
      | own new hr hh hmk hw =>
        have hn := hmk.resolve_right (by simp [ht.1.2])
        exact ⟨by rw [hh, hn, mix_same], hn⟩
      | read hr hl hmk hrh hw => rw [ht.1.1] at hrh; cases hrh
      | write W' hr hp hf hw => rw [ht.2] at hw; cases hw
      | free W' hr hp hd hc => rw [ht.1.1] at hc; cases hc
  have nbound : ∀ k, k ≤ N → n ≤ nS k ∧ nS k ≤ nS N := fun k hk => ⟨by rw [← e3]; exact mono_of hm k (Nat.zero_le _) hk, mono_of hm N hk (Nat.le_refl _)⟩
  refine ⟨_, _, _, e4, (nbound N (Nat.le_refl _)).1, fun G a w hGW hGn hG1 hS0 => ?_⟩
  have hG1' : nS N ≤ G.n1 := hG1
  have tall : ∀ k, k ≤ N → tD (tS 0) dst vS (fun _ => true) k = tS k := by
    intro k
    induction k with
    | zero => intro _; rfl
    | succ k ih =>
      intro hk
      obtain ⟨x, hx, g1, g2, _⟩ := step k (by omega)
      simp only [tD, if_true]
      rw [ih (by omega), g2]
      congr 1
      simp only [dst, hx, Option.bind_some, g1]
  have nWb : ∀ D k, k ≤ N → n ≤ nW (nS 0) wr nS D k ∧ nW (nS 0) wr nS D k ≤ nS N := by
    intro D k
    induction k with
    | zero => intro _; simp only [nW]; exact nbound 0 (Nat.zero_le _)
    | succ k ih => intro hk; simp only [nW]; split; exact nbound (k + 1) hk; exact ih (by omega)
  -- what holds on the way
  let Inv (D : Nat → Bool) (a : Act) (w : World) : Prop := ∃ ρ, IsL ρ (tD (tS 0) dst vS D N) a.tmps.toList ∧ a.defers = [] ∧ Sim ρ (hW (hS 0) wr hS D N) w ∧
    (∀ i, nW (nS 0) wr nS D N ≤ i → i < G.n1 → ρ i = none) ∧ G.n0 ≤ n ∧ Cx G ρ w
  have one : ∀ (D : Nat → Bool) (i : Nat) (hi : i < N) (a : Act) (w : World) (Kr : Act → World → Prop) (Qr : Exit → Act → World → Prop), D i = false → Down ops D → (∀ e ∈ ops[i].after, Region.binds .any e = true → D e.on = true) → Inv D a w →
      (∀ a' w', Inv (add D i) a' w' → Kr a' w') → wpOp P ops Qr i Kr a w := by
    intro D i hi a w Kr Qr hDi hdown hready hinv hK
    have hpre : ∀ j, dep ops i j = true → D j = true := hdown.dep i ops[i] (by simp [N] at hi; simp [hi]) hready
    obtain ⟨x, hx, g1, g2, g3, g4, hst⟩ := step i hi
    obtain ⟨ρ, p1, p2, p3, p5, p6, p7⟩ := hinv
    have hdstx : dst i = ops[i].dst := by simp only [dst, hx, Option.bind_some, g1]
    have hti := tD_add (t := tS 0) (v := vS) (dst := dst) hDi N fun j hj hji s hs hjs => by
      obtain ⟨y, hy⟩ := ok.at_ j hj
      exact ok.dst i j x y s hi hj hx hy (Ne.symm hji) (by simpa [dst, hx] using hs) (by simpa [dst, hy] using hjs)
    rw [if_pos hi] at hti
    have inD : ∀ j, j < N → D j = true → ∀ k, dep ops j k = true → D k = true := fun j hj hDj k hd =>
      hdown.dep j ops[j] (by simp [N] at hj; simp [hj]) (hdown j _ (by simp [N] at hj; simp [hj]) hDj) k hd
    have notD : ∀ j, j < N → D j = true → dep ops j i = false := fun j hj hDj => by
      cases hd : dep ops j i with
      | false => rfl
      | true => have := inD j hj hDj i hd; rw [hDi] at this; cases this
    have hlook : ∀ s ∈ x.looks, (tS i).getD s .any = (tD (tS 0) dst vS D N).getD s .any := fun s hs => by
      rw [← tall i (Nat.le_of_lt hi)]
      by_cases hex : ∃ j, j < N ∧ dst j = some s
      · obtain ⟨j, hj, hjs⟩ := hex
        obtain ⟨y, hy⟩ := ok.at_ j hj
        have hu : ∀ k, k < N → dst k = some s → k = j := fun k hk hks => by
          obtain ⟨z, hz⟩ := ok.at_ k hk
          rcases Nat.decEq k j with hkj | hkj
          · exact absurd (by simpa [dst, hy] using hjs) (ok.dst k j z y s hk hj hz hy hkj (by simpa [dst, hz] using hks))
          · exact hkj
        rcases ok.look i x hi hx s hs j y hj hy (by simpa [dst, hy] using hjs) with hd | hd
        · have hji := ok.dep_lt i j hi hd
          by_cases hsl : s < (tS 0).length
          · rw [tD_some hsl rfl hjs i hji (fun k hk => hu k (by omega)), tD_some hsl (hpre j hd) hjs N hj hu]
          · simp [List.getD, List.getElem?_eq_none, tD_length, Nat.le_of_not_lt hsl]
        · have hij := ok.dep_lt j i hj hd
          have hDj : D j = false := by
            cases hDj : D j with
            | false => rfl
            | true => have := notD j hj hDj; rw [hd] at this; cases this
          rw [tD_none i fun k hk _ hks => by have := hu k (by omega) hks; omega, tD_none N fun k hk hDk hks => by rw [hu k hk hks, hDj] at hDk; cases hDk]
      · have hno : ∀ j, j < N → dst j ≠ some s := fun j hj h => hex ⟨j, hj, h⟩
        rw [tD_none i fun j hj _ => hno j (by omega), tD_none N fun j hj _ => hno j hj]
    have hrel : Rel ρ x.looks (tS i) a := fun d hd => by rw [hlook d hd]; exact Rel.of_all p1 d hd
    have hwat : wr i = x.tch := by simp only [wr, hx, Option.map_some, Option.getD_some]
    have wrAt : ∀ j y, l'[j]? = some y → wr j = y.tch := fun j y hy => by simp only [wr, hy, Option.map_some, Option.getD_some]
    have hsame : wr i = false → ∀ k, hW (hS 0) wr hS (add D i) k = hW (hS 0) wr hS D k ∧ nW (nS 0) wr nS (add D i) k = nW (nS 0) wr nS D k := fun hw k => by
      induction k with
      | zero => exact ⟨rfl, rfl⟩
      | succ k ih =>
        simp only [hW, nW, ih.1, ih.2]
        by_cases e : k = i
        · subst e; simp [hw]
        · have : (k == i) = false := by simp; exact e
          simp [add, this]
    have stDown : ∀ j k, j < N → k < j → wr j = true → wr k = true → D j = true → D k = true := fun j k hj hk hwj hwk hDj => by
      obtain ⟨y, hy⟩ := ok.at_ j hj
      obtain ⟨z, hz⟩ := ok.at_ k (by omega)
      exact inD j hj hDj k (ok.tt j k y z hj (by omega) hy hz (by rw [← wrAt j y hy]; exact hwj) (by rw [← wrAt k z hz]; exact hwk) hk)
    have hupto : ∀ k, k ≤ N → (∀ j, j < k → wr j = true → D j = true) → hW (hS 0) wr hS D k = hS k ∧ nW (nS 0) wr nS D k = nS k := by
      intro k
      induction k with
      | zero => intro _ _; exact ⟨rfl, rfl⟩
      | succ k ih =>
        intro hk hh
        simp only [hW, nW]
        cases hwk : wr k with
        | true => rw [hh k (Nat.lt_succ_self k) hwk]; exact ⟨rfl, rfl⟩
        | false =>
          simp only [Bool.and_false, Bool.false_eq_true, if_false]
          rw [(ih (by omega) fun j hj => hh j (by omega)).1, (ih (by omega) fun j hj => hh j (by omega)).2, (hidle k (by omega) hwk).1, (hidle k (by omega) hwk).2]; exact ⟨rfl, rfl⟩
    have turn : wr i = true → hW (hS 0) wr hS D N = hS i ∧ nW (nS 0) wr nS D N = nS i ∧ hW (hS 0) wr hS (add D i) N = hS (i + 1) ∧ nW (nS 0) wr nS (add D i) N = nS (i + 1) := fun hw => by
      have hbefore : ∀ j, j < i → wr j = true → D j = true := fun j hj hwj => by
        have hjN : j < N := by omega
        obtain ⟨y, hy⟩ := ok.at_ j hjN
        exact hpre j (ok.tt i j x y hi hjN hx hy (by rw [← hwat]; exact hw) (by rw [← wrAt j y hy]; exact hwj) hj)
      have hafter : ∀ j, i < j → j < N → wr j = true → D j = false := fun j hj hjN hwj => by
        cases hDj : D j with
        | false => rfl
        | true => have := stDown j i hjN hj hwj hw hDj; rw [hDi] at this; cases this
      have q1 : ∀ m, i ≤ m → m ≤ N → hW (hS 0) wr hS D m = hS i ∧ nW (nS 0) wr nS D m = nS i := by
        intro m
        induction m with
        | zero => intro h1 _; have : i = 0 := Nat.le_zero.1 h1; rw [this]; exact ⟨rfl, rfl⟩
        | succ m ih =>
          intro h1 h2
          by_cases e : i = m + 1
          · rw [← e]; exact hupto i (Nat.le_of_lt hi) hbefore
          · simp only [hW, nW]
            have hno : ¬ (D m && wr m) = true := fun hh => by
              simp only [Bool.and_eq_true] at hh
              by_cases e2 : m = i
              · rw [e2, hDi] at hh; cases hh.1
              · rw [hafter m (by omega) (by omega) hh.2] at hh; cases hh.1
            rw [if_neg hno, if_neg hno]
            exact ih (by omega) (by omega)
      have q2 : ∀ m, i + 1 ≤ m → m ≤ N → hW (hS 0) wr hS (add D i) m = hS (i + 1) ∧ nW (nS 0) wr nS (add D i) m = nS (i + 1) := by
        intro m
        induction m with
        | zero => intro h1 _; omega
        | succ m ih =>
          intro h1 h2
          simp only [hW, nW]
          by_cases e : m = i
          · subst e; simp [add, hw]
          · have e' : (m == i) = false := by simp; exact e
            have hno : ¬ (add D i m && wr m) = true := fun hh => by
              simp only [add, e', Bool.or_false, Bool.and_eq_true] at hh
              rw [hafter m (by omega) (by omega) hh.2] at hh; cases hh.1
            rw [if_neg hno, if_neg hno]
            exact ih (by omega) (by omega)
      exact ⟨(q1 N (Nat.le_of_lt hi) (Nat.le_refl _)).1, (q1 N (Nat.le_of_lt hi) (Nat.le_refl _)).2, (q2 N hi (Nat.le_refl _)).1, (q2 N hi (Nat.le_refl _)).2⟩
    have nb := nbound i (Nat.le_of_lt hi)
    have nb' := nbound (i + 1) hi
    -- behind the operation: one that touches, one that does not
    have fin : ∀ (rv : Value) (ρ' : Rho) (w' : World), wr i = true → Is ρ' (vS i) rv → Sim ρ' (hS (i + 1)) w' → (∃ W' : Nat → Prop, Cx ⟨ρ, w, W', nS i, nS (i + 1)⟩ ρ' w' ∧ ∀ j, j < nS i → W' j → G.n0 ≤ j ∨ G.W j) →
        Kr (a.put ops[i].dst rv) w' := fun rv ρ' w' hw h1 h2 ⟨W', h3, h4⟩ => by
      obtain ⟨t1, t2, t3, t4⟩ := turn hw
      have fresh : ∀ id, nS i ≤ id → id < nS (i + 1) → ρ id = none := fun id q1 q2 => p5 id (by omega) (by omega)
      refine hK _ _ ⟨ρ', ?_, by rw [Act.put_defers']; exact p2, by rw [t3]; exact h2, fun id q1 q2 => ?_, p6, p7.trans h3 (by omega) g3 (by omega) h4⟩
      · rw [hti, hdstx]
        exact Act.put_tmps (p1.mono (h3.ext fresh)) h1
      · rw [t4] at q1
        rw [h3.far id q1]; exact p5 id (by omega) q2
    have fin0 : ∀ (rv : Value) (ρ' : Rho) (w' : World) (m : Nat), n ≤ m → m ≤ nS N → wr i = false → Is ρ' (vS i) rv → Sim ρ' (hW (hS 0) wr hS D N) w' → Cx ⟨ρ, w, none', m, m⟩ ρ' w' →
        Kr (a.put ops[i].dst rv) w' := fun rv ρ' w' m hm1 hm2 hw h1 h2 h3 => by
      refine hK _ _ ⟨ρ', ?_, by rw [Act.put_defers']; exact p2, by rw [(hsame hw N).1]; exact h2, fun id q1 q2 => ?_, p6, p7.trans h3 (by omega) (Nat.le_refl _) (by omega) (fun _ _ h => h.elim)⟩
      · rw [hti, hdstx]
        exact Act.put_tmps (p1.mono (h3.ext fun id h1 h2 => by omega)) h1
      · rw [(hsame hw N).2] at q1
        have : ρ' id = ρ id := by
          by_cases e : id < m
          · exact h3.old id e
          · exact h3.far id (by simp only; omega)
        rw [this]; exact p5 id q1 q2
    unfold wpOp
    have hoi : ops[i]? = some ops[i] := by simp [N] at hi; simp [hi]
    rw [hoi]
    simp only
    rcases hst with ⟨s, b, hgx, hts, hv, hh, hn⟩ | ⟨hgd, hst, _⟩
    · rcases g4 with ⟨_, hno⟩ | ⟨j, want, s', ho1, ho2, ho3⟩
      · rw [hgx] at hno; cases hno
      · rw [hgx] at ho3; cases ho3
        have hsl : s ∈ x.looks := by simp [OO.looks, hgx]
        have hnw : ¬ Region.wanted ops[i] (yielded ops a.tmps) = true := by
          rcases hts with hts | hts
          · have hb := IsL.bool_at p1 (by rw [← hlook s hsl]; exact hts)
            simp [Region.wanted, ho1, yielded, ho2, hb]
          · have hb := IsL.off_at p1 (by rw [← hlook s hsl]; exact hts)
            simp [Region.wanted, ho1, yielded, ho2, hb]
        rw [if_neg hnw]
        cases hw : wr i with
        | false => exact fin0 undef ρ w n (Nat.le_refl _) (nbound N (Nat.le_refl _)).1 hw (by rw [hv]; exact is_off ρ) p3 (Cx.refl ρ w _ _ _ fun id h1 h2 => by omega)
        | true =>
          obtain ⟨t1, _⟩ := turn hw
          exact fin undef ρ w hw (by rw [hv]; exact is_off ρ) (by rw [hh, ← t1]; exact p3) ⟨none', Cx.refl ρ w _ _ _ fun id h1 h2 => by omega, fun _ _ h => h.elim⟩
    · have hwant : Region.wanted ops[i] (yielded ops a.tmps) = true := by
        rcases g4 with ⟨ho1, _⟩ | ⟨j, want, s, ho1, ho2, ho3⟩
        · simp [Region.wanted, ho1]
        · rcases hgd with hno | ⟨s', b, hs', hts⟩
          · rw [hno] at ho3; cases ho3
          · rw [hs'] at ho3; cases ho3
            have hsl : s ∈ x.looks := by simp [OO.looks, hs']
            have hb := IsL.bool_at p1 (by rw [← hlook s hsl]; exact hts)
            simp [Region.wanted, ho1, yielded, ho2, hb]
      rw [if_pos hwant]
      refine .inl ?_
      have hrel' : Rel ρ x.o.reads (tS i) a := fun d hd => hrel d (by simp only [OO.looks, List.mem_append]; exact .inl hd)
      cases hw : wr i with
      | true =>
        obtain ⟨t1, t2, _, _⟩ := turn hw
        obtain ⟨W', hro, hp⟩ := hst.ro
        exact hro.2 ρ a w Kr Qr hrel' (by rw [← t1]; exact p3) (fun id q1 q2 => p5 id (by omega) (by omega)) fun rv ρ' w' r1 r2 r3 => fin rv ρ' w' hw r1 r2 ⟨W', r3, by rw [hGn, hGW]; exact hp⟩
      | false =>
        have ht : x.tch = false := by rw [← hwat]; exact hw
        simp only [OO.tch, Bool.or_eq_false_iff] at ht
        cases hst with
        | own new hr hh hmk hw' =>
          have hn := hmk.resolve_right (by simp [ht.1.2])
          rw [hn] at hr
          refine hr.2 ρ a w Kr Qr hrel' (Sim.emp _ _) (fun id q1 q2 => by omega) fun rv ρ' w' q1 q2 q3 => fin0 rv ρ' w' (nS i) nb.1 nb.2 hw q1 ?_ q3
          have := p3.mix q3 (fun id q1 q2 => by omega) q2
          rwa [mix_same] at this
        | read hr hl hmk hrh hw' => rw [ht.1.1] at hrh; cases hrh
        | write W' hr hp hf hw' => rw [ht.2] at hw'; cases hw'
        | free W' hr hp hd hc => rw [ht.1.1] at hc; cases hc
  -- all orders
  have main : ∀ (fuel : Nat) (listed : Array Bool) (a : Act) (w : World), listed.size = N → (List.range N).countP (fun i => !(listed.getD i false)) ≤ fuel → Down ops (fun i => listed.getD i false) → Inv (fun i => listed.getD i false) a w →
      wpAny P .any ops (fun e' a' w' => e' = .normal ∧ S G (tS N) (hS N) (nS N) a' w') fuel listed a w := by
    have hfull : ∀ (listed : Array Bool) (a : Act) (w : World), (∀ i, i < N → listed.getD i false = true) → Inv (fun i => listed.getD i false) a w → S G (tS N) (hS N) (nS N) a w := by
      intro listed a w hall ⟨ρ, p1, p2, p3, p5, p6, p7⟩
      have ht : tD (tS 0) dst vS (fun i => listed.getD i false) N = tS N := by
        rw [← tall N (Nat.le_refl _)]
        have : ∀ k, k ≤ N → tD (tS 0) dst vS (fun i => listed.getD i false) k = tD (tS 0) dst vS (fun _ => true) k := by
          intro k
          induction k with
          | zero => intro _; rfl
          | succ k ih =>
            intro hk
            have hk' : (fun i => listed.getD i false) k = true := hall k (by omega)
            simp only [tD]; rw [if_pos hk', ih (by omega)]; simp
        exact this N (Nat.le_refl _)
      have hh : ∀ k, k ≤ N → hW (hS 0) wr hS (fun i => listed.getD i false) k = hS k ∧ nW (nS 0) wr nS (fun i => listed.getD i false) k = nS k := by
        intro k
        induction k with
        | zero => intro _; exact ⟨rfl, rfl⟩
        | succ k ih =>
          intro hk
          have hk' : (fun i => listed.getD i false) k = true := hall k (by omega)
          simp only [hW, nW]
          cases hwk : wr k with
          | true => exact ⟨if_pos (by simpa using hk'), if_pos (by simpa using hk')⟩
          | false =>
            simp only [Bool.and_false, Bool.false_eq_true, if_false]
            rw [(ih (by omega)).1, (ih (by omega)).2, (hidle k (by omega) hwk).1, (hidle k (by omega) hwk).2]; exact ⟨rfl, rfl⟩
      rw [ht] at p1; rw [(hh N (Nat.le_refl _)).1] at p3; rw [(hh N (Nat.le_refl _)).2] at p5
      have := nbound N (Nat.le_refl _)
      exact ⟨ρ, p1, p2, p3, p5, by omega, p7⟩
    have hready : ∀ (listed : Array Bool), Region.ready .any ops listed = [] → Down ops (fun i => listed.getD i false) → listed.size = N → ∀ i, i < N → listed.getD i false = true := by
      intro listed hr hd hsz i
      induction i using Nat.strongRecOn with
      | _ i ih =>
        intro hi
        cases hl : listed.getD i false with
        | true => rfl
        | false =>
          have hmem : i ∈ Region.ready .any ops listed := by
            rw [mem_ready]
            have hlt : i < listed.size := by rw [hsz]; exact hi
            refine ⟨by simp [hlt] at hl ⊢; exact hl, ops[i], by simp only [N] at hi; simp [hi], fun e he hb => ?_⟩
            have hei := ok.lt i ops[i] (by simp only [N] at hi; simp [hi]) e he hb
            exact ih e.on hei (by omega)
          rw [hr] at hmem; cases hmem
    intro fuel
    induction fuel with
    | zero =>
      intro listed a w hsz hcnt hd hinv
      have hall : ∀ i, i < N → listed.getD i false = true := fun i hi => by
        have := List.countP_eq_zero.1 (Nat.le_zero.1 hcnt) i (List.mem_range.2 hi)
        simpa using this
      refine ⟨?_, rfl, hfull listed a w hall hinv⟩
      cases hr : Region.ready .any ops listed with
      | nil => rfl
      | cons j r =>
        have hj : j ∈ Region.ready .any ops listed := by rw [hr]; simp
        obtain ⟨h1, o, h2, _⟩ := mem_ready.1 hj
        have hlt : j < N := (Array.getElem?_eq_some_iff.1 h2).1
        have := hall j hlt
        have hlt' : j < listed.size := by rw [hsz]; exact hlt
        simp [hlt'] at this h1
        rw [this] at h1; cases h1
    | succ fuel ih =>
      intro listed a w hsz hcnt hd hinv
      refine ⟨fun hr => ⟨rfl, hfull listed a w (hready listed hr hd hsz) hinv⟩, fun i hi => ?_⟩
      obtain ⟨h1, o, h2, h3⟩ := mem_ready.1 hi
      obtain ⟨hlt, ho⟩ := Array.getElem?_eq_some_iff.1 h2
      subst ho
      have hlt' : i < listed.size := by rw [hsz]; exact hlt
      have hDi : listed.getD i false = false := by simp [hlt'] at h1 ⊢; exact h1
      have hset : (fun j => (listed.setIfInBounds i true).getD j false) = add (fun j => listed.getD j false) i := by
        funext j
        simp only [add, Array.getD_eq_getD_getElem?, Array.getElem?_setIfInBounds]
        by_cases hij : i = j
        · subst hij; simp [hlt']
        · have : (j == i) = false := by simp; exact fun e => hij e.symm
          simp [hij, this]
      refine one (fun j => listed.getD j false) i hlt a w _ _ hDi hd h3 hinv fun a' w' hinv' => ih _ a' w' (by simp [hsz]) ?_ ?_ ?_
      · have hc := cnt_add (D := fun j => listed.getD j false) (i := i) hDi (List.range N) (List.mem_range.2 hlt) List.nodup_range
        have : (List.range N).countP (fun j => !((listed.setIfInBounds i true).getD j false)) = (List.range N).countP (fun j => !(add (fun j => listed.getD j false) i j)) := by
          congr 1; funext j; rw [← congrFun hset j]
        omega
      · rw [hset]
        intro j o' hj hDj e he hb
        simp only [add, Bool.or_eq_true, beq_iff_eq] at hDj ⊢
        rcases hDj with hDj | rfl
        · exact .inl (hd j o' hj hDj e he hb)
        · rw [h2] at hj; cases hj; exact .inl (h3 e he hb)
      · rw [hset]; exact hinv'
  refine main ops.size _ a w (by simp [N]) ?_ ?_ ?_
  · exact Nat.le_trans List.countP_le_length (by simp [N])
  · intro i o hi hD
    by_cases hlt : i < ops.size <;> simp [hlt] at hD
  · obtain ⟨ρ, p1, p2, p3, p4, p5, p6⟩ := hS0
    have hno : ∀ k, (fun i => (Array.replicate ops.size false).getD i false) k = false := fun k => by
      by_cases hlt : k < ops.size <;> simp [hlt]
    have ht : ∀ k, tD (tS 0) dst vS (fun i => (Array.replicate ops.size false).getD i false) k = tS 0 := fun k => by
      induction k with
      | zero => rfl
      | succ k ih =>
        have hk : ¬ ((fun i => (Array.replicate ops.size false).getD i false) k = true) := by rw [hno k]; simp
        simp only [tD]; rw [if_neg hk]; exact ih
    have hh : ∀ k, hW (hS 0) wr hS (fun i => (Array.replicate ops.size false).getD i false) k = hS 0 := fun k => by
      induction k with
      | zero => rfl
      | succ k ih =>
        have hk := hno k
        simp only at hk
        simp only [hW, hk, Bool.false_and, Bool.false_eq_true, if_false]; exact ih
    have hn : ∀ k, nW (nS 0) wr nS (fun i => (Array.replicate ops.size false).getD i false) k = nS 0 := fun k => by
      induction k with
      | zero => rfl
      | succ k ih =>
        have hk := hno k
        simp only at hk
        simp only [nW, hk, Bool.false_and, Bool.false_eq_true, if_false]; exact ih
    exact ⟨ρ, by rw [ht, e1]; exact p1, p2, by rw [hh, e2]; exact p3, by rw [hn, e3]; exact p4, p5, p6⟩
/-- Calls whose result nothing in the region looks at, and that have their place among all that touches memory: they may write. -/
def strictAt (ops : Array Oper) (L : List OO) (i : Nat) (x : OO) : Bool := (match x.o with | .call _ _ => true | _ => false) &&
  (match x.dst with | some d => L.all fun y => !(y.looks.contains d) | none => true) &&
  (List.range ops.size).all fun j => decide (i = j) || (match L[j]? with | some y => !y.tch || dep ops i j || dep ops j i | none => false)
def strictL (ops : Array Oper) (L : List OO) : Nat → List OO → List OO
  | _, [] => []
  | i, x :: r => (if strictAt ops L i x then toW x else x) :: strictL ops L (i + 1) r
theorem strictL_ups (ops : Array Oper) (L : List OO) : ∀ (l : List OO) (i : Nat), Ups l (strictL ops L i l)
  | [], _ => .nil
  | x :: r, i => .cons (by split; exact .inr rfl; exact .inl rfl) (strictL_ups ops L r (i + 1))
end Go.Proofs.Ytmjfekgbbjojdac.L
