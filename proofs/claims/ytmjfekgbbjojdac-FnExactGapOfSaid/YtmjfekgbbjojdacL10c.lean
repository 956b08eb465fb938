/- Regions in which a load may come behind a store that the text has after it: where they lie in different blocks, every order comes to the same. -/
import Derived.Test.YtmjfekgbbjojdacL10b
namespace Go.Proofs.Ytmjfekgbbjojdac.L
open Go
set_option linter.unusedSimpArgs false
set_option linter.unusedVariables false

def O.adr : O → A
  | .st _ a _ => a
  | .ld1 a => a
  | _ => .c .any
def O.isLd1 : O → Bool
  | .ld1 _ => true
  | _ => false
def O.isSt : O → Bool
  | .st _ _ _ => true
  | _ => false
/-- No operation from i on writes the slot that the operand names. -/
def keepA (l : List OO) (i : Nat) (a : A) : Bool := match a with
  | .t s => (List.range l.length).all fun k => decide (k < i) || (match l[k]? with | some y => decide (y.dst ≠ some s) | none => true)
  | _ => true
def pairsAt (ops : Array Oper) (l : List OO) (i : Nat) (x : OO) : List (A × A) :=
  if x.o.isSt then (List.range i).filterMap fun j => match l[j]? with
    | some y => if y.o.isLd1 && !dep ops i j then some (x.o.adr, y.o.adr) else none
    | none => none
  else []
def pairsOf (ops : Array Oper) (l : List OO) : List (A × A) := (List.range ops.size).flatMap fun i => match l[i]? with | some x => pairsAt ops l i x | none => []
def okDraw2 (ops : Array Oper) (l : List OO) : Bool :=
  let N := ops.size
  (List.range N).all fun i => match ops[i]?, l[i]? with
    | some o, some x =>
      (o.after.toList.all fun e => !Region.binds .any e || decide (e.on < i)) &&
      (x.looks.all fun d => (List.range N).all fun j => match l[j]? with
        | some y => decide (y.dst ≠ some d) || dep ops i j || dep ops j i
        | none => false) &&
      (!x.o.mk && (!x.o.rh || x.o.isLd1) && (!x.o.wrs || x.o.isSt) && (!x.tch || decide (x.g = none))) &&
      ((List.range N).all fun j => match l[j]? with
        | some y => (decide (i = j) || (match x.dst with | some d => decide (y.dst ≠ some d) | none => true)) &&
            (!(x.o.wrs && y.o.wrs && decide (j < i)) || dep ops i j) &&
            (!(x.o.wrs && y.o.rh && decide (i < j)) || dep ops j i) &&
            (!(x.o.wrs && y.o.rh && decide (j < i)) || dep ops i j || (keepA l i x.o.adr && keepA l j y.o.adr))
        | none => false)
    | _, _ => false

structure OkD2 (ops : Array Oper) (l : List OO) : Prop where
  at_ : ∀ i, i < ops.size → ∃ x, l[i]? = some x
  lt : ∀ i o, ops[i]? = some o → ∀ e ∈ o.after, Region.binds .any e = true → e.on < i
  look : ∀ i x, i < ops.size → l[i]? = some x → ∀ d ∈ x.looks, ∀ j y, j < ops.size → l[j]? = some y → y.dst = some d → dep ops i j = true ∨ dep ops j i = true
  dst : ∀ i j x y d, i < ops.size → j < ops.size → l[i]? = some x → l[j]? = some y → i ≠ j → x.dst = some d → y.dst ≠ some d
  nomk : ∀ i x, i < ops.size → l[i]? = some x → x.o.mk = false
  rh : ∀ i x, i < ops.size → l[i]? = some x → x.o.rh = true → x.o.isLd1 = true ∧ x.g = none
  wrs : ∀ i x, i < ops.size → l[i]? = some x → x.o.wrs = true → x.o.isSt = true ∧ x.g = none
  ww : ∀ i j x y, i < ops.size → j < ops.size → l[i]? = some x → l[j]? = some y → x.o.wrs = true → y.o.wrs = true → j < i → dep ops i j = true
  wr : ∀ i j x y, i < ops.size → j < ops.size → l[i]? = some x → l[j]? = some y → x.o.wrs = true → y.o.rh = true → i < j → dep ops j i = true
  rw : ∀ i j x y, i < ops.size → j < ops.size → l[i]? = some x → l[j]? = some y → x.o.wrs = true → y.o.rh = true → j < i → dep ops i j = false → keepA l i x.o.adr = true ∧ keepA l j y.o.adr = true

theorem OkD2.of {ops : Array Oper} {l : List OO} (h : okDraw2 ops l = true) : OkD2 ops l := by
  have H : ∀ i, i < ops.size → ∃ o x, ops[i]? = some o ∧ l[i]? = some x ∧ (∀ e ∈ o.after, Region.binds .any e = true → e.on < i) ∧
      (∀ d ∈ x.looks, ∀ j, j < ops.size → ∃ y, l[j]? = some y ∧ (y.dst = some d → dep ops i j = true ∨ dep ops j i = true)) ∧
      (x.o.mk = false ∧ (x.o.rh = true → x.o.isLd1 = true ∧ x.g = none) ∧ (x.o.wrs = true → x.o.isSt = true ∧ x.g = none)) ∧
      (∀ j, j < ops.size → ∃ y, l[j]? = some y ∧ (i ≠ j → ∀ d, x.dst = some d → y.dst ≠ some d) ∧ (x.o.wrs = true → y.o.wrs = true → j < i → dep ops i j = true) ∧ (x.o.wrs = true → y.o.rh = true → i < j → dep ops j i = true) ∧
        (x.o.wrs = true → y.o.rh = true → j < i → dep ops i j = false → keepA l i x.o.adr = true ∧ keepA l j y.o.adr = true)) := by
    intro i hi
    have h1 := List.all_eq_true.1 h i (List.mem_range.2 hi)
    split at h1
    · rename_i o x ho hx
      simp only [Bool.and_eq_true] at h1
      obtain ⟨⟨⟨h2, h3⟩, ⟨⟨⟨m1, m2⟩, m3⟩, m4⟩⟩, h4⟩ := h1
      refine ⟨o, x, ho, hx, fun e he hb => ?_, fun d hd j hj => ?_, ⟨by simpa using m1, fun hr => ?_, fun hw => ?_⟩, fun j hj => ?_⟩
      · have := List.all_eq_true.1 h2 e (by simpa using he)
        simp only [hb, Bool.not_true, Bool.false_or, decide_eq_true_eq] at this
        exact this
      · have := List.all_eq_true.1 (List.all_eq_true.1 h3 d hd) j (List.mem_range.2 hj)
        split at this
        · rename_i y hy
          refine ⟨y, hy, fun hd' => ?_⟩
          simp only [hd', ne_eq, not_true_eq_false, decide_false, Bool.false_or, Bool.or_eq_true] at this
          exact this
        · cases this
      · exact ⟨by simpa [hr] using m2, by simpa [OO.tch, hr] using m4⟩
      · exact ⟨by simpa [hw] using m3, by simpa [OO.tch, hw] using m4⟩
      · have := List.all_eq_true.1 h4 j (List.mem_range.2 hj)
        split at this
        · rename_i y hy
          simp only [Bool.and_eq_true] at this
          obtain ⟨⟨⟨g1, g2⟩, g3⟩, g4⟩ := this
          refine ⟨y, hy, fun hij d hd => ?_, fun e1 e2 e3 => ?_, fun e1 e2 e3 => ?_, fun e1 e2 e3 e4 => ?_⟩
          · simp only [hd, hij, decide_false, Bool.false_or, decide_eq_true_eq] at g1; exact g1
          · simp only [e1, e2, e3, decide_true, Bool.and_self, Bool.not_true, Bool.false_or] at g2; exact g2
          · simp only [e1, e2, e3, decide_true, Bool.and_self, Bool.not_true, Bool.false_or] at g3; exact g3
          · simp only [e1, e2, e3, e4, decide_true, Bool.and_self, Bool.not_true, Bool.false_or, Bool.and_eq_true] at g4; exact g4
        · cases this
    · cases h1
  refine ⟨fun i hi => ?_, fun i o ho => ?_, fun i x hi hx d hd j y hj hy hyd => ?_, fun i j x y d hi hj hx hy hij hd => ?_, fun i x hi hx => ?_, fun i x hi hx => ?_, fun i x hi hx => ?_, fun i j x y hi hj hx hy => ?_, fun i j x y hi hj hx hy => ?_, fun i j x y hi hj hx hy => ?_⟩
  · obtain ⟨o, x, _, hx, _⟩ := H i hi; exact ⟨x, hx⟩
  · obtain ⟨o', x, ho', _, h1, _⟩ := H i (Array.getElem?_eq_some_iff.1 ho).1
    rw [ho] at ho'; cases ho'; exact h1
  · obtain ⟨o, x', _, hx', _, h1, _⟩ := H i hi
    rw [hx] at hx'; cases hx'
    obtain ⟨y', hy', h2⟩ := h1 d hd j hj
    rw [hy] at hy'; cases hy'; exact h2 hyd
  · obtain ⟨o, x', _, hx', _, _, _, h1⟩ := H i hi
    rw [hx] at hx'; cases hx'
    obtain ⟨y', hy', h2, _⟩ := h1 j hj
    rw [hy] at hy'; cases hy'; exact h2 hij d hd
  · obtain ⟨o, x', _, hx', _, _, hh, _⟩ := H i hi
    rw [hx] at hx'; cases hx'; exact hh.1
  · obtain ⟨o, x', _, hx', _, _, hh, _⟩ := H i hi
    rw [hx] at hx'; cases hx'; exact hh.2.1
  · obtain ⟨o, x', _, hx', _, _, hh, _⟩ := H i hi
    rw [hx] at hx'; cases hx'; exact hh.2.2
  · obtain ⟨o, x', _, hx', _, _, _, hh⟩ := H i hi
    rw [hx] at hx'; cases hx'
    obtain ⟨y', hy', _, g, _⟩ := hh j hj
    rw [hy] at hy'; cases hy'; exact g
  · obtain ⟨o, x', _, hx', _, _, _, hh⟩ := H i hi
    rw [hx] at hx'; cases hx'
    obtain ⟨y', hy', _, _, g, _⟩ := hh j hj
    rw [hy] at hy'; cases hy'; exact g
  · obtain ⟨o, x', _, hx', _, _, _, hh⟩ := H i hi
    rw [hx] at hx'; cases hx'
    obtain ⟨y', hy', _, _, _, g⟩ := hh j hj
    rw [hy] at hy'; cases hy'; exact g

theorem OkD2.dep_lt {ops : Array Oper} {l : List OO} (ok : OkD2 ops l) : ∀ (i j : Nat), i < ops.size → dep ops i j = true → j < i := by
  intro i
  induction i using Nat.strongRecOn with
  | _ i ih =>
    intro j hi hj
    obtain ⟨e, he, hb, h1 | ⟨h1, h2⟩⟩ := dep_step (o := ops[i]) (by simp [hi]) hj
    · rw [← h1]; exact ok.lt i _ (by simp [hi]) e he hb
    · have := ih e.on h2 j (by omega) h1; omega

/-- The heap where just the stores of D have been carried out. -/
def hW (h : AH) (wr : Nat → Bool) (hS : Nat → AH) (D : Nat → Bool) : Nat → AH
  | 0 => h
  | k + 1 => if D k && wr k then hS (k + 1) else hW h wr hS D k

theorem compO_ld1 {P : Program} {op : Op} {x' : A} (h : compO P op = some (.ld1 x')) : ∃ T x, op = .load T x ∧ compA x = some x' ∧ isAgg' P T = some false := by
  unfold compO at h
  split at h
  · rename_i y e
    cases h
    cases op
    case load T x =>
      simp only [compO1] at e
      split at e
      · cases e
      · rename_i x0 s h1 h2 h3
        cases e
        exact ⟨T, x, rfl, h1, h2⟩
      · cases e
    all_goals
      simp only [compO1, Option.map_eq_some_iff] at e
      try (repeat' split at e)
      all_goals try simp_all
      all_goals try (obtain ⟨_, _, e⟩ := e; cases e)
      all_goals try cases e
  · cases h

theorem xops_draw2 {P : Program} {n0 : Nat} {W : Nat → Prop} (ops : Array Oper) (l' : List OO) {t : List AV} {h : AH} {n : Nat} {K : List AV → AH → Nat → Prop}
    (hc : compOps P ops ops.toList = some l') (hok : okDraw2 ops l' = true) (hx : xops P n0 W true l' t h n fun t h n => CH (pairsOf ops l') t ∧ K t h n) :
    ∃ t' h' n', K t' h' n' ∧ n ≤ n' ∧ ∀ (G : Gx) (a : Act) (w : World), G.W = W → G.n0 = n0 → n' ≤ G.n1 → S G t h n a w →
      wpAny P .any ops (fun e' a' w' => e' = .normal ∧ S G t' h' n' a' w') ops.size (Array.replicate ops.size false) a w := by
  obtain ⟨tS, hS, nS, vS, e1, e2, e3, ⟨ech, e4⟩, e5⟩ := xops_trace ops ops.toList 0 l' t h n _ (fun i o hi => by simpa using hi) ⟨_, hc, Ups.refl _⟩ hx
  have ok := OkD2.of hok
  rw [Array.length_toList] at e4 ech
  have hlen : l'.length = ops.size := by simpa using compOps_length hc
  have hcO : ∀ i (hi : i < ops.size) x, l'[i]? = some x → compO P ops[i].op = some x.o := fun i hi x hx => by
    have : ∀ (l : List Oper) (l' : List OO) (i : Nat) (o : Oper) (x : OO), compOps P ops l = some l' → l[i]? = some o → l'[i]? = some x → compO P o.op = some x.o := by
      intro l
      induction l with
      | nil => intro l' i o x _ h _; simp at h
      | cons o l ih =>
        intro l' i o' x h h1 h2
        simp only [compOps] at h
        split at h
        · rename_i oo r' ho hr
          cases h
          cases i with
          | zero => simp at h1 h2; subst h1; subst h2; exact (compOper_spec ho).1
          | succ i => exact ih r' i o' x hr (by simpa using h1) (by simpa using h2)
        · cases h
    exact this ops.toList l' i ops[i] x hc (by simp [hi]) hx
  have step : ∀ i (hi : i < ops.size), ∃ x, l'[i]? = some x ∧ StepAt P n0 W true ops tS hS nS vS i ops[i] x := fun i hi => by
    obtain ⟨x, hx⟩ := ok.at_ i hi
    exact ⟨x, hx, e5 i _ x (by simp [hi]) hx⟩
  let N := ops.size
  let dst : Nat → Option Nat := fun i => (l'[i]?).bind (·.dst)
  let wr : Nat → Bool := fun i => ((l'[i]?).map (·.o.wrs)).getD false
  have hn1 : ∀ j, j < N → nS (j + 1) = nS j := fun j hj => by
    obtain ⟨x, hx, _, _, _, _, hst⟩ := step j hj
    have hmk := ok.nomk j x hj hx
    rcases hst with ⟨_, _, _, _, _, _, q⟩ | ⟨_, hst, hinf⟩
    · exact q
    · cases hst with
      | own new hr hh hm hw => exact hm.resolve_right (by simp [hmk])
      | read hr hl hm hrh hw => exact hm.resolve_right (by simp [hmk])
      | write W' hr hp hf hw =>
        have := (ok.wrs j x hj hx hw).1
        cases hxo : x.o <;> rw [hxo] at this <;> simp only [O.isSt, Bool.false_eq_true] at this
        rw [hxo] at hinf
        exact hinf.1
      | free W' hr hp hd _ => cases hd
  have hnn : ∀ k, k ≤ N → nS k = n := by
    intro k
    induction k with
    | zero => intro _; exact e3
    | succ k ih => intro hk; rw [hn1 k (by omega), ih (by omega)]
  have hidle : ∀ j, j < N → wr j = false → hS (j + 1) = hS j := fun j hj hw => by
    obtain ⟨x, hx, _, _, _, _, hst⟩ := step j hj
    have hmk := ok.nomk j x hj hx
    rcases hst with ⟨_, _, _, _, _, q, _⟩ | ⟨_, hst, _⟩
    · exact q
    · exact (hst.idle (by simpa [wr, hx] using hw) hmk).1
  refine ⟨_, _, _, e4, by rw [hnn N (Nat.le_refl _)]; exact Nat.le_refl _, fun G a w hGW hGn hG1 hS0 => ?_⟩
  have hG1' : n ≤ G.n1 := by rw [← hnn N (Nat.le_refl _)]; exact hG1
  have tall : ∀ k, k ≤ N → tD (tS 0) dst vS (fun _ => true) k = tS k := by
    intro k
    induction k with
    | zero => intro _; rfl
    | succ k ih =>
      intro hk
      obtain ⟨x, hx, g1, g2, _⟩ := step k (by omega)
      simp only [tD, if_true]
      rw [ih (by omega), g2]
      congr 1
      simp only [dst, hx, Option.bind_some, g1]
  -- an operand that stays
  have stay : ∀ i a, i ≤ N → keepA l' i a = true → ev (tS N) a = ev (tS i) a := by
    intro i a hi hk
    cases a with
    | c v => rfl
    | f k => rfl
    | t s =>
      simp only [ev]
      have : ∀ k, i ≤ k → k ≤ N → (tS k).getD s .any = (tS i).getD s .any := by
        intro k
        induction k with
        | zero => intro h1 _; rw [Nat.le_zero.1 h1]
        | succ k ih =>
          intro h1 h2
          by_cases e : i = k + 1
          · rw [e]
          · rw [← ih (by omega) (by omega)]
            obtain ⟨x, hx, g1, g2, _⟩ := step k (by omega)
            rw [g2]
            refine setD_getD ?_
            have := List.all_eq_true.1 hk k (List.mem_range.2 (by rw [hlen]; exact (show k < N by omega)))
            rw [hx, decide_eq_false (show ¬ k < i by omega)] at this
            simp only [Bool.false_or, decide_eq_true_eq] at this
            rw [← g1]; exact this
      exact this N hi (Nat.le_refl _)
  -- a load beside a store that the text has after it
  have apart : ∀ i j x y, i < N → j < N → l'[i]? = some x → l'[j]? = some y → x.o.wrs = true → y.o.rh = true → j < i → dep ops i j = false → ∀ id k, ev (tS j) y.o.adr = .ptr id k → hS (i + 1) id = hS i id := by
    intro i j x y hi hj hx hy hw hr hji hd id k hev
    obtain ⟨s1, s2⟩ := ok.wrs i x hi hx hw
    obtain ⟨r1, r2⟩ := ok.rh j y hj hy hr
    obtain ⟨k1, k2⟩ := ok.rw i j x y hi hj hx hy hw hr hji hd
    have hmem : (x.o.adr, y.o.adr) ∈ pairsOf ops l' := by
      simp only [pairsOf, List.mem_flatMap, List.mem_range]
      refine ⟨i, hi, ?_⟩
      rw [hx]
      simp only [pairsAt, s1, if_true, List.mem_filterMap, List.mem_range]
      exact ⟨j, hji, by rw [hy]; simp [r1, hd]⟩
    have hne := CH.of ech _ hmem
    simp only at hne
    rw [stay i _ (Nat.le_of_lt hi) k1, stay j _ (Nat.le_of_lt hj) k2, hev] at hne
    obtain ⟨x', hx', _, _, _, _, hst⟩ := step i hi
    rw [hx] at hx'; cases hx'
    rcases hst with ⟨_, _, hg, _⟩ | ⟨_, _, hinf⟩
    · rw [s2] at hg; cases hg
    · cases hxo : x.o <;> rw [hxo] at s1 <;> simp only [O.isSt, Bool.false_eq_true] at s1
      rw [hxo] at hinf hne
      obtain ⟨_, id', k', hev', hh⟩ := hinf
      simp only [O.adr] at hne
      rw [hev'] at hne
      exact hh id fun e => hne e.symm
  -- what holds on the way
  let Inv (D : Nat → Bool) (a : Act) (w : World) : Prop := ∃ ρ, IsL ρ (tD (tS 0) dst vS D N) a.tmps.toList ∧ a.defers = [] ∧ Sim ρ (hW (hS 0) wr hS D N) w ∧
    (∀ i, n ≤ i → i < G.n1 → ρ i = none) ∧ G.n0 ≤ n ∧ Cx G ρ w
  have one : ∀ (D : Nat → Bool) (i : Nat) (hi : i < N) (a : Act) (w : World) (Kr : Act → World → Prop) (Qr : Exit → Act → World → Prop), D i = false → Down ops D → (∀ e ∈ ops[i].after, Region.binds .any e = true → D e.on = true) → Inv D a w →
      (∀ a' w', Inv (add D i) a' w' → Kr a' w') → wpOp P ops Qr i Kr a w := by
    intro D i hi a w Kr Qr hDi hdown hready hinv hK
    have hpre : ∀ j, dep ops i j = true → D j = true := hdown.dep i ops[i] (by simp [N] at hi; simp [hi]) hready
    obtain ⟨x, hx, g1, g2, g3, g4, hst⟩ := step i hi
    obtain ⟨ρ, p1, p2, p3, p5, p6, p7⟩ := hinv
    have hdstx : dst i = ops[i].dst := by simp only [dst, hx, Option.bind_some, g1]
    have hti := tD_add (t := tS 0) (v := vS) (dst := dst) hDi N fun j hj hji s hs hjs => by
      obtain ⟨y, hy⟩ := ok.at_ j hj
      exact ok.dst i j x y s hi hj hx hy (Ne.symm hji) (by simpa [dst, hx] using hs) (by simpa [dst, hy] using hjs)
    rw [if_pos hi] at hti
    have inD : ∀ j, j < N → D j = true → ∀ k, dep ops j k = true → D k = true := fun j hj hDj k hd =>
      hdown.dep j ops[j] (by simp [N] at hj; simp [hj]) (hdown j _ (by simp [N] at hj; simp [hj]) hDj) k hd
    have notD : ∀ j, j < N → D j = true → dep ops j i = false := fun j hj hDj => by
      cases hd : dep ops j i with
      | false => rfl
      | true => have := inD j hj hDj i hd; rw [hDi] at this; cases this
    have hlook : ∀ s ∈ x.looks, (tS i).getD s .any = (tD (tS 0) dst vS D N).getD s .any := fun s hs => by
      rw [← tall i (Nat.le_of_lt hi)]
      by_cases hex : ∃ j, j < N ∧ dst j = some s
      · obtain ⟨j, hj, hjs⟩ := hex
        obtain ⟨y, hy⟩ := ok.at_ j hj
        have hu : ∀ k, k < N → dst k = some s → k = j := fun k hk hks => by
          obtain ⟨z, hz⟩ := ok.at_ k hk
          rcases Nat.decEq k j with hkj | hkj
          · exact absurd (by simpa [dst, hy] using hjs) (ok.dst k j z y s hk hj hz hy hkj (by simpa [dst, hz] using hks))
          · exact hkj
        rcases ok.look i x hi hx s hs j y hj hy (by simpa [dst, hy] using hjs) with hd | hd
        · have hji := ok.dep_lt i j hi hd
          by_cases hsl : s < (tS 0).length
          · rw [tD_some hsl rfl hjs i hji (fun k hk => hu k (by omega)), tD_some hsl (hpre j hd) hjs N hj hu]
          · simp [List.getD, List.getElem?_eq_none, tD_length, Nat.le_of_not_lt hsl]
        · have hij := ok.dep_lt j i hj hd
          have hDj : D j = false := by
            cases hDj : D j with
            | false => rfl
            | true => have := notD j hj hDj; rw [hd] at this; cases this
          rw [tD_none i fun k hk _ hks => by have := hu k (by omega) hks; omega, tD_none N fun k hk hDk hks => by rw [hu k hk hks, hDj] at hDk; cases hDk]
      · have hno : ∀ j, j < N → dst j ≠ some s := fun j hj h => hex ⟨j, hj, h⟩
        rw [tD_none i fun j hj _ => hno j (by omega), tD_none N fun j hj _ => hno j hj]
    have hrel : Rel ρ x.looks (tS i) a := fun d hd => by rw [hlook d hd]; exact Rel.of_all p1 d hd
    have nI := hnn i (Nat.le_of_lt hi)
    have nI' := hnn (i + 1) hi
    have fresh : ∀ id, nS i ≤ id → id < nS (i + 1) → ρ id = none := fun id h1 h2 => by omega
    have fin : ∀ (rv : Value) (ρ' : Rho) (w' : World), Is ρ' (vS i) rv → Sim ρ' (hW (hS 0) wr hS (add D i) N) w' → (∃ W' : Nat → Prop, Cx ⟨ρ, w, W', nS i, nS (i + 1)⟩ ρ' w' ∧ ∀ j, j < nS i → W' j → G.n0 ≤ j ∨ G.W j) →
        Kr (a.put ops[i].dst rv) w' := fun rv ρ' w' h1 h2 ⟨W', h3, h4⟩ => by
      refine hK _ _ ⟨ρ', ?_, by rw [Act.put_defers']; exact p2, h2, fun id q1 q2 => ?_, p6, p7.trans h3 (by omega) g3 (by omega) h4⟩
      · rw [hti, hdstx]
        exact Act.put_tmps (p1.mono (h3.ext fresh)) h1
      · rw [h3.far id (by simp only; omega)]; exact p5 id q1 q2
    have hwat : wr i = x.o.wrs := by simp only [wr, hx, Option.map_some, Option.getD_some]
    have wrAt : ∀ j y, l'[j]? = some y → wr j = y.o.wrs := fun j y hy => by simp only [wr, hy, Option.map_some, Option.getD_some]
    have hsame : wr i = false → ∀ k, hW (hS 0) wr hS (add D i) k = hW (hS 0) wr hS D k := fun hw k => by
      induction k with
      | zero => rfl
      | succ k ih =>
        simp only [hW, ih]
        by_cases e : k = i
        · subst e; simp [hw]
        · have : (k == i) = false := by simp; exact e
          simp [add, this]
    -- stores that are done hold all stores ahead of them
    have stDown : ∀ j k, j < N → k < j → wr j = true → wr k = true → D j = true → D k = true := fun j k hj hk hwj hwk hDj => by
      obtain ⟨y, hy⟩ := ok.at_ j hj
      obtain ⟨z, hz⟩ := ok.at_ k (by omega)
      exact inD j hj hDj k (ok.ww j k y z hj (by omega) hy hz (by rw [← wrAt j y hy]; exact hwj) (by rw [← wrAt k z hz]; exact hwk) hk)
    have hupto : ∀ k, k ≤ N → (∀ j, j < k → wr j = true → D j = true) → hW (hS 0) wr hS D k = hS k := by
      intro k
      induction k with
      | zero => intro _ _; rfl
      | succ k ih =>
        intro hk hh
        simp only [hW]
        cases hwk : wr k with
        | true => rw [hh k (Nat.lt_succ_self k) hwk]; rfl
        | false =>
          simp only [Bool.and_false, Bool.false_eq_true, if_false]
          rw [ih (by omega) fun j hj => hh j (by omega), hidle k (by omega) hwk]
    unfold wpOp
    have hoi : ops[i]? = some ops[i] := by simp [N] at hi; simp [hi]
    rw [hoi]
    simp only
    rcases hst with ⟨s, b, hgx, hts, hv, hh, hn⟩ | ⟨hgd, hst, hinf⟩
    · have hwf : wr i = false := by
        rw [hwat]
        cases hw : x.o.wrs with
        | false => rfl
        | true => have := (ok.wrs i x hi hx hw).2; rw [hgx] at this; cases this
      rcases g4 with ⟨_, hno⟩ | ⟨j, want, s', ho1, ho2, ho3⟩
      · rw [hgx] at hno; cases hno
      · rw [hgx] at ho3; cases ho3
        have hsl : s ∈ x.looks := by simp [OO.looks, hgx]
        have hnw : ¬ Region.wanted ops[i] (yielded ops a.tmps) = true := by
          rcases hts with hts | hts
          · have hb := IsL.bool_at p1 (by rw [← hlook s hsl]; exact hts)
            simp [Region.wanted, ho1, yielded, ho2, hb]
          · have hb := IsL.off_at p1 (by rw [← hlook s hsl]; exact hts)
            simp [Region.wanted, ho1, yielded, ho2, hb]
        rw [if_neg hnw]
        exact fin undef ρ w (by rw [hv]; exact is_off ρ) (by rw [hsame hwf]; exact p3) ⟨none', Cx.refl ρ w _ _ _ fresh, fun _ _ h => h.elim⟩
    · have hwant : Region.wanted ops[i] (yielded ops a.tmps) = true := by
        rcases g4 with ⟨ho1, _⟩ | ⟨j, want, s, ho1, ho2, ho3⟩
        · simp [Region.wanted, ho1]
        · rcases hgd with hno | ⟨s', b, hs', hts⟩
          · rw [hno] at ho3; cases ho3
          · rw [hs'] at ho3; cases ho3
            have hsl : s ∈ x.looks := by simp [OO.looks, hs']
            have hb := IsL.bool_at p1 (by rw [← hlook s hsl]; exact hts)
            simp [Region.wanted, ho1, yielded, ho2, hb]
      rw [if_pos hwant]
      refine .inl ?_
      have hrel' : Rel ρ x.o.reads (tS i) a := fun d hd => hrel d (by simp only [OO.looks, List.mem_append]; exact .inl hd)
      have quiet : ∀ (rv : Value) (ρ' : Rho) (w' : World) (g : AH), x.o.wrs = false → Is ρ' (vS i) rv → Sim ρ' (mix (nS i) (nS (i + 1)) (hW (hS 0) wr hS D N) g) w' → Cx ⟨ρ, w, none', nS i, nS (i + 1)⟩ ρ' w' → Kr (a.put ops[i].dst rv) w' :=
        fun rv ρ' w' g hw q1 q2 q3 => fin rv ρ' w' q1 (by rw [hsame (by rw [hwat]; exact hw)]; rw [nI, nI', mix_same] at q2; exact q2) ⟨none', q3, fun _ _ h => h.elim⟩
      cases hst with
      | own new hr hh hmk hw =>
        exact hr.2 ρ a w Kr Qr hrel' (Sim.emp _ _) fresh fun rv ρ' w' q1 q2 q3 => quiet rv ρ' w' new hw q1 (p3.mix q3 fresh q2) q3
      | read hr hl hmk hrh hw =>
        obtain ⟨l1, _⟩ := ok.rh i x hi hx hrh
        have hcx := hcO i hi x hx
        have hadr : ∀ id k, ev (tS i) x.o.adr = .ptr id k → ∀ m, i ≤ m → m ≤ N → (∀ j, i ≤ j → j < m → wr j = true → D j = true) → hS m id = hS i id := by
          intro id k hev m
          induction m with
          | zero => intro h1 _ _; rw [Nat.le_zero.1 h1]
          | succ m ih =>
            intro h1 h2 h3
            by_cases e : i = m + 1
            · rw [e]
            · rw [← ih (by omega) (by omega) fun j a b => h3 j a (by omega)]
              cases hwm : wr m with
              | false => rw [hidle m (by omega) hwm]
              | true =>
                have hmN : m < N := by omega
                obtain ⟨y, hy⟩ := ok.at_ m hmN
                have him : i < m := by
                  rcases Nat.lt_or_ge i m with h | h
                  · exact h
                  · have : m = i := by omega
                    subst this; rw [hwat, hw] at hwm; cases hwm
                exact apart m i y x hmN hi hy hx (by rw [← wrAt m y hy]; exact hwm) hrh him (notD m hmN (h3 m (by omega) (by omega) hwm)) id k hev
        have hcell : ∀ id k, ev (tS i) x.o.adr = .ptr id k → hW (hS 0) wr hS D N id = hS i id := by
          intro id k hev
          have hi0 : hW (hS 0) wr hS D i = hS i := hupto i (Nat.le_of_lt hi) fun j hj hwj => by
            have hjN : j < N := by omega
            obtain ⟨y, hy⟩ := ok.at_ j hjN
            exact hpre j (ok.wr j i y x hjN hi hy hx (by rw [← wrAt j y hy]; exact hwj) hrh hj)
          have : ∀ m, i ≤ m → m ≤ N → hW (hS 0) wr hS D m id = hS i id := by
            intro m
            induction m with
            | zero => intro h1 _; have : i = 0 := Nat.le_zero.1 h1; rw [← hi0, this]
            | succ m ih =>
              intro h1 h2
              by_cases e : i = m + 1
              · rw [← e, hi0]
              · have ih := ih (by omega) (by omega)
                simp only [hW]
                split
                · rename_i hdw
                  simp only [Bool.and_eq_true] at hdw
                  exact hadr id k hev (m + 1) h1 h2 fun j a b hwj => by
                    by_cases e2 : j = m
                    · rw [e2]; exact hdw.1
                    · exact stDown m j (by omega) (by omega) hdw.2 hwj hdw.1
                · exact ih
          exact this N (Nat.le_of_lt hi) (Nat.le_refl _)
        cases hxo : x.o <;> rw [hxo] at l1 <;> simp only [O.isLd1, Bool.false_eq_true] at l1
        rename_i adr
        rw [hxo] at hinf hcx hrel' hcell
        obtain ⟨id, k, b, hev, hb, hbc⟩ := hinf
        obtain ⟨T, xo, hop, hA, hT⟩ := compO_ld1 hcx
        have hro := o_ld1 (t := tS i) hop hA hT hev (h := hW (hS 0) wr hS D N) (by rw [hcell id k hev]; exact hb) hbc n
        refine hro.2 ρ a w Kr Qr hrel' p3 (fun id h1 h2 => by omega) fun rv ρ' w' q1 q2 q3 => quiet rv ρ' w' (fun _ => none) hw q1 ?_ (by rw [nI, nI']; exact q3)
        rw [nI, nI', mix_same]; exact q2
      | write W' hr hp hf hw =>
        have hbefore : ∀ j, j < i → wr j = true → D j = true := fun j hj hwj => by
          have hjN : j < N := by omega
          obtain ⟨y, hy⟩ := ok.at_ j hjN
          exact hpre j (ok.ww i j x y hi hjN hx hy hw (by rw [← wrAt j y hy]; exact hwj) hj)
        have hafter : ∀ j, i < j → j < N → wr j = true → D j = false := fun j hj hjN hwj => by
          cases hDj : D j with
          | false => rfl
          | true => have := stDown j i hjN hj hwj (by rw [hwat]; exact hw) hDj; rw [hDi] at this; cases this
        have q1 : hW (hS 0) wr hS D N = hS i := by
          have : ∀ m, i ≤ m → m ≤ N → hW (hS 0) wr hS D m = hS i := by
            intro m
            induction m with
            | zero => intro h1 _; have : i = 0 := Nat.le_zero.1 h1; rw [this]; rfl
            | succ m ih =>
              intro h1 h2
              by_cases e : i = m + 1
              · rw [← e]; exact hupto i (Nat.le_of_lt hi) hbefore
              · simp only [hW]
                rw [if_neg fun hh => ?_, ih (by omega) (by omega)]
                simp only [Bool.and_eq_true] at hh
                by_cases e2 : m = i
                · rw [e2, hDi] at hh; cases hh.1
                · rw [hafter m (by omega) (by omega) hh.2] at hh; cases hh.1
          exact this N (Nat.le_of_lt hi) (Nat.le_refl _)
        have q2 : hW (hS 0) wr hS (add D i) N = hS (i + 1) := by
          have : ∀ m, i + 1 ≤ m → m ≤ N → hW (hS 0) wr hS (add D i) m = hS (i + 1) := by
            intro m
            induction m with
            | zero => intro h1 _; omega
            | succ m ih =>
              intro h1 h2
              simp only [hW]
              by_cases e : m = i
              · subst e; simp [add, hwat, hw]
              · have e' : (m == i) = false := by simp; exact e
                rw [if_neg fun hh => ?_, ih (by omega) (by omega)]
                simp only [add, e', Bool.or_false, Bool.and_eq_true] at hh
                rw [hafter m (by omega) (by omega) hh.2] at hh; cases hh.1
          exact this N hi (Nat.le_refl _)
        refine hr.2 ρ a w Kr Qr hrel' (by rw [← q1]; exact p3) fresh fun rv ρ' w' r1 r2 r3 => fin rv ρ' w' r1 (by rw [q2]; exact r2) ⟨W', r3, by rw [hGn, hGW]; exact hp⟩
      | free W' hr hp hd _ => cases hd
  -- all orders
  have main : ∀ (fuel : Nat) (listed : Array Bool) (a : Act) (w : World), listed.size = N → (List.range N).countP (fun i => !(listed.getD i false)) ≤ fuel → Down ops (fun i => listed.getD i false) → Inv (fun i => listed.getD i false) a w →
      wpAny P .any ops (fun e' a' w' => e' = .normal ∧ S G (tS N) (hS N) (nS N) a' w') fuel listed a w := by
    have hfull : ∀ (listed : Array Bool) (a : Act) (w : World), (∀ i, i < N → listed.getD i false = true) → Inv (fun i => listed.getD i false) a w → S G (tS N) (hS N) (nS N) a w := by
      intro listed a w hall ⟨ρ, p1, p2, p3, p5, p6, p7⟩
      have ht : tD (tS 0) dst vS (fun i => listed.getD i false) N = tS N := by
        rw [← tall N (Nat.le_refl _)]
        have : ∀ k, k ≤ N → tD (tS 0) dst vS (fun i => listed.getD i false) k = tD (tS 0) dst vS (fun _ => true) k := by
          intro k
          induction k with
          | zero => intro _; rfl
          | succ k ih =>
            intro hk
            have hk' : (fun i => listed.getD i false) k = true := hall k (by omega)
            simp only [tD]; rw [if_pos hk', ih (by omega)]; simp
        exact this N (Nat.le_refl _)
      have hh : ∀ k, k ≤ N → hW (hS 0) wr hS (fun i => listed.getD i false) k = hS k := by
        intro k
        induction k with
        | zero => intro _; rfl
        | succ k ih =>
          intro hk
          have hk' : (fun i => listed.getD i false) k = true := hall k (by omega)
          simp only [hW]
          cases hwk : wr k with
          | true => exact if_pos (by simpa using hk')
          | false =>
            simp only [Bool.and_false, Bool.false_eq_true, if_false]
            rw [ih (by omega), hidle k (by omega) hwk]
      rw [ht] at p1; rw [hh N (Nat.le_refl _)] at p3
      have := hnn N (Nat.le_refl _)
      exact ⟨ρ, p1, p2, p3, fun i h1 h2 => p5 i (by omega) h2, by omega, p7⟩
    have hready : ∀ (listed : Array Bool), Region.ready .any ops listed = [] → Down ops (fun i => listed.getD i false) → listed.size = N → ∀ i, i < N → listed.getD i false = true := by
      intro listed hr hd hsz i
      induction i using Nat.strongRecOn with
      | _ i ih =>
        intro hi
        cases hl : listed.getD i false with
        | true => rfl
        | false =>
          have hmem : i ∈ Region.ready .any ops listed := by
            rw [mem_ready]
            have hlt : i < listed.size := by rw [hsz]; exact hi
            refine ⟨by simp [hlt] at hl ⊢; exact hl, ops[i], by simp only [N] at hi; simp [hi], fun e he hb => ?_⟩
            have hei := ok.lt i ops[i] (by simp only [N] at hi; simp [hi]) e he hb
            exact ih e.on hei (by omega)
          rw [hr] at hmem; cases hmem
    intro fuel
    induction fuel with
    | zero =>
      intro listed a w hsz hcnt hd hinv
      have hall : ∀ i, i < N → listed.getD i false = true := fun i hi => by
        have := List.countP_eq_zero.1 (Nat.le_zero.1 hcnt) i (List.mem_range.2 hi)
        simpa using this
      refine ⟨?_, rfl, hfull listed a w hall hinv⟩
      cases hr : Region.ready .any ops listed with
      | nil => rfl
      | cons j r =>
        have hj : j ∈ Region.ready .any ops listed := by rw [hr]; simp
        obtain ⟨h1, o, h2, _⟩ := mem_ready.1 hj
        have hlt : j < N := (Array.getElem?_eq_some_iff.1 h2).1
        have := hall j hlt
        have hlt' : j < listed.size := by rw [hsz]; exact hlt
        simp [hlt'] at this h1
        rw [this] at h1; cases h1
    | succ fuel ih =>
      intro listed a w hsz hcnt hd hinv
      refine ⟨fun hr => ⟨rfl, hfull listed a w (hready listed hr hd hsz) hinv⟩, fun i hi => ?_⟩
      obtain ⟨h1, o, h2, h3⟩ := mem_ready.1 hi
      obtain ⟨hlt, ho⟩ := Array.getElem?_eq_some_iff.1 h2
      subst ho
      have hlt' : i < listed.size := by rw [hsz]; exact hlt
      have hDi : listed.getD i false = false := by simp [hlt'] at h1 ⊢; exact h1
      have hset : (fun j => (listed.setIfInBounds i true).getD j false) = add (fun j => listed.getD j false) i := by
        funext j
        simp only [add, Array.getD_eq_getD_getElem?, Array.getElem?_setIfInBounds]
        by_cases hij : i = j
        · subst hij; simp [hlt']
        · have : (j == i) = false := by simp; exact fun e => hij e.symm
          simp [hij, this]
      refine one (fun j => listed.getD j false) i hlt a w _ _ hDi hd h3 hinv fun a' w' hinv' => ih _ a' w' (by simp [hsz]) ?_ ?_ ?_
      · have hc := cnt_add (D := fun j => listed.getD j false) (i := i) hDi (List.range N) (List.mem_range.2 hlt) List.nodup_range
        have : (List.range N).countP (fun j => !((listed.setIfInBounds i true).getD j false)) = (List.range N).countP (fun j => !(add (fun j => listed.getD j false) i j)) := by
          congr 1; funext j; rw [← congrFun hset j]
        omega
      · rw [hset]
        intro j o' hj hDj e he hb
        simp only [add, Bool.or_eq_true, beq_iff_eq] at hDj ⊢
        rcases hDj with hDj | rfl
        · exact .inl (hd j o' hj hDj e he hb)
        · rw [h2] at hj; cases hj; exact .inl (h3 e he hb)
      · rw [hset]; exact hinv'
  refine main ops.size _ a w (by simp [N]) ?_ ?_ ?_
  · exact Nat.le_trans List.countP_le_length (by simp [N])
  · intro i o hi hD
    by_cases hlt : i < ops.size <;> simp [hlt] at hD
  · obtain ⟨ρ, p1, p2, p3, p4, p5, p6⟩ := hS0
    have hno : ∀ k, (fun i => (Array.replicate ops.size false).getD i false) k = false := fun k => by
      by_cases hlt : k < ops.size <;> simp [hlt]
    have ht : ∀ k, tD (tS 0) dst vS (fun i => (Array.replicate ops.size false).getD i false) k = tS 0 := fun k => by
      induction k with
      | zero => rfl
      | succ k ih =>
        have hk : ¬ ((fun i => (Array.replicate ops.size false).getD i false) k = true) := by rw [hno k]; simp
        simp only [tD]; rw [if_neg hk]; exact ih
    have hh : ∀ k, hW (hS 0) wr hS (fun i => (Array.replicate ops.size false).getD i false) k = hS 0 := fun k => by
      induction k with
      | zero => rfl
      | succ k ih =>
        have hk := hno k
        simp only at hk
        simp only [hW, hk, Bool.false_and, Bool.false_eq_true, if_false]; exact ih
    exact ⟨ρ, by rw [ht, e1]; exact p1, p2, by rw [hh, e2]; exact p3, p4, p5, p6⟩
end Go.Proofs.Ytmjfekgbbjojdac.L
