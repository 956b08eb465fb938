/- Code: regions in the text's order, tests, blocks, loops, and whole functions. -/
import Derived.Test.YtmjfekgbbjojdacL8
namespace Go.Proofs.Ytmjfekgbbjojdac.L
open Go
set_option linter.unusedSimpArgs false
set_option linter.unusedVariables false

structure OO where
  dst : Option Nat
  o : O
  g : Option (Nat × Bool)

inductive C where
  | skip
  | reg (d : Bool) (l : List OO)
  | chk (l : List (A × A))
  | seq (a b : C)
  | cond (x : A) (a b : C)
  | block (id : Nat) (c : C)
  | loop (c : C)
  | exit (id : Nat)
  | ret

inductive E where
  | nrm
  | ex (id : Nat)
  | ret
def E.out : E → Exit
  | .nrm => .normal
  | .ex id => .exit id
  | .ret => .ret

def setD (t : List AV) (d : Option Nat) (v : AV) : List AV := match d with
  | some d => t.set d v
  | none => t
def setA (t : List AV) (x : A) (v : AV) : List AV := match x with
  | .t n => t.set n v
  | _ => t

abbrev KT := E → List AV → AH → Nat → Prop

def xops (P : Program) (n0 : Nat) (W : Nat → Prop) (d : Bool) : List OO → List AV → AH → Nat → (List AV → AH → Nat → Prop) → Prop
  | [], t, h, n, K => K t h n
  | ⟨dst, o, none⟩ :: r, t, h, n, K => xo P n0 W d o t h n fun v h' n' => xops P n0 W d r (setD t dst v) h' n' K
  | ⟨dst, o, some (s, b)⟩ :: r, t, h, n, K => match t.getD s .any with
    | .bool c => (c = b → xo P n0 W d o (t.set s (.bool b)) h n fun v h' n' => xops P n0 W d r (setD (t.set s (.bool b)) dst v) h' n' K) ∧
        (c = (!b) → xops P n0 W d r (setD (t.set s (.bool (!b))) dst (.tup [])) h n K)
    | .tup [] => xops P n0 W d r (setD t dst (.tup [])) h n K
    | _ => False

/-- Less is told of a slot, or the same. -/
def Le1 (x y : AV) : Prop := y = .any ∨ y = x
def LeL : List AV → List AV → Prop
  | [], [] => True
  | x :: xs, y :: ys => Le1 x y ∧ LeL xs ys
  | _, _ => False
theorem LeL.is {ρ : Rho} : ∀ {t t' : List AV} {vs : List Value}, LeL t t' → IsL ρ t vs → IsL ρ t' vs
  | [], [], vs, _, h => h
  | x :: xs, y :: ys, vs, hl, h => by
    obtain ⟨h1, h2⟩ := hl
    simp only [IsL] at h
    obtain ⟨v, r, rfl, g1, g2⟩ := h
    refine IsL.cons ?_ (LeL.is h2 g2)
    rcases h1 with rfl | rfl
    · simp only [Is]
    · exact g1
  | [], _ :: _, _, hl, _ => by simp [LeL] at hl
  | _ :: _, [], _, hl, _ => by simp [LeL] at hl
/-- Less is told of a state. -/
def Wk (t : List AV) (h : AH) (n : Nat) (t' : List AV) (h' : AH) (n' : Nat) : Prop := LeL t t' ∧ (∀ i b, h' i = some b → h i = some b) ∧ n ≤ n'

def itr (f : List AV → AH → Nat → KT → Prop) : Nat → List AV → AH → Nat → KT → Prop
  | 0, _, _, _, _ => False
  | k + 1, t, h, n, K => ∃ t1 h1 n1, Wk t h n t1 h1 n1 ∧ f t1 h1 n1 fun e t' h' n' => match e with
    | .nrm => itr f k t' h' n' K
    | e => K e t' h' n'

/-- Two pointers into blocks with different names. -/
def NEp (x y : AV) : Prop := match x, y with
  | .ptr i _, .ptr j _ => i ≠ j
  | _, _ => False
def CH : List (A × A) → List AV → Prop
  | [], _ => True
  | p :: r, t => NEp (ev t p.1) (ev t p.2) ∧ CH r t
theorem CH.of {l : List (A × A)} {t : List AV} (h : CH l t) : ∀ p ∈ l, NEp (ev t p.1) (ev t p.2) := by
  induction l with
  | nil => intro p hp; simp at hp
  | cons q r ih =>
    intro p hp
    rcases List.mem_cons.1 hp with rfl | hp
    · exact h.1
    · exact ih h.2 p hp
def X (P : Program) (n0 : Nat) (W : Nat → Prop) : C → List AV → AH → Nat → KT → Prop
  | .skip, t, h, n, K => K .nrm t h n
  | .reg d l, t, h, n, K => xops P n0 W d l t h n fun t' h' n' => K .nrm t' h' n'
  | .chk l, t, h, n, K => CH l t ∧ K .nrm t h n
  | .seq a b, t, h, n, K => X P n0 W a t h n fun e t' h' n' => match e with
    | .nrm => X P n0 W b t' h' n' K
    | e => K e t' h' n'
  | .cond x a b, t, h, n, K => match ev t x with
    | .bool c => (c = true → X P n0 W a (setA t x (.bool true)) h n K) ∧ (c = false → X P n0 W b (setA t x (.bool false)) h n K)
    | _ => False
  | .block id c, t, h, n, K => X P n0 W c t h n fun e t' h' n' => match e with
    | .ex j => if j = id then K .nrm t' h' n' else K (.ex j) t' h' n'
    | e => K e t' h' n'
  | .loop c, t, h, n, K => ∃ k, itr (X P n0 W c) k t h n K
  | .exit id, t, h, n, K => K (.ex id) t h n
  | .ret, t, h, n, K => K .ret t h n

/-- What is known while a piece of code runs. -/
def S (G : Gx) (t : List AV) (h : AH) (n : Nat) (a : Act) (w : World) : Prop :=
  ∃ ρ, IsL ρ t a.tmps.toList ∧ a.defers = [] ∧ Sim ρ h w ∧ (∀ i, n ≤ i → i < G.n1 → ρ i = none) ∧ G.n0 ≤ n ∧ Cx G ρ w

def RS (P : Program) (W : Nat → Prop) (n0 : Nat) (c : Code) (t : List AV) (h : AH) (n : Nat) (e : E) (t' : List AV) (h' : AH) (n' : Nat) : Prop :=
  n ≤ n' ∧ ∀ (G : Gx) (a : Act) (w : World), G.W = W → G.n0 = n0 → n' ≤ G.n1 → S G t h n a w → Code.wp P c (fun e' a' w' => e' = e.out ∧ S G t' h' n' a' w') a w

theorem Act.put_tmps {a : Act} {d : Option Nat} {v : Value} {ρ : Rho} {t : List AV} {x : AV} (h : IsL ρ t a.tmps.toList) (hx : Is ρ x v) : IsL ρ (setD t d x) (a.put d v).tmps.toList := by
  cases d with
  | none => simpa [setD, Act.put] using h
  | some d => simpa [setD, Act.put] using h.set hx d
theorem Act.put_defers' {a : Act} {d : Option Nat} {v : Value} : (a.put d v).defers = a.defers := by cases d <;> rfl

/-- The state goes on behind an operation. -/
theorem S.step {P : Program} {op : Oper} {ds : List Nat} {G : Gx} {t : List AV} {h : AH} {n : Nat} {v : AV} {h' : AH} {n' : Nat} {W' : Nat → Prop} {a : Act} {w : World} (hr : RO P W' op ds t h n v h' n')
    (hp : ∀ i, i < n → W' i → G.n0 ≤ i ∨ G.W i) (hn : n' ≤ G.n1) (s : S G t h n a w) {K : Act → World → Prop} {Q : Exit → Act → World → Prop} (hk : ∀ a' w', S G (setD t op.dst v) h' n' a' w' → K a' w') : op.wp P a w K Q := by
  obtain ⟨ρ, h1, h2, h3, h4, h5, h6⟩ := s
  have hf : ∀ i, n ≤ i → i < n' → ρ i = none := fun i hi hi' => h4 i hi (by omega)
  refine hr.2 ρ a w K Q (Rel.of_all h1) h3 hf fun rv ρ' w' hi hs hc => hk _ _ ?_
  have e := hc.ext hf
  refine ⟨ρ', Act.put_tmps (h1.mono e) hi, by rw [Act.put_defers']; exact h2, hs, fun i g1 g2 => ?_, Nat.le_trans h5 hr.1, h6.trans hc h5 hr.1 hn hp⟩
  rw [hc.far i g1]; exact h4 i (Nat.le_trans hr.1 g1) g2

/-- An operation of a region in the short form. -/
def compOper (P : Program) (ops : Array Oper) (o : Oper) : Option OO := match compO P o.op with
  | some o' => match o.guard with
    | none => some ⟨o.dst, o', none⟩
    | some (j, want) => match (ops[j]?).bind (·.dst) with
      | some s => some ⟨o.dst, o', some (s, want)⟩
      | none => none
  | none => none
def compOps (P : Program) (ops : Array Oper) : List Oper → Option (List OO)
  | [] => some []
  | o :: r => match compOper P ops o, compOps P ops r with
    | some o', some r' => some (o' :: r')
    | _, _ => none

theorem compOper_spec {P : Program} {ops : Array Oper} {o : Oper} {oo : OO} (h : compOper P ops o = some oo) : compO P o.op = some oo.o ∧ oo.dst = o.dst ∧
    ((o.guard = none ∧ oo.g = none) ∨ ∃ j want s, o.guard = some (j, want) ∧ (ops[j]?).bind (·.dst) = some s ∧ oo.g = some (s, want)) := by
  simp only [compOper] at h
  split at h
  · rename_i ho
    split at h
    · rename_i hg; cases h; exact ⟨ho, rfl, .inl ⟨hg, rfl⟩⟩
    · rename_i j want hg
      split at h
      · rename_i s hs; cases h; exact ⟨ho, rfl, .inr ⟨j, want, s, hg, hs, rfl⟩⟩
      · cases h
  · cases h

theorem IsL.bool_at {ρ : Rho} {t : List AV} {a : Act} {s : Nat} {c : Bool} (h : IsL ρ t a.tmps.toList) (hs : t.getD s .any = .bool c) : a.tmps[s]? = some (.bool c) := by
  cases ht : t[s]? with
  | none => simp [List.getD, ht] at hs
  | some x =>
    simp only [List.getD, ht, Option.getD_some] at hs
    subst hs
    obtain ⟨v, hv, hi⟩ := h.get s _ ht
    simp only [Is] at hi; subst hi
    simpa using hv
/-- What is left out yields nothing. -/
theorem is_off (ρ : Rho) : Is ρ (.tup []) undef := by
  simp only [Is]; exact ⟨[], rfl, by simp only [IsL]⟩
theorem IsL.off_at {ρ : Rho} {t : List AV} {a : Act} {s : Nat} (h : IsL ρ t a.tmps.toList) (hs : t.getD s .any = .tup []) : a.tmps[s]? = some (.tuple #[]) := by
  cases ht : t[s]? with
  | none => simp [List.getD, ht] at hs
  | some x =>
    simp only [List.getD, ht, Option.getD_some] at hs
    subst hs
    obtain ⟨v, hv, hi⟩ := h.get s _ ht
    simp only [Is] at hi
    obtain ⟨vs, rfl, hl⟩ := hi
    simp only [IsL] at hl; subst hl
    simpa using hv
theorem set_same {t : List AV} {s : Nat} {x : AV} (h : t.getD s .any = x) (hx : x ≠ .any) : t.set s x = t := by
  cases ht : t[s]? with
  | none => simp [List.getD, ht] at h; exact absurd h.symm hx
  | some y =>
    simp only [List.getD, ht, Option.getD_some] at h
    subst h
    obtain ⟨hl, he⟩ := List.getElem?_eq_some_iff.1 ht
    rw [← he]
    exact List.set_getElem_self hl

theorem xops_seq {P : Program} {n0 : Nat} {W : Nat → Prop} (ops : Array Oper) : ∀ (l : List Oper) (k : Nat) (l' : List OO) (t : List AV) (h : AH) (n : Nat) (K : List AV → AH → Nat → Prop),
    (∀ i o, l[i]? = some o → ops[k + i]? = some o) → compOps P ops l = some l' → xops P n0 W false l' t h n K →
    ∃ t' h' n', K t' h' n' ∧ n ≤ n' ∧ ∀ (G : Gx) (a : Act) (w : World), G.W = W → G.n0 = n0 → n' ≤ G.n1 → S G t h n a w →
      wpOps P ops (fun e' a' w' => e' = .normal ∧ S G t' h' n' a' w') (List.range' k l.length) a w
  | [], k, l', t, h, n, K, _, hc, hx => by
    simp only [compOps, Option.some.injEq] at hc; subst hc
    exact ⟨t, h, n, hx, Nat.le_refl _, fun G a w _ _ _ hs => ⟨rfl, hs⟩⟩
  | o :: l, k, l', t, h, n, K, hl, hc, hx => by
    simp only [compOps] at hc
    split at hc
    · rename_i oo r' ho hr
      cases hc
      obtain ⟨c1, c2, c3⟩ := compOper_spec ho
      have hat : ops[k]? = some o := hl 0 o rfl
      have htl : ∀ i o', l[i]? = some o' → ops[k + 1 + i]? = some o' := fun i o' hi => by
        have := hl (i + 1) o' (by simpa using hi)
        rwa [show k + (i + 1) = k + 1 + i by omega] at this
      obtain ⟨dst, o', g⟩ := oo
      simp only at c1 c2 c3
      subst c2
      have exec : ∀ {tt : List AV} {K' : AV → AH → Nat → Prop}, tt = t → xo P n0 W false o' tt h n K' → (∀ v h' n', K' v h' n' → xops P n0 W false r' (setD t o.dst v) h' n' K) →
          ∃ t' h' n', K t' h' n' ∧ n ≤ n' ∧ ∀ (G : Gx) (a : Act) (w : World), G.W = W → G.n0 = n0 → n' ≤ G.n1 → S G t h n a w →
            o.wp P a w (wpOps P ops (fun e' a' w' => e' = .normal ∧ S G t' h' n' a' w') (List.range' (k + 1) l.length)) (fun e' a' w' => e' = .normal ∧ S G t' h' n' a' w') := by
        intro tt K' htt hxo hK'
        subst htt
        obtain ⟨v, h', n', hk, hstp⟩ := xo_stp c1 hxo
        obtain ⟨W', hro, hp⟩ := hstp.ro
        obtain ⟨t2, h2, n2, hk2, hn2, hw2⟩ := xops_seq ops l (k + 1) r' _ _ _ K htl hr (hK' v h' n' hk)
        refine ⟨t2, h2, n2, hk2, Nat.le_trans hro.1 hn2, fun G a w hGW hGn hG1 hs => ?_⟩
        exact hs.step hro (by rw [hGn, hGW]; exact hp) (Nat.le_trans hn2 hG1) fun a' w' hs' => hw2 G a' w' hGW hGn hG1 hs'
      rcases c3 with ⟨hg, rfl⟩ | ⟨j, want, s, hg, hs, rfl⟩
      · simp only [xops] at hx
        obtain ⟨t2, h2, n2, hk2, hn2, hw2⟩ := exec rfl hx (fun v h' n' hk => hk)
        refine ⟨t2, h2, n2, hk2, hn2, fun G a w hGW hGn hG1 hS => ?_⟩
        simp only [List.length_cons, List.range'_succ, wpOps, hat, Region.wanted, hg, if_true]
        exact .inl (hw2 G a w hGW hGn hG1 hS)
      · simp only [xops] at hx
        split at hx
        · rename_i c htc
          by_cases hcw : c = want
          · subst hcw
            have hset := set_same htc (by simp)
            obtain ⟨t2, h2, n2, hk2, hn2, hw2⟩ := exec hset (hx.1 rfl) (fun v h' n' hk => by rw [hset] at hk; exact hk)
            refine ⟨t2, h2, n2, hk2, hn2, fun G a w hGW hGn hG1 hS => ?_⟩
            have hb := IsL.bool_at hS.choose_spec.1 htc
            simp only [List.length_cons, List.range'_succ, wpOps, hat, Region.wanted, hg, yielded, hs, Option.bind_some, hb]
            rw [if_pos (by simp)]
            exact .inl (hw2 G a w hGW hGn hG1 hS)
          · have hcn : c = !want := by cases c <;> cases want <;> simp_all
            have hset : t.set s (.bool (!want)) = t := set_same (by rw [htc, hcn]) (by simp)
            have hx2 := hx.2 hcn
            rw [hset] at hx2
            obtain ⟨t2, h2, n2, hk2, hn2, hw2⟩ := xops_seq ops l (k + 1) r' _ _ _ K htl hr hx2
            refine ⟨t2, h2, n2, hk2, hn2, fun G a w hGW hGn hG1 hS => ?_⟩
            have hb := IsL.bool_at hS.choose_spec.1 htc
            simp only [List.length_cons, List.range'_succ, wpOps, hat, Region.wanted, hg, yielded, hs, Option.bind_some, hb]
            rw [if_neg (by simp [hcn])]
            refine hw2 G _ w hGW hGn hG1 ?_
            obtain ⟨ρ, g1, g2, g3⟩ := hS
            exact ⟨ρ, Act.put_tmps g1 (is_off ρ), by rw [Act.put_defers']; exact g2, g3⟩
        · rename_i htc
          obtain ⟨t2, h2, n2, hk2, hn2, hw2⟩ := xops_seq ops l (k + 1) r' _ _ _ K htl hr hx
          refine ⟨t2, h2, n2, hk2, hn2, fun G a w hGW hGn hG1 hS => ?_⟩
          have hb := IsL.off_at hS.choose_spec.1 htc
          simp only [List.length_cons, List.range'_succ, wpOps, hat, Region.wanted, hg, yielded, hs, Option.bind_some, hb]
          rw [if_neg (by simp)]
          refine hw2 G _ w hGW hGn hG1 ?_
          obtain ⟨ρ, g1, g2, g3⟩ := hS
          exact ⟨ρ, Act.put_tmps g1 (is_off ρ), by rw [Act.put_defers']; exact g2, g3⟩
        · exact hx.elim
    · cases hc
end Go.Proofs.Ytmjfekgbbjojdac.L
