/- Code: regions in the text's order, tests, blocks, loops, and whole functions. -/
import Derived.Test.YtkpibnhddhdooacDoorJ1
set_option linter.unusedSimpArgs false
set_option linter.unusedVariables false
namespace Go.Proofs.YtkpibnhddhdooacDoor.L
open Go

structure OO where
  dst : Option Nat
  o : O
  g : Option (Nat × Bool)

inductive C where
  | skip
  | reg (d : Bool) (l : List OO)
  | chk (l : List (A × A))
  | seq (a b : C)
  | cond (x : A) (a b : C)
  | block (id : Nat) (c : C)
  | loop (c : C)
  | exit (id : Nat)
  | ret

inductive E where
  | nrm
  | ex (id : Nat)
  | ret
def E.out : E → Exit
  | .nrm => .normal
  | .ex id => .exit id
  | .ret => .ret

def setD (t : List AV) (d : Option Nat) (v : AV) : List AV := match d with
  | some d => t.set d v
  | none => t
def setA (t : List AV) (x : A) (v : AV) : List AV := match x with
  | .t n => t.set n v
  | _ => t

abbrev KT := E → List AV → AH → Nat → Prop

def xops (P : Program) (n0 : Nat) (W : Nat → Prop) (d : Bool) : List OO → List AV → AH → Nat → (List AV → AH → Nat → Prop) → Prop
  | [], t, h, n, K => K t h n
  | ⟨dst, o, none⟩ :: r, t, h, n, K => xo P n0 W d o t h n fun v h' n' => xops P n0 W d r (setD t dst v) h' n' K
  | ⟨dst, o, some (s, b)⟩ :: r, t, h, n, K => match t.getD s .any with
    | .bool c => (c = b → xo P n0 W d o (t.set s (.bool b)) h n fun v h' n' => xops P n0 W d r (setD (t.set s (.bool b)) dst v) h' n' K) ∧
        (c = (!b) → xops P n0 W d r (setD (t.set s (.bool (!b))) dst (.tup [])) h n K)
    | .tup [] => xops P n0 W d r (setD t dst (.tup [])) h n K
    | _ => False

def Le1 (x y : AV) : Prop := y = .any ∨ y = x
def LeL : List AV → List AV → Prop
  | [], [] => True
  | x :: xs, y :: ys => Le1 x y ∧ LeL xs ys
  | _, _ => False
theorem LeL.is {ρ : Rho} : ∀ {t t' : List AV} {vs : List Value}, LeL t t' → IsL ρ t vs → IsL ρ t' vs
  | [], [], vs, _, h => h
  | x :: xs, y :: ys, vs, hl, h => by
    obtain ⟨h1, h2⟩ := hl
    simp only [IsL] at h
    obtain ⟨v, r, rfl, g1, g2⟩ := h
    refine IsL.cons ?_ (LeL.is h2 g2)
    rcases h1 with rfl | rfl
    · simp only [Is]
    · exact g1
  | [], _ :: _, _, hl, _ => by simp [LeL] at hl
  | _ :: _, [], _, hl, _ => by simp [LeL] at hl
def Wk (t : List AV) (h : AH) (n : Nat) (t' : List AV) (h' : AH) (n' : Nat) : Prop := LeL t t' ∧ (∀ i b, h' i = some b → h i = some b) ∧ n ≤ n'

def itr (f : List AV → AH → Nat → KT → Prop) : Nat → List AV → AH → Nat → KT → Prop
  | 0, _, _, _, _ => False
  | k + 1, t, h, n, K => ∃ t1 h1 n1, Wk t h n t1 h1 n1 ∧ f t1 h1 n1 fun e t' h' n' => match e with
    | .nrm => itr f k t' h' n' K
    | e => K e t' h' n'

def NEp (x y : AV) : Prop := match x, y with
  | .ptr i _, .ptr j _ => i ≠ j
  | _, _ => False
def CH : List (A × A) → List AV → Prop
  | [], _ => True
  | p :: r, t => NEp (ev t p.1) (ev t p.2) ∧ CH r t
theorem CH.of {l : List (A × A)} {t : List AV} (h : CH l t) : ∀ p ∈ l, NEp (ev t p.1) (ev t p.2) := by
  induction l with
  | nil => intro p hp; simp at hp
  | cons q r ih =>
    intro p hp
    rcases List.mem_cons.1 hp with rfl | hp
    · exact h.1
    · exact ih h.2 p hp
def X (P : Program) (n0 : Nat) (W : Nat → Prop) : C → List AV → AH → Nat → KT → Prop
  | .skip, t, h, n, K => K .nrm t h n
  | .reg d l, t, h, n, K => xops P n0 W d l t h n fun t' h' n' => K .nrm t' h' n'
  | .chk l, t, h, n, K => CH l t ∧ K .nrm t h n
  | .seq a b, t, h, n, K => X P n0 W a t h n fun e t' h' n' => match e with
    | .nrm => X P n0 W b t' h' n' K
    | e => K e t' h' n'
  | .cond x a b, t, h, n, K => match ev t x with
    | .bool c => (c = true → X P n0 W a (setA t x (.bool true)) h n K) ∧ (c = false → X P n0 W b (setA t x (.bool false)) h n K)
    | _ => False
  | .block id c, t, h, n, K => X P n0 W c t h n fun e t' h' n' => match e with
    | .ex j => if j = id then K .nrm t' h' n' else K (.ex j) t' h' n'
    | e => K e t' h' n'
  | .loop c, t, h, n, K => ∃ k, itr (X P n0 W c) k t h n K
  | .exit id, t, h, n, K => K (.ex id) t h n
  | .ret, t, h, n, K => K .ret t h n

def S (G : Gx) (t : List AV) (h : AH) (n : Nat) (a : Act) (w : World) : Prop :=
  ∃ ρ, IsL ρ t a.tmps.toList ∧ a.defers = [] ∧ Sim ρ h w ∧ (∀ i, n ≤ i → i < G.n1 → ρ i = none) ∧ G.n0 ≤ n ∧ Cx G ρ w

def RS (P : Program) (W : Nat → Prop) (n0 : Nat) (c : Code) (t : List AV) (h : AH) (n : Nat) (e : E) (t' : List AV) (h' : AH) (n' : Nat) : Prop :=
  n ≤ n' ∧ ∀ (G : Gx) (a : Act) (w : World), G.W = W → G.n0 = n0 → n' ≤ G.n1 → S G t h n a w → Code.wp P c (fun e' a' w' => e' = e.out ∧ S G t' h' n' a' w') a w

theorem Act.put_tmps {a : Act} {d : Option Nat} {v : Value} {ρ : Rho} {t : List AV} {x : AV} (h : IsL ρ t a.tmps.toList) (hx : Is ρ x v) : IsL ρ (setD t d x) (a.put d v).tmps.toList := by
  cases d with
  | none => simpa [setD, Act.put] using h
  | some d => simpa [setD, Act.put] using h.set hx d
theorem Act.put_defers' {a : Act} {d : Option Nat} {v : Value} : (a.put d v).defers = a.defers := by cases d <;> rfl

theorem S.step {P : Program} {op : Oper} {ds : List Nat} {G : Gx} {t : List AV} {h : AH} {n : Nat} {v : AV} {h' : AH} {n' : Nat} {W' : Nat → Prop} {a : Act} {w : World} (hr : RO P W' op ds t h n v h' n')
    (hp : ∀ i, i < n → W' i → G.n0 ≤ i ∨ G.W i) (hn : n' ≤ G.n1) (s : S G t h n a w) {K : Act → World → Prop} {Q : Exit → Act → World → Prop} (hk : ∀ a' w', S G (setD t op.dst v) h' n' a' w' → K a' w') : op.wp P a w K Q := by
  obtain ⟨ρ, h1, h2, h3, h4, h5, h6⟩ := s
  have hf : ∀ i, n ≤ i → i < n' → ρ i = none := fun i hi hi' => h4 i hi (by omega)
  refine hr.2 ρ a w K Q (Rel.of_all h1) h3 hf fun rv ρ' w' hi hs hc => hk _ _ ?_
  have e := hc.ext hf
  refine ⟨ρ', Act.put_tmps (h1.mono e) hi, by rw [Act.put_defers']; exact h2, hs, fun i g1 g2 => ?_, Nat.le_trans h5 hr.1, h6.trans hc h5 hr.1 hn hp⟩
  rw [hc.far i g1]; exact h4 i (Nat.le_trans hr.1 g1) g2

def compOper (P : Program) (ops : Array Oper) (o : Oper) : Option OO := match compO P o.op with
  | some o' => match o.guard with
    | none => some ⟨o.dst, o', none⟩
    | some (j, want) => match (ops[j]?).bind (·.dst) with
      | some s => some ⟨o.dst, o', some (s, want)⟩
      | none => none
  | none => none
def compOps (P : Program) (ops : Array Oper) : List Oper → Option (List OO)
  | [] => some []
  | o :: r => match compOper P ops o, compOps P ops r with
    | some o', some r' => some (o' :: r')
    | _, _ => none

theorem compOper_spec {P : Program} {ops : Array Oper} {o : Oper} {oo : OO} (h : compOper P ops o = some oo) : compO P o.op = some oo.o ∧ oo.dst = o.dst ∧
    ((o.guard = none ∧ oo.g = none) ∨ ∃ j want s, o.guard = some (j, want) ∧ (ops[j]?).bind (·.dst) = some s ∧ oo.g = some (s, want)) := by
  simp only [compOper] at h
  split at h
  · rename_i ho
    split at h
    · rename_i hg; cases h; exact ⟨ho, rfl, .inl ⟨hg, rfl⟩⟩
    · rename_i j want hg
      split at h
      · rename_i s hs; cases h; exact ⟨ho, rfl, .inr ⟨j, want, s, hg, hs, rfl⟩⟩
      · cases h
  · cases h

theorem IsL.bool_at {ρ : Rho} {t : List AV} {a : Act} {s : Nat} {c : Bool} (h : IsL ρ t a.tmps.toList) (hs : t.getD s .any = .bool c) : a.tmps[s]? = some (.bool c) := by
  cases ht : t[s]? with
  | none => simp [List.getD, ht] at hs
  | some x =>
    simp only [List.getD, ht, Option.getD_some] at hs
    subst hs
    obtain ⟨v, hv, hi⟩ := h.get s _ ht
    simp only [Is] at hi; subst hi
    simpa using hv
theorem is_off (ρ : Rho) : Is ρ (.tup []) undef := by
  simp only [Is]; exact ⟨[], rfl, by simp only [IsL]⟩
theorem IsL.off_at {ρ : Rho} {t : List AV} {a : Act} {s : Nat} (h : IsL ρ t a.tmps.toList) (hs : t.getD s .any = .tup []) : a.tmps[s]? = some (.tuple #[]) := by
  cases ht : t[s]? with
  | none => simp [List.getD, ht] at hs
  | some x =>
    simp only [List.getD, ht, Option.getD_some] at hs
    subst hs
    obtain ⟨v, hv, hi⟩ := h.get s _ ht
    simp only [Is] at hi
    obtain ⟨vs, rfl, hl⟩ := hi
    simp only [IsL] at hl; subst hl
    simpa using hv
theorem set_same {t : List AV} {s : Nat} {x : AV} (h : t.getD s .any = x) (hx : x ≠ .any) : t.set s x = t := by
  cases ht : t[s]? with
  | none => simp [List.getD, ht] at h; exact absurd h.symm hx
  | some y =>
    simp only [List.getD, ht, Option.getD_some] at h
    subst h
    obtain ⟨hl, he⟩ := List.getElem?_eq_some_iff.1 ht
    rw [← he]
    exact List.set_getElem_self hl

theorem xops_seq {P : Program} {n0 : Nat} {W : Nat → Prop} (ops : Array Oper) : ∀ (l : List Oper) (k : Nat) (l' : List OO) (t : List AV) (h : AH) (n : Nat) (K : List AV → AH → Nat → Prop),
    (∀ i o, l[i]? = some o → ops[k + i]? = some o) → compOps P ops l = some l' → xops P n0 W false l' t h n K →
    ∃ t' h' n', K t' h' n' ∧ n ≤ n' ∧ ∀ (G : Gx) (a : Act) (w : World), G.W = W → G.n0 = n0 → n' ≤ G.n1 → S G t h n a w →
      wpOps P ops (fun e' a' w' => e' = .normal ∧ S G t' h' n' a' w') (List.range' k l.length) a w
  | [], k, l', t, h, n, K, _, hc, hx => by
    simp only [compOps, Option.some.injEq] at hc; subst hc
    exact ⟨t, h, n, hx, Nat.le_refl _, fun G a w _ _ _ hs => ⟨rfl, hs⟩⟩
  | o :: l, k, l', t, h, n, K, hl, hc, hx => by
    simp only [compOps] at hc
    split at hc
    · rename_i oo r' ho hr
      cases hc
      obtain ⟨c1, c2, c3⟩ := compOper_spec ho
      have hat : ops[k]? = some o := hl 0 o rfl
      have htl : ∀ i o', l[i]? = some o' → ops[k + 1 + i]? = some o' := fun i o' hi => by
        have := hl (i + 1) o' (by simpa using hi)
        rwa [show k + (i + 1) = k + 1 + i by omega] at this
      obtain ⟨dst, o', g⟩ := oo
      simp only at c1 c2 c3
      subst c2
      have exec : ∀ {tt : List AV} {K' : AV → AH → Nat → Prop}, tt = t → xo P n0 W false o' tt h n K' → (∀ v h' n', K' v h' n' → xops P n0 W false r' (setD t o.dst v) h' n' K) →
          ∃ t' h' n', K t' h' n' ∧ n ≤ n' ∧ ∀ (G : Gx) (a : Act) (w : World), G.W = W → G.n0 = n0 → n' ≤ G.n1 → S G t h n a w →
            o.wp P a w (wpOps P ops (fun e' a' w' => e' = .normal ∧ S G t' h' n' a' w') (List.range' (k + 1) l.length)) (fun e' a' w' => e' = .normal ∧ S G t' h' n' a' w') := by
        intro tt K' htt hxo hK'
        subst htt
        obtain ⟨v, h', n', hk, hstp⟩ := xo_stp c1 hxo
        obtain ⟨W', hro, hp⟩ := hstp.ro
        obtain ⟨t2, h2, n2, hk2, hn2, hw2⟩ := xops_seq ops l (k + 1) r' _ _ _ K htl hr (hK' v h' n' hk)
        refine ⟨t2, h2, n2, hk2, Nat.le_trans hro.1 hn2, fun G a w hGW hGn hG1 hs => ?_⟩
        exact hs.step hro (by rw [hGn, hGW]; exact hp) (Nat.le_trans hn2 hG1) fun a' w' hs' => hw2 G a' w' hGW hGn hG1 hs'
      rcases c3 with ⟨hg, rfl⟩ | ⟨j, want, s, hg, hs, rfl⟩
      · simp only [xops] at hx
        obtain ⟨t2, h2, n2, hk2, hn2, hw2⟩ := exec rfl hx (fun v h' n' hk => hk)
        refine ⟨t2, h2, n2, hk2, hn2, fun G a w hGW hGn hG1 hS => ?_⟩
        simp only [List.length_cons, List.range'_succ, wpOps, hat, Region.wanted, hg, if_true]
        exact .inl (hw2 G a w hGW hGn hG1 hS)
      · simp only [xops] at hx
        split at hx
        · rename_i c htc
          by_cases hcw : c = want
          · subst hcw
            have hset := set_same htc (by simp)
            obtain ⟨t2, h2, n2, hk2, hn2, hw2⟩ := exec hset (hx.1 rfl) (fun v h' n' hk => by rw [hset] at hk; exact hk)
            refine ⟨t2, h2, n2, hk2, hn2, fun G a w hGW hGn hG1 hS => ?_⟩
            have hb := IsL.bool_at hS.choose_spec.1 htc
            simp only [List.length_cons, List.range'_succ, wpOps, hat, Region.wanted, hg, yielded, hs, Option.bind_some, hb]
            rw [if_pos (by simp)]
            exact .inl (hw2 G a w hGW hGn hG1 hS)
          · have hcn : c = !want := by cases c <;> cases want <;> simp_all
            have hset : t.set s (.bool (!want)) = t := set_same (by rw [htc, hcn]) (by simp)
            have hx2 := hx.2 hcn
            rw [hset] at hx2
            obtain ⟨t2, h2, n2, hk2, hn2, hw2⟩ := xops_seq ops l (k + 1) r' _ _ _ K htl hr hx2
            refine ⟨t2, h2, n2, hk2, hn2, fun G a w hGW hGn hG1 hS => ?_⟩
            have hb := IsL.bool_at hS.choose_spec.1 htc
            simp only [List.length_cons, List.range'_succ, wpOps, hat, Region.wanted, hg, yielded, hs, Option.bind_some, hb]
            rw [if_neg (by simp [hcn])]
            refine hw2 G _ w hGW hGn hG1 ?_
            obtain ⟨ρ, g1, g2, g3⟩ := hS
            exact ⟨ρ, Act.put_tmps g1 (is_off ρ), by rw [Act.put_defers']; exact g2, g3⟩
        · rename_i htc
          obtain ⟨t2, h2, n2, hk2, hn2, hw2⟩ := xops_seq ops l (k + 1) r' _ _ _ K htl hr hx
          refine ⟨t2, h2, n2, hk2, hn2, fun G a w hGW hGn hG1 hS => ?_⟩
          have hb := IsL.off_at hS.choose_spec.1 htc
          simp only [List.length_cons, List.range'_succ, wpOps, hat, Region.wanted, hg, yielded, hs, Option.bind_some, hb]
          rw [if_neg (by simp)]
          refine hw2 G _ w hGW hGn hG1 ?_
          obtain ⟨ρ, g1, g2, g3⟩ := hS
          exact ⟨ρ, Act.put_tmps g1 (is_off ρ), by rw [Act.put_defers']; exact g2, g3⟩
        · exact hx.elim
    · cases hc

def maskOf (o : Oper) (acc : List Nat) : Nat := o.after.toList.foldl (fun s e => if Region.binds .any e then s ||| 2 ^ e.on ||| acc.getD e.on 0 else s) 0
def masks : List Oper → List Nat → List Nat
  | [], acc => acc
  | o :: r, acc => masks r (acc ++ [maskOf o acc])

def OO.looks (x : OO) : List Nat := x.o.reads ++ (match x.g with | some (s, _) => [s] | none => [])

def OO.tch (x : OO) : Bool := x.o.rh || x.o.mk || x.o.wrs

def okDraw (ops : Array Oper) (l : List OO) : Bool :=
  let m := masks ops.toList []
  let dep (i j : Nat) : Bool := (m.getD i 0).testBit j
  let N := ops.size
  (List.range N).all fun i => match ops[i]?, l[i]? with
    | some o, some x =>
      (o.after.toList.all fun e => !Region.binds .any e || decide (e.on < i)) &&
      (x.looks.all fun d => (List.range N).all fun j => match l[j]? with
        | some y => decide (y.dst ≠ some d) || dep i j || dep j i
        | none => false) &&
      ((List.range N).all fun j => match l[j]? with
        | some y => (decide (i = j) || (match x.dst with | some d => decide (y.dst ≠ some d) | none => true)) &&
            (!(x.o.rh && y.o.mk && decide (j < i)) || dep i j) &&
            (!(x.o.wrs && y.tch && decide (j < i)) || dep i j) &&
            (!(x.o.wrs && y.tch && decide (i < j)) || dep j i)
        | none => false)
    | _, _ => false

theorem fold_mask (acc : List Nat) (j : Nat) : ∀ (es : List Edge) (s : Nat), (es.foldl (fun s e => if Region.binds .any e then s ||| 2 ^ e.on ||| acc.getD e.on 0 else s) s).testBit j = true →
    s.testBit j = true ∨ ∃ e ∈ es, Region.binds .any e = true ∧ (e.on = j ∨ (acc.getD e.on 0).testBit j = true)
  | [], s, h => .inl h
  | e :: es, s, h => by
    simp only [List.foldl_cons] at h
    rcases fold_mask acc j es _ h with h | ⟨e', h1, h2⟩
    · split at h
      · rename_i hb
        simp only [Nat.testBit_or, Bool.or_eq_true] at h
        rcases h with (h | h) | h
        · exact .inl h
        · refine .inr ⟨e, by simp, hb, .inl ?_⟩
          rw [Nat.testBit_two_pow] at h
          simpa using h
        · exact .inr ⟨e, by simp, hb, .inr h⟩
      · exact .inl h
    · exact .inr ⟨e', by simp [h1], h2⟩

theorem masks_keep : ∀ (l : List Oper) (acc : List Nat) (i : Nat), i < acc.length → (masks l acc).getD i 0 = acc.getD i 0
  | [], acc, i, h => rfl
  | o :: l, acc, i, h => by
    simp only [masks]
    rw [masks_keep l _ i (by simp; omega)]
    simp only [List.getD, List.getElem?_append_left h]
theorem masks_at : ∀ (l : List Oper) (acc : List Nat) (i j : Nat) (o : Oper), l[i]? = some o → ((masks l acc).getD (acc.length + i) 0).testBit j = true →
    ∃ e ∈ o.after.toList, Region.binds .any e = true ∧ (e.on = j ∨ (((masks l acc).getD e.on 0).testBit j = true ∧ e.on < acc.length + i))
  | [], acc, i, j, o, h, _ => by simp at h
  | o' :: l, acc, 0, j, o, h, hb => by
    simp at h; subst h
    simp only [masks, Nat.add_zero] at hb
    rw [masks_keep l _ _ (by simp)] at hb
    simp only [List.getD, List.getElem?_append_right (Nat.le_refl _), Nat.sub_self] at hb
    simp only [List.getElem?_cons_zero, Option.getD_some, maskOf] at hb
    rcases fold_mask acc j _ _ hb with hb | ⟨e, h1, h2, h3⟩
    · simp at hb
    · refine ⟨e, h1, h2, h3.imp id fun h4 => ?_⟩
      by_cases hl : e.on < acc.length
      · refine ⟨?_, by omega⟩
        simp only [masks]
        rw [masks_keep l _ _ (by simp; omega)]
        simp only [List.getD, List.getElem?_append_left hl] at h4 ⊢
        exact h4
      · simp [List.getD, List.getElem?_eq_none (Nat.le_of_not_lt hl)] at h4
  | o' :: l, acc, i + 1, j, o, h, hb => by
    have := masks_at l (acc ++ [maskOf o' acc]) i j o (by simpa using h) (by simpa [masks, Nat.add_assoc, Nat.add_comm 1 i] using hb)
    simpa [masks, Nat.add_assoc, Nat.add_comm 1 i] using this

def dep (ops : Array Oper) (i j : Nat) : Bool := ((masks ops.toList []).getD i 0).testBit j

theorem dep_step {ops : Array Oper} {i j : Nat} {o : Oper} (ho : ops[i]? = some o) (h : dep ops i j = true) : ∃ e ∈ o.after, Region.binds .any e = true ∧ (e.on = j ∨ (dep ops e.on j = true ∧ e.on < i)) := by
  have := masks_at ops.toList [] i j o (by simpa using ho) (by simpa [dep] using h)
  simpa [dep] using this

structure OkD (ops : Array Oper) (l : List OO) : Prop where
  at_ : ∀ i, i < ops.size → ∃ x, l[i]? = some x
  lt : ∀ i o, ops[i]? = some o → ∀ e ∈ o.after, Region.binds .any e = true → e.on < i
  look : ∀ i x, i < ops.size → l[i]? = some x → ∀ d ∈ x.looks, ∀ j y, j < ops.size → l[j]? = some y → y.dst = some d → dep ops i j = true ∨ dep ops j i = true
  dst : ∀ i j x y d, i < ops.size → j < ops.size → l[i]? = some x → l[j]? = some y → i ≠ j → x.dst = some d → y.dst ≠ some d
  rd : ∀ i j x y, i < ops.size → l[i]? = some x → l[j]? = some y → x.o.rh = true → y.o.mk = true → j < i → dep ops i j = true
  wb : ∀ i j x y, i < ops.size → l[i]? = some x → l[j]? = some y → x.o.wrs = true → y.tch = true → j < i → dep ops i j = true
  wa : ∀ i j x y, j < ops.size → l[i]? = some x → l[j]? = some y → x.o.wrs = true → y.tch = true → i < j → dep ops j i = true

theorem OkD.of {ops : Array Oper} {l : List OO} (h : okDraw ops l = true) : OkD ops l := by
  have H : ∀ i, i < ops.size → ∃ o x, ops[i]? = some o ∧ l[i]? = some x ∧ (∀ e ∈ o.after, Region.binds .any e = true → e.on < i) ∧
      (∀ d ∈ x.looks, ∀ j, j < ops.size → ∃ y, l[j]? = some y ∧ (y.dst = some d → dep ops i j = true ∨ dep ops j i = true)) ∧
      (∀ j, j < ops.size → ∃ y, l[j]? = some y ∧ (i ≠ j → ∀ d, x.dst = some d → y.dst ≠ some d) ∧ (x.o.rh = true → y.o.mk = true → j < i → dep ops i j = true) ∧ (x.o.wrs = true → y.tch = true → j < i → dep ops i j = true) ∧
        (x.o.wrs = true → y.tch = true → i < j → dep ops j i = true)) := by
    intro i hi
    have h1 := List.all_eq_true.1 h i (List.mem_range.2 hi)
    split at h1
    · rename_i o x ho hx
      simp only [Bool.and_eq_true] at h1
      obtain ⟨⟨h2, h3⟩, h4⟩ := h1
      refine ⟨o, x, ho, hx, fun e he hb => ?_, fun d hd j hj => ?_, fun j hj => ?_⟩
      · have := List.all_eq_true.1 h2 e (by simpa using he)
        simp only [hb, Bool.not_true, Bool.false_or, decide_eq_true_eq] at this
        exact this
      · have := List.all_eq_true.1 (List.all_eq_true.1 h3 d hd) j (List.mem_range.2 hj)
        split at this
        · rename_i y hy
          refine ⟨y, hy, fun hd' => ?_⟩
          simp only [hd', ne_eq, not_true_eq_false, decide_false, Bool.false_or, Bool.or_eq_true] at this
          exact this
        · cases this
      · have := List.all_eq_true.1 h4 j (List.mem_range.2 hj)
        split at this
        · rename_i y hy
          simp only [Bool.and_eq_true] at this
          obtain ⟨⟨⟨g1, g2⟩, g3⟩, g4⟩ := this
          refine ⟨y, hy, fun hij d hd => ?_, fun e1 e2 e3 => ?_, fun e1 e2 e3 => ?_, fun e1 e2 e3 => ?_⟩
          · simp only [hd, hij, decide_false, Bool.false_or, decide_eq_true_eq] at g1; exact g1
          · simp only [e1, e2, e3, decide_true, Bool.and_self, Bool.not_true, Bool.false_or] at g2; exact g2
          · simp only [e1, e2, e3, decide_true, Bool.and_self, Bool.not_true, Bool.false_or] at g3; exact g3
          · simp only [e1, e2, e3, decide_true, Bool.and_self, Bool.not_true, Bool.false_or] at g4; exact g4
        · cases this
    · cases h1
  refine ⟨fun i hi => ?_, fun i o ho => ?_, fun i x hi hx d hd j y hj hy hyd => ?_, fun i j x y d hi hj hx hy hij hd => ?_, fun i j x y hi hx hy h1 h2 h3 => ?_, fun i j x y hi hx hy h1 h2 h3 => ?_, fun i j x y hj hx hy h1 h2 h3 => ?_⟩
  · obtain ⟨o, x, _, hx, _⟩ := H i hi; exact ⟨x, hx⟩
  · obtain ⟨o', x, ho', _, h1, _⟩ := H i (Array.getElem?_eq_some_iff.1 ho).1
    rw [ho] at ho'; cases ho'; exact h1
  · obtain ⟨o, x', _, hx', _, h1, _⟩ := H i hi
    rw [hx] at hx'; cases hx'
    obtain ⟨y', hy', h2⟩ := h1 d hd j hj
    rw [hy] at hy'; cases hy'; exact h2 hyd
  · obtain ⟨o, x', _, hx', _, _, h1⟩ := H i hi
    rw [hx] at hx'; cases hx'
    obtain ⟨y', hy', h2, _⟩ := h1 j hj
    rw [hy] at hy'; cases hy'; exact h2 hij d hd
  · obtain ⟨o, x', _, hx', _, _, hh⟩ := H i hi
    rw [hx] at hx'; cases hx'
    obtain ⟨y', hy', _, g, _⟩ := hh j (by omega)
    rw [hy] at hy'; cases hy'; exact g h1 h2 h3
  · obtain ⟨o, x', _, hx', _, _, hh⟩ := H i hi
    rw [hx] at hx'; cases hx'
    obtain ⟨y', hy', _, _, g, _⟩ := hh j (by omega)
    rw [hy] at hy'; cases hy'; exact g h1 h2 h3
  · obtain ⟨o, x', _, hx', _, _, hh⟩ := H i (by omega)
    rw [hx] at hx'; cases hx'
    obtain ⟨y', hy', _, _, _, g⟩ := hh j hj
    rw [hy] at hy'; cases hy'; exact g h1 h2 h3

def Down (ops : Array Oper) (D : Nat → Bool) : Prop := ∀ i o, ops[i]? = some o → D i = true → ∀ e ∈ o.after, Region.binds .any e = true → D e.on = true
theorem Down.dep {ops : Array Oper} {D : Nat → Bool} (h : Down ops D) : ∀ (i : Nat) (o : Oper), ops[i]? = some o → (∀ e ∈ o.after, Region.binds .any e = true → D e.on = true) → ∀ j, L.dep ops i j = true → D j = true := by
  intro i
  induction i using Nat.strongRecOn with
  | _ i ih =>
    intro o ho hd j hj
    obtain ⟨e, he, hb, h1 | ⟨h1, h2⟩⟩ := dep_step ho hj
    · rw [← h1]; exact hd e he hb
    · have hlt : e.on < ops.size := by have := (Array.getElem?_eq_some_iff.1 ho).1; omega
      exact ih e.on h2 ops[e.on] (by simp [hlt]) (h e.on _ (by simp [hlt]) (hd e he hb)) j h1
theorem OkD.dep_lt {ops : Array Oper} {l : List OO} (ok : OkD ops l) : ∀ (i j : Nat), i < ops.size → dep ops i j = true → j < i := by
  intro i
  induction i using Nat.strongRecOn with
  | _ i ih =>
    intro j hi hj
    obtain ⟨e, he, hb, h1 | ⟨h1, h2⟩⟩ := dep_step (o := ops[i]) (by simp [hi]) hj
    · rw [← h1]; exact ok.lt i _ (by simp [hi]) e he hb
    · have := ih e.on h2 j (by omega) h1; omega

def tD (t : List AV) (dst : Nat → Option Nat) (v : Nat → AV) (D : Nat → Bool) : Nat → List AV
  | 0 => t
  | k + 1 => if D k then setD (tD t dst v D k) (dst k) (v k) else tD t dst v D k
def hD (h : AH) (wr : Nat → Bool) (nS : Nat → Nat) (hS : Nat → AH) (D : Nat → Bool) : Nat → AH
  | 0 => h
  | k + 1 => if D k then (if wr k then hS (k + 1) else mix (nS k) (nS (k + 1)) (hD h wr nS hS D k) (hS (k + 1))) else hD h wr nS hS D k

theorem setD_length (t : List AV) (d : Option Nat) (v : AV) : (setD t d v).length = t.length := by cases d <;> simp [setD]
theorem setD_getD {t : List AV} {d : Option Nat} {v : AV} {s : Nat} (h : d ≠ some s) : (setD t d v).getD s .any = t.getD s .any := by
  cases d with
  | none => rfl
  | some d =>
    have : d ≠ s := fun e => h (by rw [e])
    simp [setD, List.getD, List.getElem?_set_ne this]
theorem setD_same {t : List AV} {v : AV} {s : Nat} (h : s < t.length) : (setD t (some s) v).getD s .any = v := by simp [setD, List.getD, h]
theorem tD_length (t : List AV) (dst : Nat → Option Nat) (v : Nat → AV) (D : Nat → Bool) : ∀ k, (tD t dst v D k).length = t.length
  | 0 => rfl
  | k + 1 => by simp only [tD]; split <;> simp [setD_length, tD_length t dst v D k]
theorem tD_none {t : List AV} {dst : Nat → Option Nat} {v : Nat → AV} {D : Nat → Bool} {s : Nat} : ∀ k, (∀ j, j < k → D j = true → dst j ≠ some s) → (tD t dst v D k).getD s .any = t.getD s .any
  | 0, _ => rfl
  | k + 1, h => by
    simp only [tD]
    split
    · rename_i hk; rw [setD_getD (h k (Nat.lt_succ_self k) hk)]; exact tD_none k fun j hj => h j (by omega)
    · exact tD_none k fun j hj => h j (by omega)
theorem tD_some {t : List AV} {dst : Nat → Option Nat} {v : Nat → AV} {D : Nat → Bool} {s j : Nat} (hs : s < t.length) (hj : D j = true) (hd : dst j = some s) : ∀ k, j < k → (∀ i, i < k → dst i = some s → i = j) → (tD t dst v D k).getD s .any = v j
  | 0, h, _ => by omega
  | k + 1, h, hu => by
    simp only [tD]
    by_cases hjk : j = k
    · subst hjk
      rw [if_pos hj, hd]; exact setD_same (by rw [tD_length]; exact hs)
    · have ih := tD_some (v := v) (D := D) hs hj hd k (by omega) fun i hi => hu i (by omega)
      split
      · rw [setD_getD fun h => hjk (hu k (Nat.lt_succ_self k) h).symm]; exact ih
      · exact ih

theorem setD_comm {t : List AV} {d e : Option Nat} {v u : AV} (h : ∀ s, d = some s → e ≠ some s) : setD (setD t d v) e u = setD (setD t e u) d v := by
  cases d with
  | none => cases e <;> rfl
  | some d =>
    cases e with
    | none => rfl
    | some e =>
      have : d ≠ e := fun hh => h d rfl (by rw [hh])
      simp only [setD]
      exact List.set_comm _ _ this
def add (D : Nat → Bool) (i : Nat) : Nat → Bool := fun j => D j || j == i
theorem tD_add {t : List AV} {dst : Nat → Option Nat} {v : Nat → AV} {D : Nat → Bool} {i : Nat} (hi : D i = false) : ∀ k, (∀ j, j < k → j ≠ i → ∀ s, dst i = some s → dst j ≠ some s) →
    tD t dst v (add D i) k = if i < k then setD (tD t dst v D k) (dst i) (v i) else tD t dst v D k
  | 0, _ => by simp [tD]
  | k + 1, h => by
    have ih := tD_add (t := t) (v := v) hi k fun j hj => h j (by omega)
    simp only [tD]
    by_cases hik : i = k
    · subst hik
      rw [ih, if_neg (Nat.lt_irrefl i), if_pos (Nat.lt_succ_self i), hi]
      simp [add]
    · have hadd : add D i k = D k := by
        have : (k == i) = false := by simp; exact fun h => hik h.symm
        simp [add, this]
      rw [ih, hadd]
      by_cases hlt : i < k
      · rw [if_pos hlt, if_pos (by omega : i < k + 1)]
        split
        · exact (setD_comm fun s hs => h k (Nat.lt_succ_self k) (fun e => hik e.symm) s hs)
        · rfl
      · rw [if_neg hlt, if_neg (by omega : ¬ i < k + 1)]

section
variable {h0 : AH} {wr : Nat → Bool} {nS : Nat → Nat} {hS : Nat → AH} {D : Nat → Bool}

theorem hD_all (hz : hS 0 = h0) : ∀ k, (∀ j, j < k → wr j = false → ∀ i, (i < nS j ∨ nS (j + 1) ≤ i) → hS (j + 1) i = hS j i) → (∀ j, j < k → D j = true ∨ hS (j + 1) = hS j) → hD h0 wr nS hS D k = hS k
  | 0, _, _ => hz.symm
  | k + 1, hl, ht => by
    have ih := hD_all hz k (fun j hj => hl j (by omega)) (fun j hj => ht j (by omega))
    simp only [hD]
    by_cases hk : D k = true
    · rw [if_pos hk]
      by_cases hw : wr k = true
      · rw [if_pos hw]
      · rw [if_neg hw, ih]
        funext i
        simp only [mix]
        split
        · rfl
        · rw [hl k (Nat.lt_succ_self k) (by simpa using hw) i (by omega)]
    · rw [if_neg hk, ih]
      exact ((ht k (Nat.lt_succ_self k)).resolve_left hk).symm
theorem hD_keep {i : Nat} {id : Nat} : ∀ k, i ≤ k → (∀ j, i ≤ j → j < k → D j = true → wr j = false ∧ ¬ (nS j ≤ id ∧ id < nS (j + 1))) → hD h0 wr nS hS D k id = hD h0 wr nS hS D i id
  | 0, h, _ => by rw [Nat.le_zero.1 h]
  | k + 1, h, hh => by
    by_cases hik : i = k + 1
    · rw [hik]
    · have ih := hD_keep k (by omega) fun j h1 h2 => hh j h1 (by omega)
      simp only [hD]
      split
      · rename_i hk
        obtain ⟨h1, h2⟩ := hh k (by omega) (Nat.lt_succ_self k) hk
        rw [h1]
        simp only [Bool.false_eq_true, if_false, mix, if_neg h2]
        exact ih
      · exact ih
theorem hD_congr {D' : Nat → Bool} : ∀ k, (∀ j, j < k → D j = D' j) → hD h0 wr nS hS D k = hD h0 wr nS hS D' k
  | 0, _ => rfl
  | k + 1, h => by simp only [hD]; rw [hD_congr k fun j hj => h j (by omega), h k (Nat.lt_succ_self k)]
theorem mono_of {nS : Nat → Nat} {k : Nat} (hm : ∀ j, j < k → nS j ≤ nS (j + 1)) {a : Nat} : ∀ b, a ≤ b → b ≤ k → nS a ≤ nS b
  | 0, h, _ => by rw [Nat.le_zero.1 h]; exact Nat.le_refl _
  | b + 1, h, hb => by
    by_cases hab : a = b + 1
    · rw [hab]; exact Nat.le_refl _
    · exact Nat.le_trans (mono_of hm b (by omega) (by omega)) (hm b (by omega))
theorem hD_add {i : Nat} (hi : D i = false) (hw : wr i = false) : ∀ k, (∀ j, j < k → nS j ≤ nS (j + 1)) → i < k → (∀ j, i < j → j < k → D j = true → wr j = false) →
    hD h0 wr nS hS (add D i) k = mix (nS i) (nS (i + 1)) (hD h0 wr nS hS D k) (hS (i + 1))
  | 0, _, h, _ => by omega
  | k + 1, hm, h, hh => by
    by_cases hik : i = k
    · subst hik
      have hc : hD h0 wr nS hS (add D i) i = hD h0 wr nS hS D i := hD_congr i fun j hj => by
        have : (j == i) = false := by simp; omega
        simp [add, this]
      simp only [hD, hi, Bool.false_eq_true, if_false, hc]
      simp [add, hw]
    · have ih := hD_add hi hw k (fun j hj => hm j (by omega)) (by omega) fun j h1 h2 => hh j h1 (by omega)
      have hadd : add D i k = D k := by
        have : (k == i) = false := by simp; exact fun h => hik h.symm
        simp [add, this]
      simp only [hD, hadd]
      split
      · rename_i hk
        rw [hh k (by omega) (Nat.lt_succ_self k) hk]
        simp only [Bool.false_eq_true, if_false, ih]
        funext id
        have := mono_of hm (a := i + 1) k (by omega) (by omega)
        simp only [mix]
        by_cases h1 : nS k ≤ id ∧ id < nS (k + 1)
        · rw [if_pos h1, if_neg (by omega), if_pos h1]
        · rw [if_neg h1]
          by_cases h2 : nS i ≤ id ∧ id < nS (i + 1)
          · rw [if_pos h2, if_pos h2]
          · rw [if_neg h2, if_neg h2, if_neg h1]
      · exact ih
theorem hD_flat {i : Nat} : ∀ k, i ≤ k → (∀ j, i ≤ j → j < k → D j = true → wr j = false ∧ nS (j + 1) = nS j) → hD h0 wr nS hS D k = hD h0 wr nS hS D i
  | 0, h, _ => by rw [Nat.le_zero.1 h]
  | k + 1, h, hh => by
    by_cases hik : i = k + 1
    · rw [hik]
    · have ih := hD_flat k (by omega) fun j h1 h2 => hh j h1 (by omega)
      simp only [hD]
      split
      · rename_i hk
        obtain ⟨h1, h2⟩ := hh k (by omega) (Nat.lt_succ_self k) hk
        rw [h1, h2]
        simp only [Bool.false_eq_true, if_false, mix_same]
        exact ih
      · exact ih
theorem hD_idle {i : Nat} (hi : D i = false) (hw : wr i = false) (hn : nS (i + 1) = nS i) : ∀ k, hD h0 wr nS hS (add D i) k = hD h0 wr nS hS D k
  | 0 => rfl
  | k + 1 => by
    have ih := hD_idle hi hw hn k
    by_cases hik : i = k
    · subst hik
      simp only [hD, hi, Bool.false_eq_true, if_false]
      simp [add, hw, hn, mix_same, ih]
    · have hadd : add D i k = D k := by
        have : (k == i) = false := by simp; exact fun h => hik h.symm
        simp [add, this]
      simp only [hD, hadd, ih]
theorem hD_add_wr {i : Nat} (hi : D i = false) (hw : wr i = true) (k : Nat) (hk : i < k) (hh : ∀ j, i < j → j < k → D j = true → wr j = false ∧ nS (j + 1) = nS j) : hD h0 wr nS hS (add D i) k = hS (i + 1) := by
  rw [hD_flat (i := i + 1) k hk fun j h1 h2 h3 => hh j (by omega) h2 (by
    have : (j == i) = false := by simp; omega
    simpa [add, this] using h3)]
  simp [hD, add, hw]
end

def StepAt (P : Program) (n0 : Nat) (W : Nat → Prop) (d : Bool) (ops : Array Oper) (tS : Nat → List AV) (hS : Nat → AH) (nS : Nat → Nat) (vS : Nat → AV) (i : Nat) (o : Oper) (x : OO) : Prop :=
  x.dst = o.dst ∧ tS (i + 1) = setD (tS i) o.dst (vS i) ∧ nS i ≤ nS (i + 1) ∧
    ((o.guard = none ∧ x.g = none) ∨ ∃ j want s, o.guard = some (j, want) ∧ (ops[j]?).bind (·.dst) = some s ∧ x.g = some (s, want)) ∧
    ((∃ s b, x.g = some (s, b) ∧ ((tS i).getD s .any = .bool (!b) ∨ (tS i).getD s .any = .tup []) ∧ vS i = .tup [] ∧ hS (i + 1) = hS i ∧ nS (i + 1) = nS i) ∨
     ((x.g = none ∨ ∃ s b, x.g = some (s, b) ∧ (tS i).getD s .any = .bool b) ∧ Stp P n0 W d o x.o (tS i) (hS i) (nS i) (vS i) (hS (i + 1)) (nS (i + 1)) ∧ Info x.o (tS i) (hS i) (nS i) (vS i) (hS (i + 1)) (nS (i + 1))))
def TraceEx (P : Program) (n0 : Nat) (W : Nat → Prop) (d : Bool) (ops : Array Oper) (l : List Oper) (l' : List OO) (t : List AV) (h : AH) (n : Nat) (K : List AV → AH → Nat → Prop) : Prop :=
  ∃ (tS : Nat → List AV) (hS : Nat → AH) (nS : Nat → Nat) (vS : Nat → AV), tS 0 = t ∧ hS 0 = h ∧ nS 0 = n ∧ K (tS l.length) (hS l.length) (nS l.length) ∧
    ∀ i o x, l[i]? = some o → l'[i]? = some x → StepAt P n0 W d ops tS hS nS vS i o x

def toW (x : OO) : OO := match x.o with
  | .call f xs => { x with o := .callw f xs }
  | _ => x
def toP (x : OO) : OO := match x.o with
  | .call f xs => { x with o := .callp f xs }
  | _ => x
def toQ (x : OO) : OO := match x.o with
  | .call f xs => { x with o := .callq f xs }
  | _ => x
inductive Ups : List OO → List OO → Prop
  | nil : Ups [] []
  | cons {x y : OO} {l m : List OO} (h : y = x ∨ y = toW x ∨ y = toP x ∨ y = toQ x) (t : Ups l m) : Ups (x :: l) (y :: m)
theorem Ups.refl : ∀ l : List OO, Ups l l
  | [] => .nil
  | x :: l => .cons (.inl rfl) (Ups.refl l)
theorem Ups.len {l m : List OO} (h : Ups l m) : m.length = l.length := by
  induction h with
  | nil => rfl
  | cons _ _ ih => simp [ih]
theorem xo_stp_up {P : Program} {n0 : Nat} {W : Nat → Prop} {d : Bool} {op : Oper} {x y : OO} (hc : compO P op.op = some x.o) (hxy : y = x ∨ y = toW x ∨ y = toP x ∨ y = toQ x) {t : List AV} {h : AH} {n : Nat} {K : AV → AH → Nat → Prop} (hx : xo P n0 W d y.o t h n K) :
    ∃ v h' n', K v h' n' ∧ Stp P n0 W d op y.o t h n v h' n' := by
  rcases hxy with rfl | rfl | rfl | rfl
  · exact xo_stp hc hx
  · unfold toW at hx ⊢
    split at hx
    · rename_i f xs e
      exact xo_stp_w (by rw [hc, e]) hx
    · exact xo_stp hc hx
  · unfold toP at hx ⊢
    split at hx
    · rename_i f xs e
      exact xo_stp_p (by rw [hc, e]) hx
    · exact xo_stp hc hx
  · unfold toQ at hx ⊢
    split at hx
    · rename_i f xs e
      exact xo_stp_q (by rw [hc, e]) hx
    · exact xo_stp hc hx
theorem toP_same (x : OO) : (toP x).dst = x.dst ∧ (toP x).g = x.g := by unfold toP; split <;> exact ⟨rfl, rfl⟩
theorem toQ_same (x : OO) : (toQ x).dst = x.dst ∧ (toQ x).g = x.g := by unfold toQ; split <;> exact ⟨rfl, rfl⟩
theorem toW_same (x : OO) : (toW x).dst = x.dst ∧ (toW x).g = x.g := by unfold toW; split <;> exact ⟨rfl, rfl⟩
theorem xops_trace {P : Program} {n0 : Nat} {W : Nat → Prop} {d : Bool} (ops : Array Oper) : ∀ (l : List Oper) (k : Nat) (l' : List OO) (t : List AV) (h : AH) (n : Nat) (K : List AV → AH → Nat → Prop),
    (∀ i o, l[i]? = some o → ops[k + i]? = some o) → (∃ l0, compOps P ops l = some l0 ∧ Ups l0 l') → xops P n0 W d l' t h n K →
    TraceEx P n0 W d ops l l' t h n K
  | [], k, l', t, h, n, K, _, hc, hx => by
    obtain ⟨l0, hc, hu⟩ := hc
    simp only [compOps, Option.some.injEq] at hc; subst hc
    cases hu
    exact ⟨fun _ => t, fun _ => h, fun _ => n, fun _ => .any, rfl, rfl, rfl, hx, fun i o x hi => by simp at hi⟩
  | o :: l, k, l', t, h, n, K, hl, hc, hx => by
    obtain ⟨l0, hc, hu⟩ := hc
    simp only [compOps] at hc
    split at hc
    · rename_i ox r0 ho hr
      cases hc
      obtain ⟨c1, c2, c3⟩ := compOper_spec ho
      cases hu
      rename_i oo r' hup hut
      have hr : ∃ l0, compOps P ops l = some l0 ∧ Ups l0 r' := ⟨_, hr, hut⟩
      have c2 : oo.dst = o.dst := by
        rcases hup with rfl | rfl | rfl | rfl
        · exact c2
        · rw [(toW_same ox).1]; exact c2
        · rw [(toP_same ox).1]; exact c2
        · rw [(toQ_same ox).1]; exact c2
      have c3 : (o.guard = none ∧ oo.g = none) ∨ ∃ j want s, o.guard = some (j, want) ∧ (ops[j]?).bind (·.dst) = some s ∧ oo.g = some (s, want) := by
        rcases hup with rfl | rfl | rfl | rfl
        · exact c3
        · rw [(toW_same ox).2]; exact c3
        · rw [(toP_same ox).2]; exact c3
        · rw [(toQ_same ox).2]; exact c3
      have htl : ∀ i o', l[i]? = some o' → ops[k + 1 + i]? = some o' := fun i o' hi => by
        have := hl (i + 1) o' (by simpa using hi)
        rwa [show k + (i + 1) = k + 1 + i by omega] at this
      obtain ⟨dst, o', g⟩ := oo
      simp only at c2
      subst c2
      have go : ∀ (v : AV) (h' : AH) (n' : Nat), n ≤ n' → xops P n0 W d r' (setD t o.dst v) h' n' K →
          ((∃ s b, g = some (s, b) ∧ (t.getD s .any = .bool (!b) ∨ t.getD s .any = .tup []) ∧ v = .tup [] ∧ h' = h ∧ n' = n) ∨
           ((g = none ∨ ∃ s b, g = some (s, b) ∧ t.getD s .any = .bool b) ∧ Stp P n0 W d o o' t h n v h' n' ∧ Info o' t h n v h' n')) → TraceEx P n0 W d ops (o :: l) (⟨o.dst, o', g⟩ :: r') t h n K := fun v h' n' hn hk hst => by
        obtain ⟨tS, hS, nS, vS, e1, e2, e3, e4, e5⟩ := xops_trace ops l (k + 1) r' _ _ _ K htl hr hk
        refine ⟨fun i => match i with | 0 => t | i + 1 => tS i, fun i => match i with | 0 => h | i + 1 => hS i, fun i => match i with | 0 => n | i + 1 => nS i, fun i => match i with | 0 => v | i + 1 => vS i,
          rfl, rfl, rfl, e4, fun i o2 x hi hx => ?_⟩
        cases i with
        | zero =>
          simp at hi hx
          subst hi; subst hx
          simp only [StepAt, e1, e2, e3]
          exact ⟨trivial, trivial, hn, c3, hst⟩
        | succ i => exact e5 i o2 x (by simpa using hi) (by simpa using hx)
      rcases c3 with ⟨hg, hgg⟩ | ⟨j, want, s, hg, hs, hgg⟩
      · simp only at hgg
        subst hgg
        simp only [xops] at hx
        obtain ⟨v, h', n', ⟨hk, hinf⟩, hstp⟩ := xo_stp_up c1 hup (xo_info hx)
        obtain ⟨W', hro, _⟩ := hstp.ro
        exact go v h' n' hro.1 hk (.inr ⟨.inl rfl, hstp, hinf⟩)
      · simp only at hgg
        subst hgg
        simp only [xops] at hx
        split at hx
        · rename_i c htc
          by_cases hcw : c = want
          · subst hcw
            have hset := set_same htc (by simp)
            have hx1 := hx.1 rfl
            rw [hset] at hx1
            obtain ⟨v, h', n', ⟨hk, hinf⟩, hstp⟩ := xo_stp_up c1 hup (xo_info hx1)
            obtain ⟨W', hro, _⟩ := hstp.ro
            exact go v h' n' hro.1 hk (.inr ⟨.inr ⟨s, c, rfl, htc⟩, hstp, hinf⟩)
          · have hcn : c = !want := by cases c <;> cases want <;> simp_all
            have hset : t.set s (.bool (!want)) = t := set_same (by rw [htc, hcn]) (by simp)
            have hx2 := hx.2 hcn
            rw [hset] at hx2
            exact go (.tup []) h n (Nat.le_refl _) hx2 (.inl ⟨s, want, rfl, .inl (by rw [htc, hcn]), rfl, rfl, rfl⟩)
        · rename_i htc
          exact go (.tup []) h n (Nat.le_refl _) hx (.inl ⟨s, want, rfl, .inr htc, rfl, rfl, rfl⟩)
        · exact hx.elim
    · cases hc

theorem compOps_length {P : Program} {ops : Array Oper} : ∀ {l : List Oper} {l' : List OO}, compOps P ops l = some l' → l'.length = l.length
  | [], l', h => by simp only [compOps, Option.some.injEq] at h; subst h; rfl
  | o :: l, l', h => by
    simp only [compOps] at h
    split at h
    · rename_i h1 h2; cases h; simp [compOps_length h2]
    · cases h

theorem cnt_add {D : Nat → Bool} {i : Nat} (hi : D i = false) : ∀ (l : List Nat), i ∈ l → l.Nodup → l.countP (fun j => !(add D i j)) + 1 = l.countP (fun j => !D j)
  | [], h, _ => by simp at h
  | j :: l, h, hn => by
    obtain ⟨hn1, hn2⟩ := List.nodup_cons.1 hn
    by_cases hj : j = i
    · subst hj
      have : l.countP (fun k => !(add D j k)) = l.countP (fun k => !D k) := List.countP_congr fun k hk => by
        have : (k == j) = false := by simp; exact fun e => hn1 (e ▸ hk)
        simp [add, this]
      rw [List.countP_cons, List.countP_cons, this]
      simp [add, hi]
    · have hl : i ∈ l := by
        rcases List.mem_cons.1 h with h | h
        · exact absurd h.symm hj
        · exact h
      have ih := cnt_add hi l hl hn2
      have hadd : add D i j = D j := by
        have : (j == i) = false := by simp; exact hj
        simp [add, this]
      simp only [List.countP_cons, hadd]
      omega

theorem Stp.far {P : Program} {n0 : Nat} {W : Nat → Prop} {op : Oper} {o : O} {t : List AV} {h : AH} {n : Nat} {v : AV} {h' : AH} {n' : Nat} (s : Stp P n0 W true op o t h n v h' n') : ∀ i, n' ≤ i → h' i = h i := by
  intro i hi
  cases s with
  | own new hr hh hm hw => subst hh; simp only [mix]; rw [if_neg (by omega)]
  | read hr hl hm hh hw => exact hl i (.inr hi)
  | write W' hr hp hf hw => exact hf i hi
  | free W' hr hp hd _ => cases hd
theorem Stp.loc {P : Program} {n0 : Nat} {W : Nat → Prop} {op : Oper} {o : O} {t : List AV} {h : AH} {n : Nat} {v : AV} {h' : AH} {n' : Nat} (s : Stp P n0 W true op o t h n v h' n') (hw : o.wrs = false) : ∀ i, (i < n ∨ n' ≤ i) → h' i = h i := by
  intro i hi
  cases s with
  | own new hr hh hm hw => subst hh; simp only [mix]; rw [if_neg (by omega)]
  | read hr hl hm hh hw => exact hl i hi
  | write W' hr hp hf hw' => rw [hw] at hw'; cases hw'
  | free W' hr hp hd _ => cases hd
theorem Stp.idle {P : Program} {n0 : Nat} {W : Nat → Prop} {op : Oper} {o : O} {t : List AV} {h : AH} {n : Nat} {v : AV} {h' : AH} {n' : Nat} (s : Stp P n0 W true op o t h n v h' n') (hw : o.wrs = false) (hm : o.mk = false) : h' = h ∧ n' = n := by
  cases s with
  | own new hr hh hm' hw =>
    rcases hm' with rfl | h'
    · exact ⟨by rw [hh, mix_same], rfl⟩
    · rw [hm] at h'; cases h'
  | read hr hl hm' hh hw =>
    rcases hm' with rfl | h'
    · exact ⟨funext fun i => hl i (by omega), rfl⟩
    · rw [hm] at h'; cases h'
  | write W' hr hp hf hw' => rw [hw] at hw'; cases hw'
  | free W' hr hp hd _ => cases hd

theorem xops_draw {P : Program} {n0 : Nat} {W : Nat → Prop} (ops : Array Oper) (l' : List OO) {t : List AV} {h : AH} {n : Nat} {K : List AV → AH → Nat → Prop}
    (hc : ∃ l0, compOps P ops ops.toList = some l0 ∧ Ups l0 l') (hok : okDraw ops l' = true) (hx : xops P n0 W true l' t h n K) :
    ∃ t' h' n', K t' h' n' ∧ n ≤ n' ∧ ∀ (G : Gx) (a : Act) (w : World), G.W = W → G.n0 = n0 → n' ≤ G.n1 → S G t h n a w →
      wpAny P .any ops (fun e' a' w' => e' = .normal ∧ S G t' h' n' a' w') ops.size (Array.replicate ops.size false) a w := by
  obtain ⟨tS, hS, nS, vS, e1, e2, e3, e4, e5⟩ := xops_trace ops ops.toList 0 l' t h n K (fun i o hi => by simpa using hi) hc hx
  have ok := OkD.of hok
  rw [Array.length_toList] at e4
  have hlen : l'.length = ops.size := by obtain ⟨l0, hc, hu⟩ := hc; rw [hu.len]; simpa using compOps_length hc
  have step : ∀ i (hi : i < ops.size), ∃ x, l'[i]? = some x ∧ StepAt P n0 W true ops tS hS nS vS i ops[i] x := fun i hi => by
    obtain ⟨x, hx⟩ := ok.at_ i hi
    exact ⟨x, hx, e5 i _ x (by simp [hi]) hx⟩
  have hm : ∀ j, j < ops.size → nS j ≤ nS (j + 1) := fun j hj => by obtain ⟨x, _, hs⟩ := step j hj; exact hs.2.2.1
  refine ⟨_, _, _, e4, by rw [← e3]; exact mono_of hm _ (Nat.zero_le _) (Nat.le_refl _), fun G a w hGW hGn hG1 hS0 => ?_⟩
  let N := ops.size
  have hG1' : nS N ≤ G.n1 := hG1
  let dst : Nat → Option Nat := fun i => (l'[i]?).bind (·.dst)
  let wr : Nat → Bool := fun i => ((l'[i]?).map (·.o.wrs)).getD false
  have hfar : ∀ k, k ≤ N → ∀ i, nS k ≤ i → hS k i = h i := by
    intro k
    induction k with
    | zero => intro _ i _; rw [e2]
    | succ k ih =>
      intro hk i hi
      obtain ⟨x, hx, _, _, g3, _, hst⟩ := step k (by omega)
      rw [← ih (by omega) i (by omega)]
      rcases hst with ⟨_, _, _, _, _, g1, _⟩ | ⟨_, hst, _⟩
      · rw [g1]
      · exact hst.far i hi
  have hloc : ∀ j, j < N → wr j = false → ∀ i, (i < nS j ∨ nS (j + 1) ≤ i) → hS (j + 1) i = hS j i := fun j hj hw i hi => by
    obtain ⟨x, hx, _, _, g3, _, hst⟩ := step j hj
    rcases hst with ⟨_, _, _, _, _, g1, _⟩ | ⟨_, hst, _⟩
    · rw [g1]
    · exact hst.loc (by simpa [wr, hx] using hw) i hi
  have hz0 : ∀ i, n ≤ i → i < G.n1 → h i = none := fun i h1 h2 => by
    obtain ⟨ρ, _, _, hs, hf, _⟩ := hS0
    cases hb : h i with
    | none => rfl
    | some b => obtain ⟨r, hr, _⟩ := hs.lies i b hb; rw [hf i h1 h2] at hr; cases hr
  have idleAt : ∀ j y, j < N → l'[j]? = some y → y.tch = false → hS (j + 1) = hS j ∧ nS (j + 1) = nS j ∧ wr j = false := fun j y hj hy ht => by
    simp only [OO.tch, Bool.or_eq_false_iff] at ht
    obtain ⟨x, hx, _, _, _, _, hst⟩ := step j hj
    rw [hy] at hx; cases hx
    have hw : wr j = false := by simp only [wr, hy, Option.map_some, Option.getD_some]; exact ht.2
    rcases hst with ⟨_, _, _, _, _, q1, q2⟩ | ⟨_, hst, _⟩
    · exact ⟨q1, q2, hw⟩
    · obtain ⟨q1, q2⟩ := hst.idle ht.2 ht.1.2
      exact ⟨q1, q2, hw⟩
  have tall : ∀ k, k ≤ N → tD (tS 0) dst vS (fun _ => true) k = tS k := by
    intro k
    induction k with
    | zero => intro _; rfl
    | succ k ih =>
      intro hk
      obtain ⟨x, hx, g1, g2, _⟩ := step k (by omega)
      simp only [tD, if_true]
      rw [ih (by omega), g2]
      congr 1
      simp only [dst, hx, Option.bind_some, g1]
  let Inv (D : Nat → Bool) (a : Act) (w : World) : Prop := ∃ ρ, IsL ρ (tD (tS 0) dst vS D N) a.tmps.toList ∧ a.defers = [] ∧ Sim ρ (hD (hS 0) wr nS hS D N) w ∧
    (∀ k, k < N → D k = false → ∀ i, nS k ≤ i → i < nS (k + 1) → ρ i = none) ∧ (∀ i, nS N ≤ i → i < G.n1 → ρ i = none) ∧ G.n0 ≤ n ∧ Cx G ρ w
  have nbound : ∀ k, k ≤ N → n ≤ nS k ∧ nS k ≤ nS N := fun k hk => ⟨by rw [← e3]; exact mono_of hm k (Nat.zero_le _) hk, mono_of hm N hk (Nat.le_refl _)⟩
  have one : ∀ (D : Nat → Bool) (i : Nat) (hi : i < N) (a : Act) (w : World) (Kr : Act → World → Prop) (Qr : Exit → Act → World → Prop), D i = false → Down ops D → (∀ e ∈ ops[i].after, Region.binds .any e = true → D e.on = true) → Inv D a w →
      (∀ a' w', Inv (add D i) a' w' → Kr a' w') → wpOp P ops Qr i Kr a w := by
    intro D i hi a w Kr Qr hDi hdown hready hinv hK
    have hpre : ∀ j, dep ops i j = true → D j = true := hdown.dep i ops[i] (by simp [N] at hi; simp [hi]) hready
    obtain ⟨x, hx, g1, g2, g3, g4, hst⟩ := step i hi
    obtain ⟨ρ, p1, p2, p3, p4, p5, p6, p7⟩ := hinv
    have hdstx : dst i = ops[i].dst := by simp only [dst, hx, Option.bind_some, g1]
    have hti := tD_add (t := tS 0) (v := vS) (dst := dst) hDi N fun j hj hji s hs hjs => by
      obtain ⟨y, hy⟩ := ok.at_ j hj
      exact ok.dst i j x y s hi hj hx hy (Ne.symm hji) (by simpa [dst, hx] using hs) (by simpa [dst, hy] using hjs)
    rw [if_pos hi] at hti
    have hlook : ∀ s ∈ x.looks, (tS i).getD s .any = (tD (tS 0) dst vS D N).getD s .any := fun s hs => by
      rw [← tall i (Nat.le_of_lt hi)]
      by_cases hex : ∃ j, j < N ∧ dst j = some s
      · obtain ⟨j, hj, hjs⟩ := hex
        obtain ⟨y, hy⟩ := ok.at_ j hj
        have hu : ∀ k, k < N → dst k = some s → k = j := fun k hk hks => by
          obtain ⟨z, hz⟩ := ok.at_ k hk
          rcases Nat.decEq k j with hkj | hkj
          · exact absurd (by simpa [dst, hy] using hjs) (ok.dst k j z y s hk hj hz hy hkj (by simpa [dst, hz] using hks))
          · exact hkj
        rcases ok.look i x hi hx s hs j y hj hy (by simpa [dst, hy] using hjs) with hd | hd
        · have hji := ok.dep_lt i j hi hd
          by_cases hsl : s < (tS 0).length
          · rw [tD_some hsl rfl hjs i hji (fun k hk => hu k (by omega)), tD_some hsl (hpre j hd) hjs N hj hu]
          · simp [List.getD, List.getElem?_eq_none, tD_length, Nat.le_of_not_lt hsl]
        · have hij := ok.dep_lt j i hj hd
          have hDj : D j = false := by
            cases hDj : D j with
            | false => rfl
            | true =>
              have := hdown.dep j ops[j] (by simp [N] at hj; simp [hj]) (hdown j _ (by simp [N] at hj; simp [hj]) hDj) i hd
              rw [hDi] at this; cases this
          rw [tD_none i fun k hk _ hks => by have := hu k (by omega) hks; omega, tD_none N fun k hk hDk hks => by rw [hu k hk hks, hDj] at hDk; cases hDk]
      · have hno : ∀ j, j < N → dst j ≠ some s := fun j hj h => hex ⟨j, hj, h⟩
        rw [tD_none i fun j hj _ => hno j (by omega), tD_none N fun j hj _ => hno j hj]
    have hrel : Rel ρ x.looks (tS i) a := fun d hd => by rw [hlook d hd]; exact Rel.of_all p1 d hd
    have fresh : ∀ id, nS i ≤ id → id < nS (i + 1) → ρ id = none := p4 i hi hDi
    have nb := nbound i (Nat.le_of_lt hi)
    have nb' := nbound (i + 1) hi
    have fin : ∀ (rv : Value) (ρ' : Rho) (w' : World), Is ρ' (vS i) rv → Sim ρ' (hD (hS 0) wr nS hS (add D i) N) w' → (∃ W' : Nat → Prop, Cx ⟨ρ, w, W', nS i, nS (i + 1)⟩ ρ' w' ∧ ∀ j, j < nS i → W' j → G.n0 ≤ j ∨ G.W j) →
        Kr (a.put ops[i].dst rv) w' := fun rv ρ' w' h1 h2 ⟨W', h3, h4⟩ => by
      refine hK _ _ ⟨ρ', ?_, by rw [Act.put_defers']; exact p2, h2, fun k hk hDk id q1 q2 => ?_, fun id q1 q2 => ?_, p6, p7.trans h3 (by omega) g3 (by omega) h4⟩
      · rw [hti, hdstx]
        exact Act.put_tmps (p1.mono (h3.ext fresh)) h1
      · simp only [add, Bool.or_eq_false_iff, beq_eq_false_iff_ne] at hDk
        have ho : ρ id = none := p4 k hk hDk.1 id q1 q2
        rcases Nat.lt_or_ge k i with hki | hki
        · have := mono_of hm (a := k + 1) i (by omega) (Nat.le_of_lt hi)
          rw [h3.old id (by simp only; omega)]; exact ho
        · have := mono_of hm (a := i + 1) k (by omega) (Nat.le_of_lt hk)
          rw [h3.far id (by simp only; omega)]; exact ho
      · rw [h3.far id (by simp only; omega)]; exact p5 id q1 q2
    have hwat : wr i = x.o.wrs := by simp only [wr, hx, Option.map_some, Option.getD_some]
    have inD : ∀ j, j < N → D j = true → dep ops j i = true → False := fun j hj hDj hd => by
      have := hdown.dep j ops[j] (by simp [N] at hj; simp [hj]) (hdown j _ (by simp [N] at hj; simp [hj]) hDj) i hd
      rw [hDi] at this; cases this
    have noWriteAfter : x.tch = true → ∀ j, i < j → j < N → D j = true → wr j = false := fun ht j h1 h2 h3 => by
      obtain ⟨y, hy⟩ := ok.at_ j h2
      cases hwj : wr j with
      | false => rfl
      | true => exact (inD j h2 h3 (ok.wb j i y x h2 hy hx (by simpa [wr, hy] using hwj) ht h1)).elim
    have hadd : wr i = false → hD (hS 0) wr nS hS (add D i) N = mix (nS i) (nS (i + 1)) (hD (hS 0) wr nS hS D N) (hS (i + 1)) := fun hw => by
      cases ht : x.tch with
      | true => exact hD_add hDi hw N hm hi (noWriteAfter ht)
      | false =>
        obtain ⟨_, q2, _⟩ := idleAt i x hi hx ht
        rw [q2, mix_same]
        exact hD_idle hDi hw q2 N
    have flatAfter : x.o.wrs = true → ∀ j, i < j → j < N → D j = true → wr j = false ∧ nS (j + 1) = nS j := fun hw j h1 h2 h3 => by
      obtain ⟨y, hy⟩ := ok.at_ j h2
      cases ht : y.tch with
      | true => exact (inD j h2 h3 (ok.wa i j x y h2 hx hy hw ht h1)).elim
      | false =>
        obtain ⟨_, q2, q3⟩ := idleAt j y h2 hy ht
        exact ⟨q3, q2⟩
    have hprefix : (∀ j, j < i → D j = true ∨ hS (j + 1) = hS j) → hD (hS 0) wr nS hS D i = hS i := fun hh => hD_all rfl i (fun j hj => hloc j (by simp only [N] at hi ⊢; omega)) hh
    have hwrN : x.o.wrs = true → hD (hS 0) wr nS hS D N = hS i ∧ hD (hS 0) wr nS hS (add D i) N = hS (i + 1) := fun hw => by
      refine ⟨?_, hD_add_wr hDi (by rw [hwat]; exact hw) N hi (flatAfter hw)⟩
      rw [← hprefix fun j hj => ?_]
      · refine hD_flat N (Nat.le_of_lt hi) fun j h1 h2 h3 => ?_
        by_cases hji : j = i
        · rw [hji, hDi] at h3; cases h3
        · exact flatAfter hw j (by omega) h2 h3
      · have hjN : j < N := by simp only [N] at hi ⊢; omega
        obtain ⟨y, hy⟩ := ok.at_ j hjN
        cases ht : y.tch with
        | true => exact .inl (hpre j (ok.wb i j x y hi hx hy hw ht hj))
        | false => exact .inr (idleAt j y hjN hy ht).1
    unfold wpOp
    have hoi : ops[i]? = some ops[i] := by simp [N] at hi; simp [hi]
    rw [hoi]
    simp only
    rcases hst with ⟨s, b, hgx, hts, hv, hh, hn⟩ | ⟨hgd, hst, _⟩
    · -- left out
      rcases g4 with ⟨_, hno⟩ | ⟨j, want, s', ho1, ho2, ho3⟩
      · rw [hgx] at hno; cases hno
      · rw [hgx] at ho3; cases ho3
        have hsl : s ∈ x.looks := by simp [OO.looks, hgx]
        have hnw : ¬ Region.wanted ops[i] (yielded ops a.tmps) = true := by
          rcases hts with hts | hts
          · have hb := IsL.bool_at p1 (by rw [← hlook s hsl]; exact hts)
            simp [Region.wanted, ho1, yielded, ho2, hb]
          · have hb := IsL.off_at p1 (by rw [← hlook s hsl]; exact hts)
            simp [Region.wanted, ho1, yielded, ho2, hb]
        rw [if_neg hnw]
        refine fin undef ρ w (by rw [hv]; exact is_off ρ) ?_ ⟨none', Cx.refl ρ w _ _ _ fresh, fun _ _ h => h.elim⟩
        cases hw : x.o.wrs with
        | true =>
          obtain ⟨q1, q2⟩ := hwrN hw
          rw [q2, hh, ← q1]; exact p3
        | false =>
          rw [hadd (by rw [hwat]; exact hw), hn, mix_same]; exact p3
    · have hwant : Region.wanted ops[i] (yielded ops a.tmps) = true := by
        rcases g4 with ⟨ho1, _⟩ | ⟨j, want, s, ho1, ho2, ho3⟩
        · simp [Region.wanted, ho1]
        · rcases hgd with hno | ⟨s', b, hs', hts⟩
          · rw [hno] at ho3; cases ho3
          · rw [hs'] at ho3; cases ho3
            have hsl : s ∈ x.looks := by simp [OO.looks, hs']
            have hb := IsL.bool_at p1 (by rw [← hlook s hsl]; exact hts)
            simp [Region.wanted, ho1, yielded, ho2, hb]
      rw [if_pos hwant]
      refine .inl ?_
      have hrel' : Rel ρ x.o.reads (tS i) a := fun d hd => hrel d (by simp only [OO.looks, List.mem_append]; exact .inl hd)
      cases hst with
      | own new hr hh hmk hw =>
        refine hr.2 ρ a w Kr Qr hrel' (Sim.emp _ _) fresh fun rv ρ' w' q1 q2 q3 => fin rv ρ' w' q1 ?_ ⟨none', q3, fun _ _ h => h.elim⟩
        rw [hadd (by rw [hwat]; exact hw)]
        have := p3.mix q3 fresh q2
        have he : mix (nS i) (nS (i + 1)) (hD (hS 0) wr nS hS D N) (hS (i + 1)) = mix (nS i) (nS (i + 1)) (hD (hS 0) wr nS hS D N) new := by
          funext id; simp only [mix]; split
          · rename_i hr'; rw [hh]; simp only [mix]; rw [if_pos hr']
          · rfl
        rw [he]; exact this
      | read hr hl hmk hrh hw =>
        have hpi : hD (hS 0) wr nS hS D i = hS i := hprefix fun j hj => by
          obtain ⟨y, hy, _, _, _, _, hsy⟩ := step j (by simp only [N] at hi; omega)
          cases hmj : y.o.mk with
          | true => exact .inl (hpre j (ok.rd i j x y hi hx hy hrh hmj hj))
          | false =>
            cases hwj : y.o.wrs with
            | true => exact .inl (hpre j (ok.wa j i y x hi hy hx hwj (by simp [OO.tch, hrh]) hj))
            | false =>
              rcases hsy with ⟨_, _, _, _, _, q, _⟩ | ⟨_, hsy, _⟩
              · exact .inr q
              · exact .inr (hsy.idle hwj hmj).1
        have hsub : ∀ id b, hS i id = some b → hD (hS 0) wr nS hS D N id = some b := fun id b hb => by
          have hnid : id < nS i ∨ G.n1 ≤ id := by
            rcases Nat.lt_or_ge id (nS i) with h1 | h1
            · exact .inl h1
            · rcases Nat.lt_or_ge id G.n1 with h2 | h2
              · rw [hfar i (Nat.le_of_lt hi) id h1, hz0 id (by omega) h2] at hb; cases hb
              · exact .inr h2
          rw [hD_keep N (Nat.le_of_lt hi) fun j h1 h2 h3 => ?_, hpi]
          · exact hb
          · by_cases hji : j = i
            · rw [hji, hDi] at h3; cases h3
            · refine ⟨noWriteAfter (by simp [OO.tch, hrh]) j (by omega) h2 h3, fun hr' => ?_⟩
              have q1 := mono_of hm (a := i) j h1 (Nat.le_of_lt h2)
              have q2 := nbound (j + 1) h2
              omega
        refine hr.2 ρ a w Kr Qr hrel' (p3.less hsub) fresh fun rv ρ' w' q1 q2 q3 => fin rv ρ' w' q1 ?_ ⟨none', q3, fun _ _ h => h.elim⟩
        rw [hadd (by rw [hwat]; exact hw)]
        exact p3.mix q3 fresh q2
      | write W' hr hp hf hw =>
        obtain ⟨q1, q2⟩ := hwrN hw
        refine hr.2 ρ a w Kr Qr hrel' (by rw [← q1]; exact p3) fresh fun rv ρ' w' r1 r2 r3 => fin rv ρ' w' r1 (by rw [q2]; exact r2) ⟨W', r3, by rw [hGn, hGW]; exact hp⟩
      | free W' hr hp hd _ => cases hd
  have main : ∀ (fuel : Nat) (listed : Array Bool) (a : Act) (w : World), listed.size = N → (List.range N).countP (fun i => !(listed.getD i false)) ≤ fuel → Down ops (fun i => listed.getD i false) → Inv (fun i => listed.getD i false) a w →
      wpAny P .any ops (fun e' a' w' => e' = .normal ∧ S G (tS N) (hS N) (nS N) a' w') fuel listed a w := by
    have hfull : ∀ (listed : Array Bool) (a : Act) (w : World), (∀ i, i < N → listed.getD i false = true) → Inv (fun i => listed.getD i false) a w → S G (tS N) (hS N) (nS N) a w := by
      intro listed a w hall ⟨ρ, p1, p2, p3, p4, p5, p6, p7⟩
      have ht : tD (tS 0) dst vS (fun i => listed.getD i false) N = tS N := by
        rw [← tall N (Nat.le_refl _)]
        have : ∀ k, k ≤ N → tD (tS 0) dst vS (fun i => listed.getD i false) k = tD (tS 0) dst vS (fun _ => true) k := by
          intro k
          induction k with
          | zero => intro _; rfl
          | succ k ih =>
            intro hk
            have hk' : (fun i => listed.getD i false) k = true := hall k (by omega)
            simp only [tD]; rw [if_pos hk', ih (by omega)]; simp
        exact this N (Nat.le_refl _)
      have hh : hD (hS 0) wr nS hS (fun i => listed.getD i false) N = hS N := hD_all rfl N hloc fun j hj => .inl (hall j hj)
      rw [ht] at p1; rw [hh] at p3
      exact ⟨ρ, p1, p2, p3, p5, by have := (nbound N (Nat.le_refl _)).1; omega, p7⟩
    have hready : ∀ (listed : Array Bool), Region.ready .any ops listed = [] → Down ops (fun i => listed.getD i false) → listed.size = N → ∀ i, i < N → listed.getD i false = true := by
      intro listed hr hd hsz i
      induction i using Nat.strongRecOn with
      | _ i ih =>
        intro hi
        cases hl : listed.getD i false with
        | true => rfl
        | false =>
          have hmem : i ∈ Region.ready .any ops listed := by
            rw [mem_ready]
            have hlt : i < listed.size := by rw [hsz]; exact hi
            refine ⟨by simp [hlt] at hl ⊢; exact hl, ops[i], by simp only [N] at hi; simp [hi], fun e he hb => ?_⟩
            have hei := ok.lt i ops[i] (by simp only [N] at hi; simp [hi]) e he hb
            exact ih e.on hei (by omega)
          rw [hr] at hmem; cases hmem
    intro fuel
    induction fuel with
    | zero =>
      intro listed a w hsz hcnt hd hinv
      have hall : ∀ i, i < N → listed.getD i false = true := fun i hi => by
        have := List.countP_eq_zero.1 (Nat.le_zero.1 hcnt) i (List.mem_range.2 hi)
        simpa using this
      refine ⟨?_, rfl, hfull listed a w hall hinv⟩
      cases hr : Region.ready .any ops listed with
      | nil => rfl
      | cons j r =>
        have hj : j ∈ Region.ready .any ops listed := by rw [hr]; simp
        obtain ⟨h1, o, h2, _⟩ := mem_ready.1 hj
        have hlt : j < N := (Array.getElem?_eq_some_iff.1 h2).1
        have := hall j hlt
        have hlt' : j < listed.size := by rw [hsz]; exact hlt
        simp [hlt'] at this h1
        rw [this] at h1; cases h1
    | succ fuel ih =>
      intro listed a w hsz hcnt hd hinv
      refine ⟨fun hr => ⟨rfl, hfull listed a w (hready listed hr hd hsz) hinv⟩, fun i hi => ?_⟩
      obtain ⟨h1, o, h2, h3⟩ := mem_ready.1 hi
      obtain ⟨hlt, ho⟩ := Array.getElem?_eq_some_iff.1 h2
      subst ho
      have hlt' : i < listed.size := by rw [hsz]; exact hlt
      have hDi : listed.getD i false = false := by simp [hlt'] at h1 ⊢; exact h1
      have hset : (fun j => (listed.setIfInBounds i true).getD j false) = add (fun j => listed.getD j false) i := by
        funext j
        simp only [add, Array.getD_eq_getD_getElem?, Array.getElem?_setIfInBounds]
        by_cases hij : i = j
        · subst hij; simp [hlt']
        · have : (j == i) = false := by simp; exact fun e => hij e.symm
          simp [hij, this]
      refine one (fun j => listed.getD j false) i hlt a w _ _ hDi hd h3 hinv fun a' w' hinv' => ih _ a' w' (by simp [hsz]) ?_ ?_ ?_
      · have hc := cnt_add (D := fun j => listed.getD j false) (i := i) hDi (List.range N) (List.mem_range.2 hlt) List.nodup_range
        have : (List.range N).countP (fun j => !((listed.setIfInBounds i true).getD j false)) = (List.range N).countP (fun j => !(add (fun j => listed.getD j false) i j)) := by
          congr 1; funext j; rw [← congrFun hset j]
        omega
      · rw [hset]
        intro j o' hj hDj e he hb
        simp only [add, Bool.or_eq_true, beq_iff_eq] at hDj ⊢
        rcases hDj with hDj | rfl
        · exact .inl (hd j o' hj hDj e he hb)
        · rw [h2] at hj; cases hj; exact .inl (h3 e he hb)
      · rw [hset]; exact hinv'
  refine main ops.size _ a w (by simp [N]) ?_ ?_ ?_
  · exact Nat.le_trans List.countP_le_length (by simp [N])
  · intro i o hi hD
    by_cases hlt : i < ops.size <;> simp [hlt] at hD
  · obtain ⟨ρ, p1, p2, p3, p4, p5, p6⟩ := hS0
    have hno : ∀ k, (fun i => (Array.replicate ops.size false).getD i false) k = false := fun k => by
      by_cases hlt : k < ops.size <;> simp [hlt]
    have ht : ∀ k, tD (tS 0) dst vS (fun i => (Array.replicate ops.size false).getD i false) k = tS 0 := fun k => by
      induction k with
      | zero => rfl
      | succ k ih =>
        have hk : ¬ ((fun i => (Array.replicate ops.size false).getD i false) k = true) := by rw [hno k]; simp
        simp only [tD]; rw [if_neg hk]; exact ih
    have hh : ∀ k, hD (hS 0) wr nS hS (fun i => (Array.replicate ops.size false).getD i false) k = hS 0 := fun k => by
      induction k with
      | zero => rfl
      | succ k ih =>
        have hk : ¬ ((fun i => (Array.replicate ops.size false).getD i false) k = true) := by rw [hno k]; simp
        simp only [hD]; rw [if_neg hk]; exact ih
    refine ⟨ρ, by rw [ht, e1]; exact p1, p2, by rw [hh, e2]; exact p3, fun k hk _ i q1 q2 => ?_, fun i q1 q2 => ?_, by rw [hGn] at p5 ⊢; exact p5, p6⟩
    · have := nbound k (Nat.le_of_lt hk); have := nbound (k + 1) hk
      exact p4 i (by omega) (by omega)
    · have := nbound N (Nat.le_refl _)
      exact p4 i (by omega) q2

def isCall : Op → Bool
  | .call { callee := .value _, .. } => true
  | _ => false
def isMk : Op → Bool
  | .alloc _ | .box _ _ | .makeSlice _ _ _ | .buildSlice _ _ _ | .store _ _ _ => true
  | o => isCall o
def pickNext (ops : Array Oper) (rs : List Nat) : Option Nat :=
  match rs.find? fun i => match ops[i]? with | some o => !isMk o.op | none => false with
  | some i => some i
  | none => match rs.find? fun i => match ops[i]? with | some o => isCall o.op | none => false with
    | some i => some i
    | none => rs.head?
def orderOf (ops : Array Oper) : Nat → Array Bool → List Nat → List Nat
  | 0, _, acc => acc.reverse
  | k + 1, listed, acc => match pickNext ops (Region.ready .any ops listed) with
    | some i => orderOf ops k (listed.setIfInBounds i true) (i :: acc)
    | none => acc.reverse
def pickLate (ops : Array Oper) (rs : List Nat) : Option Nat :=
  match rs.find? fun i => match ops[i]? with | some o => !isMk o.op | none => false with
  | some i => some i
  | none => match rs.find? fun i => match ops[i]? with | some o => !isCall o.op | none => false with
    | some i => some i
    | none => rs.head?
def orderLate (ops : Array Oper) : Nat → Array Bool → List Nat → List Nat
  | 0, _, acc => acc.reverse
  | k + 1, listed, acc => match pickLate ops (Region.ready .any ops listed) with
    | some i => orderLate ops k (listed.setIfInBounds i true) (i :: acc)
    | none => acc.reverse
def invOf (N : Nat) (p : List Nat) : List Nat := (List.range N).map fun i => p.idxOf i
def reOper (q : List Nat) (o : Oper) : Oper := { o with after := o.after.map (fun e => { e with on := q.getD e.on 0 }), guard := o.guard.map fun g => (q.getD g.1 0, g.2) }
def permOps (ops : Array Oper) (p q : List Nat) : Array Oper := (p.map fun i => reOper q (ops.getD i default)).toArray
def okPerm (ops : Array Oper) (p q : List Nat) : Bool :=
  decide (p.length = ops.size) && decide (q.length = ops.size) &&
  (List.range ops.size).all fun i => decide (p.getD i 0 < ops.size) && decide (q.getD i 0 < ops.size) && decide (q.getD (p.getD i 0) 0 = i) && decide (p.getD (q.getD i 0) 0 = i) &&
    (match ops[i]? with
      | some o => (o.after.toList.all fun e => decide (e.on < ops.size)) && (match o.guard with | some (j, _) => decide (j < ops.size) | none => true)
      | none => false)

structure OkP (ops : Array Oper) (p q : List Nat) : Prop where
  lp : p.length = ops.size
  p_lt : ∀ i, i < ops.size → p.getD i 0 < ops.size
  q_lt : ∀ i, i < ops.size → q.getD i 0 < ops.size
  qp : ∀ i, i < ops.size → q.getD (p.getD i 0) 0 = i
  pq : ∀ i, i < ops.size → p.getD (q.getD i 0) 0 = i
  on : ∀ (i : Nat) (o : Oper), ops[i]? = some o → (∀ e ∈ o.after, e.on < ops.size) ∧ ∀ j b, o.guard = some (j, b) → j < ops.size

theorem OkP.of {ops : Array Oper} {p q : List Nat} (h : okPerm ops p q = true) : OkP ops p q := by
  simp only [okPerm, Bool.and_eq_true, decide_eq_true_eq] at h
  obtain ⟨⟨h1, h2⟩, h3⟩ := h
  have H : ∀ i, i < ops.size → p.getD i 0 < ops.size ∧ q.getD i 0 < ops.size ∧ q.getD (p.getD i 0) 0 = i ∧ p.getD (q.getD i 0) 0 = i ∧ ∀ (o : Oper), ops[i]? = some o → (∀ e ∈ o.after, e.on < ops.size) ∧ ∀ j b, o.guard = some (j, b) → j < ops.size := by
    intro i hi
    have := List.all_eq_true.1 h3 i (List.mem_range.2 hi)
    simp only [Bool.and_eq_true, decide_eq_true_eq] at this
    obtain ⟨⟨⟨⟨g1, g2⟩, g3⟩, g4⟩, g5⟩ := this
    refine ⟨g1, g2, g3, g4, fun o ho => ?_⟩
    rw [ho] at g5
    simp only [Bool.and_eq_true] at g5
    refine ⟨fun e he => ?_, fun j b hg => ?_⟩
    · have := List.all_eq_true.1 g5.1 e (by simpa using he)
      simpa using this
    · have := g5.2
      rw [hg] at this
      simpa using this
  exact ⟨h1, fun i hi => (H i hi).1, fun i hi => (H i hi).2.1, fun i hi => (H i hi).2.2.1, fun i hi => (H i hi).2.2.2.1, fun i o ho => (H i (Array.getElem?_eq_some_iff.1 ho).1).2.2.2.2 o ho⟩

section
variable {P : Program} {ops : Array Oper} {p q : List Nat} {Q : Exit → Act → World → Prop}

theorem perm_at (ok : OkP ops p q) {j : Nat} {o : Oper} (hj : ops[j]? = some o) : (permOps ops p q)[q.getD j 0]? = some (reOper q o) := by
  have hlt := (Array.getElem?_eq_some_iff.1 hj).1
  have h1 : q.getD j 0 < p.length := by rw [ok.lp]; exact ok.q_lt j hlt
  have h2 : p[q.getD j 0]? = some j := by
    have := ok.pq j hlt
    rw [List.getD, List.getElem?_eq_getElem h1, Option.getD_some] at this
    rw [List.getElem?_eq_getElem h1, this]
  have hd : ops.getD j default = o := by
    rw [Array.getD_eq_getD_getElem?, hj]; rfl
  simp only [permOps, List.getElem?_toArray, List.getElem?_map, h2, Option.map_some, hd]
theorem perm_size (ok : OkP ops p q) : (permOps ops p q).size = ops.size := by simp [permOps, ok.lp]

theorem perm_ready (ok : OkP ops p q) {l l' : Array Bool} (h1 : l.size = ops.size) (h2 : l'.size = ops.size) (hl : ∀ i, i < ops.size → l'.getD (q.getD i 0) false = l.getD i false) {j : Nat} (hj : j < ops.size) :
    j ∈ Region.ready .any ops l ↔ q.getD j 0 ∈ Region.ready .any (permOps ops p q) l' := by
  have tf : ∀ (l : Array Bool) i, i < l.size → l.getD i true = l.getD i false := fun l i hi => by simp [hi]
  obtain ⟨o, ho⟩ : ∃ o, ops[j]? = some o := ⟨ops[j], by simp [hj]⟩
  rw [mem_ready, mem_ready]
  have hq := ok.q_lt j hj
  rw [tf l j (by omega), tf l' _ (by omega), hl j hj]
  constructor
  · rintro ⟨g1, o', ho', g2⟩
    rw [ho] at ho'; cases ho'
    refine ⟨g1, _, perm_at ok ho, fun e he hb => ?_⟩
    simp only [reOper, Array.mem_map] at he
    obtain ⟨e0, he0, rfl⟩ := he
    have := g2 e0 he0 (by simpa [Region.binds] using hb)
    rw [hl e0.on ((ok.on j o ho).1 e0 he0)]; exact this
  · rintro ⟨g1, o', ho', g2⟩
    rw [perm_at ok ho] at ho'; cases ho'
    refine ⟨g1, o, ho, fun e he hb => ?_⟩
    have := g2 { e with on := q.getD e.on 0 } (by simp only [reOper, Array.mem_map]; exact ⟨e, he, rfl⟩) (by simpa [Region.binds] using hb)
    rw [← hl e.on ((ok.on j o ho).1 e he)]; exact this

theorem perm_wanted (ok : OkP ops p q) {j : Nat} {o : Oper} (hj : ops[j]? = some o) (tmps : Array Value) : Region.wanted (reOper q o) (yielded (permOps ops p q) tmps) = Region.wanted o (yielded ops tmps) := by
  unfold Region.wanted
  cases hg : o.guard with
  | none => simp [reOper, hg]
  | some g =>
    obtain ⟨k, b⟩ := g
    have hk := (ok.on j o hj).2 k b hg
    obtain ⟨ok', hok'⟩ : ∃ o, ops[k]? = some o := ⟨ops[k], by simp [hk]⟩
    simp only [reOper, hg, Option.map_some, yielded, perm_at ok hok', hok', Option.bind_some]

theorem perm_any (ok : OkP ops p q) : ∀ (fuel : Nat) (l l' : Array Bool) (a : Act) (w : World), l.size = ops.size → l'.size = ops.size → (∀ i, i < ops.size → l'.getD (q.getD i 0) false = l.getD i false) →
    wpAny P .any (permOps ops p q) Q fuel l' a w → wpAny P .any ops Q fuel l a w := by
  have empty : ∀ {l l' : Array Bool}, l.size = ops.size → l'.size = ops.size → (∀ i, i < ops.size → l'.getD (q.getD i 0) false = l.getD i false) →
      (Region.ready .any ops l = [] ↔ Region.ready .any (permOps ops p q) l' = []) := fun {l l'} h1 h2 hl => by
    constructor
    · intro h
      cases hr : Region.ready .any (permOps ops p q) l' with
      | nil => rfl
      | cons j r =>
        have hj : j ∈ Region.ready .any (permOps ops p q) l' := by rw [hr]; simp
        have hlt : j < ops.size := by
          obtain ⟨_, o, ho, _⟩ := mem_ready.1 hj
          have := (Array.getElem?_eq_some_iff.1 ho).1
          rwa [perm_size ok] at this
        have hp := ok.p_lt j hlt
        have := (perm_ready ok h1 h2 hl hp).2 (by rw [ok.qp j hlt]; exact hj)
        rw [h] at this; cases this
    · intro h
      cases hr : Region.ready .any ops l with
      | nil => rfl
      | cons j r =>
        have hj : j ∈ Region.ready .any ops l := by rw [hr]; simp
        have hlt : j < ops.size := by
          obtain ⟨_, o, ho, _⟩ := mem_ready.1 hj
          exact (Array.getElem?_eq_some_iff.1 ho).1
        have := (perm_ready ok h1 h2 hl hlt).1 hj
        rw [h] at this; cases this
  intro fuel
  induction fuel with
  | zero =>
    intro l l' a w h1 h2 hl h
    exact ⟨(empty h1 h2 hl).2 h.1, h.2⟩
  | succ fuel ih =>
    intro l l' a w h1 h2 hl h
    refine ⟨fun hr => h.1 ((empty h1 h2 hl).1 hr), fun j hj => ?_⟩
    obtain ⟨_, o, ho, _⟩ := mem_ready.1 hj
    have hlt := (Array.getElem?_eq_some_iff.1 ho).1
    have h3 := h.2 _ ((perm_ready ok h1 h2 hl hlt).1 hj)
    have hK : ∀ a w, wpAny P .any (permOps ops p q) Q fuel (l'.setIfInBounds (q.getD j 0) true) a w → wpAny P .any ops Q fuel (l.setIfInBounds j true) a w := fun a w => ih _ _ a w (by simp [h1]) (by simp [h2]) fun i hi => by
      have hq := ok.q_lt j hlt
      have hqi := ok.q_lt i hi
      by_cases hij : i = j
      · subst hij
        simp only [Array.getD_eq_getD_getElem?, Array.getElem?_setIfInBounds, if_true, h1, h2, hi, hq]
      · have hne : q.getD j 0 ≠ q.getD i 0 := fun he => by
          have h4 := ok.pq i hi; have h5 := ok.pq j hlt
          rw [← he, h5] at h4; exact hij h4.symm
        have := hl i hi
        simp only [Array.getD_eq_getD_getElem?, Array.getElem?_setIfInBounds] at this ⊢
        rw [if_neg hne, if_neg (Ne.symm hij)]; exact this
    have h4 := wpOp_mono hK h3
    unfold wpOp at h4 ⊢
    rw [perm_at ok ho] at h4
    rw [ho]
    simp only [perm_wanted ok ho] at h4
    exact h4
end

def O.isLd1 : O → Bool
  | .ld1 _ => true
  | _ => false
def O.isSt : O → Bool
  | .st _ _ _ => true
  | _ => false
def keepA (l : List OO) (i : Nat) (a : A) : Bool := match a with
  | .t s => (List.range l.length).all fun k => decide (k < i) || (match l[k]? with | some y => decide (y.dst ≠ some s) | none => true)
  | _ => true
def pairsAt (ops : Array Oper) (l : List OO) (i : Nat) (x : OO) : List (A × A) :=
  if x.o.isSt then (List.range i).filterMap fun j => match l[j]? with
    | some y => if y.o.isLd1 && !dep ops i j then some (x.o.adr, y.o.adr) else none
    | none => none
  else []
def pairsOf (ops : Array Oper) (l : List OO) : List (A × A) := (List.range ops.size).flatMap fun i => match l[i]? with | some x => pairsAt ops l i x | none => []
def okDraw2 (ops : Array Oper) (l : List OO) : Bool :=
  let N := ops.size
  (List.range N).all fun i => match ops[i]?, l[i]? with
    | some o, some x =>
      (o.after.toList.all fun e => !Region.binds .any e || decide (e.on < i)) &&
      (x.looks.all fun d => (List.range N).all fun j => match l[j]? with
        | some y => decide (y.dst ≠ some d) || dep ops i j || dep ops j i
        | none => false) &&
      (!x.o.mk && (!x.o.rh || x.o.isLd1) && (!x.o.wrs || x.o.isSt) && (!x.tch || decide (x.g = none))) &&
      ((List.range N).all fun j => match l[j]? with
        | some y => (decide (i = j) || (match x.dst with | some d => decide (y.dst ≠ some d) | none => true)) &&
            (!(x.o.wrs && y.o.wrs && decide (j < i)) || dep ops i j) &&
            (!(x.o.wrs && y.o.rh && decide (i < j)) || dep ops j i) &&
            (!(x.o.wrs && y.o.rh && decide (j < i)) || dep ops i j || (keepA l i x.o.adr && keepA l j y.o.adr))
        | none => false)
    | _, _ => false

structure OkD2 (ops : Array Oper) (l : List OO) : Prop where
  at_ : ∀ i, i < ops.size → ∃ x, l[i]? = some x
  lt : ∀ i o, ops[i]? = some o → ∀ e ∈ o.after, Region.binds .any e = true → e.on < i
  look : ∀ i x, i < ops.size → l[i]? = some x → ∀ d ∈ x.looks, ∀ j y, j < ops.size → l[j]? = some y → y.dst = some d → dep ops i j = true ∨ dep ops j i = true
  dst : ∀ i j x y d, i < ops.size → j < ops.size → l[i]? = some x → l[j]? = some y → i ≠ j → x.dst = some d → y.dst ≠ some d
  nomk : ∀ i x, i < ops.size → l[i]? = some x → x.o.mk = false
  rh : ∀ i x, i < ops.size → l[i]? = some x → x.o.rh = true → x.o.isLd1 = true ∧ x.g = none
  wrs : ∀ i x, i < ops.size → l[i]? = some x → x.o.wrs = true → x.o.isSt = true ∧ x.g = none
  ww : ∀ i j x y, i < ops.size → j < ops.size → l[i]? = some x → l[j]? = some y → x.o.wrs = true → y.o.wrs = true → j < i → dep ops i j = true
  wr : ∀ i j x y, i < ops.size → j < ops.size → l[i]? = some x → l[j]? = some y → x.o.wrs = true → y.o.rh = true → i < j → dep ops j i = true
  rw : ∀ i j x y, i < ops.size → j < ops.size → l[i]? = some x → l[j]? = some y → x.o.wrs = true → y.o.rh = true → j < i → dep ops i j = false → keepA l i x.o.adr = true ∧ keepA l j y.o.adr = true

theorem OkD2.of {ops : Array Oper} {l : List OO} (h : okDraw2 ops l = true) : OkD2 ops l := by
  have H : ∀ i, i < ops.size → ∃ o x, ops[i]? = some o ∧ l[i]? = some x ∧ (∀ e ∈ o.after, Region.binds .any e = true → e.on < i) ∧
      (∀ d ∈ x.looks, ∀ j, j < ops.size → ∃ y, l[j]? = some y ∧ (y.dst = some d → dep ops i j = true ∨ dep ops j i = true)) ∧
      (x.o.mk = false ∧ (x.o.rh = true → x.o.isLd1 = true ∧ x.g = none) ∧ (x.o.wrs = true → x.o.isSt = true ∧ x.g = none)) ∧
      (∀ j, j < ops.size → ∃ y, l[j]? = some y ∧ (i ≠ j → ∀ d, x.dst = some d → y.dst ≠ some d) ∧ (x.o.wrs = true → y.o.wrs = true → j < i → dep ops i j = true) ∧ (x.o.wrs = true → y.o.rh = true → i < j → dep ops j i = true) ∧
        (x.o.wrs = true → y.o.rh = true → j < i → dep ops i j = false → keepA l i x.o.adr = true ∧ keepA l j y.o.adr = true)) := by
    intro i hi
    have h1 := List.all_eq_true.1 h i (List.mem_range.2 hi)
    split at h1
    · rename_i o x ho hx
      simp only [Bool.and_eq_true] at h1
      obtain ⟨⟨⟨h2, h3⟩, ⟨⟨⟨m1, m2⟩, m3⟩, m4⟩⟩, h4⟩ := h1
      refine ⟨o, x, ho, hx, fun e he hb => ?_, fun d hd j hj => ?_, ⟨by simpa using m1, fun hr => ?_, fun hw => ?_⟩, fun j hj => ?_⟩
      · have := List.all_eq_true.1 h2 e (by simpa using he)
        simp only [hb, Bool.not_true, Bool.false_or, decide_eq_true_eq] at this
        exact this
      · have := List.all_eq_true.1 (List.all_eq_true.1 h3 d hd) j (List.mem_range.2 hj)
        split at this
        · rename_i y hy
          refine ⟨y, hy, fun hd' => ?_⟩
          simp only [hd', ne_eq, not_true_eq_false, decide_false, Bool.false_or, Bool.or_eq_true] at this
          exact this
        · cases this
      · exact ⟨by simpa [hr] using m2, by simpa [OO.tch, hr] using m4⟩
      · exact ⟨by simpa [hw] using m3, by simpa [OO.tch, hw] using m4⟩
      · have := List.all_eq_true.1 h4 j (List.mem_range.2 hj)
        split at this
        · rename_i y hy
          simp only [Bool.and_eq_true] at this
          obtain ⟨⟨⟨g1, g2⟩, g3⟩, g4⟩ := this
          refine ⟨y, hy, fun hij d hd => ?_, fun e1 e2 e3 => ?_, fun e1 e2 e3 => ?_, fun e1 e2 e3 e4 => ?_⟩
          · simp only [hd, hij, decide_false, Bool.false_or, decide_eq_true_eq] at g1; exact g1
          · simp only [e1, e2, e3, decide_true, Bool.and_self, Bool.not_true, Bool.false_or] at g2; exact g2
          · simp only [e1, e2, e3, decide_true, Bool.and_self, Bool.not_true, Bool.false_or] at g3; exact g3
          · simp only [e1, e2, e3, e4, decide_true, Bool.and_self, Bool.not_true, Bool.false_or, Bool.and_eq_true] at g4; exact g4
        · cases this
    · cases h1
  refine ⟨fun i hi => ?_, fun i o ho => ?_, fun i x hi hx d hd j y hj hy hyd => ?_, fun i j x y d hi hj hx hy hij hd => ?_, fun i x hi hx => ?_, fun i x hi hx => ?_, fun i x hi hx => ?_, fun i j x y hi hj hx hy => ?_, fun i j x y hi hj hx hy => ?_, fun i j x y hi hj hx hy => ?_⟩
  · obtain ⟨o, x, _, hx, _⟩ := H i hi; exact ⟨x, hx⟩
  · obtain ⟨o', x, ho', _, h1, _⟩ := H i (Array.getElem?_eq_some_iff.1 ho).1
    rw [ho] at ho'; cases ho'; exact h1
  · obtain ⟨o, x', _, hx', _, h1, _⟩ := H i hi
    rw [hx] at hx'; cases hx'
    obtain ⟨y', hy', h2⟩ := h1 d hd j hj
    rw [hy] at hy'; cases hy'; exact h2 hyd
  · obtain ⟨o, x', _, hx', _, _, _, h1⟩ := H i hi
    rw [hx] at hx'; cases hx'
    obtain ⟨y', hy', h2, _⟩ := h1 j hj
    rw [hy] at hy'; cases hy'; exact h2 hij d hd
  · obtain ⟨o, x', _, hx', _, _, hh, _⟩ := H i hi
    rw [hx] at hx'; cases hx'; exact hh.1
  · obtain ⟨o, x', _, hx', _, _, hh, _⟩ := H i hi
    rw [hx] at hx'; cases hx'; exact hh.2.1
  · obtain ⟨o, x', _, hx', _, _, hh, _⟩ := H i hi
    rw [hx] at hx'; cases hx'; exact hh.2.2
  · obtain ⟨o, x', _, hx', _, _, _, hh⟩ := H i hi
    rw [hx] at hx'; cases hx'
    obtain ⟨y', hy', _, g, _⟩ := hh j hj
    rw [hy] at hy'; cases hy'; exact g
  · obtain ⟨o, x', _, hx', _, _, _, hh⟩ := H i hi
    rw [hx] at hx'; cases hx'
    obtain ⟨y', hy', _, _, g, _⟩ := hh j hj
    rw [hy] at hy'; cases hy'; exact g
  · obtain ⟨o, x', _, hx', _, _, _, hh⟩ := H i hi
    rw [hx] at hx'; cases hx'
    obtain ⟨y', hy', _, _, _, g⟩ := hh j hj
    rw [hy] at hy'; cases hy'; exact g

theorem OkD2.dep_lt {ops : Array Oper} {l : List OO} (ok : OkD2 ops l) : ∀ (i j : Nat), i < ops.size → dep ops i j = true → j < i := by
  intro i
  induction i using Nat.strongRecOn with
  | _ i ih =>
    intro j hi hj
    obtain ⟨e, he, hb, h1 | ⟨h1, h2⟩⟩ := dep_step (o := ops[i]) (by simp [hi]) hj
    · rw [← h1]; exact ok.lt i _ (by simp [hi]) e he hb
    · have := ih e.on h2 j (by omega) h1; omega

def hW (h : AH) (wr : Nat → Bool) (hS : Nat → AH) (D : Nat → Bool) : Nat → AH
  | 0 => h
  | k + 1 => if D k && wr k then hS (k + 1) else hW h wr hS D k

theorem compO_ld1 {P : Program} {op : Op} {x' : A} (h : compO P op = some (.ld1 x')) : ∃ T x, op = .load T x ∧ compA x = some x' ∧ isAgg' P T = some false := by
  unfold compO at h
  split at h
  · rename_i y e
    cases h
    cases op
    case load T x =>
      simp only [compO1] at e
      split at e
      · cases e
      · rename_i x0 s h1 h2 h3
        cases e
        exact ⟨T, x, rfl, h1, h2⟩
      · cases e
    all_goals
      simp only [compO1, Option.map_eq_some_iff] at e
      try (repeat' split at e)
      all_goals try simp_all
      all_goals try (obtain ⟨_, _, e⟩ := e; cases e)
      all_goals try cases e
  · cases h

theorem xops_draw2 {P : Program} {n0 : Nat} {W : Nat → Prop} (ops : Array Oper) (l' : List OO) {t : List AV} {h : AH} {n : Nat} {K : List AV → AH → Nat → Prop}
    (hc : compOps P ops ops.toList = some l') (hok : okDraw2 ops l' = true) (hx : xops P n0 W true l' t h n fun t h n => CH (pairsOf ops l') t ∧ K t h n) :
    ∃ t' h' n', K t' h' n' ∧ n ≤ n' ∧ ∀ (G : Gx) (a : Act) (w : World), G.W = W → G.n0 = n0 → n' ≤ G.n1 → S G t h n a w →
      wpAny P .any ops (fun e' a' w' => e' = .normal ∧ S G t' h' n' a' w') ops.size (Array.replicate ops.size false) a w := by
  obtain ⟨tS, hS, nS, vS, e1, e2, e3, ⟨ech, e4⟩, e5⟩ := xops_trace ops ops.toList 0 l' t h n _ (fun i o hi => by simpa using hi) ⟨_, hc, Ups.refl _⟩ hx
  have ok := OkD2.of hok
  rw [Array.length_toList] at e4 ech
  have hlen : l'.length = ops.size := by simpa using compOps_length hc
  have hcO : ∀ i (hi : i < ops.size) x, l'[i]? = some x → compO P ops[i].op = some x.o := fun i hi x hx => by
    have : ∀ (l : List Oper) (l' : List OO) (i : Nat) (o : Oper) (x : OO), compOps P ops l = some l' → l[i]? = some o → l'[i]? = some x → compO P o.op = some x.o := by
      intro l
      induction l with
      | nil => intro l' i o x _ h _; simp at h
      | cons o l ih =>
        intro l' i o' x h h1 h2
        simp only [compOps] at h
        split at h
        · rename_i oo r' ho hr
          cases h
          cases i with
          | zero => simp at h1 h2; subst h1; subst h2; exact (compOper_spec ho).1
          | succ i => exact ih r' i o' x hr (by simpa using h1) (by simpa using h2)
        · cases h
    exact this ops.toList l' i ops[i] x hc (by simp [hi]) hx
  have step : ∀ i (hi : i < ops.size), ∃ x, l'[i]? = some x ∧ StepAt P n0 W true ops tS hS nS vS i ops[i] x := fun i hi => by
    obtain ⟨x, hx⟩ := ok.at_ i hi
    exact ⟨x, hx, e5 i _ x (by simp [hi]) hx⟩
  let N := ops.size
  let dst : Nat → Option Nat := fun i => (l'[i]?).bind (·.dst)
  let wr : Nat → Bool := fun i => ((l'[i]?).map (·.o.wrs)).getD false
  have hn1 : ∀ j, j < N → nS (j + 1) = nS j := fun j hj => by
    obtain ⟨x, hx, _, _, _, _, hst⟩ := step j hj
    have hmk := ok.nomk j x hj hx
    rcases hst with ⟨_, _, _, _, _, _, q⟩ | ⟨_, hst, hinf⟩
    · exact q
    · cases hst with
      | own new hr hh hm hw => exact hm.resolve_right (by simp [hmk])
      | read hr hl hm hrh hw => exact hm.resolve_right (by simp [hmk])
      | write W' hr hp hf hw =>
        have := (ok.wrs j x hj hx hw).1
        cases hxo : x.o <;> rw [hxo] at this <;> simp only [O.isSt, Bool.false_eq_true] at this
        rw [hxo] at hinf
        exact hinf.1
      | free W' hr hp hd _ => cases hd
  have hnn : ∀ k, k ≤ N → nS k = n := by
    intro k
    induction k with
    | zero => intro _; exact e3
    | succ k ih => intro hk; rw [hn1 k (by omega), ih (by omega)]
  have hidle : ∀ j, j < N → wr j = false → hS (j + 1) = hS j := fun j hj hw => by
    obtain ⟨x, hx, _, _, _, _, hst⟩ := step j hj
    have hmk := ok.nomk j x hj hx
    rcases hst with ⟨_, _, _, _, _, q, _⟩ | ⟨_, hst, _⟩
    · exact q
    · exact (hst.idle (by simpa [wr, hx] using hw) hmk).1
  refine ⟨_, _, _, e4, by rw [hnn N (Nat.le_refl _)]; exact Nat.le_refl _, fun G a w hGW hGn hG1 hS0 => ?_⟩
  have hG1' : n ≤ G.n1 := by rw [← hnn N (Nat.le_refl _)]; exact hG1
  have tall : ∀ k, k ≤ N → tD (tS 0) dst vS (fun _ => true) k = tS k := by
    intro k
    induction k with
    | zero => intro _; rfl
    | succ k ih =>
      intro hk
      obtain ⟨x, hx, g1, g2, _⟩ := step k (by omega)
      simp only [tD, if_true]
      rw [ih (by omega), g2]
      congr 1
      simp only [dst, hx, Option.bind_some, g1]
  have stay : ∀ i a, i ≤ N → keepA l' i a = true → ev (tS N) a = ev (tS i) a := by
    intro i a hi hk
    cases a with
    | c v => rfl
    | f k => rfl
    | t s =>
      simp only [ev]
      have : ∀ k, i ≤ k → k ≤ N → (tS k).getD s .any = (tS i).getD s .any := by
        intro k
        induction k with
        | zero => intro h1 _; rw [Nat.le_zero.1 h1]
        | succ k ih =>
          intro h1 h2
          by_cases e : i = k + 1
          · rw [e]
          · rw [← ih (by omega) (by omega)]
            obtain ⟨x, hx, g1, g2, _⟩ := step k (by omega)
            rw [g2]
            refine setD_getD ?_
            have := List.all_eq_true.1 hk k (List.mem_range.2 (by rw [hlen]; exact (show k < N by omega)))
            rw [hx, decide_eq_false (show ¬ k < i by omega)] at this
            simp only [Bool.false_or, decide_eq_true_eq] at this
            rw [← g1]; exact this
      exact this N hi (Nat.le_refl _)
  have apart : ∀ i j x y, i < N → j < N → l'[i]? = some x → l'[j]? = some y → x.o.wrs = true → y.o.rh = true → j < i → dep ops i j = false → ∀ id k, ev (tS j) y.o.adr = .ptr id k → hS (i + 1) id = hS i id := by
    intro i j x y hi hj hx hy hw hr hji hd id k hev
    obtain ⟨s1, s2⟩ := ok.wrs i x hi hx hw
    obtain ⟨r1, r2⟩ := ok.rh j y hj hy hr
    obtain ⟨k1, k2⟩ := ok.rw i j x y hi hj hx hy hw hr hji hd
    have hmem : (x.o.adr, y.o.adr) ∈ pairsOf ops l' := by
      simp only [pairsOf, List.mem_flatMap, List.mem_range]
      refine ⟨i, hi, ?_⟩
      rw [hx]
      simp only [pairsAt, s1, if_true, List.mem_filterMap, List.mem_range]
      exact ⟨j, hji, by rw [hy]; simp [r1, hd]⟩
    have hne := CH.of ech _ hmem
    simp only at hne
    rw [stay i _ (Nat.le_of_lt hi) k1, stay j _ (Nat.le_of_lt hj) k2, hev] at hne
    obtain ⟨x', hx', _, _, _, _, hst⟩ := step i hi
    rw [hx] at hx'; cases hx'
    rcases hst with ⟨_, _, hg, _⟩ | ⟨_, _, hinf⟩
    · rw [s2] at hg; cases hg
    · cases hxo : x.o <;> rw [hxo] at s1 <;> simp only [O.isSt, Bool.false_eq_true] at s1
      rw [hxo] at hinf hne
      obtain ⟨_, id', k', hev', hh⟩ := hinf
      simp only [O.adr] at hne
      rw [hev'] at hne
      exact hh id fun e => hne e.symm
  let Inv (D : Nat → Bool) (a : Act) (w : World) : Prop := ∃ ρ, IsL ρ (tD (tS 0) dst vS D N) a.tmps.toList ∧ a.defers = [] ∧ Sim ρ (hW (hS 0) wr hS D N) w ∧
    (∀ i, n ≤ i → i < G.n1 → ρ i = none) ∧ G.n0 ≤ n ∧ Cx G ρ w
  have one : ∀ (D : Nat → Bool) (i : Nat) (hi : i < N) (a : Act) (w : World) (Kr : Act → World → Prop) (Qr : Exit → Act → World → Prop), D i = false → Down ops D → (∀ e ∈ ops[i].after, Region.binds .any e = true → D e.on = true) → Inv D a w →
      (∀ a' w', Inv (add D i) a' w' → Kr a' w') → wpOp P ops Qr i Kr a w := by
    intro D i hi a w Kr Qr hDi hdown hready hinv hK
    have hpre : ∀ j, dep ops i j = true → D j = true := hdown.dep i ops[i] (by simp [N] at hi; simp [hi]) hready
    obtain ⟨x, hx, g1, g2, g3, g4, hst⟩ := step i hi
    obtain ⟨ρ, p1, p2, p3, p5, p6, p7⟩ := hinv
    have hdstx : dst i = ops[i].dst := by simp only [dst, hx, Option.bind_some, g1]
    have hti := tD_add (t := tS 0) (v := vS) (dst := dst) hDi N fun j hj hji s hs hjs => by
      obtain ⟨y, hy⟩ := ok.at_ j hj
      exact ok.dst i j x y s hi hj hx hy (Ne.symm hji) (by simpa [dst, hx] using hs) (by simpa [dst, hy] using hjs)
    rw [if_pos hi] at hti
    have inD : ∀ j, j < N → D j = true → ∀ k, dep ops j k = true → D k = true := fun j hj hDj k hd =>
      hdown.dep j ops[j] (by simp [N] at hj; simp [hj]) (hdown j _ (by simp [N] at hj; simp [hj]) hDj) k hd
    have notD : ∀ j, j < N → D j = true → dep ops j i = false := fun j hj hDj => by
      cases hd : dep ops j i with
      | false => rfl
      | true => have := inD j hj hDj i hd; rw [hDi] at this; cases this
    have hlook : ∀ s ∈ x.looks, (tS i).getD s .any = (tD (tS 0) dst vS D N).getD s .any := fun s hs => by
      rw [← tall i (Nat.le_of_lt hi)]
      by_cases hex : ∃ j, j < N ∧ dst j = some s
      · obtain ⟨j, hj, hjs⟩ := hex
        obtain ⟨y, hy⟩ := ok.at_ j hj
        have hu : ∀ k, k < N → dst k = some s → k = j := fun k hk hks => by
          obtain ⟨z, hz⟩ := ok.at_ k hk
          rcases Nat.decEq k j with hkj | hkj
          · exact absurd (by simpa [dst, hy] using hjs) (ok.dst k j z y s hk hj hz hy hkj (by simpa [dst, hz] using hks))
          · exact hkj
        rcases ok.look i x hi hx s hs j y hj hy (by simpa [dst, hy] using hjs) with hd | hd
        · have hji := ok.dep_lt i j hi hd
          by_cases hsl : s < (tS 0).length
          · rw [tD_some hsl rfl hjs i hji (fun k hk => hu k (by omega)), tD_some hsl (hpre j hd) hjs N hj hu]
          · simp [List.getD, List.getElem?_eq_none, tD_length, Nat.le_of_not_lt hsl]
        · have hij := ok.dep_lt j i hj hd
          have hDj : D j = false := by
            cases hDj : D j with
            | false => rfl
            | true => have := notD j hj hDj; rw [hd] at this; cases this
          rw [tD_none i fun k hk _ hks => by have := hu k (by omega) hks; omega, tD_none N fun k hk hDk hks => by rw [hu k hk hks, hDj] at hDk; cases hDk]
      · have hno : ∀ j, j < N → dst j ≠ some s := fun j hj h => hex ⟨j, hj, h⟩
        rw [tD_none i fun j hj _ => hno j (by omega), tD_none N fun j hj _ => hno j hj]
    have hrel : Rel ρ x.looks (tS i) a := fun d hd => by rw [hlook d hd]; exact Rel.of_all p1 d hd
    have nI := hnn i (Nat.le_of_lt hi)
    have nI' := hnn (i + 1) hi
    have fresh : ∀ id, nS i ≤ id → id < nS (i + 1) → ρ id = none := fun id h1 h2 => by omega
    have fin : ∀ (rv : Value) (ρ' : Rho) (w' : World), Is ρ' (vS i) rv → Sim ρ' (hW (hS 0) wr hS (add D i) N) w' → (∃ W' : Nat → Prop, Cx ⟨ρ, w, W', nS i, nS (i + 1)⟩ ρ' w' ∧ ∀ j, j < nS i → W' j → G.n0 ≤ j ∨ G.W j) →
        Kr (a.put ops[i].dst rv) w' := fun rv ρ' w' h1 h2 ⟨W', h3, h4⟩ => by
      refine hK _ _ ⟨ρ', ?_, by rw [Act.put_defers']; exact p2, h2, fun id q1 q2 => ?_, p6, p7.trans h3 (by omega) g3 (by omega) h4⟩
      · rw [hti, hdstx]
        exact Act.put_tmps (p1.mono (h3.ext fresh)) h1
      · rw [h3.far id (by simp only; omega)]; exact p5 id q1 q2
    have hwat : wr i = x.o.wrs := by simp only [wr, hx, Option.map_some, Option.getD_some]
    have wrAt : ∀ j y, l'[j]? = some y → wr j = y.o.wrs := fun j y hy => by simp only [wr, hy, Option.map_some, Option.getD_some]
    have hsame : wr i = false → ∀ k, hW (hS 0) wr hS (add D i) k = hW (hS 0) wr hS D k := fun hw k => by
      induction k with
      | zero => rfl
      | succ k ih =>
        simp only [hW, ih]
        by_cases e : k = i
        · subst e; simp [hw]
        · have : (k == i) = false := by simp; exact e
          simp [add, this]
    have stDown : ∀ j k, j < N → k < j → wr j = true → wr k = true → D j = true → D k = true := fun j k hj hk hwj hwk hDj => by
      obtain ⟨y, hy⟩ := ok.at_ j hj
      obtain ⟨z, hz⟩ := ok.at_ k (by omega)
      exact inD j hj hDj k (ok.ww j k y z hj (by omega) hy hz (by rw [← wrAt j y hy]; exact hwj) (by rw [← wrAt k z hz]; exact hwk) hk)
    have hupto : ∀ k, k ≤ N → (∀ j, j < k → wr j = true → D j = true) → hW (hS 0) wr hS D k = hS k := by
      intro k
      induction k with
      | zero => intro _ _; rfl
      | succ k ih =>
        intro hk hh
        simp only [hW]
        cases hwk : wr k with
        | true => rw [hh k (Nat.lt_succ_self k) hwk]; rfl
        | false =>
          simp only [Bool.and_false, Bool.false_eq_true, if_false]
          rw [ih (by omega) fun j hj => hh j (by omega), hidle k (by omega) hwk]
    unfold wpOp
    have hoi : ops[i]? = some ops[i] := by simp [N] at hi; simp [hi]
    rw [hoi]
    simp only
    rcases hst with ⟨s, b, hgx, hts, hv, hh, hn⟩ | ⟨hgd, hst, hinf⟩
    · have hwf : wr i = false := by
        rw [hwat]
        cases hw : x.o.wrs with
        | false => rfl
        | true => have := (ok.wrs i x hi hx hw).2; rw [hgx] at this; cases this
      rcases g4 with ⟨_, hno⟩ | ⟨j, want, s', ho1, ho2, ho3⟩
      · rw [hgx] at hno; cases hno
      · rw [hgx] at ho3; cases ho3
        have hsl : s ∈ x.looks := by simp [OO.looks, hgx]
        have hnw : ¬ Region.wanted ops[i] (yielded ops a.tmps) = true := by
          rcases hts with hts | hts
          · have hb := IsL.bool_at p1 (by rw [← hlook s hsl]; exact hts)
            simp [Region.wanted, ho1, yielded, ho2, hb]
          · have hb := IsL.off_at p1 (by rw [← hlook s hsl]; exact hts)
            simp [Region.wanted, ho1, yielded, ho2, hb]
        rw [if_neg hnw]
        exact fin undef ρ w (by rw [hv]; exact is_off ρ) (by rw [hsame hwf]; exact p3) ⟨none', Cx.refl ρ w _ _ _ fresh, fun _ _ h => h.elim⟩
    · have hwant : Region.wanted ops[i] (yielded ops a.tmps) = true := by
        rcases g4 with ⟨ho1, _⟩ | ⟨j, want, s, ho1, ho2, ho3⟩
        · simp [Region.wanted, ho1]
        · rcases hgd with hno | ⟨s', b, hs', hts⟩
          · rw [hno] at ho3; cases ho3
          · rw [hs'] at ho3; cases ho3
            have hsl : s ∈ x.looks := by simp [OO.looks, hs']
            have hb := IsL.bool_at p1 (by rw [← hlook s hsl]; exact hts)
            simp [Region.wanted, ho1, yielded, ho2, hb]
      rw [if_pos hwant]
      refine .inl ?_
      have hrel' : Rel ρ x.o.reads (tS i) a := fun d hd => hrel d (by simp only [OO.looks, List.mem_append]; exact .inl hd)
      have quiet : ∀ (rv : Value) (ρ' : Rho) (w' : World) (g : AH), x.o.wrs = false → Is ρ' (vS i) rv → Sim ρ' (mix (nS i) (nS (i + 1)) (hW (hS 0) wr hS D N) g) w' → Cx ⟨ρ, w, none', nS i, nS (i + 1)⟩ ρ' w' → Kr (a.put ops[i].dst rv) w' :=
        fun rv ρ' w' g hw q1 q2 q3 => fin rv ρ' w' q1 (by rw [hsame (by rw [hwat]; exact hw)]; rw [nI, nI', mix_same] at q2; exact q2) ⟨none', q3, fun _ _ h => h.elim⟩
      cases hst with
      | own new hr hh hmk hw =>
        exact hr.2 ρ a w Kr Qr hrel' (Sim.emp _ _) fresh fun rv ρ' w' q1 q2 q3 => quiet rv ρ' w' new hw q1 (p3.mix q3 fresh q2) q3
      | read hr hl hmk hrh hw =>
        obtain ⟨l1, _⟩ := ok.rh i x hi hx hrh
        have hcx := hcO i hi x hx
        have hadr : ∀ id k, ev (tS i) x.o.adr = .ptr id k → ∀ m, i ≤ m → m ≤ N → (∀ j, i ≤ j → j < m → wr j = true → D j = true) → hS m id = hS i id := by
          intro id k hev m
          induction m with
          | zero => intro h1 _ _; rw [Nat.le_zero.1 h1]
          | succ m ih =>
            intro h1 h2 h3
            by_cases e : i = m + 1
            · rw [e]
            · rw [← ih (by omega) (by omega) fun j a b => h3 j a (by omega)]
              cases hwm : wr m with
              | false => rw [hidle m (by omega) hwm]
              | true =>
                have hmN : m < N := by omega
                obtain ⟨y, hy⟩ := ok.at_ m hmN
                have him : i < m := by
                  rcases Nat.lt_or_ge i m with h | h
                  · exact h
                  · have : m = i := by omega
                    subst this; rw [hwat, hw] at hwm; cases hwm
                exact apart m i y x hmN hi hy hx (by rw [← wrAt m y hy]; exact hwm) hrh him (notD m hmN (h3 m (by omega) (by omega) hwm)) id k hev
        have hcell : ∀ id k, ev (tS i) x.o.adr = .ptr id k → hW (hS 0) wr hS D N id = hS i id := by
          intro id k hev
          have hi0 : hW (hS 0) wr hS D i = hS i := hupto i (Nat.le_of_lt hi) fun j hj hwj => by
            have hjN : j < N := by omega
            obtain ⟨y, hy⟩ := ok.at_ j hjN
            exact hpre j (ok.wr j i y x hjN hi hy hx (by rw [← wrAt j y hy]; exact hwj) hrh hj)
          have : ∀ m, i ≤ m → m ≤ N → hW (hS 0) wr hS D m id = hS i id := by
            intro m
            induction m with
            | zero => intro h1 _; have : i = 0 := Nat.le_zero.1 h1; rw [← hi0, this]
            | succ m ih =>
              intro h1 h2
              by_cases e : i = m + 1
              · rw [← e, hi0]
              · have ih := ih (by omega) (by omega)
                simp only [hW]
                split
                · rename_i hdw
                  simp only [Bool.and_eq_true] at hdw
                  exact hadr id k hev (m + 1) h1 h2 fun j a b hwj => by
                    by_cases e2 : j = m
                    · rw [e2]; exact hdw.1
                    · exact stDown m j (by omega) (by omega) hdw.2 hwj hdw.1
                · exact ih
          exact this N (Nat.le_of_lt hi) (Nat.le_refl _)
        cases hxo : x.o <;> rw [hxo] at l1 <;> simp only [O.isLd1, Bool.false_eq_true] at l1
        rename_i adr
        rw [hxo] at hinf hcx hrel' hcell
        obtain ⟨id, k, b, hev, hb, hbc⟩ := hinf
        obtain ⟨T, xo, hop, hA, hT⟩ := compO_ld1 hcx
        have hro := o_ld1 (t := tS i) hop hA hT hev (h := hW (hS 0) wr hS D N) (by rw [hcell id k hev]; exact hb) hbc n
        refine hro.2 ρ a w Kr Qr hrel' p3 (fun id h1 h2 => by omega) fun rv ρ' w' q1 q2 q3 => quiet rv ρ' w' (fun _ => none) hw q1 ?_ (by rw [nI, nI']; exact q3)
        rw [nI, nI', mix_same]; exact q2
      | write W' hr hp hf hw =>
        have hbefore : ∀ j, j < i → wr j = true → D j = true := fun j hj hwj => by
          have hjN : j < N := by omega
          obtain ⟨y, hy⟩ := ok.at_ j hjN
          exact hpre j (ok.ww i j x y hi hjN hx hy hw (by rw [← wrAt j y hy]; exact hwj) hj)
        have hafter : ∀ j, i < j → j < N → wr j = true → D j = false := fun j hj hjN hwj => by
          cases hDj : D j with
          | false => rfl
          | true => have := stDown j i hjN hj hwj (by rw [hwat]; exact hw) hDj; rw [hDi] at this; cases this
        have q1 : hW (hS 0) wr hS D N = hS i := by
          have : ∀ m, i ≤ m → m ≤ N → hW (hS 0) wr hS D m = hS i := by
            intro m
            induction m with
            | zero => intro h1 _; have : i = 0 := Nat.le_zero.1 h1; rw [this]; rfl
            | succ m ih =>
              intro h1 h2
              by_cases e : i = m + 1
              · rw [← e]; exact hupto i (Nat.le_of_lt hi) hbefore
              · simp only [hW]
                rw [if_neg fun hh => ?_, ih (by omega) (by omega)]
                simp only [Bool.and_eq_true] at hh
                by_cases e2 : m = i
                · rw [e2, hDi] at hh; cases hh.1
                · rw [hafter m (by omega) (by omega) hh.2] at hh; cases hh.1
          exact this N (Nat.le_of_lt hi) (Nat.le_refl _)
        have q2 : hW (hS 0) wr hS (add D i) N = hS (i + 1) := by
          have : ∀ m, i + 1 ≤ m → m ≤ N → hW (hS 0) wr hS (add D i) m = hS (i + 1) := by
            intro m
            induction m with
            | zero => intro h1 _; omega
            | succ m ih =>
              intro h1 h2
              simp only [hW]
              by_cases e : m = i
              · subst e; simp [add, hwat, hw]
              · have e' : (m == i) = false := by simp; exact e
                rw [if_neg fun hh => ?_, ih (by omega) (by omega)]
                simp only [add, e', Bool.or_false, Bool.and_eq_true] at hh
                rw [hafter m (by omega) (by omega) hh.2] at hh; cases hh.1
          exact this N hi (Nat.le_refl _)
        refine hr.2 ρ a w Kr Qr hrel' (by rw [← q1]; exact p3) fresh fun rv ρ' w' r1 r2 r3 => fin rv ρ' w' r1 (by rw [q2]; exact r2) ⟨W', r3, by rw [hGn, hGW]; exact hp⟩
      | free W' hr hp hd _ => cases hd
  have main : ∀ (fuel : Nat) (listed : Array Bool) (a : Act) (w : World), listed.size = N → (List.range N).countP (fun i => !(listed.getD i false)) ≤ fuel → Down ops (fun i => listed.getD i false) → Inv (fun i => listed.getD i false) a w →
      wpAny P .any ops (fun e' a' w' => e' = .normal ∧ S G (tS N) (hS N) (nS N) a' w') fuel listed a w := by
    have hfull : ∀ (listed : Array Bool) (a : Act) (w : World), (∀ i, i < N → listed.getD i false = true) → Inv (fun i => listed.getD i false) a w → S G (tS N) (hS N) (nS N) a w := by
      intro listed a w hall ⟨ρ, p1, p2, p3, p5, p6, p7⟩
      have ht : tD (tS 0) dst vS (fun i => listed.getD i false) N = tS N := by
        rw [← tall N (Nat.le_refl _)]
        have : ∀ k, k ≤ N → tD (tS 0) dst vS (fun i => listed.getD i false) k = tD (tS 0) dst vS (fun _ => true) k := by
          intro k
          induction k with
          | zero => intro _; rfl
          | succ k ih =>
            intro hk
            have hk' : (fun i => listed.getD i false) k = true := hall k (by omega)
            simp only [tD]; rw [if_pos hk', ih (by omega)]; simp
        exact this N (Nat.le_refl _)
      have hh : ∀ k, k ≤ N → hW (hS 0) wr hS (fun i => listed.getD i false) k = hS k := by
        intro k
        induction k with
        | zero => intro _; rfl
        | succ k ih =>
          intro hk
          have hk' : (fun i => listed.getD i false) k = true := hall k (by omega)
          simp only [hW]
          cases hwk : wr k with
          | true => exact if_pos (by simpa using hk')
          | false =>
            simp only [Bool.and_false, Bool.false_eq_true, if_false]
            rw [ih (by omega), hidle k (by omega) hwk]
      rw [ht] at p1; rw [hh N (Nat.le_refl _)] at p3
      have := hnn N (Nat.le_refl _)
      exact ⟨ρ, p1, p2, p3, fun i h1 h2 => p5 i (by omega) h2, by omega, p7⟩
    have hready : ∀ (listed : Array Bool), Region.ready .any ops listed = [] → Down ops (fun i => listed.getD i false) → listed.size = N → ∀ i, i < N → listed.getD i false = true := by
      intro listed hr hd hsz i
      induction i using Nat.strongRecOn with
      | _ i ih =>
        intro hi
        cases hl : listed.getD i false with
        | true => rfl
        | false =>
          have hmem : i ∈ Region.ready .any ops listed := by
            rw [mem_ready]
            have hlt : i < listed.size := by rw [hsz]; exact hi
            refine ⟨by simp [hlt] at hl ⊢; exact hl, ops[i], by simp only [N] at hi; simp [hi], fun e he hb => ?_⟩
            have hei := ok.lt i ops[i] (by simp only [N] at hi; simp [hi]) e he hb
            exact ih e.on hei (by omega)
          rw [hr] at hmem; cases hmem
    intro fuel
    induction fuel with
    | zero =>
      intro listed a w hsz hcnt hd hinv
      have hall : ∀ i, i < N → listed.getD i false = true := fun i hi => by
        have := List.countP_eq_zero.1 (Nat.le_zero.1 hcnt) i (List.mem_range.2 hi)
        simpa using this
      refine ⟨?_, rfl, hfull listed a w hall hinv⟩
      cases hr : Region.ready .any ops listed with
      | nil => rfl
      | cons j r =>
        have hj : j ∈ Region.ready .any ops listed := by rw [hr]; simp
        obtain ⟨h1, o, h2, _⟩ := mem_ready.1 hj
        have hlt : j < N := (Array.getElem?_eq_some_iff.1 h2).1
        have := hall j hlt
        have hlt' : j < listed.size := by rw [hsz]; exact hlt
        simp [hlt'] at this h1
        rw [this] at h1; cases h1
    | succ fuel ih =>
      intro listed a w hsz hcnt hd hinv
      refine ⟨fun hr => ⟨rfl, hfull listed a w (hready listed hr hd hsz) hinv⟩, fun i hi => ?_⟩
      obtain ⟨h1, o, h2, h3⟩ := mem_ready.1 hi
      obtain ⟨hlt, ho⟩ := Array.getElem?_eq_some_iff.1 h2
      subst ho
      have hlt' : i < listed.size := by rw [hsz]; exact hlt
      have hDi : listed.getD i false = false := by simp [hlt'] at h1 ⊢; exact h1
      have hset : (fun j => (listed.setIfInBounds i true).getD j false) = add (fun j => listed.getD j false) i := by
        funext j
        simp only [add, Array.getD_eq_getD_getElem?, Array.getElem?_setIfInBounds]
        by_cases hij : i = j
        · subst hij; simp [hlt']
        · have : (j == i) = false := by simp; exact fun e => hij e.symm
          simp [hij, this]
      refine one (fun j => listed.getD j false) i hlt a w _ _ hDi hd h3 hinv fun a' w' hinv' => ih _ a' w' (by simp [hsz]) ?_ ?_ ?_
      · have hc := cnt_add (D := fun j => listed.getD j false) (i := i) hDi (List.range N) (List.mem_range.2 hlt) List.nodup_range
        have : (List.range N).countP (fun j => !((listed.setIfInBounds i true).getD j false)) = (List.range N).countP (fun j => !(add (fun j => listed.getD j false) i j)) := by
          congr 1; funext j; rw [← congrFun hset j]
        omega
      · rw [hset]
        intro j o' hj hDj e he hb
        simp only [add, Bool.or_eq_true, beq_iff_eq] at hDj ⊢
        rcases hDj with hDj | rfl
        · exact .inl (hd j o' hj hDj e he hb)
        · rw [h2] at hj; cases hj; exact .inl (h3 e he hb)
      · rw [hset]; exact hinv'
  refine main ops.size _ a w (by simp [N]) ?_ ?_ ?_
  · exact Nat.le_trans List.countP_le_length (by simp [N])
  · intro i o hi hD
    by_cases hlt : i < ops.size <;> simp [hlt] at hD
  · obtain ⟨ρ, p1, p2, p3, p4, p5, p6⟩ := hS0
    have hno : ∀ k, (fun i => (Array.replicate ops.size false).getD i false) k = false := fun k => by
      by_cases hlt : k < ops.size <;> simp [hlt]
    have ht : ∀ k, tD (tS 0) dst vS (fun i => (Array.replicate ops.size false).getD i false) k = tS 0 := fun k => by
      induction k with
      | zero => rfl
      | succ k ih =>
        have hk : ¬ ((fun i => (Array.replicate ops.size false).getD i false) k = true) := by rw [hno k]; simp
        simp only [tD]; rw [if_neg hk]; exact ih
    have hh : ∀ k, hW (hS 0) wr hS (fun i => (Array.replicate ops.size false).getD i false) k = hS 0 := fun k => by
      induction k with
      | zero => rfl
      | succ k ih =>
        have hk := hno k
        simp only at hk
        simp only [hW, hk, Bool.false_and, Bool.false_eq_true, if_false]; exact ih
    exact ⟨ρ, by rw [ht, e1]; exact p1, p2, by rw [hh, e2]; exact p3, p4, p5, p6⟩

def okDraw3 (ops : Array Oper) (l : List OO) : Bool :=
  let N := ops.size
  (List.range N).all fun i => match ops[i]?, l[i]? with
    | some o, some x =>
      (o.after.toList.all fun e => !Region.binds .any e || decide (e.on < i)) &&
      (x.looks.all fun d => (List.range N).all fun j => match l[j]? with
        | some y => decide (y.dst ≠ some d) || dep ops i j || dep ops j i
        | none => false) &&
      ((List.range N).all fun j => match l[j]? with
        | some y => (decide (i = j) || (match x.dst with | some d => decide (y.dst ≠ some d) | none => true)) &&
            (!(x.tch && y.tch && decide (j < i)) || dep ops i j)
        | none => false)
    | _, _ => false

structure OkD3 (ops : Array Oper) (l : List OO) : Prop where
  at_ : ∀ i, i < ops.size → ∃ x, l[i]? = some x
  lt : ∀ i o, ops[i]? = some o → ∀ e ∈ o.after, Region.binds .any e = true → e.on < i
  look : ∀ i x, i < ops.size → l[i]? = some x → ∀ d ∈ x.looks, ∀ j y, j < ops.size → l[j]? = some y → y.dst = some d → dep ops i j = true ∨ dep ops j i = true
  dst : ∀ i j x y d, i < ops.size → j < ops.size → l[i]? = some x → l[j]? = some y → i ≠ j → x.dst = some d → y.dst ≠ some d
  tt : ∀ i j x y, i < ops.size → j < ops.size → l[i]? = some x → l[j]? = some y → x.tch = true → y.tch = true → j < i → dep ops i j = true

theorem OkD3.of {ops : Array Oper} {l : List OO} (h : okDraw3 ops l = true) : OkD3 ops l := by
  have H : ∀ i, i < ops.size → ∃ o x, ops[i]? = some o ∧ l[i]? = some x ∧ (∀ e ∈ o.after, Region.binds .any e = true → e.on < i) ∧
      (∀ d ∈ x.looks, ∀ j, j < ops.size → ∃ y, l[j]? = some y ∧ (y.dst = some d → dep ops i j = true ∨ dep ops j i = true)) ∧
      (∀ j, j < ops.size → ∃ y, l[j]? = some y ∧ (i ≠ j → ∀ d, x.dst = some d → y.dst ≠ some d) ∧ (x.tch = true → y.tch = true → j < i → dep ops i j = true)) := by
    intro i hi
    have h1 := List.all_eq_true.1 h i (List.mem_range.2 hi)
    split at h1
    · rename_i o x ho hx
      simp only [Bool.and_eq_true] at h1
      obtain ⟨⟨h2, h3⟩, h4⟩ := h1
      refine ⟨o, x, ho, hx, fun e he hb => ?_, fun d hd j hj => ?_, fun j hj => ?_⟩
      · have := List.all_eq_true.1 h2 e (by simpa using he)
        simp only [hb, Bool.not_true, Bool.false_or, decide_eq_true_eq] at this
        exact this
      · have := List.all_eq_true.1 (List.all_eq_true.1 h3 d hd) j (List.mem_range.2 hj)
        split at this
        · rename_i y hy
          refine ⟨y, hy, fun hd' => ?_⟩
          simp only [hd', ne_eq, not_true_eq_false, decide_false, Bool.false_or, Bool.or_eq_true] at this
          exact this
        · cases this
      · have := List.all_eq_true.1 h4 j (List.mem_range.2 hj)
        split at this
        · rename_i y hy
          simp only [Bool.and_eq_true] at this
          obtain ⟨g1, g2⟩ := this
          refine ⟨y, hy, fun hij d hd => ?_, fun e1 e2 e3 => ?_⟩
          · simp only [hd, hij, decide_false, Bool.false_or, decide_eq_true_eq] at g1; exact g1
          · simp only [e1, e2, e3, decide_true, Bool.and_self, Bool.not_true, Bool.false_or] at g2; exact g2
        · cases this
    · cases h1
  refine ⟨fun i hi => ?_, fun i o ho => ?_, fun i x hi hx d hd j y hj hy hyd => ?_, fun i j x y d hi hj hx hy hij hd => ?_, fun i j x y hi hj hx hy => ?_⟩
  · obtain ⟨o, x, _, hx, _⟩ := H i hi; exact ⟨x, hx⟩
  · obtain ⟨o', x, ho', _, h1, _⟩ := H i (Array.getElem?_eq_some_iff.1 ho).1
    rw [ho] at ho'; cases ho'; exact h1
  · obtain ⟨o, x', _, hx', _, h1, _⟩ := H i hi
    rw [hx] at hx'; cases hx'
    obtain ⟨y', hy', h2⟩ := h1 d hd j hj
    rw [hy] at hy'; cases hy'; exact h2 hyd
  · obtain ⟨o, x', _, hx', _, _, h1⟩ := H i hi
    rw [hx] at hx'; cases hx'
    obtain ⟨y', hy', h2, _⟩ := h1 j hj
    rw [hy] at hy'; cases hy'; exact h2 hij d hd
  · obtain ⟨o, x', _, hx', _, _, hh⟩ := H i hi
    rw [hx] at hx'; cases hx'
    obtain ⟨y', hy', _, g⟩ := hh j hj
    rw [hy] at hy'; cases hy'; exact g

theorem OkD3.dep_lt {ops : Array Oper} {l : List OO} (ok : OkD3 ops l) : ∀ (i j : Nat), i < ops.size → dep ops i j = true → j < i := by
  intro i
  induction i using Nat.strongRecOn with
  | _ i ih =>
    intro j hi hj
    obtain ⟨e, he, hb, h1 | ⟨h1, h2⟩⟩ := dep_step (o := ops[i]) (by simp [hi]) hj
    · rw [← h1]; exact ok.lt i _ (by simp [hi]) e he hb
    · have := ih e.on h2 j (by omega) h1; omega

def nW (n : Nat) (wr : Nat → Bool) (nS : Nat → Nat) (D : Nat → Bool) : Nat → Nat
  | 0 => n
  | k + 1 => if D k && wr k then nS (k + 1) else nW n wr nS D k

theorem xops_draw3 {P : Program} {n0 : Nat} {W : Nat → Prop} (ops : Array Oper) (l' : List OO) {t : List AV} {h : AH} {n : Nat} {K : List AV → AH → Nat → Prop}
    (hc : compOps P ops ops.toList = some l') (hok : okDraw3 ops l' = true) (hx : xops P n0 W false l' t h n K) :
    ∃ t' h' n', K t' h' n' ∧ n ≤ n' ∧ ∀ (G : Gx) (a : Act) (w : World), G.W = W → G.n0 = n0 → n' ≤ G.n1 → S G t h n a w →
      wpAny P .any ops (fun e' a' w' => e' = .normal ∧ S G t' h' n' a' w') ops.size (Array.replicate ops.size false) a w := by
  obtain ⟨tS, hS, nS, vS, e1, e2, e3, e4, e5⟩ := xops_trace ops ops.toList 0 l' t h n K (fun i o hi => by simpa using hi) ⟨_, hc, Ups.refl _⟩ hx
  have ok := OkD3.of hok
  rw [Array.length_toList] at e4
  have hlen : l'.length = ops.size := by simpa using compOps_length hc
  have step : ∀ i (hi : i < ops.size), ∃ x, l'[i]? = some x ∧ StepAt P n0 W false ops tS hS nS vS i ops[i] x := fun i hi => by
    obtain ⟨x, hx⟩ := ok.at_ i hi
    exact ⟨x, hx, e5 i _ x (by simp [hi]) hx⟩
  have hm : ∀ j, j < ops.size → nS j ≤ nS (j + 1) := fun j hj => by obtain ⟨x, _, hs⟩ := step j hj; exact hs.2.2.1
  let N := ops.size
  let dst : Nat → Option Nat := fun i => (l'[i]?).bind (·.dst)
  let wr : Nat → Bool := fun i => ((l'[i]?).map (·.tch)).getD false
  have hidle : ∀ j, j < N → wr j = false → hS (j + 1) = hS j ∧ nS (j + 1) = nS j := fun j hj hw => by
    obtain ⟨x, hx, _, _, _, _, hst⟩ := step j hj
    have ht : x.tch = false := by simpa [wr, hx] using hw
    simp only [OO.tch, Bool.or_eq_false_iff] at ht
    rcases hst with ⟨_, _, _, _, _, q, q'⟩ | ⟨_, hst, _⟩
    · exact ⟨q, q'⟩
    · cases hst with
      | own new hr hh hmk hw =>
        have hn := hmk.resolve_right (by simp [ht.1.2])
        exact ⟨by rw [hh, hn, mix_same], hn⟩
      | read hr hl hmk hrh hw => rw [ht.1.1] at hrh; cases hrh
      | write W' hr hp hf hw => rw [ht.2] at hw; cases hw
      | free W' hr hp hd hc => rw [ht.1.1] at hc; cases hc
  have nbound : ∀ k, k ≤ N → n ≤ nS k ∧ nS k ≤ nS N := fun k hk => ⟨by rw [← e3]; exact mono_of hm k (Nat.zero_le _) hk, mono_of hm N hk (Nat.le_refl _)⟩
  refine ⟨_, _, _, e4, (nbound N (Nat.le_refl _)).1, fun G a w hGW hGn hG1 hS0 => ?_⟩
  have hG1' : nS N ≤ G.n1 := hG1
  have tall : ∀ k, k ≤ N → tD (tS 0) dst vS (fun _ => true) k = tS k := by
    intro k
    induction k with
    | zero => intro _; rfl
    | succ k ih =>
      intro hk
      obtain ⟨x, hx, g1, g2, _⟩ := step k (by omega)
      simp only [tD, if_true]
      rw [ih (by omega), g2]
      congr 1
      simp only [dst, hx, Option.bind_some, g1]
  have nWb : ∀ D k, k ≤ N → n ≤ nW (nS 0) wr nS D k ∧ nW (nS 0) wr nS D k ≤ nS N := by
    intro D k
    induction k with
    | zero => intro _; simp only [nW]; exact nbound 0 (Nat.zero_le _)
    | succ k ih => intro hk; simp only [nW]; split; exact nbound (k + 1) hk; exact ih (by omega)
  let Inv (D : Nat → Bool) (a : Act) (w : World) : Prop := ∃ ρ, IsL ρ (tD (tS 0) dst vS D N) a.tmps.toList ∧ a.defers = [] ∧ Sim ρ (hW (hS 0) wr hS D N) w ∧
    (∀ i, nW (nS 0) wr nS D N ≤ i → i < G.n1 → ρ i = none) ∧ G.n0 ≤ n ∧ Cx G ρ w
  have one : ∀ (D : Nat → Bool) (i : Nat) (hi : i < N) (a : Act) (w : World) (Kr : Act → World → Prop) (Qr : Exit → Act → World → Prop), D i = false → Down ops D → (∀ e ∈ ops[i].after, Region.binds .any e = true → D e.on = true) → Inv D a w →
      (∀ a' w', Inv (add D i) a' w' → Kr a' w') → wpOp P ops Qr i Kr a w := by
    intro D i hi a w Kr Qr hDi hdown hready hinv hK
    have hpre : ∀ j, dep ops i j = true → D j = true := hdown.dep i ops[i] (by simp [N] at hi; simp [hi]) hready
    obtain ⟨x, hx, g1, g2, g3, g4, hst⟩ := step i hi
    obtain ⟨ρ, p1, p2, p3, p5, p6, p7⟩ := hinv
    have hdstx : dst i = ops[i].dst := by simp only [dst, hx, Option.bind_some, g1]
    have hti := tD_add (t := tS 0) (v := vS) (dst := dst) hDi N fun j hj hji s hs hjs => by
      obtain ⟨y, hy⟩ := ok.at_ j hj
      exact ok.dst i j x y s hi hj hx hy (Ne.symm hji) (by simpa [dst, hx] using hs) (by simpa [dst, hy] using hjs)
    rw [if_pos hi] at hti
    have inD : ∀ j, j < N → D j = true → ∀ k, dep ops j k = true → D k = true := fun j hj hDj k hd =>
      hdown.dep j ops[j] (by simp [N] at hj; simp [hj]) (hdown j _ (by simp [N] at hj; simp [hj]) hDj) k hd
    have notD : ∀ j, j < N → D j = true → dep ops j i = false := fun j hj hDj => by
      cases hd : dep ops j i with
      | false => rfl
      | true => have := inD j hj hDj i hd; rw [hDi] at this; cases this
    have hlook : ∀ s ∈ x.looks, (tS i).getD s .any = (tD (tS 0) dst vS D N).getD s .any := fun s hs => by
      rw [← tall i (Nat.le_of_lt hi)]
      by_cases hex : ∃ j, j < N ∧ dst j = some s
      · obtain ⟨j, hj, hjs⟩ := hex
        obtain ⟨y, hy⟩ := ok.at_ j hj
        have hu : ∀ k, k < N → dst k = some s → k = j := fun k hk hks => by
          obtain ⟨z, hz⟩ := ok.at_ k hk
          rcases Nat.decEq k j with hkj | hkj
          · exact absurd (by simpa [dst, hy] using hjs) (ok.dst k j z y s hk hj hz hy hkj (by simpa [dst, hz] using hks))
          · exact hkj
        rcases ok.look i x hi hx s hs j y hj hy (by simpa [dst, hy] using hjs) with hd | hd
        · have hji := ok.dep_lt i j hi hd
          by_cases hsl : s < (tS 0).length
          · rw [tD_some hsl rfl hjs i hji (fun k hk => hu k (by omega)), tD_some hsl (hpre j hd) hjs N hj hu]
          · simp [List.getD, List.getElem?_eq_none, tD_length, Nat.le_of_not_lt hsl]
        · have hij := ok.dep_lt j i hj hd
          have hDj : D j = false := by
            cases hDj : D j with
            | false => rfl
            | true => have := notD j hj hDj; rw [hd] at this; cases this
          rw [tD_none i fun k hk _ hks => by have := hu k (by omega) hks; omega, tD_none N fun k hk hDk hks => by rw [hu k hk hks, hDj] at hDk; cases hDk]
      · have hno : ∀ j, j < N → dst j ≠ some s := fun j hj h => hex ⟨j, hj, h⟩
        rw [tD_none i fun j hj _ => hno j (by omega), tD_none N fun j hj _ => hno j hj]
    have hrel : Rel ρ x.looks (tS i) a := fun d hd => by rw [hlook d hd]; exact Rel.of_all p1 d hd
    have hwat : wr i = x.tch := by simp only [wr, hx, Option.map_some, Option.getD_some]
    have wrAt : ∀ j y, l'[j]? = some y → wr j = y.tch := fun j y hy => by simp only [wr, hy, Option.map_some, Option.getD_some]
    have hsame : wr i = false → ∀ k, hW (hS 0) wr hS (add D i) k = hW (hS 0) wr hS D k ∧ nW (nS 0) wr nS (add D i) k = nW (nS 0) wr nS D k := fun hw k => by
      induction k with
      | zero => exact ⟨rfl, rfl⟩
      | succ k ih =>
        simp only [hW, nW, ih.1, ih.2]
        by_cases e : k = i
        · subst e; simp [hw]
        · have : (k == i) = false := by simp; exact e
          simp [add, this]
    have stDown : ∀ j k, j < N → k < j → wr j = true → wr k = true → D j = true → D k = true := fun j k hj hk hwj hwk hDj => by
      obtain ⟨y, hy⟩ := ok.at_ j hj
      obtain ⟨z, hz⟩ := ok.at_ k (by omega)
      exact inD j hj hDj k (ok.tt j k y z hj (by omega) hy hz (by rw [← wrAt j y hy]; exact hwj) (by rw [← wrAt k z hz]; exact hwk) hk)
    have hupto : ∀ k, k ≤ N → (∀ j, j < k → wr j = true → D j = true) → hW (hS 0) wr hS D k = hS k ∧ nW (nS 0) wr nS D k = nS k := by
      intro k
      induction k with
      | zero => intro _ _; exact ⟨rfl, rfl⟩
      | succ k ih =>
        intro hk hh
        simp only [hW, nW]
        cases hwk : wr k with
        | true => rw [hh k (Nat.lt_succ_self k) hwk]; exact ⟨rfl, rfl⟩
        | false =>
          simp only [Bool.and_false, Bool.false_eq_true, if_false]
          rw [(ih (by omega) fun j hj => hh j (by omega)).1, (ih (by omega) fun j hj => hh j (by omega)).2, (hidle k (by omega) hwk).1, (hidle k (by omega) hwk).2]; exact ⟨rfl, rfl⟩
    have turn : wr i = true → hW (hS 0) wr hS D N = hS i ∧ nW (nS 0) wr nS D N = nS i ∧ hW (hS 0) wr hS (add D i) N = hS (i + 1) ∧ nW (nS 0) wr nS (add D i) N = nS (i + 1) := fun hw => by
      have hbefore : ∀ j, j < i → wr j = true → D j = true := fun j hj hwj => by
        have hjN : j < N := by omega
        obtain ⟨y, hy⟩ := ok.at_ j hjN
        exact hpre j (ok.tt i j x y hi hjN hx hy (by rw [← hwat]; exact hw) (by rw [← wrAt j y hy]; exact hwj) hj)
      have hafter : ∀ j, i < j → j < N → wr j = true → D j = false := fun j hj hjN hwj => by
        cases hDj : D j with
        | false => rfl
        | true => have := stDown j i hjN hj hwj hw hDj; rw [hDi] at this; cases this
      have q1 : ∀ m, i ≤ m → m ≤ N → hW (hS 0) wr hS D m = hS i ∧ nW (nS 0) wr nS D m = nS i := by
        intro m
        induction m with
        | zero => intro h1 _; have : i = 0 := Nat.le_zero.1 h1; rw [this]; exact ⟨rfl, rfl⟩
        | succ m ih =>
          intro h1 h2
          by_cases e : i = m + 1
          · rw [← e]; exact hupto i (Nat.le_of_lt hi) hbefore
          · simp only [hW, nW]
            have hno : ¬ (D m && wr m) = true := fun hh => by
              simp only [Bool.and_eq_true] at hh
              by_cases e2 : m = i
              · rw [e2, hDi] at hh; cases hh.1
              · rw [hafter m (by omega) (by omega) hh.2] at hh; cases hh.1
            rw [if_neg hno, if_neg hno]
            exact ih (by omega) (by omega)
      have q2 : ∀ m, i + 1 ≤ m → m ≤ N → hW (hS 0) wr hS (add D i) m = hS (i + 1) ∧ nW (nS 0) wr nS (add D i) m = nS (i + 1) := by
        intro m
        induction m with
        | zero => intro h1 _; omega
        | succ m ih =>
          intro h1 h2
          simp only [hW, nW]
          by_cases e : m = i
          · subst e; simp [add, hw]
          · have e' : (m == i) = false := by simp; exact e
            have hno : ¬ (add D i m && wr m) = true := fun hh => by
              simp only [add, e', Bool.or_false, Bool.and_eq_true] at hh
              rw [hafter m (by omega) (by omega) hh.2] at hh; cases hh.1
            rw [if_neg hno, if_neg hno]
            exact ih (by omega) (by omega)
      exact ⟨(q1 N (Nat.le_of_lt hi) (Nat.le_refl _)).1, (q1 N (Nat.le_of_lt hi) (Nat.le_refl _)).2, (q2 N hi (Nat.le_refl _)).1, (q2 N hi (Nat.le_refl _)).2⟩
    have nb := nbound i (Nat.le_of_lt hi)
    have nb' := nbound (i + 1) hi
    have fin : ∀ (rv : Value) (ρ' : Rho) (w' : World), wr i = true → Is ρ' (vS i) rv → Sim ρ' (hS (i + 1)) w' → (∃ W' : Nat → Prop, Cx ⟨ρ, w, W', nS i, nS (i + 1)⟩ ρ' w' ∧ ∀ j, j < nS i → W' j → G.n0 ≤ j ∨ G.W j) →
        Kr (a.put ops[i].dst rv) w' := fun rv ρ' w' hw h1 h2 ⟨W', h3, h4⟩ => by
      obtain ⟨t1, t2, t3, t4⟩ := turn hw
      have fresh : ∀ id, nS i ≤ id → id < nS (i + 1) → ρ id = none := fun id q1 q2 => p5 id (by omega) (by omega)
      refine hK _ _ ⟨ρ', ?_, by rw [Act.put_defers']; exact p2, by rw [t3]; exact h2, fun id q1 q2 => ?_, p6, p7.trans h3 (by omega) g3 (by omega) h4⟩
      · rw [hti, hdstx]
        exact Act.put_tmps (p1.mono (h3.ext fresh)) h1
      · rw [t4] at q1
        rw [h3.far id q1]; exact p5 id (by omega) q2
    have fin0 : ∀ (rv : Value) (ρ' : Rho) (w' : World) (m : Nat), n ≤ m → m ≤ nS N → wr i = false → Is ρ' (vS i) rv → Sim ρ' (hW (hS 0) wr hS D N) w' → Cx ⟨ρ, w, none', m, m⟩ ρ' w' →
        Kr (a.put ops[i].dst rv) w' := fun rv ρ' w' m hm1 hm2 hw h1 h2 h3 => by
      refine hK _ _ ⟨ρ', ?_, by rw [Act.put_defers']; exact p2, by rw [(hsame hw N).1]; exact h2, fun id q1 q2 => ?_, p6, p7.trans h3 (by omega) (Nat.le_refl _) (by omega) (fun _ _ h => h.elim)⟩
      · rw [hti, hdstx]
        exact Act.put_tmps (p1.mono (h3.ext fun id h1 h2 => by omega)) h1
      · rw [(hsame hw N).2] at q1
        have : ρ' id = ρ id := by
          by_cases e : id < m
          · exact h3.old id e
          · exact h3.far id (by simp only; omega)
        rw [this]; exact p5 id q1 q2
    unfold wpOp
    have hoi : ops[i]? = some ops[i] := by simp [N] at hi; simp [hi]
    rw [hoi]
    simp only
    rcases hst with ⟨s, b, hgx, hts, hv, hh, hn⟩ | ⟨hgd, hst, _⟩
    · rcases g4 with ⟨_, hno⟩ | ⟨j, want, s', ho1, ho2, ho3⟩
      · rw [hgx] at hno; cases hno
      · rw [hgx] at ho3; cases ho3
        have hsl : s ∈ x.looks := by simp [OO.looks, hgx]
        have hnw : ¬ Region.wanted ops[i] (yielded ops a.tmps) = true := by
          rcases hts with hts | hts
          · have hb := IsL.bool_at p1 (by rw [← hlook s hsl]; exact hts)
            simp [Region.wanted, ho1, yielded, ho2, hb]
          · have hb := IsL.off_at p1 (by rw [← hlook s hsl]; exact hts)
            simp [Region.wanted, ho1, yielded, ho2, hb]
        rw [if_neg hnw]
        cases hw : wr i with
        | false => exact fin0 undef ρ w n (Nat.le_refl _) (nbound N (Nat.le_refl _)).1 hw (by rw [hv]; exact is_off ρ) p3 (Cx.refl ρ w _ _ _ fun id h1 h2 => by omega)
        | true =>
          obtain ⟨t1, _⟩ := turn hw
          exact fin undef ρ w hw (by rw [hv]; exact is_off ρ) (by rw [hh, ← t1]; exact p3) ⟨none', Cx.refl ρ w _ _ _ fun id h1 h2 => by omega, fun _ _ h => h.elim⟩
    · have hwant : Region.wanted ops[i] (yielded ops a.tmps) = true := by
        rcases g4 with ⟨ho1, _⟩ | ⟨j, want, s, ho1, ho2, ho3⟩
        · simp [Region.wanted, ho1]
        · rcases hgd with hno | ⟨s', b, hs', hts⟩
          · rw [hno] at ho3; cases ho3
          · rw [hs'] at ho3; cases ho3
            have hsl : s ∈ x.looks := by simp [OO.looks, hs']
            have hb := IsL.bool_at p1 (by rw [← hlook s hsl]; exact hts)
            simp [Region.wanted, ho1, yielded, ho2, hb]
      rw [if_pos hwant]
      refine .inl ?_
      have hrel' : Rel ρ x.o.reads (tS i) a := fun d hd => hrel d (by simp only [OO.looks, List.mem_append]; exact .inl hd)
      cases hw : wr i with
      | true =>
        obtain ⟨t1, t2, _, _⟩ := turn hw
        obtain ⟨W', hro, hp⟩ := hst.ro
        exact hro.2 ρ a w Kr Qr hrel' (by rw [← t1]; exact p3) (fun id q1 q2 => p5 id (by omega) (by omega)) fun rv ρ' w' r1 r2 r3 => fin rv ρ' w' hw r1 r2 ⟨W', r3, by rw [hGn, hGW]; exact hp⟩
      | false =>
        have ht : x.tch = false := by rw [← hwat]; exact hw
        simp only [OO.tch, Bool.or_eq_false_iff] at ht
        cases hst with
        | own new hr hh hmk hw' =>
          have hn := hmk.resolve_right (by simp [ht.1.2])
          rw [hn] at hr
          refine hr.2 ρ a w Kr Qr hrel' (Sim.emp _ _) (fun id q1 q2 => by omega) fun rv ρ' w' q1 q2 q3 => fin0 rv ρ' w' (nS i) nb.1 nb.2 hw q1 ?_ q3
          have := p3.mix q3 (fun id q1 q2 => by omega) q2
          rwa [mix_same] at this
        | read hr hl hmk hrh hw' => rw [ht.1.1] at hrh; cases hrh
        | write W' hr hp hf hw' => rw [ht.2] at hw'; cases hw'
        | free W' hr hp hd hc => rw [ht.1.1] at hc; cases hc
  have main : ∀ (fuel : Nat) (listed : Array Bool) (a : Act) (w : World), listed.size = N → (List.range N).countP (fun i => !(listed.getD i false)) ≤ fuel → Down ops (fun i => listed.getD i false) → Inv (fun i => listed.getD i false) a w →
      wpAny P .any ops (fun e' a' w' => e' = .normal ∧ S G (tS N) (hS N) (nS N) a' w') fuel listed a w := by
    have hfull : ∀ (listed : Array Bool) (a : Act) (w : World), (∀ i, i < N → listed.getD i false = true) → Inv (fun i => listed.getD i false) a w → S G (tS N) (hS N) (nS N) a w := by
      intro listed a w hall ⟨ρ, p1, p2, p3, p5, p6, p7⟩
      have ht : tD (tS 0) dst vS (fun i => listed.getD i false) N = tS N := by
        rw [← tall N (Nat.le_refl _)]
        have : ∀ k, k ≤ N → tD (tS 0) dst vS (fun i => listed.getD i false) k = tD (tS 0) dst vS (fun _ => true) k := by
          intro k
          induction k with
          | zero => intro _; rfl
          | succ k ih =>
            intro hk
            have hk' : (fun i => listed.getD i false) k = true := hall k (by omega)
            simp only [tD]; rw [if_pos hk', ih (by omega)]; simp
        exact this N (Nat.le_refl _)
      have hh : ∀ k, k ≤ N → hW (hS 0) wr hS (fun i => listed.getD i false) k = hS k ∧ nW (nS 0) wr nS (fun i => listed.getD i false) k = nS k := by
        intro k
        induction k with
        | zero => intro _; exact ⟨rfl, rfl⟩
        | succ k ih =>
          intro hk
          have hk' : (fun i => listed.getD i false) k = true := hall k (by omega)
          simp only [hW, nW]
          cases hwk : wr k with
          | true => exact ⟨if_pos (by simpa using hk'), if_pos (by simpa using hk')⟩
          | false =>
            simp only [Bool.and_false, Bool.false_eq_true, if_false]
            rw [(ih (by omega)).1, (ih (by omega)).2, (hidle k (by omega) hwk).1, (hidle k (by omega) hwk).2]; exact ⟨rfl, rfl⟩
      rw [ht] at p1; rw [(hh N (Nat.le_refl _)).1] at p3; rw [(hh N (Nat.le_refl _)).2] at p5
      have := nbound N (Nat.le_refl _)
      exact ⟨ρ, p1, p2, p3, p5, by omega, p7⟩
    have hready : ∀ (listed : Array Bool), Region.ready .any ops listed = [] → Down ops (fun i => listed.getD i false) → listed.size = N → ∀ i, i < N → listed.getD i false = true := by
      intro listed hr hd hsz i
      induction i using Nat.strongRecOn with
      | _ i ih =>
        intro hi
        cases hl : listed.getD i false with
        | true => rfl
        | false =>
          have hmem : i ∈ Region.ready .any ops listed := by
            rw [mem_ready]
            have hlt : i < listed.size := by rw [hsz]; exact hi
            refine ⟨by simp [hlt] at hl ⊢; exact hl, ops[i], by simp only [N] at hi; simp [hi], fun e he hb => ?_⟩
            have hei := ok.lt i ops[i] (by simp only [N] at hi; simp [hi]) e he hb
            exact ih e.on hei (by omega)
          rw [hr] at hmem; cases hmem
    intro fuel
    induction fuel with
    | zero =>
      intro listed a w hsz hcnt hd hinv
      have hall : ∀ i, i < N → listed.getD i false = true := fun i hi => by
        have := List.countP_eq_zero.1 (Nat.le_zero.1 hcnt) i (List.mem_range.2 hi)
        simpa using this
      refine ⟨?_, rfl, hfull listed a w hall hinv⟩
      cases hr : Region.ready .any ops listed with
      | nil => rfl
      | cons j r =>
        have hj : j ∈ Region.ready .any ops listed := by rw [hr]; simp
        obtain ⟨h1, o, h2, _⟩ := mem_ready.1 hj
        have hlt : j < N := (Array.getElem?_eq_some_iff.1 h2).1
        have := hall j hlt
        have hlt' : j < listed.size := by rw [hsz]; exact hlt
        simp [hlt'] at this h1
        rw [this] at h1; cases h1
    | succ fuel ih =>
      intro listed a w hsz hcnt hd hinv
      refine ⟨fun hr => ⟨rfl, hfull listed a w (hready listed hr hd hsz) hinv⟩, fun i hi => ?_⟩
      obtain ⟨h1, o, h2, h3⟩ := mem_ready.1 hi
      obtain ⟨hlt, ho⟩ := Array.getElem?_eq_some_iff.1 h2
      subst ho
      have hlt' : i < listed.size := by rw [hsz]; exact hlt
      have hDi : listed.getD i false = false := by simp [hlt'] at h1 ⊢; exact h1
      have hset : (fun j => (listed.setIfInBounds i true).getD j false) = add (fun j => listed.getD j false) i := by
        funext j
        simp only [add, Array.getD_eq_getD_getElem?, Array.getElem?_setIfInBounds]
        by_cases hij : i = j
        · subst hij; simp [hlt']
        · have : (j == i) = false := by simp; exact fun e => hij e.symm
          simp [hij, this]
      refine one (fun j => listed.getD j false) i hlt a w _ _ hDi hd h3 hinv fun a' w' hinv' => ih _ a' w' (by simp [hsz]) ?_ ?_ ?_
      · have hc := cnt_add (D := fun j => listed.getD j false) (i := i) hDi (List.range N) (List.mem_range.2 hlt) List.nodup_range
        have : (List.range N).countP (fun j => !((listed.setIfInBounds i true).getD j false)) = (List.range N).countP (fun j => !(add (fun j => listed.getD j false) i j)) := by
          congr 1; funext j; rw [← congrFun hset j]
        omega
      · rw [hset]
        intro j o' hj hDj e he hb
        simp only [add, Bool.or_eq_true, beq_iff_eq] at hDj ⊢
        rcases hDj with hDj | rfl
        · exact .inl (hd j o' hj hDj e he hb)
        · rw [h2] at hj; cases hj; exact .inl (h3 e he hb)
      · rw [hset]; exact hinv'
  refine main ops.size _ a w (by simp [N]) ?_ ?_ ?_
  · exact Nat.le_trans List.countP_le_length (by simp [N])
  · intro i o hi hD
    by_cases hlt : i < ops.size <;> simp [hlt] at hD
  · obtain ⟨ρ, p1, p2, p3, p4, p5, p6⟩ := hS0
    have hno : ∀ k, (fun i => (Array.replicate ops.size false).getD i false) k = false := fun k => by
      by_cases hlt : k < ops.size <;> simp [hlt]
    have ht : ∀ k, tD (tS 0) dst vS (fun i => (Array.replicate ops.size false).getD i false) k = tS 0 := fun k => by
      induction k with
      | zero => rfl
      | succ k ih =>
        have hk : ¬ ((fun i => (Array.replicate ops.size false).getD i false) k = true) := by rw [hno k]; simp
        simp only [tD]; rw [if_neg hk]; exact ih
    have hh : ∀ k, hW (hS 0) wr hS (fun i => (Array.replicate ops.size false).getD i false) k = hS 0 := fun k => by
      induction k with
      | zero => rfl
      | succ k ih =>
        have hk := hno k
        simp only at hk
        simp only [hW, hk, Bool.false_and, Bool.false_eq_true, if_false]; exact ih
    have hn : ∀ k, nW (nS 0) wr nS (fun i => (Array.replicate ops.size false).getD i false) k = nS 0 := fun k => by
      induction k with
      | zero => rfl
      | succ k ih =>
        have hk := hno k
        simp only at hk
        simp only [nW, hk, Bool.false_and, Bool.false_eq_true, if_false]; exact ih
    exact ⟨ρ, by rw [ht, e1]; exact p1, p2, by rw [hh, e2]; exact p3, by rw [hn, e3]; exact p4, p5, p6⟩
def strictAt (ops : Array Oper) (L : List OO) (i : Nat) (x : OO) : Bool := (match x.o with | .call _ _ => true | _ => false) &&
  (match x.dst with | some d => L.all fun y => !(y.looks.contains d) | none => true) &&
  (List.range ops.size).all fun j => decide (i = j) || (match L[j]? with | some y => !y.tch || dep ops i j || dep ops j i | none => false)
def strictL (ops : Array Oper) (L : List OO) : Nat → List OO → List OO
  | _, [] => []
  | i, x :: r => (if strictAt ops L i x then toW x else x) :: strictL ops L (i + 1) r
theorem strictL_ups (ops : Array Oper) (L : List OO) : ∀ (l : List OO) (i : Nat), Ups l (strictL ops L i l)
  | [], _ => .nil
  | x :: r, i => .cons (by split; exact .inr (.inl rfl); exact .inl rfl) (strictL_ups ops L r (i + 1))

def isPtrCall (P : Program) (o : Op) : Bool := match o with
  | .call { callee := .value _, argTypes, .. } => match argTypes[0]? with
    | some t => match P.underlying t with
      | some (.pointer _) => true
      | _ => false
    | none => false
  | _ => false
def hasPtrCall (P : Program) (ops : Array Oper) : Bool := ops.any fun o => isPtrCall P o.op
def barAt (ops : Array Oper) (L : List OO) (i : Nat) : Bool :=
  (List.range ops.size).all fun j => match L[j]? with
    | some y => decide (i = j) || !y.tch || (if j < i then dep ops i j else dep ops j i)
    | none => false
def markP (P : Program) (ops : Array Oper) (L : List OO) : Nat → List OO → List OO
  | _, [] => []
  | i, x :: r => (if barAt ops L i then (if (match ops[i]? with | some o => isPtrCall P o.op | none => false) then toW x else x)
      else (if (match ops[i]? with | some o => isPtrCall P o.op | none => false) then toP x else x)) :: markP P ops L (i + 1) r
theorem markP_ups (P : Program) (ops : Array Oper) (L : List OO) : ∀ (l : List OO) (i : Nat), Ups l (markP P ops L i l)
  | [], _ => .nil
  | x :: r, i => .cons (by (repeat' split) <;> first | exact .inl rfl | exact .inr (.inl rfl) | exact .inr (.inr (.inl rfl))) (markP_ups P ops L r (i + 1))

def pairs4At (ops : Array Oper) (l : List OO) (i : Nat) (x : OO) : List (A × A) :=
  if x.o.one && !barAt ops l i then (List.range i).filterMap fun j => match l[j]? with
    | some y => if y.o.isLd && !barAt ops l j && !dep ops i j then some (x.o.adr, y.o.adr) else none
    | none => none
  else []
def pairs4 (ops : Array Oper) (l : List OO) : List (A × A) := (List.range ops.size).flatMap fun i => match l[i]? with | some x => pairs4At ops l i x | none => []

def okDraw4 (ops : Array Oper) (l : List OO) : Bool :=
  let N := ops.size
  (List.range N).all fun i => match ops[i]?, l[i]? with
    | some o, some x =>
      (o.after.toList.all fun e => !Region.binds .any e || decide (e.on < i)) &&
      (x.looks.all fun d => (List.range N).all fun j => match l[j]? with
        | some y => decide (y.dst ≠ some d) || dep ops i j || dep ops j i
        | none => false) &&
      (!x.tch || barAt ops l i || (x.o.mk && !x.o.rh && !x.o.wrs) || (x.o.isLd && decide (x.g = none)) || (x.o.one && decide (x.g = none))) &&
      ((List.range N).all fun j => match l[j]? with
        | some y => (decide (i = j) || (match x.dst with | some d => decide (y.dst ≠ some d) | none => true)) &&
            (barAt ops l i || barAt ops l j ||
              ((!(x.o.one && y.o.one && decide (j < i)) || dep ops i j) &&
               (!(x.o.one && y.o.mk && decide (j < i)) || dep ops i j) &&
               (!(x.o.isLd && y.o.mk && decide (j < i)) || dep ops i j) &&
               (!(x.o.isLd && y.o.one && decide (j < i)) || dep ops i j) &&
               (!(x.o.one && y.o.isLd && decide (j < i)) || dep ops i j || (keepA l i x.o.adr && keepA l j y.o.adr))))
        | none => false)
    | _, _ => false

inductive Cls (ops : Array Oper) (l : List OO) (i : Nat) (x : OO) : Prop
  | idle (h : x.tch = false)
  | bar (h : barAt ops l i = true) (t : x.tch = true)
  | mk (h : x.o.mk = true) (r : x.o.rh = false) (w : x.o.wrs = false) (b : barAt ops l i = false)
  | ld (h : x.o.isLd = true) (g : x.g = none) (b : barAt ops l i = false)
  | one (h : x.o.one = true) (g : x.g = none) (b : barAt ops l i = false)

structure OkD4 (ops : Array Oper) (l : List OO) : Prop where
  at_ : ∀ i, i < ops.size → ∃ x, l[i]? = some x
  lt : ∀ i o, ops[i]? = some o → ∀ e ∈ o.after, Region.binds .any e = true → e.on < i
  look : ∀ i x, i < ops.size → l[i]? = some x → ∀ d ∈ x.looks, ∀ j y, j < ops.size → l[j]? = some y → y.dst = some d → dep ops i j = true ∨ dep ops j i = true
  dst : ∀ i j x y d, i < ops.size → j < ops.size → l[i]? = some x → l[j]? = some y → i ≠ j → x.dst = some d → y.dst ≠ some d
  cls : ∀ i x, i < ops.size → l[i]? = some x → Cls ops l i x
  pr : ∀ i j x y, i < ops.size → j < ops.size → l[i]? = some x → l[j]? = some y → barAt ops l i = false → barAt ops l j = false → j < i →
    (x.o.one = true → y.o.one = true → dep ops i j = true) ∧ (x.o.one = true → y.o.mk = true → dep ops i j = true) ∧ (x.o.isLd = true → y.o.mk = true → dep ops i j = true) ∧
    (x.o.isLd = true → y.o.one = true → dep ops i j = true) ∧ (x.o.one = true → y.o.isLd = true → dep ops i j = false → keepA l i x.o.adr = true ∧ keepA l j y.o.adr = true)

theorem OkD4.of {ops : Array Oper} {l : List OO} (h : okDraw4 ops l = true) : OkD4 ops l := by
  have H : ∀ i, i < ops.size → ∃ o x, ops[i]? = some o ∧ l[i]? = some x ∧ (∀ e ∈ o.after, Region.binds .any e = true → e.on < i) ∧
      (∀ d ∈ x.looks, ∀ j, j < ops.size → ∃ y, l[j]? = some y ∧ (y.dst = some d → dep ops i j = true ∨ dep ops j i = true)) ∧
      Cls ops l i x ∧
      (∀ j, j < ops.size → ∃ y, l[j]? = some y ∧ (i ≠ j → ∀ d, x.dst = some d → y.dst ≠ some d) ∧ (barAt ops l i = false → barAt ops l j = false → j < i →
        (x.o.one = true → y.o.one = true → dep ops i j = true) ∧ (x.o.one = true → y.o.mk = true → dep ops i j = true) ∧ (x.o.isLd = true → y.o.mk = true → dep ops i j = true) ∧
        (x.o.isLd = true → y.o.one = true → dep ops i j = true) ∧ (x.o.one = true → y.o.isLd = true → dep ops i j = false → keepA l i x.o.adr = true ∧ keepA l j y.o.adr = true))) := by
    intro i hi
    have h1 := List.all_eq_true.1 h i (List.mem_range.2 hi)
    split at h1
    · rename_i o x ho hx
      simp only [Bool.and_eq_true] at h1
      obtain ⟨⟨⟨h2, h3⟩, hcl⟩, h4⟩ := h1
      refine ⟨o, x, ho, hx, fun e he hb => ?_, fun d hd j hj => ?_, ?_, fun j hj => ?_⟩
      · have := List.all_eq_true.1 h2 e (by simpa using he)
        simp only [hb, Bool.not_true, Bool.false_or, decide_eq_true_eq] at this
        exact this
      · have := List.all_eq_true.1 (List.all_eq_true.1 h3 d hd) j (List.mem_range.2 hj)
        split at this
        · rename_i y hy
          refine ⟨y, hy, fun hd' => ?_⟩
          simp only [hd', ne_eq, not_true_eq_false, decide_false, Bool.false_or, Bool.or_eq_true] at this
          exact this
        · cases this
      · cases ht : x.tch with
        | false => exact .idle ht
        | true =>
          cases hb : barAt ops l i with
          | true => exact .bar hb ht
          | false =>
            simp only [ht, hb, Bool.not_true, Bool.false_or, Bool.or_eq_true, Bool.and_eq_true, Bool.not_eq_true', decide_eq_true_eq] at hcl
            rcases hcl with (⟨⟨h1, h2⟩, h3⟩ | ⟨h1, h2⟩) | ⟨h1, h2⟩
            · exact .mk h1 h2 h3 hb
            · exact .ld h1 h2 hb
            · exact .one h1 h2 hb
      · have := List.all_eq_true.1 h4 j (List.mem_range.2 hj)
        split at this
        · rename_i y hy
          simp only [Bool.and_eq_true] at this
          obtain ⟨g1, g2⟩ := this
          refine ⟨y, hy, fun hij d hd => ?_, fun b1 b2 e3 => ?_⟩
          · simp only [hd, hij, decide_false, Bool.false_or, decide_eq_true_eq] at g1; exact g1
          · simp only [b1, b2, Bool.false_or, Bool.and_eq_true] at g2
            obtain ⟨⟨⟨⟨q1, q2⟩, q3⟩, q4⟩, q5⟩ := g2
            refine ⟨fun e1 e2 => ?_, fun e1 e2 => ?_, fun e1 e2 => ?_, fun e1 e2 => ?_, fun e1 e2 e4 => ?_⟩
            · simp only [e1, e2, e3, decide_true, Bool.and_self, Bool.not_true, Bool.false_or] at q1; exact q1
            · simp only [e1, e2, e3, decide_true, Bool.and_self, Bool.not_true, Bool.false_or] at q2; exact q2
            · simp only [e1, e2, e3, decide_true, Bool.and_self, Bool.not_true, Bool.false_or] at q3; exact q3
            · simp only [e1, e2, e3, decide_true, Bool.and_self, Bool.not_true, Bool.false_or] at q4; exact q4
            · simp only [e1, e2, e3, e4, decide_true, Bool.and_self, Bool.not_true, Bool.false_or, Bool.and_eq_true] at q5; exact q5
        · cases this
    · cases h1
  refine ⟨fun i hi => ?_, fun i o ho => ?_, fun i x hi hx d hd j y hj hy hyd => ?_, fun i j x y d hi hj hx hy hij hd => ?_, fun i x hi hx => ?_, fun i j x y hi hj hx hy => ?_⟩
  · obtain ⟨o, x, _, hx, _⟩ := H i hi; exact ⟨x, hx⟩
  · obtain ⟨o', x, ho', _, h1, _⟩ := H i (Array.getElem?_eq_some_iff.1 ho).1
    rw [ho] at ho'; cases ho'; exact h1
  · obtain ⟨o, x', _, hx', _, h1, _⟩ := H i hi
    rw [hx] at hx'; cases hx'
    obtain ⟨y', hy', h2⟩ := h1 d hd j hj
    rw [hy] at hy'; cases hy'; exact h2 hyd
  · obtain ⟨o, x', _, hx', _, _, _, h1⟩ := H i hi
    rw [hx] at hx'; cases hx'
    obtain ⟨y', hy', h2, _⟩ := h1 j hj
    rw [hy] at hy'; cases hy'; exact h2 hij d hd
  · obtain ⟨o, x', _, hx', _, _, h1, _⟩ := H i hi
    rw [hx] at hx'; cases hx'; exact h1
  · obtain ⟨o, x', _, hx', _, _, _, h1⟩ := H i hi
    rw [hx] at hx'; cases hx'
    obtain ⟨y', hy', _, h2⟩ := h1 j hj
    rw [hy] at hy'; cases hy'; exact h2

theorem OkD4.dep_lt {ops : Array Oper} {l : List OO} (ok : OkD4 ops l) : ∀ (i j : Nat), i < ops.size → dep ops i j = true → j < i := by
  intro i
  induction i using Nat.strongRecOn with
  | _ i ih =>
    intro j hi hj
    obtain ⟨e, he, hb, h1 | ⟨h1, h2⟩⟩ := dep_step (o := ops[i]) (by simp [hi]) hj
    · rw [← h1]; exact ok.lt i _ (by simp [hi]) e he hb
    · have := ih e.on h2 j (by omega) h1; omega
theorem barAt_spec {ops : Array Oper} {l : List OO} {i j : Nat} {y : OO} (h : barAt ops l i = true) (hj : j < ops.size) (hy : l[j]? = some y) (ht : y.tch = true) (hij : i ≠ j) : (j < i → dep ops i j = true) ∧ (i < j → dep ops j i = true) := by
  have := List.all_eq_true.1 h j (List.mem_range.2 hj)
  rw [hy] at this
  simp only [hij, decide_false, Bool.false_or, ht, Bool.not_true] at this
  refine ⟨fun h => by rwa [if_pos h] at this, fun h => ?_⟩
  rwa [if_neg (by omega)] at this

def hG (h : AH) (ch : Nat → Nat → Bool) (hS : Nat → AH) (D : Nat → Bool) : Nat → AH
  | 0 => h
  | k + 1 => fun id => if D k && ch k id then hS (k + 1) id else hG h ch hS D k id
section
variable {h : AH} {ch : Nat → Nat → Bool} {hS : Nat → AH} {D : Nat → Bool} {id : Nat}
theorem hG_out {i : Nat} : ∀ k, i ≤ k → (∀ j, i ≤ j → j < k → D j = true → ch j id = false) → hG h ch hS D k id = hG h ch hS D i id
  | 0, h1, _ => by rw [Nat.le_zero.1 h1]
  | k + 1, h1, hh => by
    by_cases e : i = k + 1
    · rw [e]
    · simp only [hG]
      rw [if_neg fun hc => ?_]
      · exact hG_out k (by omega) fun j a b => hh j a (by omega)
      · simp only [Bool.and_eq_true] at hc
        rw [hh k (by omega) (Nat.lt_succ_self k) hc.1] at hc; cases hc.2
theorem hG_in (hz : hS 0 = h) : ∀ k, (∀ j, j < k → ch j id = false → hS (j + 1) id = hS j id) → (∀ j, j < k → D j = false → ch j id = false) → hG h ch hS D k id = hS k id
  | 0, _, _ => by simp only [hG, hz]
  | k + 1, h1, h2 => by
    have ih := hG_in hz k (fun j a => h1 j (by omega)) (fun j a => h2 j (by omega))
    simp only [hG]
    cases hc : ch k id with
    | true =>
      cases hd : D k with
      | true => simp
      | false => rw [h2 k (Nat.lt_succ_self k) hd] at hc; cases hc
    | false => simp only [Bool.and_false, Bool.false_eq_true, if_false]; rw [ih, h1 k (Nat.lt_succ_self k) hc]
theorem hG_add {i : Nat} (hi : D i = false) : ∀ k, i < k → (∀ j, i < j → j < k → D j = true → ch i id = true → ch j id = false) → hG h ch hS (add D i) k id = if ch i id then hS (i + 1) id else hG h ch hS D k id
  | 0, h1, _ => by omega
  | k + 1, h1, hh => by
    by_cases e : i = k
    · subst e
      have hc : ∀ m, m ≤ i → hG h ch hS (add D i) m id = hG h ch hS D m id := by
        intro m
        induction m with
        | zero => intro _; rfl
        | succ m ih =>
          intro hm
          have : (m == i) = false := by simp; omega
          simp only [hG, add, this, Bool.or_false]
          rw [ih (by omega)]
      simp only [hG, hi, Bool.false_and, Bool.false_eq_true, if_false, hc i (Nat.le_refl _)]
      simp [add]
    · have ih := hG_add hi k (by omega) fun j a b => hh j a (by omega)
      have : (k == i) = false := by simp; exact fun h => e h.symm
      simp only [hG, add, this, Bool.or_false]
      rw [ih]
      cases hc : ch i id with
      | false => simp
      | true =>
        simp only [if_true]
        rw [if_neg fun hh' => ?_]
        simp only [Bool.and_eq_true] at hh'
        rw [hh k (by omega) (Nat.lt_succ_self k) hh'.1 hc] at hh'; cases hh'.2
end

theorem Sim.put {ρ ρ' : Rho} {g f' : AH} {w w' : World} {n i : Nat} {b : Blk} {W : Nat → Prop} (s : Sim ρ g w) (c : Cx ⟨ρ, w, W, n, n⟩ ρ' w') (hW : ∀ j, W j → j = i) (hb : g i = some b) (hw : b.wr = true)
    (s' : Sim ρ' f' w') : Sim ρ' (fun j => if j = i then f' j else g j) w' := by
  have e := c.ext (fun i h1 h2 => by omega)
  have keep : ∀ j bj, j ≠ i → g j = some bj → ∃ r, ρ j = some r ∧ ρ' j = some r ∧ BlkAt ρ' w' r bj := fun j bj hj hg => by
    obtain ⟨r, h1, h2⟩ := s.lies j bj hg
    refine ⟨r, h1, e j r h1, ?_⟩
    by_cases hne : bj.wr = true ∨ bj.cells ≠ []
    · refine h2.keep e (c.blk _ (h2.lt hne) fun k rk hk hwk hrk => ?_)
      have := hW k hwk; subst this
      exact s.inj k j b bj rk r hb hg (Ne.symm hj) hw hne hrk h1
    · refine ⟨fun k c hk => ?_, fun hb' => absurd (Or.inl hb') hne, fun _ _ hc => absurd (Or.inr hc) hne⟩
      have : bj.cells = [] := by simpa using fun hc => hne (.inr hc)
      simp [this] at hk
  obtain ⟨rb, hrb, _⟩ := s.lies i b hb
  have hrb' := e i rb hrb
  refine ⟨fun j bj hj => ?_, fun j k bj bk rj rk hj hk hjk hwr hne hrj hrk => ?_⟩
  · split at hj
    · exact s'.lies j bj hj
    · rename_i hne
      obtain ⟨r, _, h2, h3⟩ := keep j bj hne hj
      exact ⟨r, h2, h3⟩
  · split at hj <;> split at hk
    · rename_i h1 h2; exact absurd (h1.trans h2.symm) hjk
    · rename_i h1 h2
      subst h1
      rw [hrb'] at hrj; cases hrj
      obtain ⟨r, q1, q2, _⟩ := keep k bk h2 hk
      rw [q2] at hrk; cases hrk
      exact s.inj j k b bk _ _ hb hk hjk hw hne hrb q1
    · rename_i h1 h2
      subst h2
      rw [hrb'] at hrk; cases hrk
      obtain ⟨r, q1, q2, _⟩ := keep j bj h1 hj
      rw [q2] at hrj; cases hrj
      exact s.inj j k bj b _ _ hj hb hjk hwr (.inl hw) q1 hrb
    · rename_i h1 h2
      obtain ⟨r, q1, q2, _⟩ := keep j bj h1 hj
      obtain ⟨r', q1', q2', _⟩ := keep k bk h2 hk
      rw [q2] at hrj; cases hrj
      rw [q2'] at hrk; cases hrk
      exact s.inj j k bj bk _ _ hj hk hjk hwr hne q1 q1'

theorem one_tch {o : O} (h : o.one = true) : o.wrs = true ∧ o.mk = false ∧ o.rh = false ∧ o.isLd = false := by cases o <;> first | (cases h; done) | exact ⟨rfl, rfl, rfl, rfl⟩
theorem ld_tch {o : O} (h : o.isLd = true) : o.rh = true ∧ o.mk = false ∧ o.wrs = false ∧ o.one = false := by cases o <;> first | (cases h; done) | exact ⟨rfl, rfl, rfl, rfl⟩

theorem xops_draw4 {P : Program} {n0 : Nat} {W : Nat → Prop} (ops : Array Oper) (l' : List OO) {t : List AV} {h : AH} {n : Nat} {K : List AV → AH → Nat → Prop}
    (hc : ∃ l0, compOps P ops ops.toList = some l0 ∧ Ups l0 l') (hok : okDraw4 ops l' = true) (hx : xops P n0 W true l' t h n fun t h n => CH (pairs4 ops l') t ∧ K t h n) :
    ∃ t' h' n', K t' h' n' ∧ n ≤ n' ∧ ∀ (G : Gx) (a : Act) (w : World), G.W = W → G.n0 = n0 → n' ≤ G.n1 → S G t h n a w →
      wpAny P .any ops (fun e' a' w' => e' = .normal ∧ S G t' h' n' a' w') ops.size (Array.replicate ops.size false) a w := by
  obtain ⟨tS, hS, nS, vS, e1, e2, e3, ⟨ech, e4⟩, e5⟩ := xops_trace ops ops.toList 0 l' t h n _ (fun i o hi => by simpa using hi) hc hx
  have ok := OkD4.of hok
  rw [Array.length_toList] at e4 ech
  have hlen : l'.length = ops.size := by obtain ⟨l0, hc, hu⟩ := hc; rw [hu.len]; simpa using compOps_length hc
  have step : ∀ i (hi : i < ops.size), ∃ x, l'[i]? = some x ∧ StepAt P n0 W true ops tS hS nS vS i ops[i] x := fun i hi => by
    obtain ⟨x, hx⟩ := ok.at_ i hi
    exact ⟨x, hx, e5 i _ x (by simp [hi]) hx⟩
  have hm : ∀ j, j < ops.size → nS j ≤ nS (j + 1) := fun j hj => by obtain ⟨x, _, hs⟩ := step j hj; exact hs.2.2.1
  refine ⟨_, _, _, e4, by rw [← e3]; exact mono_of hm _ (Nat.zero_le _) (Nat.le_refl _), fun G a w hGW hGn hG1 hS0 => ?_⟩
  let N := ops.size
  have hG1' : nS N ≤ G.n1 := hG1
  let dst : Nat → Option Nat := fun i => (l'[i]?).bind (·.dst)
  let blk : Nat → Option Nat := fun i => match l'[i]? with
    | some x => if x.o.one && !barAt ops l' i then (match ev (tS i) x.o.adr with | .ptr b _ => some b | _ => none) else none
    | none => none
  let big : Nat → Bool := fun i => match l'[i]? with
    | some x => x.tch && barAt ops l' i
    | none => false
  let ch : Nat → Nat → Bool := fun i id => big i || (decide (nS i ≤ id) && decide (id < nS (i + 1))) || decide (blk i = some id)
  have hfar : ∀ k, k ≤ N → ∀ i, nS k ≤ i → hS k i = h i := by
    intro k
    induction k with
    | zero => intro _ i _; rw [e2]
    | succ k ih =>
      intro hk i hi
      obtain ⟨x, hx, _, _, g3, _, hst⟩ := step k (by omega)
      rw [← ih (by omega) i (by omega)]
      rcases hst with ⟨_, _, _, _, _, g1, _⟩ | ⟨_, hst, _⟩
      · rw [g1]
      · exact hst.far i hi
  have hz0 : ∀ i, n ≤ i → i < G.n1 → h i = none := fun i h1 h2 => by
    obtain ⟨ρ, _, _, hs, hf, _⟩ := hS0
    cases hb : h i with
    | none => rfl
    | some b => obtain ⟨r, hr, _⟩ := hs.lies i b hb; rw [hf i h1 h2] at hr; cases hr
  have nbound : ∀ k, k ≤ N → n ≤ nS k ∧ nS k ≤ nS N := fun k hk => ⟨by rw [← e3]; exact mono_of hm k (Nat.zero_le _) hk, mono_of hm N hk (Nat.le_refl _)⟩
  have told : ∀ k, k ≤ N → ∀ id b, hS k id = some b → id < nS k ∨ G.n1 ≤ id := fun k hk id b hb => by
    rcases Nat.lt_or_ge id (nS k) with h1 | h1
    · exact .inl h1
    · rcases Nat.lt_or_ge id G.n1 with h2 | h2
      · rw [hfar k hk id h1, hz0 id (by have := nbound k hk; omega) h2] at hb; cases hb
      · exact .inr h2
  have idleAt : ∀ j y, j < N → l'[j]? = some y → y.tch = false → hS (j + 1) = hS j ∧ nS (j + 1) = nS j := fun j y hj hy ht => by
    simp only [OO.tch, Bool.or_eq_false_iff] at ht
    obtain ⟨x, hx, _, _, _, _, hst⟩ := step j hj
    rw [hy] at hx; cases hx
    rcases hst with ⟨_, _, _, _, _, q1, q2⟩ | ⟨_, hst, _⟩
    · exact ⟨q1, q2⟩
    · exact hst.idle ht.2 ht.1.2
  have ldAt : ∀ j y, j < N → l'[j]? = some y → y.o.isLd = true → hS (j + 1) = hS j ∧ nS (j + 1) = nS j := fun j y hj hy hl => by
    obtain ⟨x, hx, _, _, _, _, hst⟩ := step j hj
    rw [hy] at hx; cases hx
    obtain ⟨l1, l2, l3, l4⟩ := ld_tch hl
    rcases hst with ⟨_, _, _, _, _, q1, q2⟩ | ⟨_, hst, _⟩
    · exact ⟨q1, q2⟩
    · exact hst.idle l3 l2
  have oneAt : ∀ j y, j < N → l'[j]? = some y → y.o.one = true → y.g = none → ∃ i k b W', ev (tS j) y.o.adr = .ptr i k ∧ i < nS j ∧ hS j i = some b ∧ b.wr = true ∧ (∀ m, W' m → m = i) ∧ (∀ m, m ≠ i → hS (j + 1) m = hS j m) ∧ nS (j + 1) = nS j ∧
      RO P W' ops[j]! y.o.reads (tS j) (hS j) (nS j) (vS j) (hS (j + 1)) (nS (j + 1)) ∧ (∀ m, m < nS j → W' m → n0 ≤ m ∨ W m) := fun j y hj hy ho hg => by
    obtain ⟨x, hx, _, _, _, _, hst⟩ := step j hj
    rw [hy] at hx; cases hx
    obtain ⟨o1, o2, o3, o4⟩ := one_tch ho
    rcases hst with ⟨_, _, hg', _⟩ | ⟨_, hst, _⟩
    · rw [hg] at hg'; cases hg'
    · cases hst with
      | own new hr hh hm hw => rw [o1] at hw; cases hw
      | read hr hl hm hrh hw hb => rw [o1] at hw; cases hw
      | write W' hr hp hf hw hb =>
        obtain ⟨i, k, b, q1, q2, q3, q4, q5, q6, q7⟩ := hb ho
        refine ⟨i, k, b, W', q1, q2, q3, q4, q5, q6, q7, ?_, hp⟩
        have : ops[j]! = ops[j] := by simp only [N] at hj; simp [hj]
        rw [this]; exact hr
      | free W' hr hp hd _ => cases hd
  have blkAt : ∀ j y, j < N → l'[j]? = some y → y.o.one = true → y.g = none → barAt ops l' j = false → ∃ i k b, ev (tS j) y.o.adr = .ptr i k ∧ blk j = some i ∧ hS j i = some b := fun j y hj hy ho hg hb => by
    obtain ⟨i, k, b, _, q1, _, q3, _⟩ := oneAt j y hj hy ho hg
    refine ⟨i, k, b, q1, ?_, q3⟩
    simp only [blk, hy, ho, hb, Bool.not_false, Bool.and_self, if_true, q1]
  have blkNone : ∀ j y, l'[j]? = some y → y.o.one = false → blk j = none := fun j y hy ho => by simp only [blk, hy, ho, Bool.false_and, Bool.false_eq_true, if_false]
  have bigNone : ∀ j y, l'[j]? = some y → (y.tch = false ∨ barAt ops l' j = false) → big j = false := fun j y hy ho => by
    rcases ho with ho | ho <;> simp only [big, hy, ho, Bool.false_and, Bool.and_false]
  have chIdle : ∀ j y, j < N → l'[j]? = some y → y.tch = false → ∀ id, ch j id = false := fun j y hj hy ht id => by
    obtain ⟨_, q⟩ := idleAt j y hj hy ht
    have ho : y.o.one = false := by
      cases ho : y.o.one with
      | false => rfl
      | true => have := one_tch ho; simp [OO.tch, this.1] at ht
    simp only [ch, bigNone j y hy (.inl ht), blkNone j y hy ho, q, Bool.false_or, Bool.or_eq_false_iff, Bool.and_eq_false_iff, decide_eq_false_iff_not]
    refine ⟨by omega, by simp⟩
  have chLd : ∀ j y, j < N → l'[j]? = some y → y.o.isLd = true → barAt ops l' j = false → ∀ id, ch j id = false := fun j y hj hy hl hb id => by
    obtain ⟨_, q⟩ := ldAt j y hj hy hl
    simp only [ch, bigNone j y hy (.inr hb), blkNone j y hy (ld_tch hl).2.2.2, q, Bool.false_or, Bool.or_eq_false_iff, Bool.and_eq_false_iff, decide_eq_false_iff_not]
    refine ⟨by omega, by simp⟩
  have chMk : ∀ j y, j < N → l'[j]? = some y → y.o.one = false → (y.tch = false ∨ barAt ops l' j = false) → ∀ id, ch j id = (decide (nS j ≤ id) && decide (id < nS (j + 1))) := fun j y hj hy ho hb id => by
    simp only [ch, bigNone j y hy hb, blkNone j y hy ho, Bool.false_or]; simp
  have chOne : ∀ j y b, j < N → l'[j]? = some y → y.o.one = true → y.g = none → barAt ops l' j = false → blk j = some b → ∀ id, ch j id = decide (b = id) := fun j y b hj hy ho hg hb hbl id => by
    obtain ⟨_, _, _, _, _, _, _, _, _, _, q, _⟩ := oneAt j y hj hy ho hg
    simp only [ch, bigNone j y hy (.inr hb), hbl, q, Bool.false_or]
    have : (decide (nS j ≤ id) && decide (id < nS j)) = false := by simp
    rw [this, Bool.false_or]; simp
  have left : ∀ j, j < N → ∀ id, ch j id = false → hS (j + 1) id = hS j id := fun j hj id hc => by
    obtain ⟨y, hy⟩ := ok.at_ j hj
    rcases ok.cls j y hj hy with ht | ⟨hb, ht⟩ | ⟨h1, h2, h3, h4⟩ | ⟨h1, h2, h3⟩ | ⟨h1, h2, h3⟩
    · rw [(idleAt j y hj hy ht).1]
    · simp [ch, big, hy, hb, ht] at hc
    · have ho : y.o.one = false := by
        cases ho : y.o.one with
        | false => rfl
        | true => have := one_tch ho; rw [h3] at this; cases this.1
      rw [chMk j y hj hy ho (.inr h4)] at hc
      obtain ⟨x, hx, _, _, g3, _, hst⟩ := step j hj
      rw [hy] at hx; cases hx
      rcases hst with ⟨_, _, _, _, _, g1, _⟩ | ⟨_, hst, _⟩
      · rw [g1]
      · refine hst.loc h3 id ?_
        simp only [Bool.and_eq_false_iff, decide_eq_false_iff_not] at hc
        omega
    · rw [(ldAt j y hj hy h1).1]
    · obtain ⟨i, k, b, q1, q2, q3⟩ := blkAt j y hj hy h1 h2 h3
      rw [chOne j y i hj hy h1 h2 h3 q2] at hc
      obtain ⟨i', k', b', W', r1, r2, r3, r4, r5, r6, r7⟩ := oneAt j y hj hy h1 h2
      rw [q1] at r1; cases r1
      exact r6 id fun e => by simp [e] at hc
  have tall : ∀ k, k ≤ N → tD (tS 0) dst vS (fun _ => true) k = tS k := by
    intro k
    induction k with
    | zero => intro _; rfl
    | succ k ih =>
      intro hk
      obtain ⟨x, hx, g1, g2, _⟩ := step k (by omega)
      simp only [tD, if_true]
      rw [ih (by omega), g2]
      congr 1
      simp only [dst, hx, Option.bind_some, g1]
  have stay : ∀ i a, i ≤ N → keepA l' i a = true → ev (tS N) a = ev (tS i) a := by
    intro i a hi hk
    cases a with
    | c v => rfl
    | f k => rfl
    | t s =>
      simp only [ev]
      have : ∀ k, i ≤ k → k ≤ N → (tS k).getD s .any = (tS i).getD s .any := by
        intro k
        induction k with
        | zero => intro h1 _; rw [Nat.le_zero.1 h1]
        | succ k ih =>
          intro h1 h2
          by_cases e : i = k + 1
          · rw [e]
          · rw [← ih (by omega) (by omega)]
            obtain ⟨x, hx, g1, g2, _⟩ := step k (by omega)
            rw [g2]
            refine setD_getD ?_
            have := List.all_eq_true.1 hk k (List.mem_range.2 (by rw [hlen]; exact (show k < N by omega)))
            rw [hx, decide_eq_false (show ¬ k < i by omega)] at this
            simp only [Bool.false_or, decide_eq_true_eq] at this
            rw [← g1]; exact this
      exact this N hi (Nat.le_refl _)
  have apart : ∀ i j x y, i < N → j < N → l'[i]? = some x → l'[j]? = some y → x.o.one = true → x.g = none → y.o.isLd = true → barAt ops l' i = false → barAt ops l' j = false → j < i → dep ops i j = false → ∀ id k, ev (tS j) y.o.adr = .ptr id k → blk i ≠ some id := by
    intro i j x y hi hj hx hy hw hg hr hb1 hb2 hji hd id k hev hbl
    obtain ⟨k1, k2⟩ := (ok.pr i j x y hi hj hx hy hb1 hb2 hji).2.2.2.2 hw hr hd
    have hmem : (x.o.adr, y.o.adr) ∈ pairs4 ops l' := by
      simp only [pairs4, List.mem_flatMap, List.mem_range]
      refine ⟨i, hi, ?_⟩
      rw [hx]
      simp only [pairs4At, hw, hb1, Bool.not_false, Bool.and_self, if_true, List.mem_filterMap, List.mem_range]
      exact ⟨j, hji, by rw [hy]; simp [hr, hb2, hd]⟩
    have hne := CH.of ech _ hmem
    simp only at hne
    rw [stay i _ (Nat.le_of_lt hi) k1, stay j _ (Nat.le_of_lt hj) k2, hev] at hne
    obtain ⟨i', k', b, q1, q2, _⟩ := blkAt i x hi hx hw hg hb1
    rw [q1] at hne
    rw [q2] at hbl; cases hbl
    exact hne rfl
  let Inv (D : Nat → Bool) (a : Act) (w : World) : Prop := ∃ ρ, IsL ρ (tD (tS 0) dst vS D N) a.tmps.toList ∧ a.defers = [] ∧ Sim ρ (hG (hS 0) ch hS D N) w ∧
    (∀ k, k < N → D k = false → ∀ i, nS k ≤ i → i < nS (k + 1) → ρ i = none) ∧ (∀ i, nS N ≤ i → i < G.n1 → ρ i = none) ∧ G.n0 ≤ n ∧ Cx G ρ w
  have one : ∀ (D : Nat → Bool) (i : Nat) (hi : i < N) (a : Act) (w : World) (Kr : Act → World → Prop) (Qr : Exit → Act → World → Prop), D i = false → Down ops D → (∀ e ∈ ops[i].after, Region.binds .any e = true → D e.on = true) → Inv D a w →
      (∀ a' w', Inv (add D i) a' w' → Kr a' w') → wpOp P ops Qr i Kr a w := by
    intro D i hi a w Kr Qr hDi hdown hready hinv hK
    have hpre : ∀ j, dep ops i j = true → D j = true := hdown.dep i ops[i] (by simp [N] at hi; simp [hi]) hready
    obtain ⟨x, hx, g1, g2, g3, g4, hst⟩ := step i hi
    obtain ⟨ρ, p1, p2, p3, p4, p5, p6, p7⟩ := hinv
    have hdstx : dst i = ops[i].dst := by simp only [dst, hx, Option.bind_some, g1]
    have hti := tD_add (t := tS 0) (v := vS) (dst := dst) hDi N fun j hj hji s hs hjs => by
      obtain ⟨y, hy⟩ := ok.at_ j hj
      exact ok.dst i j x y s hi hj hx hy (Ne.symm hji) (by simpa [dst, hx] using hs) (by simpa [dst, hy] using hjs)
    rw [if_pos hi] at hti
    have notD : ∀ j, j < N → D j = true → dep ops j i = true → False := fun j hj hDj hd => by
      have := hdown.dep j ops[j] (by simp [N] at hj; simp [hj]) (hdown j _ (by simp [N] at hj; simp [hj]) hDj) i hd
      rw [hDi] at this; cases this
    have hlook : ∀ s ∈ x.looks, (tS i).getD s .any = (tD (tS 0) dst vS D N).getD s .any := fun s hs => by
      rw [← tall i (Nat.le_of_lt hi)]
      by_cases hex : ∃ j, j < N ∧ dst j = some s
      · obtain ⟨j, hj, hjs⟩ := hex
        obtain ⟨y, hy⟩ := ok.at_ j hj
        have hu : ∀ k, k < N → dst k = some s → k = j := fun k hk hks => by
          obtain ⟨z, hz⟩ := ok.at_ k hk
          rcases Nat.decEq k j with hkj | hkj
          · exact absurd (by simpa [dst, hy] using hjs) (ok.dst k j z y s hk hj hz hy hkj (by simpa [dst, hz] using hks))
          · exact hkj
        rcases ok.look i x hi hx s hs j y hj hy (by simpa [dst, hy] using hjs) with hd | hd
        · have hji := ok.dep_lt i j hi hd
          by_cases hsl : s < (tS 0).length
          · rw [tD_some hsl rfl hjs i hji (fun k hk => hu k (by omega)), tD_some hsl (hpre j hd) hjs N hj hu]
          · simp [List.getD, List.getElem?_eq_none, tD_length, Nat.le_of_not_lt hsl]
        · have hij := ok.dep_lt j i hj hd
          have hDj : D j = false := by
            cases hDj : D j with
            | false => rfl
            | true => exact (notD j hj hDj hd).elim
          rw [tD_none i fun k hk _ hks => by have := hu k (by omega) hks; omega, tD_none N fun k hk hDk hks => by rw [hu k hk hks, hDj] at hDk; cases hDk]
      · have hno : ∀ j, j < N → dst j ≠ some s := fun j hj h => hex ⟨j, hj, h⟩
        rw [tD_none i fun j hj _ => hno j (by omega), tD_none N fun j hj _ => hno j hj]
    have hrel : Rel ρ x.looks (tS i) a := fun d hd => by rw [hlook d hd]; exact Rel.of_all p1 d hd
    have hrel' : Rel ρ x.o.reads (tS i) a := fun d hd => hrel d (by simp only [OO.looks, List.mem_append]; exact .inl hd)
    have fresh : ∀ id, nS i ≤ id → id < nS (i + 1) → ρ id = none := p4 i hi hDi
    have nb := nbound i (Nat.le_of_lt hi)
    have nb' := nbound (i + 1) hi
    have fin : ∀ (rv : Value) (ρ' : Rho) (w' : World), Is ρ' (vS i) rv → Sim ρ' (hG (hS 0) ch hS (add D i) N) w' → (∃ W' : Nat → Prop, Cx ⟨ρ, w, W', nS i, nS (i + 1)⟩ ρ' w' ∧ ∀ j, j < nS i → W' j → G.n0 ≤ j ∨ G.W j) →
        Kr (a.put ops[i].dst rv) w' := fun rv ρ' w' h1 h2 ⟨W', h3, h4⟩ => by
      refine hK _ _ ⟨ρ', ?_, by rw [Act.put_defers']; exact p2, h2, fun k hk hDk id q1 q2 => ?_, fun id q1 q2 => ?_, p6, p7.trans h3 (by omega) g3 (by omega) h4⟩
      · rw [hti, hdstx]
        exact Act.put_tmps (p1.mono (h3.ext fresh)) h1
      · simp only [add, Bool.or_eq_false_iff, beq_eq_false_iff_ne] at hDk
        have ho : ρ id = none := p4 k hk hDk.1 id q1 q2
        rcases Nat.lt_or_ge k i with hki | hki
        · have := mono_of hm (a := k + 1) i (by omega) (Nat.le_of_lt hi)
          rw [h3.old id (by simp only; omega)]; exact ho
        · have := mono_of hm (a := i + 1) k (by omega) (Nat.le_of_lt hk)
          rw [h3.far id (by simp only; omega)]; exact ho
      · rw [h3.far id (by simp only; omega)]; exact p5 id q1 q2
    have later : x.tch = true → barAt ops l' i = true → ∀ j, i < j → j < N → D j = true → ∀ id, ch j id = false := fun ht hb j h1 h2 h3 id => by
      obtain ⟨y, hy⟩ := ok.at_ j h2
      cases hty : y.tch with
      | false => exact chIdle j y h2 hy hty id
      | true => exact (notD j h2 h3 ((barAt_spec hb h2 hy hty (by omega)).2 h1)).elim
    have barLater : x.tch = true → ∀ j y, i < j → j < N → l'[j]? = some y → D j = true → barAt ops l' j = true → y.tch = true → False := fun ht j y h1 h2 hy h3 hb hty =>
      notD j h2 h3 ((barAt_spec hb hi hx ht (by omega)).1 h1)
    have disj : ∀ j, i < j → j < N → D j = true → ∀ id, ch i id = true → ch j id = false := fun j h1 h2 h3 id hc => by
      obtain ⟨y, hy⟩ := ok.at_ j h2
      rcases ok.cls i x hi hx with ht | ⟨hb, ht⟩ | ⟨m1, m2, m3, m4⟩ | ⟨m1, m2, m3⟩ | ⟨m1, m2, m3⟩
      · rw [chIdle i x hi hx ht] at hc; cases hc
      · exact later ht hb j h1 h2 h3 id
      · -- a maker
        have ho : x.o.one = false := by
          cases ho : x.o.one with
          | false => rfl
          | true => have := one_tch ho; rw [m3] at this; cases this.1
        have htx : x.tch = true := by simp [OO.tch, m1]
        rw [chMk i x hi hx ho (.inr m4)] at hc
        simp only [Bool.and_eq_true, decide_eq_true_eq] at hc
        have hmono := mono_of hm (a := i + 1) j (by omega) (Nat.le_of_lt h2)
        rcases ok.cls j y h2 hy with ht | ⟨hb, ht⟩ | ⟨k1, k2, k3, k4⟩ | ⟨k1, k2, k3⟩ | ⟨k1, k2, k3⟩
        · exact chIdle j y h2 hy ht id
        · exact (barLater htx j y h1 h2 hy h3 hb ht).elim
        · have ho' : y.o.one = false := by
            cases ho : y.o.one with
            | false => rfl
            | true => have := one_tch ho; rw [k3] at this; cases this.1
          rw [chMk j y h2 hy ho' (.inr k4)]
          simp only [Bool.and_eq_false_iff, decide_eq_false_iff_not]; omega
        · exact chLd j y h2 hy k1 k3 id
        · exact (notD j h2 h3 ((ok.pr j i y x h2 hi hy hx k3 m4 h1).2.1 k1 m1)).elim
      · rw [chLd i x hi hx m1 m3] at hc; cases hc
      · -- a writer
        obtain ⟨bi, bk, bb, q1, q2, q3⟩ := blkAt i x hi hx m1 m2 m3
        rw [chOne i x bi hi hx m1 m2 m3 q2] at hc
        simp only [decide_eq_true_eq] at hc
        subst hc
        have htx : x.tch = true := by simp [OO.tch, (one_tch m1).1]
        rcases ok.cls j y h2 hy with ht | ⟨hb, ht⟩ | ⟨k1, k2, k3, k4⟩ | ⟨k1, k2, k3⟩ | ⟨k1, k2, k3⟩
        · exact chIdle j y h2 hy ht bi
        · exact (barLater htx j y h1 h2 hy h3 hb ht).elim
        · have ho' : y.o.one = false := by
            cases ho : y.o.one with
            | false => rfl
            | true => have := one_tch ho; rw [k3] at this; cases this.1
          rw [chMk j y h2 hy ho' (.inr k4)]
          simp only [Bool.and_eq_false_iff, decide_eq_false_iff_not]
          have hmono := mono_of hm (a := i) j (by omega) (Nat.le_of_lt h2)
          have hb1 := nbound (j + 1) h2
          rcases told i (Nat.le_of_lt hi) bi bb q3 with h | h <;> omega
        · exact chLd j y h2 hy k1 k3 bi
        · exact (notD j h2 h3 ((ok.pr j i y x h2 hi hy hx k3 m3 h1).1 k1 m1)).elim
    have post : ∀ id, hG (hS 0) ch hS (add D i) N id = if ch i id then hS (i + 1) id else hG (hS 0) ch hS D N id := fun id => hG_add hDi N hi fun j h1 h2 h3 h4 => disj j h1 h2 h3 id h4
    have agree : ∀ id, (∀ j, j < i → D j = false → ch j id = false) → (∀ j, i < j → j < N → D j = true → ch j id = false) → hG (hS 0) ch hS D N id = hS i id := fun id h1 h2 => by
      rw [hG_out (i := i) N (Nat.le_of_lt hi) fun j a b c => ?_, hG_in rfl i (fun j a b => left j (by omega) id b) h1]
      by_cases e : j = i
      · subst e; rw [hDi] at c; cases c
      · exact h2 j (by omega) b c
    have turn : x.tch = true → barAt ops l' i = true → hG (hS 0) ch hS D N = hS i ∧ hG (hS 0) ch hS (add D i) N = hS (i + 1) := fun ht hb => by
      have h1 : hG (hS 0) ch hS D N = hS i := by
        funext id
        refine agree id (fun j hj hDj => ?_) fun j a b c => later ht hb j a b c id
        have hjN : j < N := by omega
        obtain ⟨y, hy⟩ := ok.at_ j hjN
        cases hty : y.tch with
        | false => exact chIdle j y hjN hy hty id
        | true => have := hpre j ((barAt_spec hb hjN hy hty (by omega)).1 hj); rw [hDj] at this; cases this
      refine ⟨h1, funext fun id => ?_⟩
      rw [post id, if_pos (by simp [ch, big, hx, ht, hb])]
    unfold wpOp
    have hoi : ops[i]? = some ops[i] := by simp [N] at hi; simp [hi]
    rw [hoi]
    simp only
    rcases hst with ⟨s, b, hgx, hts, hv, hh, hn⟩ | ⟨hgd, hst, _⟩
    · -- left out
      rcases g4 with ⟨_, hno⟩ | ⟨j, want, s', ho1, ho2, ho3⟩
      · rw [hgx] at hno; cases hno
      · rw [hgx] at ho3; cases ho3
        have hsl : s ∈ x.looks := by simp [OO.looks, hgx]
        have hnw : ¬ Region.wanted ops[i] (yielded ops a.tmps) = true := by
          rcases hts with hts | hts
          · have hb := IsL.bool_at p1 (by rw [← hlook s hsl]; exact hts)
            simp [Region.wanted, ho1, yielded, ho2, hb]
          · have hb := IsL.off_at p1 (by rw [← hlook s hsl]; exact hts)
            simp [Region.wanted, ho1, yielded, ho2, hb]
        rw [if_neg hnw]
        refine fin undef ρ w (by rw [hv]; exact is_off ρ) ?_ ⟨none', Cx.refl ρ w _ _ _ fresh, fun _ _ h => h.elim⟩
        have same : (∀ id, ch i id = false) → Sim ρ (hG (hS 0) ch hS (add D i) N) w := fun hf => by
          have : hG (hS 0) ch hS (add D i) N = hG (hS 0) ch hS D N := funext fun id => by rw [post id, hf id]; simp
          rw [this]; exact p3
        rcases ok.cls i x hi hx with ht | ⟨hb, ht⟩ | ⟨m1, m2, m3, m4⟩ | ⟨m1, m2, m3⟩ | ⟨m1, m2, m3⟩
        · exact same fun id => chIdle i x hi hx ht id
        · obtain ⟨q1, q2⟩ := turn ht hb
          rw [q2, hh, ← q1]; exact p3
        · have ho : x.o.one = false := by
            cases ho : x.o.one with
            | false => rfl
            | true => have := one_tch ho; rw [m3] at this; cases this.1
          refine same fun id => ?_
          rw [chMk i x hi hx ho (.inr m4), hn]
          simp only [Bool.and_eq_false_iff, decide_eq_false_iff_not]; omega
        · rw [hgx] at m2; cases m2
        · rw [hgx] at m2; cases m2
    · have hwant : Region.wanted ops[i] (yielded ops a.tmps) = true := by
        rcases g4 with ⟨ho1, _⟩ | ⟨j, want, s, ho1, ho2, ho3⟩
        · simp [Region.wanted, ho1]
        · rcases hgd with hno | ⟨s', b, hs', hts⟩
          · rw [hno] at ho3; cases ho3
          · rw [hs'] at ho3; cases ho3
            have hsl : s ∈ x.looks := by simp [OO.looks, hs']
            have hb := IsL.bool_at p1 (by rw [← hlook s hsl]; exact hts)
            simp [Region.wanted, ho1, yielded, ho2, hb]
      rw [if_pos hwant]
      refine .inl ?_
      have ownCase : ∀ new : AH, RO P none' ops[i] x.o.reads (tS i) emp (nS i) (vS i) new (nS (i + 1)) → hS (i + 1) = mix (nS i) (nS (i + 1)) (hS i) new →
          (∀ id, ch i id = (decide (nS i ≤ id) && decide (id < nS (i + 1)))) → ops[i].wp P a w Kr Qr := fun new hr hh hch => by
        refine hr.2 ρ a w Kr Qr hrel' (Sim.emp _ _) fresh fun rv ρ' w' q1 q2 q3 => fin rv ρ' w' q1 ?_ ⟨none', q3, fun _ _ h => h.elim⟩
        have := p3.mix q3 fresh q2
        have he : hG (hS 0) ch hS (add D i) N = mix (nS i) (nS (i + 1)) (hG (hS 0) ch hS D N) new := by
          funext id
          rw [post id, hch id]
          by_cases hr' : nS i ≤ id ∧ id < nS (i + 1)
          · rw [if_pos (by simp [hr'.1, hr'.2]), hh]; simp only [mix]; rw [if_pos hr', if_pos hr']
          · rw [if_neg (by simpa using hr')]; simp only [mix]; rw [if_neg hr']
        rw [he]; exact this
      rcases ok.cls i x hi hx with ht | ⟨hb, ht⟩ | ⟨m1, m2, m3, m4⟩ | ⟨m1, m2, m3⟩ | ⟨m1, m2, m3⟩
      · have ht' := ht
        simp only [OO.tch, Bool.or_eq_false_iff] at ht'
        cases hst with
        | own new hr hh hmk hw =>
          refine ownCase new hr hh (chMk i x hi hx ?_ (.inl ht))
          cases ho : x.o.one with
          | false => rfl
          | true => have := one_tch ho; rw [ht'.2] at this; cases this.1
        | read hr hl hmk hrh hw => rw [ht'.1.1] at hrh; cases hrh
        | write W' hr hp hf hw => rw [ht'.2] at hw; cases hw
        | free W' hr hp hd _ => cases hd
      · obtain ⟨q1, q2⟩ := turn ht hb
        obtain ⟨W', hr, hp⟩ := hst.ro
        exact hr.2 ρ a w Kr Qr hrel' (by rw [← q1]; exact p3) fresh fun rv ρ' w' r1 r2 r3 => fin rv ρ' w' r1 (by rw [q2]; exact r2) ⟨W', r3, by rw [hGn, hGW]; exact hp⟩
      · have ho : x.o.one = false := by
          cases ho : x.o.one with
          | false => rfl
          | true => have := one_tch ho; rw [m3] at this; cases this.1
        cases hst with
        | own new hr hh hmk hw => exact ownCase new hr hh (chMk i x hi hx ho (.inr m4))
        | read hr hl hmk hrh hw => rw [m2] at hrh; cases hrh
        | write W' hr hp hf hw => rw [m3] at hw; cases hw
        | free W' hr hp hd _ => cases hd
      · obtain ⟨l1, l2, l3, l4⟩ := ld_tch m1
        have htx : x.tch = true := by simp [OO.tch, l1]
        cases hst with
        | own new hr hh hmk hw => exact ownCase new hr hh (chMk i x hi hx l4 (.inr m3))
        | read hr hl hmk hrh hw hbl =>
          obtain ⟨id, k, b, hev, hbk, hh, hn, hall⟩ := hbl m1
          have hcell : hG (hS 0) ch hS D N id = hS i id := by
            refine agree id (fun j hj hDj => ?_) fun j hj hjN hDj => ?_
            · have hjN : j < N := by omega
              obtain ⟨y, hy⟩ := ok.at_ j hjN
              rcases ok.cls j y hjN hy with ht | ⟨hb, ht⟩ | ⟨k1, k2, k3, k4⟩ | ⟨k1, k2, k3⟩ | ⟨k1, k2, k3⟩
              · exact chIdle j y hjN hy ht id
              · have := hpre j ((barAt_spec hb hi hx htx (by omega)).2 hj); rw [hDj] at this; cases this
              · have := hpre j ((ok.pr i j x y hi hjN hx hy m3 k4 hj).2.2.1 m1 k1); rw [hDj] at this; cases this
              · exact chLd j y hjN hy k1 k3 id
              · have := hpre j ((ok.pr i j x y hi hjN hx hy m3 k3 hj).2.2.2.1 m1 k1); rw [hDj] at this; cases this
            · obtain ⟨y, hy⟩ := ok.at_ j hjN
              rcases ok.cls j y hjN hy with ht | ⟨hb, ht⟩ | ⟨k1, k2, k3, k4⟩ | ⟨k1, k2, k3⟩ | ⟨k1, k2, k3⟩
              · exact chIdle j y hjN hy ht id
              · exact (barLater htx j y hj hjN hy hDj hb ht).elim
              · have ho' : y.o.one = false := by
                  cases ho : y.o.one with
                  | false => rfl
                  | true => have := one_tch ho; rw [k3] at this; cases this.1
                rw [chMk j y hjN hy ho' (.inr k4)]
                simp only [Bool.and_eq_false_iff, decide_eq_false_iff_not]
                have hmono := mono_of hm (a := i) j (by omega) (Nat.le_of_lt hjN)
                have hb1 := nbound (j + 1) hjN
                rcases told i (Nat.le_of_lt hi) id b hbk with h | h <;> omega
              · exact chLd j y hjN hy k1 k3 id
              · obtain ⟨bi, bk', bb, q1, q2, q3⟩ := blkAt j y hjN hy k1 k2 k3
                rw [chOne j y bi hjN hy k1 k2 k3 q2]
                simp only [decide_eq_false_iff_not]
                intro e; subst e
                cases hd : dep ops j i with
                | true => exact notD j hjN hDj hd
                | false => exact apart j i y x hjN hi hy hx k1 k2 m1 k3 m3 hj hd bi k hev q2
          have hro := hall (hG (hS 0) ch hS D N) (by rw [hcell]; exact hbk)
          refine hro.2 ρ a w Kr Qr hrel' p3 (fun id h1 h2 => by omega) fun rv ρ' w' q1 q2 q3 => fin rv ρ' w' q1 ?_ ⟨none', by rw [hn]; exact q3, fun _ _ h => h.elim⟩
          have : hG (hS 0) ch hS (add D i) N = hG (hS 0) ch hS D N := funext fun id => by rw [post id, chLd i x hi hx m1 m3]; simp
          rw [this]; exact q2
        | write W' hr hp hf hw => rw [l3] at hw; cases hw
        | free W' hr hp hd _ => cases hd
      · obtain ⟨id, k, b, W', q1, q2, q3, q4, q5, q6, q7, hr, hp⟩ := oneAt i x hi hx m1 m2
        obtain ⟨id', k', b', r1, hbl, r3⟩ := blkAt i x hi hx m1 m2 m3
        rw [q1] at r1; cases r1
        have htx : x.tch = true := by simp [OO.tch, (one_tch m1).1]
        have hoi' : ops[i]! = ops[i] := by simp only [N] at hi; simp [hi]
        rw [hoi'] at hr
        have hsub : ∀ nm c, hS i nm = some c → hG (hS 0) ch hS D N nm = some c := fun nm c hc => by
          rw [← hc]
          refine agree nm (fun j hj hDj => ?_) fun j hj hjN hDj => ?_
          · have hjN : j < N := by omega
            obtain ⟨y, hy⟩ := ok.at_ j hjN
            rcases ok.cls j y hjN hy with ht | ⟨hb, ht⟩ | ⟨k1, k2, k3, k4⟩ | ⟨k1, k2, k3⟩ | ⟨k1, k2, k3⟩
            · exact chIdle j y hjN hy ht nm
            · have := hpre j ((barAt_spec hb hi hx htx (by omega)).2 hj); rw [hDj] at this; cases this
            · have := hpre j ((ok.pr i j x y hi hjN hx hy m3 k4 hj).2.1 m1 k1); rw [hDj] at this; cases this
            · exact chLd j y hjN hy k1 k3 nm
            · have := hpre j ((ok.pr i j x y hi hjN hx hy m3 k3 hj).1 m1 k1); rw [hDj] at this; cases this
          · obtain ⟨y, hy⟩ := ok.at_ j hjN
            rcases ok.cls j y hjN hy with ht | ⟨hb, ht⟩ | ⟨k1, k2, k3, k4⟩ | ⟨k1, k2, k3⟩ | ⟨k1, k2, k3⟩
            · exact chIdle j y hjN hy ht nm
            · exact (barLater htx j y hj hjN hy hDj hb ht).elim
            · have ho' : y.o.one = false := by
                cases ho : y.o.one with
                | false => rfl
                | true => have := one_tch ho; rw [k3] at this; cases this.1
              rw [chMk j y hjN hy ho' (.inr k4)]
              simp only [Bool.and_eq_false_iff, decide_eq_false_iff_not]
              have hmono := mono_of hm (a := i) j (by omega) (Nat.le_of_lt hjN)
              have hb1 := nbound (j + 1) hjN
              rcases told i (Nat.le_of_lt hi) nm c hc with h | h <;> omega
            · exact chLd j y hjN hy k1 k3 nm
            · exact (notD j hjN hDj ((ok.pr j i y x hjN hi hy hx k3 m3 hj).1 k1 m1)).elim
        refine hr.2 ρ a w Kr Qr hrel' (p3.less hsub) fresh fun rv ρ' w' s1 s2 s3 => fin rv ρ' w' s1 ?_ ⟨W', s3, by rw [hGn, hGW]; exact hp⟩
        have hput := p3.put (n := nS i) (by rw [q7] at s3; exact s3) q5 (hsub id b q3) q4 s2
        have he : hG (hS 0) ch hS (add D i) N = fun j => if j = id then hS (i + 1) j else hG (hS 0) ch hS D N j := by
          funext j
          rw [post j, chOne i x id hi hx m1 m2 m3 hbl]
          by_cases e : j = id
          · rw [if_pos (by simp [e]), if_pos e]
          · rw [if_neg (by simpa using fun h => e h.symm), if_neg e]
        rw [he]; exact hput
  have main : ∀ (fuel : Nat) (listed : Array Bool) (a : Act) (w : World), listed.size = N → (List.range N).countP (fun i => !(listed.getD i false)) ≤ fuel → Down ops (fun i => listed.getD i false) → Inv (fun i => listed.getD i false) a w →
      wpAny P .any ops (fun e' a' w' => e' = .normal ∧ S G (tS N) (hS N) (nS N) a' w') fuel listed a w := by
    have hfull : ∀ (listed : Array Bool) (a : Act) (w : World), (∀ i, i < N → listed.getD i false = true) → Inv (fun i => listed.getD i false) a w → S G (tS N) (hS N) (nS N) a w := by
      intro listed a w hall ⟨ρ, p1, p2, p3, p4, p5, p6, p7⟩
      have ht : tD (tS 0) dst vS (fun i => listed.getD i false) N = tS N := by
        rw [← tall N (Nat.le_refl _)]
        have : ∀ k, k ≤ N → tD (tS 0) dst vS (fun i => listed.getD i false) k = tD (tS 0) dst vS (fun _ => true) k := by
          intro k
          induction k with
          | zero => intro _; rfl
          | succ k ih =>
            intro hk
            have hk' : (fun i => listed.getD i false) k = true := hall k (by omega)
            simp only [tD]; rw [if_pos hk', ih (by omega)]; simp
        exact this N (Nat.le_refl _)
      have hh : hG (hS 0) ch hS (fun i => listed.getD i false) N = hS N := funext fun id => hG_in rfl N (fun j hj hc => left j hj id hc) fun j hj hDj => by
        have := hall j hj
        rw [hDj] at this; cases this
      rw [ht] at p1; rw [hh] at p3
      exact ⟨ρ, p1, p2, p3, p5, by have := (nbound N (Nat.le_refl _)).1; omega, p7⟩
    have hready : ∀ (listed : Array Bool), Region.ready .any ops listed = [] → Down ops (fun i => listed.getD i false) → listed.size = N → ∀ i, i < N → listed.getD i false = true := by
      intro listed hr hd hsz i
      induction i using Nat.strongRecOn with
      | _ i ih =>
        intro hi
        cases hl : listed.getD i false with
        | true => rfl
        | false =>
          have hmem : i ∈ Region.ready .any ops listed := by
            rw [mem_ready]
            have hlt : i < listed.size := by rw [hsz]; exact hi
            refine ⟨by simp [hlt] at hl ⊢; exact hl, ops[i], by simp only [N] at hi; simp [hi], fun e he hb => ?_⟩
            have hei := ok.lt i ops[i] (by simp only [N] at hi; simp [hi]) e he hb
            exact ih e.on hei (by omega)
          rw [hr] at hmem; cases hmem
    intro fuel
    induction fuel with
    | zero =>
      intro listed a w hsz hcnt hd hinv
      have hall : ∀ i, i < N → listed.getD i false = true := fun i hi => by
        have := List.countP_eq_zero.1 (Nat.le_zero.1 hcnt) i (List.mem_range.2 hi)
        simpa using this
      refine ⟨?_, rfl, hfull listed a w hall hinv⟩
      cases hr : Region.ready .any ops listed with
      | nil => rfl
      | cons j r =>
        have hj : j ∈ Region.ready .any ops listed := by rw [hr]; simp
        obtain ⟨h1, o, h2, _⟩ := mem_ready.1 hj
        have hlt : j < N := (Array.getElem?_eq_some_iff.1 h2).1
        have := hall j hlt
        have hlt' : j < listed.size := by rw [hsz]; exact hlt
        simp [hlt'] at this h1
        rw [this] at h1; cases h1
    | succ fuel ih =>
      intro listed a w hsz hcnt hd hinv
      refine ⟨fun hr => ⟨rfl, hfull listed a w (hready listed hr hd hsz) hinv⟩, fun i hi => ?_⟩
      obtain ⟨h1, o, h2, h3⟩ := mem_ready.1 hi
      obtain ⟨hlt, ho⟩ := Array.getElem?_eq_some_iff.1 h2
      subst ho
      have hlt' : i < listed.size := by rw [hsz]; exact hlt
      have hDi : listed.getD i false = false := by simp [hlt'] at h1 ⊢; exact h1
      have hset : (fun j => (listed.setIfInBounds i true).getD j false) = add (fun j => listed.getD j false) i := by
        funext j
        simp only [add, Array.getD_eq_getD_getElem?, Array.getElem?_setIfInBounds]
        by_cases hij : i = j
        · subst hij; simp [hlt']
        · have : (j == i) = false := by simp; exact fun e => hij e.symm
          simp [hij, this]
      refine one (fun j => listed.getD j false) i hlt a w _ _ hDi hd h3 hinv fun a' w' hinv' => ih _ a' w' (by simp [hsz]) ?_ ?_ ?_
      · have hc := cnt_add (D := fun j => listed.getD j false) (i := i) hDi (List.range N) (List.mem_range.2 hlt) List.nodup_range
        have : (List.range N).countP (fun j => !((listed.setIfInBounds i true).getD j false)) = (List.range N).countP (fun j => !(add (fun j => listed.getD j false) i j)) := by
          congr 1; funext j; rw [← congrFun hset j]
        omega
      · rw [hset]
        intro j o' hj hDj e he hb
        simp only [add, Bool.or_eq_true, beq_iff_eq] at hDj ⊢
        rcases hDj with hDj | rfl
        · exact .inl (hd j o' hj hDj e he hb)
        · rw [h2] at hj; cases hj; exact .inl (h3 e he hb)
      · rw [hset]; exact hinv'
  refine main ops.size _ a w (by simp [N]) ?_ ?_ ?_
  · exact Nat.le_trans List.countP_le_length (by simp [N])
  · intro i o hi hD
    by_cases hlt : i < ops.size <;> simp [hlt] at hD
  · obtain ⟨ρ, p1, p2, p3, p4, p5, p6⟩ := hS0
    have hno : ∀ k, (fun i => (Array.replicate ops.size false).getD i false) k = false := fun k => by
      by_cases hlt : k < ops.size <;> simp [hlt]
    have ht : ∀ k, tD (tS 0) dst vS (fun i => (Array.replicate ops.size false).getD i false) k = tS 0 := fun k => by
      induction k with
      | zero => rfl
      | succ k ih =>
        have hk : ¬ ((fun i => (Array.replicate ops.size false).getD i false) k = true) := by rw [hno k]; simp
        simp only [tD]; rw [if_neg hk]; exact ih
    have hh : ∀ k, hG (hS 0) ch hS (fun i => (Array.replicate ops.size false).getD i false) k = hS 0 := fun k => by
      induction k with
      | zero => rfl
      | succ k ih =>
        have hk := hno k
        simp only at hk
        funext id
        simp only [hG, hk, Bool.false_and, Bool.false_eq_true, if_false, ih]
    refine ⟨ρ, by rw [ht, e1]; exact p1, p2, by rw [hh, e2]; exact p3, fun k hk _ i q1 q2 => ?_, fun i q1 q2 => ?_, by rw [hGn] at p5 ⊢; exact p5, p6⟩
    · have := nbound k (Nat.le_of_lt hk); have := nbound (k + 1) hk
      exact p4 i (by omega) (by omega)
    · have := nbound N (Nat.le_refl _)
      exact p4 i (by omega) q2
end Go.Proofs.YtkpibnhddhdooacDoor.L
