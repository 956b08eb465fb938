/- One operation, whichever it is. -/
import Derived.Test.YtmjfekgbbjojdacL7
namespace Go.Proofs.Ytmjfekgbbjojdac.L
open Go
set_option linter.unusedSimpArgs false
set_option linter.unusedVariables false

/-- The function has a body of its own. -/
def okFn (P : Program) (f : Nat) : Bool := match P.funcs[f]? with
  | some fn => fn.body.isSome && !(fn.name == "runtime.NumGoroutine")
  | none => false

/-- A call by its contract. -/
def BCalls (P : Program) (W : Nat → Prop) (f : Nat) (args : List AV) (h : AH) (n : Nat) (v : AV) (h' : AH) (n' : Nat) : Prop :=
  okFn P f = true ∧ ACalls P W f args h n v h' n'

def O.rh : O → Bool
  | .ld _ _ | .ld1 _ | .call _ _ => true
  | _ => false
def O.mk : O → Bool
  | .alloc _ _ | .box _ _ | .mks _ _ _ _ _ | .lit _ _ _ _ _ | .call _ _ => true
  | _ => false
def O.wrs : O → Bool
  | .st _ _ _ | .app _ _ _ _ _ _ | .callw _ _ => true
  | _ => false

/-- A call's clause. -/
def CallC (P : Program) (n0 : Nat) (W : Nat → Prop) (d : Bool) (g : Nat) (args : List AV) (h : AH) (n : Nat) (K : AV → AH → Nat → Prop) : Prop :=
  ∃ v h' n' W', BCalls P W' g args h n v h' n' ∧ (∀ i, i < n → W' i → n0 ≤ i ∨ W i) ∧ (d = true → W' = none' ∧ ∀ i, (i < n ∨ n' ≤ i) → h' i = h i) ∧ K v h' n'
/-- A call's that may write, where nothing else that touches memory may come at the same time. -/
def CallW (P : Program) (n0 : Nat) (W : Nat → Prop) (g : Nat) (args : List AV) (h : AH) (n : Nat) (K : AV → AH → Nat → Prop) : Prop :=
  ∃ v h' n' W', BCalls P W' g args h n v h' n' ∧ (∀ i, i < n → W' i → n0 ≤ i ∨ W i) ∧ (∀ i, n' ≤ i → h' i = h i) ∧ K v h' n'
/-- append's clause. -/
def AppC (n0 : Nat) (W : Nat → Prop) (ty es : Nat) (s x : AV) (h : AH) (n : Nat) (K : AV → AH → Nat → Prop) : Prop :=
  ∃ v h' n' W', App h n ty es s x v h' n' W' ∧ (∀ i, i < n → W' i → n0 ≤ i ∨ W i) ∧ K v h' n'

/-- What an operation does, d: beside others whose order is open. -/
def xo (P : Program) (n0 : Nat) (W : Nat → Prop) (d : Bool) (o : O) (t : List AV) (h : AH) (n : Nat) (K : AV → AH → Nat → Prop) : Prop := match o with
  | .alloc ty z => K (.ptr n 0) (upd h n (some ⟨ty, z, true, 0⟩)) (n + 1)
  | .box ty x => (ev t x).storable = true ∧ K (.ptr n 0) (upd h n (some ⟨ty, (ev t x).cells, true, 0⟩)) (n + 1)
  | .mks ty _ z l c => match ev t l, ev t c with
    | .int _ m, .int _ p => 0 ≤ m ∧ m ≤ p ∧ p ≤ 4294967296 ∧ K (.sl n 0 m.toNat p.toNat) (upd h n (some ⟨ty, repA p.toNat z, true, 0⟩)) (n + 1)
    | _, _ => False
  | .lit ty es len z ps => match fillA (repA len z) (elemsOf es (ps.map fun p => (p.1, ev t p.2))) with
    | some cs => K (.sl n 0 len len) (upd h n (some ⟨ty, cs, true, 0⟩)) (n + 1)
    | none => False
  | .ld1 x => match ev t x with
    | .ptr i o => ∃ b c, h i = some b ∧ b.cells[o]? = some c ∧ K c h n
    | _ => False
  | .ld s x => match ev t x with
    | .ptr i o => ∃ b, h i = some b ∧ o + s ≤ b.cells.length ∧ K (.agg (cutA b.cells o s)) h n
    | _ => False
  | .st s x y => match ev t x with
    | .ptr i o => ∃ b, h i = some b ∧ b.wr = true ∧ (ev t y).storable = true ∧ (ev t y).cells.length = s ∧ o + s ≤ b.cells.length ∧ i < n ∧ (n0 ≤ i ∨ W i) ∧
        K .any (upd h i (some { b with cells := putA b.cells o (ev t y).cells })) n
    | _ => False
  | .app ty es _ _ s x => AppC n0 W ty es (ev t s) (ev t x) h n K
  | .call f xs => match ev t f with
    | .fn g cs => CallC P n0 W d g (xs.map (ev t) ++ cs) h n K
    | _ => False
  | .callw f xs => match ev t f with
    | .fn g cs => CallW P n0 W g (xs.map (ev t) ++ cs) h n K
    | _ => False
  | o => xp o t fun v => K v h n

/-- What is known of an operation that has been carried out. -/
inductive Stp (P : Program) (n0 : Nat) (W : Nat → Prop) (d : Bool) (op : Oper) (o : O) (t : List AV) (h : AH) (n : Nat) (v : AV) (h' : AH) (n' : Nat) : Prop
  | own (new : AH) (hr : RO P none' op o.reads t emp n v new n') (hh : h' = mix n n' h new) (hm : n' = n ∨ o.mk = true) (hw : o.wrs = false)
  | read (hr : RO P none' op o.reads t h n v h' n') (hl : ∀ i, (i < n ∨ n' ≤ i) → h' i = h i) (hm : n' = n ∨ o.mk = true) (hh : o.rh = true) (hw : o.wrs = false)
  | write (W' : Nat → Prop) (hr : RO P W' op o.reads t h n v h' n') (hp : ∀ i, i < n → W' i → n0 ≤ i ∨ W i) (hf : ∀ i, n' ≤ i → h' i = h i) (hw : o.wrs = true)
  | free (W' : Nat → Prop) (hr : RO P W' op o.reads t h n v h' n') (hp : ∀ i, i < n → W' i → n0 ≤ i ∨ W i) (hd : d = false) (hc : o.rh = true)

theorem Stp.ro {P : Program} {n0 : Nat} {W : Nat → Prop} {d : Bool} {op : Oper} {o : O} {t : List AV} {h : AH} {n : Nat} {v : AV} {h' : AH} {n' : Nat} (s : Stp P n0 W d op o t h n v h' n') :
    ∃ W', RO P W' op o.reads t h n v h' n' ∧ ∀ i, i < n → W' i → n0 ≤ i ∨ W i := by
  cases s with
  | own new hr hh hm => subst hh; exact ⟨none', hr.lift h, fun _ _ h => h.elim⟩
  | read hr hl hm hh => exact ⟨none', hr, fun _ _ h => h.elim⟩
  | write W' hr hp hf hw => exact ⟨W', hr, hp⟩
  | free W' hr hp hd _ => exact ⟨W', hr, hp⟩

theorem App.far {h : AH} {n ty es : Nat} {s x v : AV} {h' : AH} {n' : Nat} {W : Nat → Prop} (a : App h n ty es s x v h' n' W) : ∀ i, n' ≤ i → h' i = h i := by
  intro i hi
  cases a <;> first | rfl | (rw [upd_other (by omega)]; done) | (rw [upd_other (by omega), upd_other (by omega)])

/-- What a store or a load of one cell is known to have done. -/
def Info (o : O) (t : List AV) (h : AH) (n : Nat) (v : AV) (h' : AH) (n' : Nat) : Prop := match o with
  | .st _ a _ => n' = n ∧ ∃ i k, ev t a = .ptr i k ∧ ∀ j, j ≠ i → h' j = h j
  | .ld1 a => ∃ i k b, ev t a = .ptr i k ∧ h i = some b ∧ b.cells[k]? = some v
  | _ => True
theorem xo_info {P : Program} {n0 : Nat} {W : Nat → Prop} {d : Bool} {o : O} {t : List AV} {h : AH} {n : Nat} {K : AV → AH → Nat → Prop} (hx : xo P n0 W d o t h n K) : xo P n0 W d o t h n fun v h' n' => K v h' n' ∧ Info o t h n v h' n' := by
  cases o
  case st s a y =>
    simp only [xo] at hx ⊢
    generalize hp : ev t a = p at hx ⊢
    cases p <;> first | exact hx.elim | skip
    obtain ⟨b, h1, h2, h3, h4, h5, h6, h7, h8⟩ := hx
    exact ⟨b, h1, h2, h3, h4, h5, h6, h7, h8, rfl, _, _, hp, fun j hj => upd_other hj⟩
  case ld1 a =>
    simp only [xo] at hx ⊢
    generalize hp : ev t a = p at hx ⊢
    cases p <;> first | exact hx.elim | skip
    obtain ⟨b, c, h1, h2, h3⟩ := hx
    exact ⟨b, c, h1, h2, h3, _, _, b, hp, h1, h2⟩
  all_goals
    rw [show (fun v h' n' => K v h' n' ∧ Info _ t h n v h' n') = K from by funext v h' n'; simp only [Info, and_true]]
    exact hx
section
variable {P : Program} {op : Oper} {t : List AV}

theorem RO.of_call {o' : O} {W : Nat → Prop} {g : Nat} {args : List AV} {h : AH} {n : Nat} {v : AV} {h' : AH} {n' : Nat} (hc : BCalls P W g args h n v h' n')
    (hr : ∀ ρ a, Rel ρ o'.reads t a → ∃ vs, IsL ρ args vs ∧ ∀ w, (execOp a.eval op).run P w = .ok (.enter g vs.toArray) w) : RO P W op o'.reads t h n v h' n' :=
  ⟨hc.2.1, fun ρ a w Kr Qr hR hs hf hk => by
    obtain ⟨vs, hvs, hrun⟩ := hr ρ a hR
    refine wp_enter (hrun w) ((hc.2.2 ρ w vs hs hvs hf).mono fun e w' he => ?_)
    obtain ⟨rv, ρ', rfl, h1, h2, h3⟩ := he
    exact ⟨rv, rfl, hk rv ρ' w' h1 h2 h3⟩⟩

theorem callFunc_run {g : Nat} (hok : okFn P g = true) (args : Array Value) (w : World) : (callFunc g args).run P w = .ok (.enter g args) w := by
  unfold okFn at hok
  split at hok
  · rename_i fn hfn
    simp only [Bool.and_eq_true, Bool.not_eq_true'] at hok
    obtain ⟨h1, h2⟩ := hok
    have h3 : fn.body.isNone = false := by cases hb : fn.body <;> simp_all
    simp only [callFunc, Sem.run_bind, run_program, Result.andThen_ok, hfn, h2, h3, Bool.false_eq_true, if_false, Sem.run_pure]
  · cases hok

theorem call_run {ρ : Rho} {a : Act} {f : Operand} {ar : Array Operand} {ats : Array TypeId} {f' : A} {xs : List A} {g : Nat} {cs : List AV} (ho : op.op = .call { callee := .value f, args := ar, argTypes := ats })
    (hf : compA f = some f') (hx : compAs ar.toList = some xs) (hg : ev t f' = .fn g cs) (hok : okFn P g = true) (hR : Rel ρ (O.call f' xs).reads t a) :
    ∃ vs, IsL ρ (xs.map (ev t) ++ cs) vs ∧ ∀ w, (execOp a.eval op).run P w = .ok (.enter g vs.toArray) w := by
  have e1 := compA_is hf (hR.arg (x := f') (by simp [O.args]))
  have e2 := compAs_is hx (hR.args (xs := xs) (by intro x hx; simp [O.args, hx]))
  rw [hg] at e1; simp only [Is] at e1
  obtain ⟨us, e1, hu⟩ := e1
  refine ⟨_, e2.append hu, fun w => ?_⟩
  have hargs : #[] ++ ar.map a.eval ++ us.toArray = (List.map a.eval ar.toList ++ us).toArray := by
    apply Array.ext'; simp
  simp only [execOp, ho, Sem.run_bind, resolve, e1, Deferred.ofValue, Sem.run_pure, Result.andThen_ok, invoke, callFunc_run hok, hargs]

theorem Stp.pure {o' : O} {n0 : Nat} {W : Nat → Prop} {d : Bool} {v : AV} (h : PV P op o' t v) (g : AH) (n : Nat) (hw : o'.wrs = false) : Stp P n0 W d op o' t g n v g n :=
  .own emp (RO.of_PV h n) (mix_same n g emp).symm (.inl rfl) hw

/-- The clause of an operation tells what it does. -/
theorem xo_stp {o' : O} {n0 : Nat} {W : Nat → Prop} {d : Bool} {h : AH} {n : Nat} {K : AV → AH → Nat → Prop} (hc : compO P op.op = some o') (hx : xo P n0 W d o' t h n K) :
    ∃ v h' n', K v h' n' ∧ Stp P n0 W d op o' t h n v h' n' := by
  have hc : compO1 P op.op = some o' := by
    unfold compO at hc
    split at hc
    · rename_i h1; rw [h1]; exact hc
    · cases hc; exact hx.elim
  have pureC : ∀ {o'' : O}, o''.wrs = false → (∃ v, K v h n ∧ PV P op o'' t v) → ∃ v h' n', K v h' n' ∧ Stp P n0 W d op o'' t h n v h' n' := fun hw ⟨v, hk, hp⟩ => ⟨v, h, n, hk, Stp.pure hp h n hw⟩
  have mk : ∀ {o'' : O} {v : AV} {b : Option Blk}, o''.mk = true → o''.wrs = false → K v (upd h n b) (n + 1) → RO P none' op o''.reads t emp n v (upd emp n b) (n + 1) → ∃ v h' n', K v h' n' ∧ Stp P n0 W d op o'' t h n v h' n' :=
    fun hm hw hk hr => ⟨_, _, _, hk, .own _ hr (mix_upd _ _ _).symm (.inr hm) hw⟩
  cases hop : op.op <;> rw [hop] at hc
  case move x =>
    simp only [compO1, Option.map_eq_some_iff] at hc
    obtain ⟨x', hx', rfl⟩ := hc
    exact pureC rfl (x_mv (.inl hop) hx' hx)
  case assign x =>
    simp only [compO1, Option.map_eq_some_iff] at hc
    obtain ⟨x', hx', rfl⟩ := hc
    exact pureC rfl (x_mv (.inr hop) hx' hx)
  case pick c a b =>
    simp only [compO1] at hc
    split at hc
    · rename_i h1 h2 h3; cases hc; exact pureC rfl (x_pick hop h1 h2 h3 hx)
    · cases hc
  case alloc ty =>
    simp only [compO1, Option.map_eq_some_iff] at hc
    obtain ⟨z, hz, rfl⟩ := hc
    exact mk rfl rfl hx (o_alloc hop hz n)
  case box ty x =>
    simp only [compO1, Option.map_eq_some_iff] at hc
    obtain ⟨x', hx', rfl⟩ := hc
    exact mk rfl rfl hx.2 (o_box hop hx' hx.1 n)
  case build ty ps =>
    simp only [compO1] at hc
    split at hc
    · rename_i hT hz
      split at hc
      · rename_i hpl
        split at hc
        · rename_i hl; cases hc; exact pureC rfl (x_build hop hT hz hpl hl hx)
        · cases hc
      · cases hc
    · cases hc
  case buildSlice ty len ps =>
    simp only [compO1] at hc
    split at hc
    · rename_i hT
      split at hc
      · rename_i hi hz hl
        split at hc
        · rename_i hh
          cases hc
          simp only [xo] at hx
          split at hx
          · rename_i hf; exact mk rfl rfl hx (o_lit hop hT hi hz hh.1 hh.2 hl hf n)
          · exact hx.elim
        · cases hc
      · cases hc
    · cases hc
  case load ty x =>
    simp only [compO1] at hc
    split at hc
    · rename_i hx' ha hs
      cases hc
      simp only [xo] at hx
      split at hx
      · rename_i hp
        obtain ⟨b, hb, hl, hk⟩ := hx
        exact ⟨_, _, _, hk, .read (o_ld hop hx' ha hs hp hb hl n) (fun _ _ => rfl) (.inl rfl) rfl rfl⟩
      · exact hx.elim
    · rename_i hx' ha hs
      cases hc
      simp only [xo] at hx
      split at hx
      · rename_i hp
        obtain ⟨b, c, hb, hl, hk⟩ := hx
        exact ⟨_, _, _, hk, .read (o_ld1 hop hx' ha hp hb hl n) (fun _ _ => rfl) (.inl rfl) rfl rfl⟩
      · exact hx.elim
    · cases hc
  case store ty a x =>
    simp only [compO1] at hc
    split at hc
    · rename_i ha hx' hs
      cases hc
      simp only [xo] at hx
      split at hx
      · rename_i hp
        obtain ⟨b, hb, hw, h1, h2, h3, h4, h5, hk⟩ := hx
        refine ⟨_, _, _, hk, .write _ (o_st hop ha hx' hs hp hb hw h1 h2 h3 h4) (fun i _ hi => hi ▸ h5) (fun j hj => upd_other (by omega)) rfl⟩
      · exact hx.elim
    · cases hc
  case nilCheck x =>
    simp only [compO1, Option.map_eq_some_iff] at hc
    obtain ⟨x', hx', rfl⟩ := hc
    exact pureC rfl (x_nck hop hx' hx)
  case binOp bop T x y T' =>
    simp only [compO1] at hc
    split at hc
    · rename_i h1 h2 h3; cases hc; exact pureC rfl (x_bin hop h1 h2 hx)
    · rename_i h1 h2 h3; cases hc; exact pureC rfl (x_bin hop h1 h2 hx)
    · rename_i h1 h2 h3
      split at hc
      · cases hc; exact pureC rfl (x_beq (neg := false) hop h3 h1 h2 hx)
      · cases hc; exact pureC rfl (x_beq (neg := true) hop h3 h1 h2 hx)
      · cases hc
    · rename_i h1 h2 h3
      split at hc
      · cases hc; exact pureC rfl (x_nileq (neg := false) hop h3 h1 h2 hx)
      · cases hc; exact pureC rfl (x_nileq (neg := true) hop h3 h1 h2 hx)
      · cases hc
    · rename_i h1 h2 h3
      split at hc
      · cases hc; exact pureC rfl (x_nilseq (neg := false) hop h3 h1 h2 hx)
      · cases hc; exact pureC rfl (x_nilseq (neg := true) hop h3 h1 h2 hx)
      · cases hc
    · cases hc
  case unOp uop T x =>
    simp only [compO1] at hc
    split at hc
    · cases hc
    · simp only [Option.map_eq_some_iff] at hc
      obtain ⟨x', hx', rfl⟩ := hc
      exact pureC rfl (x_un hop hx' hx)
  case convert s d' x =>
    simp only [compO1] at hc
    split at hc
    · rename_i h1 h2 h3; cases hc; exact pureC rfl (x_cvi hop h1 h2 h3 hx)
    · rename_i h1 h2 h3; cases hc; exact pureC rfl (x_cvs hop h1 h2 h3 hx)
    · rename_i h1 h2 h3
      split at hc
      · cases hc; exact hx.elim
      · cases hc
    · cases hc
  case makeFunc fn first cs =>
    cases fn with
    | func f =>
      simp only [compO1] at hc
      split at hc
      · rename_i hf
        simp only [Option.map_eq_some_iff] at hc
        obtain ⟨x', hx', rfl⟩ := hc
        exact pureC rfl (x_mkf hop hf hx' hx)
      · cases hc
    | _ => simp [compO1] at hc
  case makeSlice T l c =>
    simp only [compO1] at hc
    split at hc
    · rename_i hT
      split at hc
      · rename_i hi hz hl hcc
        split at hc
        · rename_i hh
          cases hc
          simp only [xo] at hx
          split at hx
          · rename_i e1 e2
            obtain ⟨h0, h1, h2, hk⟩ := hx
            exact mk rfl rfl hk (o_mks hop hT hi hz hh.1 hh.2 hl hcc e1 e2 h0 h1 h2 n)
          · exact hx.elim
        · cases hc
      · cases hc
    · cases hc
  case slice T x lo hi m =>
    simp only [compO1] at hc
    split at hc
    · rename_i h1 h2 h3 h4 h5
      have hm : m = none := by
        cases m with
        | none => rfl
        | some y => simp [compOA] at h5
      subst hm
      cases hc; exact pureC rfl (x_sls hop h1 h2 h3 h4 hx)
    · rename_i h1 h2 h3 h4 h5
      split at hc
      · rename_i hs; cases hc; exact pureC rfl (x_slc hop h1 hs h2 h3 h4 h5 hx)
      · cases hc
    · cases hc
  case fieldAddr T x i =>
    simp only [compO1] at hc
    split at hc
    · rename_i h1 h2
      split at hc
      · rename_i hf
        split at hc
        · rename_i hs
          split at hc
          · cases hc
          · rename_i h0; cases hc; exact pureC rfl (x_fa hop h1 hf hs h0 h2 hx)
        · cases hc
      · cases hc
    · cases hc
  case field T x i =>
    simp only [compO1] at hc
    split at hc
    · rename_i h1 h2
      split at hc
      · rename_i hf
        split at hc
        · rename_i ha hs; cases hc; exact pureC rfl (x_fld hop h1 hf ha hs h2 hx)
        · rename_i ha hs; cases hc; exact pureC rfl (x_fld1 hop h1 hf ha h2 hx)
        · cases hc
      · cases hc
    · cases hc
  case indexAddr T x i =>
    simp only [compO1] at hc
    split at hc
    · rename_i h1 h2 h3
      split at hc
      · rename_i hs; cases hc; exact pureC rfl (x_ia hop h1 hs h2 h3 hx)
      · cases hc
    · cases hc
  case index T x i =>
    simp only [compO1] at hc
    split at hc
    · rename_i h1 h2 h3; cases hc; exact pureC rfl (x_ixs hop h1 h2 h3 hx)
    · cases hc
  case extract x i =>
    simp only [compO1, Option.map_eq_some_iff] at hc
    obtain ⟨x', hx', rfl⟩ := hc
    exact pureC rfl (x_ext hop hx' hx)
  case call c =>
    obtain ⟨callee, ar, ats⟩ := c
    cases callee with
    | value f =>
      simp only [compO1] at hc
      split at hc
      · rename_i hf hxs
        cases hc
        simp only [xo] at hx
        split at hx
        · rename_i hg
          obtain ⟨v, h', n', W', hcall, hp, hd, hk⟩ := hx
          have hro : RO P W' op (O.call _ _).reads t h n v h' n' := RO.of_call hcall fun ρ a hR => call_run hop hf hxs hg hcall.1 hR
          refine ⟨v, h', n', hk, ?_⟩
          cases hdd : d with
          | false => exact .free W' hro hp rfl rfl
          | true =>
            obtain ⟨rfl, hl⟩ := hd hdd
            exact .read hro hl (.inr rfl) rfl rfl
        · exact hx.elim
      · cases hc
    | invoke r m => simp [compO1] at hc
    | builtin b =>
      cases b <;> simp only [compO1] at hc <;> try (cases hc; done)
      case append =>
        split at hc
        · rename_i h1 h2
          split at hc
          · rename_i h3 h4 h5
            split at hc
            · rename_i h6 h7
              split at hc
              · rename_i hh
                cases hc
                obtain ⟨rfl, hh⟩ := hh
                simp only [xo] at hx
                obtain ⟨v, h', n', W', ha, hp, hk⟩ := hx
                exact ⟨v, h', n', hk, .write W' (o_app hop h1 h2 h5 h6 h7 hh.1 hh.2 h3 h4 ha) hp ha.far rfl⟩
              · cases hc
            · cases hc
          · cases hc
        · cases hc
      case len =>
        split at hc
        · rename_i h1 h2
          split at hc
          · rename_i h3 h4; cases hc; exact pureC rfl (x_lens hop h1 h2 h4 h3 hx)
          · rename_i h3 h4; cases hc; exact pureC rfl (x_len hop h1 h2 h4 h3 hx)
          · cases hc
        · cases hc
      case cap =>
        split at hc
        · rename_i h1 h2
          split at hc
          · rename_i h3 h4; cases hc; exact pureC rfl (x_cap hop h1 h2 h4 h3 hx)
          · cases hc
        · cases hc
      case max =>
        simp only [Option.map_eq_some_iff] at hc
        obtain ⟨xs, hxs, rfl⟩ := hc
        exact pureC rfl (x_mx hop hxs hx)
      case min =>
        simp only [Option.map_eq_some_iff] at hc
        obtain ⟨xs, hxs, rfl⟩ := hc
        exact pureC rfl (x_mn hop hxs hx)
  all_goals (simp [compO1] at hc; done)
theorem xo_stp_w {f : A} {xs : List A} {n0 : Nat} {W : Nat → Prop} {d : Bool} {h : AH} {n : Nat} {K : AV → AH → Nat → Prop} (hc : compO P op.op = some (.call f xs)) (hx : xo P n0 W d (.callw f xs) t h n K) :
    ∃ v h' n', K v h' n' ∧ Stp P n0 W d op (.callw f xs) t h n v h' n' := by
  have hx' : xo P n0 W false (.call f xs) t h n (fun v h' n' => K v h' n' ∧ ∀ i, n' ≤ i → h' i = h i) := by
    simp only [xo] at hx ⊢
    generalize ev t f = p at hx ⊢
    cases p <;> first | exact hx.elim | skip
    obtain ⟨v, h', n', W', h1, h2, h3, h4⟩ := hx
    exact ⟨v, h', n', W', h1, h2, (fun h => by cases h), h4, h3⟩
  obtain ⟨v, h', n', ⟨hk, hf⟩, hst⟩ := xo_stp hc hx'
  obtain ⟨W', hro, hp⟩ := hst.ro
  exact ⟨v, h', n', hk, .write W' hro hp hf rfl⟩
end
end Go.Proofs.Ytmjfekgbbjojdac.L
