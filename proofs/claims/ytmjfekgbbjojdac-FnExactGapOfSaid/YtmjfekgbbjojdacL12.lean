/- How contracts are used and shut. -/
import Derived.Test.YtmjfekgbbjojdacL11
namespace Go.Proofs.Ytmjfekgbbjojdac.L
open Go
set_option linter.unusedSimpArgs false
set_option linter.unusedVariables false

section
variable {P : Program} {W : Nat → Prop} {f : Nat} {args : List AV} {h h' : AH} {n n' : Nat} {v : AV}

/-- What writes nothing leaves the heap as it is told; its own blocks may be forgotten. -/
theorem BCalls.quiet (c : BCalls P none' f args h n v h' n') : BCalls P none' f args h n v h n' :=
  ⟨c.1, c.2.1, fun ρ w vs hs ha hf => (c.2.2 ρ w vs hs ha hf).mono fun e w' ⟨rv, ρ', h1, h2, h3, h4⟩ =>
    ⟨rv, ρ', h1, h2, (hs.mix h4 hf (Sim.emp ρ' w')).less fun i b hb => by
      obtain ⟨r, hr, _⟩ := hs.lies i b hb
      simp only [mix]
      rw [if_neg fun hm => by rw [hf i hm.1 hm.2] at hr; cases hr]
      exact hb, h4⟩⟩

/-- The function hands back v and leaves what is told of the heap as it is. -/
def Q (P : Program) (f : Nat) (args : List AV) (h : AH) (n : Nat) (v : AV) : Prop := ∃ n', BCalls P none' f args h n v h n'

theorem Q.mk (c : BCalls P none' f args h n v h' n') : Q P f args h n v := ⟨n', c.quiet⟩

/-- A call whose contract leaves the heap as it is. -/
theorem q_use {n0 : Nat} {W : Nat → Prop} {d : Bool} {K : AV → AH → Nat → Prop} (q : Q P f args h n v) (hk : ∀ n', n ≤ n' → K v h n') :
    CallC P n0 W d f args h n K := by
  obtain ⟨n', c⟩ := q
  exact ⟨v, h, n', none', c, fun _ _ h => h.elim, fun _ => ⟨rfl, fun _ _ => rfl⟩, hk n' c.2.1⟩
/-- A call that makes memory. -/
theorem f_use {n0 : Nat} {W : Nat → Prop} {d : Bool} {K : AV → AH → Nat → Prop} (c : BCalls P none' f args h n v h' n') (hs : ∀ i, (i < n ∨ n' ≤ i) → h' i = h i) (hk : n ≤ n' → K v h' n') :
    CallC P n0 W d f args h n K :=
  ⟨v, h', n', none', c, fun _ _ h => h.elim, fun _ => ⟨rfl, hs⟩, hk c.2.1⟩
end


theorem kInt_mono {k : IntKind} {x : Int} {K K' : AV → Prop} (hk : ∀ v, K v → K' v) : kInt k x K → kInt k x K' := by
  cases k <;> simp only [kInt] <;> first | exact hk _ | exact fun h => ⟨h.1, hk _ h.2⟩
theorem xint_mono {op : BinOp} {k : IntKind} {a b : Int} {K K' : AV → Prop} (hk : ∀ v, K v → K' v) : xint op k a b K → xint op k a b K' := by
  cases op <;> simp only [xint] <;> first | exact hk _ | exact kInt_mono hk | exact fun h => ⟨h.1, kInt_mono hk h.2⟩ | exact fun h => ⟨h.1, hk _ h.2⟩ | exact id
theorem xbin_mono {op : BinOp} {x y : AV} {K K' : AV → Prop} (hk : ∀ v, K v → K' v) : xbin op x y K → xbin op x y K' := by
  unfold xbin
  cases x <;> first | exact id | skip
  all_goals (cases y <;> first | exact id | skip)
  all_goals (cases op <;> first | exact id | exact hk _ | exact fun h => ⟨h.1, kInt_mono hk h.2⟩ | exact fun h => ⟨h.1, hk _ h.2⟩ | exact fun h => ⟨h.1, xint_mono hk h.2⟩)
theorem bnds_mono {len cap : Nat} {lo hi mx : Option AV} {K K' : Nat → Nat → Nat → Prop} (hk : ∀ a b c, K a b c → K' a b c) : bnds len cap lo hi mx K → bnds len cap lo hi mx K' := by
  unfold bnds
  intro h
  split at h
  · split at h
    · split at h
      · exact hk _ _ _ h
      · exact ⟨h.1, h.2.1, hk _ _ _ h.2.2⟩
      · exact h.elim
    · refine ⟨h.1, h.2.1, ?_⟩
      have h := h.2.2
      split at h
      · exact hk _ _ _ h
      · exact ⟨h.1, h.2.1, hk _ _ _ h.2.2⟩
      · exact h.elim
    · exact h.elim
  · refine ⟨h.1, h.2.1, ?_⟩
    have h := h.2.2
    split at h
    · refine ⟨h.1, h.2.1, ?_⟩
      have h := h.2.2
      split at h
      · exact hk _ _ _ h
      · exact ⟨h.1, h.2.1, hk _ _ _ h.2.2⟩
      · exact h.elim
    · exact h.elim
  · exact h.elim
theorem xp_mono {o : O} {t : List AV} {K K' : AV → Prop} (hk : ∀ v, K v → K' v) : xp o t K → xp o t K' := by
  cases o <;> simp only [xp] <;> try exact id
  case mv => exact hk _
  case pick c a b => generalize ev t c = q; cases q <;> first | exact id | exact fun h => ⟨fun e => hk _ (h.1 e), fun e => hk _ (h.2 e)⟩
  case bin => exact xbin_mono hk
  case beq neg x y =>
    generalize ev t x = p; generalize ev t y = q
    cases p <;> first | exact id | (cases q <;> first | exact id | exact hk _)
  case nileq neg x y => generalize ev t x = p; cases p <;> first | exact id | exact hk _
  case nilseq neg x => generalize ev t x = p; cases p <;> first | exact id | exact hk _
  case un op x => generalize ev t x = p; cases op <;> cases p <;> first | exact id | exact hk _ | exact kInt_mono hk
  case build z ps => cases fillA z _ <;> first | exact id | exact hk _
  case nck x => generalize ev t x = p; cases p <;> first | exact id | exact hk _
  case cvi k x => generalize ev t x = p; cases p <;> first | exact id | exact kInt_mono hk
  case cvs x => generalize ev t x = p; cases p <;> first | exact id | exact hk _
  case mkf => exact hk _
  case slc es x lo hi m =>
    generalize ev t x = p
    intro h
    split at h
    · exact bnds_mono (fun _ _ _ => hk _) h
    · split at h
      · exact hk _ h
      · exact ⟨h.1, h.2.1, hk _ h.2.2⟩
      · exact ⟨h.1, h.2.1, hk _ h.2.2⟩
      · exact ⟨h.1, h.2.1, h.2.2.1, hk _ h.2.2.2⟩
      · exact h.elim
    · split at h
      · exact ⟨h.1, h.2.1, hk _ h.2.2⟩
      · exact ⟨h.1, h.2.1, hk _ h.2.2⟩
      · exact h.elim
    · split at h <;> first | exact hk _ h | exact h.elim
    · exact h.elim
  case sls x lo hi =>
    generalize ev t x = p
    intro h
    split at h
    · exact bnds_mono (fun _ _ _ => hk _) h
    · exact h.elim
  case fa off x => generalize ev t x = p; cases p <;> first | exact id | exact hk _
  case fld s off x => generalize ev t x = p; cases p <;> first | exact id | exact hk _
  case fld1 off x => generalize ev t x = p; cases p <;> first | exact id | exact fun ⟨c, h1, h2⟩ => ⟨c, h1, hk _ h2⟩
  case ia es x i =>
    generalize ev t x = p; generalize ev t i = q
    cases p <;> first | exact id | (cases q <;> first | exact id | exact fun h => ⟨h.1, h.2.1, hk _ h.2.2⟩)
  case ixs x i =>
    generalize ev t x = p; generalize ev t i = q
    cases p <;> first | exact id | (cases q <;> first | exact id | exact fun ⟨c, h0, h1, h2⟩ => ⟨c, h0, h1, hk _ h2⟩)
  case ext x i => generalize ev t x = p; cases p <;> first | exact id | exact fun ⟨c, h1, h2⟩ => ⟨c, h1, hk _ h2⟩
  case len x => generalize ev t x = p; cases p <;> first | exact id | exact hk _
  case lens x => generalize ev t x = p; cases p <;> first | exact id | exact hk _
  case cap x => generalize ev t x = p; cases p <;> first | exact id | exact hk _
  case mx xs =>
    intro h
    split at h
    · split at h
      · exact hk _ h
      · exact h.elim
    · exact h.elim
  case mn xs =>
    intro h
    split at h
    · split at h
      · exact hk _ h
      · exact h.elim
    · exact h.elim
theorem xo_mono {P : Program} {n0 : Nat} {W : Nat → Prop} {d : Bool} {o : O} {t : List AV} {h : AH} {n : Nat} {K K' : AV → AH → Nat → Prop} (hk : ∀ v h n, K v h n → K' v h n) : xo P n0 W d o t h n K → xo P n0 W d o t h n K' := by
  cases o <;> try (simp only [xo]; exact xp_mono (fun v => hk v h n))
  case alloc => exact hk _ _ _
  case box => exact fun h => ⟨h.1, hk _ _ _ h.2⟩
  case mks ty es z l c =>
    simp only [xo]
    generalize ev t l = p; generalize ev t c = q
    cases p <;> first | exact id | (cases q <;> first | exact id | exact fun h => ⟨h.1, h.2.1, h.2.2.1, hk _ _ _ h.2.2.2⟩)
  case lit ty es len z ps => simp only [xo]; cases fillA _ _ <;> first | exact id | exact hk _ _ _
  case ld1 x => simp only [xo]; generalize ev t x = p; cases p <;> first | exact id | exact fun ⟨b, c, h1, h2, h3⟩ => ⟨b, c, h1, h2, hk _ _ _ h3⟩
  case ld s x => simp only [xo]; generalize ev t x = p; cases p <;> first | exact id | exact fun ⟨b, h1, h2, h3⟩ => ⟨b, h1, h2, hk _ _ _ h3⟩
  case st s x y => simp only [xo]; generalize ev t x = p; cases p <;> first | exact id | exact fun ⟨b, h1, h2, h3, h4, h5, h6, h7, h8⟩ => ⟨b, h1, h2, h3, h4, h5, h6, h7, hk _ _ _ h8⟩
  case app => exact fun ⟨v, h', n', W', h1, h2, h3⟩ => ⟨v, h', n', W', h1, h2, hk _ _ _ h3⟩
  case callw f xs => simp only [xo]; generalize ev t f = p; cases p <;> first | exact id | exact fun ⟨v, h', n', W', h1, h2, h3, h4⟩ => ⟨v, h', n', W', h1, h2, h3, hk _ _ _ h4⟩
  case call f xs => simp only [xo]; generalize ev t f = p; cases p <;> first | exact id | exact fun ⟨v, h', n', W', h1, h2, h3, h4⟩ => ⟨v, h', n', W', h1, h2, h3, hk _ _ _ h4⟩
theorem xops_mono {P : Program} {n0 : Nat} {W : Nat → Prop} {d : Bool} {K K' : List AV → AH → Nat → Prop} (hk : ∀ t h n, K t h n → K' t h n) : ∀ (l : List OO) (t : List AV) (h : AH) (n : Nat), xops P n0 W d l t h n K → xops P n0 W d l t h n K'
  | [], _, _, _, h => hk _ _ _ h
  | ⟨dst, o, none⟩ :: r, t, h, n, hx => by
    simp only [xops] at hx ⊢
    exact xo_mono (fun v h' n' => xops_mono hk r _ _ _) hx
  | ⟨dst, o, some (s, b)⟩ :: r, t, h, n, hx => by
    simp only [xops] at hx ⊢
    split at hx
    · exact ⟨fun e => xo_mono (fun v h' n' => xops_mono hk r _ _ _) (hx.1 e), fun e => xops_mono hk r _ _ _ (hx.2 e)⟩
    · exact xops_mono hk r _ _ _ hx
    · exact hx.elim
theorem X_mono {P : Program} {n0 : Nat} {W : Nat → Prop} : ∀ (c : C) (t : List AV) (h : AH) (n : Nat) (K K' : KT), (∀ e t h n, K e t h n → K' e t h n) → X P n0 W c t h n K → X P n0 W c t h n K' := by
  intro c
  induction c with
  | skip => exact fun t h n K K' hk hx => hk _ _ _ _ hx
  | ret => exact fun t h n K K' hk hx => hk _ _ _ _ hx
  | exit id => exact fun t h n K K' hk hx => hk _ _ _ _ hx
  | reg d l => exact fun t h n K K' hk hx => xops_mono (fun t h n => hk _ _ _ _) l t h n hx
  | chk l => exact fun t h n K K' hk hx => ⟨hx.1, hk _ _ _ _ hx.2⟩
  | seq a b iha ihb =>
    intro t h n K K' hk hx
    simp only [X] at hx ⊢
    refine iha t h n _ _ (fun e t' h' n' he => ?_) hx
    cases e with
    | nrm => exact ihb _ _ _ _ _ hk he
    | ex id => exact hk _ _ _ _ he
    | ret => exact hk _ _ _ _ he
  | cond x a b iha ihb =>
    intro t h n K K' hk hx
    simp only [X] at hx ⊢
    split at hx
    · exact ⟨fun e => iha _ _ _ _ _ hk (hx.1 e), fun e => ihb _ _ _ _ _ hk (hx.2 e)⟩
    · exact hx.elim
  | block id c ih =>
    intro t h n K K' hk hx
    simp only [X] at hx ⊢
    refine ih t h n _ _ (fun e t' h' n' he => ?_) hx
    cases e with
    | nrm => exact hk _ _ _ _ he
    | ret => exact hk _ _ _ _ he
    | ex j =>
      simp only at he ⊢
      split at he
      · rename_i hj; rw [if_pos hj]; exact hk _ _ _ _ he
      · rename_i hj; rw [if_neg hj]; exact hk _ _ _ _ he
  | loop c ih =>
    intro t h n K K' hk hx
    obtain ⟨k, hx⟩ := hx
    refine ⟨k, ?_⟩
    revert t h n
    induction k with
    | zero => exact fun _ _ _ h => h
    | succ k ihk =>
      intro t h n hx
      simp only [itr] at hx ⊢
      obtain ⟨t1, h1, n1, hw, hx⟩ := hx
      refine ⟨t1, h1, n1, hw, ih _ _ _ _ _ (fun e t' h' n' he => ?_) hx⟩
      cases e with
      | nrm => exact ihk _ _ _ he
      | ex id => exact hk _ _ _ _ he
      | ret => exact hk _ _ _ _ he


/-! ### What is still to come, as a list, so that the walk's simp meets no function -/
inductive Fr where
  | seq (c : C)
  | blk (id : Nat)

def KS (P : Program) (n0 : Nat) (W : Nat → Prop) : List Fr → KT → KT
  | [], K => K
  | .seq b :: s, K => fun e t h n => match e with
    | .nrm => X P n0 W b t h n (KS P n0 W s K)
    | e => KS P n0 W s K e t h n
  | .blk id :: s, K => fun e t h n => match e with
    | .ex j => if j = id then KS P n0 W s K .nrm t h n else KS P n0 W s K (.ex j) t h n
    | e => KS P n0 W s K e t h n
def KO (P : Program) (n0 : Nat) (W : Nat → Prop) (s : List Fr) (K : KT) : List AV → AH → Nat → Prop := fun t h n => KS P n0 W s K .nrm t h n
def AO (P : Program) (n0 : Nat) (W : Nat → Prop) (d : Bool) (dst : Option Nat) (r : List OO) (t : List AV) (s : List Fr) (K : KT) : AV → AH → Nat → Prop :=
  fun v h n => xops P n0 W d r (setD t dst v) h n (KO P n0 W s K)
def PO (K : AV → AH → Nat → Prop) (h : AH) (n : Nat) : AV → Prop := fun v => K v h n
/-- Behind a round. -/
def KL {α : Type} (T : α → List AV) (H : α → AH) (N : α → Nat) (μ : α → Nat) (a : α) (K : KT) : KT := fun e t h n => match e with
  | .nrm => ∃ b, μ b < μ a ∧ Wk t h n (T b) (H b) (N b)
  | e => K e t h n
/-- Behind a function. -/
def KF (rs : List RV) (K : AV → AH → Nat → Prop) : KT := fun e t h n => (e = .nrm ∨ e = .ret) ∧ xres rs t h fun vs => K (oneOr vs) h n

section
variable {P : Program} {n0 : Nat} {W : Nat → Prop} {t : List AV} {h : AH} {n : Nat} {K : KT} {d : Bool} {s : List Fr}
theorem y_skip : X P n0 W .skip t h n (KS P n0 W s K) = KS P n0 W s K .nrm t h n := rfl
theorem y_reg {l : List OO} : X P n0 W (.reg d l) t h n (KS P n0 W s K) = xops P n0 W d l t h n (KO P n0 W s K) := rfl
theorem y_chk {l : List (A × A)} : X P n0 W (.chk l) t h n (KS P n0 W s K) = (CH l t ∧ KS P n0 W s K .nrm t h n) := rfl
theorem ch_nil : CH [] t = True := rfl
theorem ch_cons {x y : A} {r : List (A × A)} : CH ((x, y) :: r) t = (NEp (ev t x) (ev t y) ∧ CH r t) := rfl
theorem ne_p {i j o o' : Nat} : NEp (.ptr i o) (.ptr j o') = (i ≠ j) := rfl
theorem y_seq {a b : C} : X P n0 W (.seq a b) t h n (KS P n0 W s K) = X P n0 W a t h n (KS P n0 W (.seq b :: s) K) := rfl
theorem y_block {id : Nat} {c : C} : X P n0 W (.block id c) t h n (KS P n0 W s K) = X P n0 W c t h n (KS P n0 W (.blk id :: s) K) := rfl
theorem y_exit {id : Nat} : X P n0 W (.exit id) t h n (KS P n0 W s K) = KS P n0 W s K (.ex id) t h n := rfl
theorem y_ret : X P n0 W .ret t h n (KS P n0 W s K) = KS P n0 W s K .ret t h n := rfl
theorem ks_nil {e : E} : KS P n0 W [] K e t h n = K e t h n := rfl
theorem ks_seq_nrm {b : C} : KS P n0 W (.seq b :: s) K .nrm t h n = X P n0 W b t h n (KS P n0 W s K) := rfl
theorem ks_seq_ex {b : C} {j : Nat} : KS P n0 W (.seq b :: s) K (.ex j) t h n = KS P n0 W s K (.ex j) t h n := rfl
theorem ks_seq_ret {b : C} : KS P n0 W (.seq b :: s) K .ret t h n = KS P n0 W s K .ret t h n := rfl
theorem ks_blk_nrm {id : Nat} : KS P n0 W (.blk id :: s) K .nrm t h n = KS P n0 W s K .nrm t h n := rfl
theorem ks_blk_ret {id : Nat} : KS P n0 W (.blk id :: s) K .ret t h n = KS P n0 W s K .ret t h n := rfl
theorem ks_blk_same {id : Nat} : KS P n0 W (.blk id :: s) K (.ex id) t h n = KS P n0 W s K .nrm t h n := by simp [KS]
theorem ks_blk_ex {id j : Nat} (hj : j ≠ id) : KS P n0 W (.blk id :: s) K (.ex j) t h n = KS P n0 W s K (.ex j) t h n := by simp [KS, hj]
theorem z_nil : xops P n0 W d [] t h n (KO P n0 W s K) = KS P n0 W s K .nrm t h n := rfl
theorem z_op {dst : Option Nat} {o : O} {r : List OO} : xops P n0 W d (⟨dst, o, none⟩ :: r) t h n (KO P n0 W s K) = xo P n0 W d o t h n (AO P n0 W d dst r t s K) := rfl
theorem ao_app {dst : Option Nat} {r : List OO} {v : AV} {h' : AH} {n' : Nat} : AO P n0 W d dst r t s K v h' n' = xops P n0 W d r (setD t dst v) h' n' (KO P n0 W s K) := rfl
theorem po_app {K : AV → AH → Nat → Prop} {v : AV} : PO K h n v = K v h n := rfl
theorem kl_nrm {α : Type} {T : α → List AV} {H : α → AH} {N : α → Nat} {μ : α → Nat} {a : α} : KL T H N μ a K .nrm t h n = ∃ b, μ b < μ a ∧ Wk t h n (T b) (H b) (N b) := rfl
theorem kl_ex {α : Type} {T : α → List AV} {H : α → AH} {N : α → Nat} {μ : α → Nat} {a : α} {j : Nat} : KL T H N μ a K (.ex j) t h n = K (.ex j) t h n := rfl
theorem kl_ret {α : Type} {T : α → List AV} {H : α → AH} {N : α → Nat} {μ : α → Nat} {a : α} : KL T H N μ a K .ret t h n = K .ret t h n := rfl
theorem kf_nrm {rs : List RV} {K : AV → AH → Nat → Prop} : KF rs K .nrm t h n = xres rs t h fun vs => K (oneOr vs) h n := by simp [KF]
theorem kf_ret {rs : List RV} {K : AV → AH → Nat → Prop} : KF rs K .ret t h n = xres rs t h fun vs => K (oneOr vs) h n := by simp [KF]
end

/-- A LOOP: states told by I, a measure that every round lowers. -/
theorem loop_rule {P : Program} {n0 : Nat} {W : Nat → Prop} {c : C} {t : List AV} {h : AH} {n : Nat} {K : KT} {α : Type} (T : α → List AV) (H : α → AH) (N : α → Nat) (μ : α → Nat) (a : α) (h0 : Wk t h n (T a) (H a) (N a))
    (step : ∀ a, X P n0 W c (T a) (H a) (N a) (KS P n0 W [] (KL T H N μ a K))) : X P n0 W (.loop c) t h n K := by
  have key : ∀ m a t h n, μ a < m → Wk t h n (T a) (H a) (N a) → itr (X P n0 W c) m t h n K := by
    intro m
    induction m with
    | zero => intro a t h n hm; omega
    | succ m ih =>
      intro a t h n hm hw
      refine ⟨_, _, _, hw, X_mono c _ _ _ _ _ (fun e t' h' n' he => ?_) (step a)⟩
      cases e with
      | nrm => obtain ⟨b, h1, h2⟩ := he; exact ih b _ _ _ (by omega) h2
      | ex id => exact he
      | ret => exact he
  exact ⟨μ a + 1, key _ a t h n (Nat.lt_succ_self _) h0⟩
theorem q_intro {P : Program} {f : Nat} {args : List AV} {h : AH} {n : Nat} {v : AV} {fn : Func} {F' : F} (hf : P.funcs[f]? = some fn) (hF : compF P fn = some F')
    (hx : X P n none' F'.c (args ++ List.replicate (F'.nt - args.length) .any) h n (KS P n none' [] (KF F'.rs fun v' _ _ => v' = v))) : Q P f args h n v := by
  obtain ⟨v', h', n', rfl, c⟩ := bcalls (K := fun v' _ _ => v' = v) hf hF hx
  exact Q.mk c
theorem f_intro {P : Program} {W : Nat → Prop} {f : Nat} {args : List AV} {h : AH} {n : Nat} {K : AV → AH → Nat → Prop} {fn : Func} {F' : F} (hf : P.funcs[f]? = some fn) (hF : compF P fn = some F')
    (hx : X P n W F'.c (args ++ List.replicate (F'.nt - args.length) .any) h n (KS P n W [] (KF F'.rs K))) : ∃ v h' n', K v h' n' ∧ BCalls P W f args h n v h' n' :=
  bcalls hf hF hx
end Go.Proofs.Ytmjfekgbbjojdac.L
