/- Code told by the clauses of its short form; whole functions. -/
import Derived.Test.YtmjfekgbbjojdacL10d
import Derived.LoopN
namespace Go.Proofs.Ytmjfekgbbjojdac.L
open Go
set_option linter.unusedSimpArgs false
set_option linter.unusedVariables false

def compC (P : Program) : Code → Option C
  | .skip => some .skip
  | .region _ ops d =>
    if d then
      let p := orderOf ops ops.size (Array.replicate ops.size false) []
      let q := invOf ops.size p
      let ops' := permOps ops p q
      match compOps P ops' ops'.toList with
      | some l => if P.follows .mixedOrders && okPerm ops p q && okDraw3 ops' l then some (.reg false l)
        else if P.follows .mixedOrders && okPerm ops p q && okDraw ops' (strictL ops' l 0 l) then some (.reg true (strictL ops' l 0 l))
        else if P.follows .mixedOrders && okPerm ops p q && okDraw ops' l then some (.reg true l)
        else if P.follows .mixedOrders && okPerm ops p q && okDraw2 ops' l then some (.seq (.reg true l) (.chk (pairsOf ops' l))) else none
      | none => none
    else (compOps P ops ops.toList).map (.reg false)
  | .seq a b => match compC P a, compC P b with
    | some a, some b => some (.seq a b)
    | _, _ => none
  | .cond x a b => match compA x, compC P a, compC P b with
    | some x, some a, some b => some (.cond x a b)
    | _, _, _ => none
  | .block id c => (compC P c).map (.block id)
  | .loop c => (compC P c).map .loop
  | .exit id => some (.exit id)
  | .ret => some .ret
  | .label _ => some .skip
  | _ => none

section
variable {P : Program} {W : Nat → Prop} {n0 : Nat}

theorem S.drew {G : Gx} {t : List AV} {h : AH} {n : Nat} {a : Act} {w : World} (s : S G t h n a w) : S G t h n a { w with drawn := w.drawn + 1 } := by
  obtain ⟨ρ, h1, h2, h3, h4, h5, h6⟩ := s
  exact ⟨ρ, h1, h2, ⟨fun i b hb => let ⟨r, g1, g2⟩ := h3.lies i b hb; ⟨r, g1, ⟨g2.cells, g2.own⟩⟩, h3.inj⟩, h4, h5, ⟨h6.os, h6.tape, h6.output, h6.size, h6.blk, h6.old, h6.far, h6.own⟩⟩

theorem S.setA {G : Gx} {t : List AV} {h : AH} {n : Nat} {a : Act} {w : World} {x : A} {c : Bool} (s : S G t h n a w) (hx : ev t x = .bool c) : S G (L.setA t x (.bool c)) h n a w := by
  cases x with
  | t k =>
    simp only [L.setA]
    rw [set_same (by simpa [ev] using hx) (by simp)]; exact s
  | c v => exact s
  | f k => exact s

theorem S.wk {G : Gx} {t t' : List AV} {h h' : AH} {n n' : Nat} {a : Act} {w : World} (s : S G t h n a w) (k : Wk t h n t' h' n') : S G t' h' n' a w := by
  obtain ⟨ρ, h1, h2, h3, h4, h5, h6⟩ := s
  exact ⟨ρ, k.1.is h1, h2, h3.less k.2.1, fun i g1 g2 => h4 i (Nat.le_trans k.2.2 g1) g2, Nat.le_trans h5 k.2.2, h6⟩

theorem compOps_at {ops : Array Oper} {l : List OO} (h : compOps P ops ops.toList = some l) : l.length = ops.size := by simpa using compOps_length h

theorem X_sound : ∀ (code : Code) (c : C) (t : List AV) (h : AH) (n : Nat) (K : KT), compC P code = some c → X P n0 W c t h n K → ∃ e t' h' n', K e t' h' n' ∧ RS P W n0 code t h n e t' h' n' := by
  intro code
  induction code with
  | skip =>
    intro c t h n K hc hx
    simp only [compC, Option.some.injEq] at hc; subst hc
    exact ⟨.nrm, t, h, n, hx, Nat.le_refl _, fun G a w _ _ _ hs => wp_skip ⟨rfl, hs⟩⟩
  | label l =>
    intro c t h n K hc hx
    simp only [compC, Option.some.injEq] at hc; subst hc
    exact ⟨.nrm, t, h, n, hx, Nat.le_refl _, fun G a w _ _ _ hs => wp_label ⟨rfl, hs⟩⟩
  | exit id =>
    intro c t h n K hc hx
    simp only [compC, Option.some.injEq] at hc; subst hc
    exact ⟨.ex id, t, h, n, hx, Nat.le_refl _, fun G a w _ _ _ hs => wp_exit ⟨rfl, hs⟩⟩
  | ret =>
    intro c t h n K hc hx
    simp only [compC, Option.some.injEq] at hc; subst hc
    exact ⟨.ret, t, h, n, hx, Nat.le_refl _, fun G a w _ _ _ hs => wp_ret ⟨rfl, hs⟩⟩
  | region id ops d =>
    intro c t h n K hc hx
    simp only [compC] at hc
    cases d with
    | false =>
      simp only [Bool.false_eq_true, if_false, Option.map_eq_some_iff] at hc
      obtain ⟨l, hl, rfl⟩ := hc
      simp only [X] at hx
      obtain ⟨t', h', n', hk, hn, hw⟩ := xops_seq ops ops.toList 0 l t h n _ (fun i o hi => by simpa using hi) hl hx
      refine ⟨.nrm, t', h', n', hk, hn, fun G a w g1 g2 g3 hs => wp_region ?_⟩
      have := hw G a w g1 g2 g3 hs
      rwa [Array.length_toList, ← List.range_eq_range'] at this
    | true =>
      simp only [if_true] at hc
      generalize orderOf ops ops.size (Array.replicate ops.size false) [] = p at hc
      generalize invOf ops.size p = q at hc
      split at hc
      · rename_i l hl
        split at hc
        · rename_i hok
          simp only [Bool.and_eq_true] at hok
          cases hc
          simp only [X] at hx
          have okp := OkP.of hok.1.2
          obtain ⟨t', h', n', hk, hn, hw⟩ := xops_draw3 (permOps ops p q) l hl hok.2 hx
          refine ⟨.nrm, t', h', n', hk, hn, fun G a w g1 g2 g3 hs => wp_region_any hok.1.1 ?_⟩
          have := hw G a _ g1 g2 g3 hs.drew
          rw [perm_size okp] at this
          refine perm_any okp _ _ _ a _ (by simp) (by simp) (fun i hi => ?_) this
          have := okp.q_lt i hi
          simp only [Array.getD_eq_getD_getElem?, Array.getElem?_replicate, if_pos this, if_pos hi]
        · split at hc
          · rename_i hok
            simp only [Bool.and_eq_true] at hok
            cases hc
            simp only [X] at hx
            have okp := OkP.of hok.1.2
            obtain ⟨t', h', n', hk, hn, hw⟩ := xops_draw (permOps ops p q) (strictL (permOps ops p q) l 0 l) ⟨_, hl, strictL_ups _ _ _ _⟩ hok.2 hx
            refine ⟨.nrm, t', h', n', hk, hn, fun G a w g1 g2 g3 hs => wp_region_any hok.1.1 ?_⟩
            have := hw G a _ g1 g2 g3 hs.drew
            rw [perm_size okp] at this
            refine perm_any okp _ _ _ a _ (by simp) (by simp) (fun i hi => ?_) this
            have := okp.q_lt i hi
            simp only [Array.getD_eq_getD_getElem?, Array.getElem?_replicate, if_pos this, if_pos hi]
          · split at hc
            · rename_i hok
              simp only [Bool.and_eq_true] at hok
              cases hc
              simp only [X] at hx
              have okp := OkP.of hok.1.2
              obtain ⟨t', h', n', hk, hn, hw⟩ := xops_draw (permOps ops p q) l ⟨_, hl, Ups.refl _⟩ hok.2 hx
              refine ⟨.nrm, t', h', n', hk, hn, fun G a w g1 g2 g3 hs => wp_region_any hok.1.1 ?_⟩
              have := hw G a _ g1 g2 g3 hs.drew
              rw [perm_size okp] at this
              refine perm_any okp _ _ _ a _ (by simp) (by simp) (fun i hi => ?_) this
              have := okp.q_lt i hi
              simp only [Array.getD_eq_getD_getElem?, Array.getElem?_replicate, if_pos this, if_pos hi]
            · split at hc
              · rename_i hok
                simp only [Bool.and_eq_true] at hok
                cases hc
                simp only [X] at hx
                have okp := OkP.of hok.1.2
                obtain ⟨t', h', n', hk, hn, hw⟩ := xops_draw2 (permOps ops p q) l (K := fun t' h' n' => K .nrm t' h' n') hl hok.2 hx
                refine ⟨.nrm, t', h', n', hk, hn, fun G a w g1 g2 g3 hs => wp_region_any hok.1.1 ?_⟩
                have := hw G a _ g1 g2 g3 hs.drew
                rw [perm_size okp] at this
                refine perm_any okp _ _ _ a _ (by simp) (by simp) (fun i hi => ?_) this
                have := okp.q_lt i hi
                simp only [Array.getD_eq_getD_getElem?, Array.getElem?_replicate, if_pos this, if_pos hi]
              · cases hc
      · cases hc
  | seq a b iha ihb =>
    intro c t h n K hc hx
    simp only [compC] at hc
    split at hc
    · rename_i ca cb ha hb
      cases hc
      simp only [X] at hx
      obtain ⟨e, t1, h1, n1, hk, hn, hw⟩ := iha ca t h n _ ha hx
      cases e with
      | nrm =>
        obtain ⟨e2, t2, h2, n2, hk2, hn2, hw2⟩ := ihb cb t1 h1 n1 K hb hk
        refine ⟨e2, t2, h2, n2, hk2, Nat.le_trans hn hn2, fun G a w g1 g2 g3 hs => wp_seq (wp_mono (hw G a w g1 g2 (by omega) hs) ?_)⟩
        rintro e' a' w' ⟨rfl, hs'⟩
        exact hw2 G a' w' g1 g2 g3 hs'
      | ex id =>
        refine ⟨.ex id, t1, h1, n1, hk, hn, fun G a w g1 g2 g3 hs => wp_seq (wp_mono (hw G a w g1 g2 g3 hs) ?_)⟩
        rintro e' a' w' ⟨rfl, hs'⟩
        exact ⟨rfl, hs'⟩
      | ret =>
        refine ⟨.ret, t1, h1, n1, hk, hn, fun G a w g1 g2 g3 hs => wp_seq (wp_mono (hw G a w g1 g2 g3 hs) ?_)⟩
        rintro e' a' w' ⟨rfl, hs'⟩
        exact ⟨rfl, hs'⟩
    · cases hc
  | cond x a b iha ihb =>
    intro c t h n K hc hx
    simp only [compC] at hc
    split at hc
    · rename_i x' ca cb hx' ha hb
      cases hc
      simp only [X] at hx
      split at hx
      · rename_i bc hbc
        have hev : ∀ (G : Gx) (act : Act) (w : World), S G t h n act w → act.eval x = .bool bc := fun G act w hs => by
          obtain ⟨ρ, h1, _⟩ := hs
          have := compA_is (ρ := ρ) (t := t) (a := act) hx' (Rel.of_all h1)
          rw [hbc] at this; simp only [Is] at this; exact this
        cases bc with
        | true =>
          obtain ⟨e, t1, h1, n1, hk, hn, hw⟩ := iha ca _ h n K ha (hx.1 rfl)
          exact ⟨e, t1, h1, n1, hk, hn, fun G act w g1 g2 g3 hs => wp_cond_true (hev G act w hs) (hw G act w g1 g2 g3 (hs.setA hbc))⟩
        | false =>
          obtain ⟨e, t1, h1, n1, hk, hn, hw⟩ := ihb cb _ h n K hb (hx.2 rfl)
          exact ⟨e, t1, h1, n1, hk, hn, fun G act w g1 g2 g3 hs => wp_cond_false (hev G act w hs) (hw G act w g1 g2 g3 (hs.setA hbc))⟩
      · exact hx.elim
    · cases hc
  | block id body ih =>
    intro c t h n K hc hx
    simp only [compC, Option.map_eq_some_iff] at hc
    obtain ⟨cb, hb, rfl⟩ := hc
    simp only [X] at hx
    obtain ⟨e, t1, h1, n1, hk, hn, hw⟩ := ih cb t h n _ hb hx
    cases e with
    | nrm =>
      refine ⟨.nrm, t1, h1, n1, hk, hn, fun G a w g1 g2 g3 hs => wp_block (wp_mono (hw G a w g1 g2 g3 hs) ?_)⟩
      rintro e' a' w' ⟨rfl, hs'⟩
      exact ⟨rfl, hs'⟩
    | ret =>
      refine ⟨.ret, t1, h1, n1, hk, hn, fun G a w g1 g2 g3 hs => wp_block (wp_mono (hw G a w g1 g2 g3 hs) ?_)⟩
      rintro e' a' w' ⟨rfl, hs'⟩
      exact ⟨rfl, hs'⟩
    | ex j =>
      simp only at hk
      by_cases hj : j = id
      · rw [if_pos hj] at hk
        refine ⟨.nrm, t1, h1, n1, hk, hn, fun G a w g1 g2 g3 hs => wp_block (wp_mono (hw G a w g1 g2 g3 hs) ?_)⟩
        rintro e' a' w' ⟨rfl, hs'⟩
        simp only [E.out, Exit.inBlock, if_pos hj]
        exact ⟨trivial, hs'⟩
      · rw [if_neg hj] at hk
        refine ⟨.ex j, t1, h1, n1, hk, hn, fun G a w g1 g2 g3 hs => wp_block (wp_mono (hw G a w g1 g2 g3 hs) ?_)⟩
        rintro e' a' w' ⟨rfl, hs'⟩
        simp only [E.out, Exit.inBlock, if_neg hj]
        exact ⟨trivial, hs'⟩
  | loop body ih =>
    intro c t h n K hc hx
    simp only [compC, Option.map_eq_some_iff] at hc
    obtain ⟨cb, hb, rfl⟩ := hc
    simp only [X] at hx
    obtain ⟨k, hx⟩ := hx
    have key : ∀ k t h n, itr (X P n0 W cb) k t h n K → ∃ e t' h' n', K e t' h' n' ∧ n ≤ n' ∧ ∀ (G : Gx) (a : Act) (w : World), G.W = W → G.n0 = n0 → n' ≤ G.n1 → S G t h n a w →
        Code.rounds P body (fun e' a' w' => e' = e.out ∧ S G t' h' n' a' w') k a w := by
      intro k
      induction k with
      | zero => intro t h n hx; exact hx.elim
      | succ k ihk =>
        intro t h n hx
        simp only [itr] at hx
        obtain ⟨t0, h0, n0', hwk, hx⟩ := hx
        obtain ⟨e, t1, h1, n1, hk, hn, hw⟩ := ih cb t0 h0 n0' _ hb hx
        have hnn := hwk.2.2
        cases e with
        | nrm =>
          obtain ⟨e2, t2, h2, n2, hk2, hn2, hw2⟩ := ihk t1 h1 n1 hk
          refine ⟨e2, t2, h2, n2, hk2, by omega, fun G a w g1 g2 g3 hs => ?_⟩
          rw [rounds_succ]
          refine wp_mono (hw G a w g1 g2 (by omega) (hs.wk hwk)) ?_
          rintro e' a' w' ⟨rfl, hs'⟩
          exact hw2 G a' w' g1 g2 g3 hs'
        | ex id =>
          refine ⟨.ex id, t1, h1, n1, hk, by omega, fun G a w g1 g2 g3 hs => ?_⟩
          rw [rounds_succ]
          refine wp_mono (hw G a w g1 g2 g3 (hs.wk hwk)) ?_
          rintro e' a' w' ⟨rfl, hs'⟩
          exact ⟨rfl, hs'⟩
        | ret =>
          refine ⟨.ret, t1, h1, n1, hk, by omega, fun G a w g1 g2 g3 hs => ?_⟩
          rw [rounds_succ]
          refine wp_mono (hw G a w g1 g2 g3 (hs.wk hwk)) ?_
          rintro e' a' w' ⟨rfl, hs'⟩
          exact ⟨rfl, hs'⟩
    obtain ⟨e, t', h', n', hk, hn, hw⟩ := key k t h n hx
    exact ⟨e, t', h', n', hk, hn, fun G a w g1 g2 g3 hs => wp_loop_rounds k (hw G a w g1 g2 g3 hs)⟩
  | _ =>
    intro c t h n K hc hx
    simp [compC] at hc
end

/-- A result's place: a slot, a cell behind a slot's address, or cells. -/
inductive RV where
  | t (i : Nat)
  | c1 (i : Nat)
  | ca (i s : Nat)
def compR (P : Program) : ResultVar → Option RV
  | .tmp t => some (.t t)
  | .cell a ty => match isAgg' P ty, sizeOf' P ty with
    | some true, some s => some (.ca a s)
    | some false, some _ => some (.c1 a)
    | _, _ => none
def compRs (P : Program) : List ResultVar → Option (List RV)
  | [] => some []
  | r :: rs => match compR P r, compRs P rs with
    | some a, some l => some (a :: l)
    | _, _ => none
def xres : List RV → List AV → AH → (List AV → Prop) → Prop
  | [], _, _, K => K []
  | .t i :: r, t, h, K => xres r t h fun vs => K (t.getD i .any :: vs)
  | .c1 i :: r, t, h, K => match t.getD i .any with
    | .ptr id o => ∃ b c, h id = some b ∧ b.cells[o]? = some c ∧ xres r t h fun vs => K (c :: vs)
    | _ => False
  | .ca i s :: r, t, h, K => match t.getD i .any with
    | .ptr id o => ∃ b, h id = some b ∧ o + s ≤ b.cells.length ∧ xres r t h fun vs => K (.agg (cutA b.cells o s) :: vs)
    | _ => False
def oneOr : List AV → AV
  | [v] => v
  | vs => .tup vs

structure F where
  c : C
  nt : Nat
  rs : List RV
def compF (P : Program) (fn : Func) : Option F := match fn.body with
  | some code => if fn.name == "runtime.NumGoroutine" then none else match compC P code, compRs P fn.results.toList with
    | some c, some rs => some ⟨c, fn.ntmps, rs⟩
    | _, _ => none
  | none => none

theorem xres_run {P : Program} {t : List AV} {h : AH} : ∀ (rs : List ResultVar) (rs' : List RV) (K : List AV → Prop), compRs P rs = some rs' → xres rs' t h K →
    ∃ vs, K vs ∧ ∀ (ρ : Rho) (a : Act) (w : World) (g : ResultVar → Sem Value), (∀ i, g (.tmp i) = pure (a.tmps.getD i undef)) → (∀ b ty, g (.cell b ty) = (do loadVar ty (← asAddr (a.tmps.getD b undef)))) →
      IsL ρ t a.tmps.toList → Sim ρ h w → ∃ us : List Value, IsL ρ vs us ∧ (rs.mapM g).run P w = .ok us w
  | [], rs', K, hc, hx => by
    simp only [compRs, Option.some.injEq] at hc; subst hc
    exact ⟨[], hx, fun ρ a w g _ _ _ _ => ⟨[], IsL.nil ρ, by simp⟩⟩
  | r :: rs, rs', K, hc, hx => by
    have slot : ∀ (ρ : Rho) (a : Act), IsL ρ t a.tmps.toList → ∀ i, Is ρ (t.getD i .any) (a.tmps.getD i undef) := fun ρ a h1 i => Rel.of_all (ds := [i]) h1 i (List.mem_singleton.2 rfl)
    simp only [compRs] at hc
    split at hc
    · rename_i r' l hr hl
      cases hc
      cases r with
      | tmp i =>
        simp only [compR, Option.some.injEq] at hr; subst hr
        simp only [xres] at hx
        obtain ⟨vs, hk, hall⟩ := xres_run rs l _ hl hx
        refine ⟨_, hk, fun ρ a w g g1 g2 h1 h2 => ?_⟩
        obtain ⟨us, hu, hrun⟩ := hall ρ a w g g1 g2 h1 h2
        refine ⟨_, IsL.cons (slot ρ a h1 i) hu, ?_⟩
        simp only [List.mapM_cons, Sem.run_bind, g1, Sem.run_pure, Result.andThen_ok, hrun]
      | cell b ty =>
        simp only [compR] at hr
        split at hr
        · rename_i s ha hs
          cases hr
          simp only [xres] at hx
          split at hx
          · rename_i id o hp
            obtain ⟨bl, hb, hlen, hx⟩ := hx
            obtain ⟨vs, hk, hall⟩ := xres_run rs l _ hl hx
            refine ⟨_, hk, fun ρ a w g g1 g2 h1 h2 => ?_⟩
            obtain ⟨us, hu, hrun⟩ := hall ρ a w g g1 g2 h1 h2
            have e1 := slot ρ a h1 b
            rw [hp] at e1; simp only [Is] at e1
            obtain ⟨r, hr', e1⟩ := e1
            obtain ⟨r', f1, f2⟩ := h2.lies id bl hb
            rw [hr'] at f1; cases f1
            obtain ⟨cs, q1, q2, q3⟩ := read_cells f2 o s hlen
            have hrc := run_loadCells_list (P := P) w ⟨r.b, r.s + o, none⟩ cs q3
            rw [q1] at hrc
            refine ⟨_, IsL.cons (v := .agg cs.toArray) (by simp only [Is]; exact ⟨cs, rfl, q2⟩) hu, ?_⟩
            simp only [List.mapM_cons, Sem.run_bind, g2, e1, asAddr, Sem.run_pure, Result.andThen_ok, loadVar, isAgg'_run ha, if_true, sizeOf'_run hs, hrc, hrun]
          · exact hx.elim
        · rename_i s ha hs
          cases hr
          simp only [xres] at hx
          split at hx
          · rename_i id o hp
            obtain ⟨bl, c, hb, hc', hx⟩ := hx
            obtain ⟨vs, hk, hall⟩ := xres_run rs l _ hl hx
            refine ⟨_, hk, fun ρ a w g g1 g2 h1 h2 => ?_⟩
            obtain ⟨us, hu, hrun⟩ := hall ρ a w g g1 g2 h1 h2
            have e1 := slot ρ a h1 b
            rw [hp] at e1; simp only [Is] at e1
            obtain ⟨r, hr', e1⟩ := e1
            obtain ⟨r', f1, f2⟩ := h2.lies id bl hb
            rw [hr'] at f1; cases f1
            obtain ⟨v, q1, q2⟩ := f2.cells o c hc'
            refine ⟨_, IsL.cons q2 hu, ?_⟩
            simp only [List.mapM_cons, Sem.run_bind, g2, e1, asAddr, Sem.run_pure, Result.andThen_ok, loadVar, isAgg'_run ha, Bool.false_eq_true, if_false, run_load, q1, hrun]
          · exact hx.elim
        · cases hr
    · cases hc

theorem oneOr_is {ρ : Rho} {vs : List AV} {us : List Value} (h : IsL ρ vs us) : Is ρ (oneOr vs) (if h : us.toArray.size = 1 then us.toArray[0] else .tuple us.toArray) := by
  match vs, us, h with
  | [], us, h =>
    simp only [IsL] at h; subst h
    simp only [oneOr, Is]
    exact ⟨[], by simp, IsL.nil ρ⟩
  | [v], us, h =>
    simp only [IsL] at h
    obtain ⟨u, r, rfl, h1, rfl⟩ := h
    simpa [oneOr] using h1
  | v :: v' :: vs, us, h =>
    have hl := h.length
    have : ¬ us.toArray.size = 1 := by simp at hl ⊢; omega
    rw [dif_neg this]
    simp only [oneOr, Is]
    exact ⟨us, rfl, h⟩

/-- A FUNCTION, BY ITS SHORT FORM. -/
theorem bcalls {P : Program} {W : Nat → Prop} {f : Nat} {fn : Func} {F' : F} {args : List AV} {h : AH} {n : Nat} {K : AV → AH → Nat → Prop} (hf : P.funcs[f]? = some fn) (hF : compF P fn = some F')
    (hx : X P n W F'.c (args ++ List.replicate (F'.nt - args.length) .any) h n fun e t' h' n' => (e = .nrm ∨ e = .ret) ∧ xres F'.rs t' h' fun vs => K (oneOr vs) h' n') :
    ∃ v h' n', K v h' n' ∧ BCalls P W f args h n v h' n' := by
  simp only [compF] at hF
  split at hF
  · rename_i code hb
    split at hF
    · cases hF
    · rename_i hname
      split at hF
      · rename_i c rs hc hrs
        cases hF
        simp only at hx
        obtain ⟨e, t', h', n', ⟨he, hres⟩, hn, hw⟩ := X_sound code c _ h n _ hc hx
        obtain ⟨vs, hk, hall⟩ := xres_run fn.results.toList rs _ hrs hres
        refine ⟨_, _, _, hk, by simp only [okFn, hf, hb, Option.isSome_some, Bool.true_and, Bool.not_eq_true']; simpa using hname, hn, fun ρ w us hsim hargs hfree => ?_⟩
        refine calls_of_wp hf hb ?_
        have hS : S ⟨ρ, w, W, n, n'⟩ (args ++ List.replicate (fn.ntmps - args.length) .any) h n { tmps := us.toArray ++ Array.replicate (fn.ntmps - us.toArray.size) undef, defers := [] } w := by
          refine ⟨ρ, ?_, rfl, hsim, hfree, Nat.le_refl _, Cx.refl ρ w W n n' hfree⟩
          have h1 : (us.toArray ++ Array.replicate (fn.ntmps - us.toArray.size) undef).toList = us ++ List.replicate (fn.ntmps - us.length) undef := by simp
          rw [h1, hargs.length]
          refine hargs.append ?_
          have := IsL.replicate_any ρ (List.replicate (fn.ntmps - args.length) undef)
          simpa using this
        refine wp_mono (hw ⟨ρ, w, W, n, n'⟩ _ w rfl rfl (Nat.le_refl _) hS) fun e' a' w' ⟨he', hs'⟩ => ?_
        obtain ⟨ρ', p1, p2, p3, p4, p5, p6⟩ := hs'
        obtain ⟨rv, hrv, hrun⟩ := hall ρ' a' w' (fun | .tmp i => pure (a'.tmps.getD i undef) | .cell b ty => do loadVar ty (← asAddr (a'.tmps.getD b undef))) (fun _ => rfl) (fun _ _ => rfl) p1 p3
        have hpost : a'.defers = [] ∧ ∃ v, (results fn a'.tmps).run P w' = .ok v w' ∧ ∃ rv ρ', Ending.returned v = .returned rv ∧ Is ρ' (oneOr vs) rv ∧ Sim ρ' h' w' ∧ Cx ⟨ρ, w, W, n, n'⟩ ρ' w' := by
          refine ⟨p2, _, ?_, _, ρ', rfl, oneOr_is hrv, p3, p6⟩
          simp only [results, Array.mapM_eq_mapM_toList, Sem.run_bind, Sem.run_map]
          change (((List.mapM (fun (x : ResultVar) => (match x with | .tmp i => pure (a'.tmps.getD i undef) | .cell b ty => do loadVar ty (← asAddr (a'.tmps.getD b undef)) : Sem Value)) fn.results.toList).run P w').andThen fun a w' => Result.ok a.toArray w').andThen _ = _
          rw [hrun]
          rfl
        rcases he with rfl | rfl
        · subst he'; exact hpost
        · subst he'; exact hpost
      · cases hF
  · cases hF
end Go.Proofs.Ytmjfekgbbjojdac.L
