/- Code told by the clauses of its short form; whole functions. -/
import Derived.Test.YtkpibnhddhdooacDoorJ2
import Derived.LoopN
import Derived.OpenShut
import Derived.ShutString
import Derived.ChangeOld
import Derived.Below
import Derived.Carry
import Derived.SizedLaws
import Derived.JoinedOf
import Derived.Lib.SmallJoins
set_option linter.unusedSimpArgs false
set_option linter.unusedVariables false
namespace Go.Proofs.YtkpibnhddhdooacDoor.L
open Go

theorem toQ_ups : ∀ l : List OO, Ups l (l.map toQ)
  | [] => .nil
  | x :: l => .cons (.inr (.inr (.inr rfl))) (toQ_ups l)
def compQ (P : Program) (ops : Array Oper) : Option C :=
  let p := orderLate ops ops.size (Array.replicate ops.size false) []
  let q := invOf ops.size p
  let ops' := permOps ops p q
  match compOps P ops' ops'.toList with
  | some l => if P.follows .mixedOrders && okPerm ops p q && okDraw ops' (l.map toQ) then some (.reg true (l.map toQ)) else none
  | none => none
def compC (P : Program) : Code → Option C
  | .skip => some .skip
  | .region _ ops d =>
    if d then
      let p := orderOf ops ops.size (Array.replicate ops.size false) []
      let q := invOf ops.size p
      let ops' := permOps ops p q
      match compOps P ops' ops'.toList with
      | some l => if P.follows .mixedOrders && okPerm ops p q && okDraw3 ops' l then some (.reg false l)
        else if P.follows .mixedOrders && okPerm ops p q && (hasPtrCall P ops' && okDraw4 ops' (markP P ops' l 0 l)) then some (.seq (.reg true (markP P ops' l 0 l)) (.chk (pairs4 ops' (markP P ops' l 0 l))))
        else if P.follows .mixedOrders && okPerm ops p q && okDraw ops' (strictL ops' l 0 l) then some (.reg true (strictL ops' l 0 l))
        else if P.follows .mixedOrders && okPerm ops p q && okDraw ops' l then some (.reg true l)
        else if P.follows .mixedOrders && okPerm ops p q && okDraw2 ops' l then some (.seq (.reg true l) (.chk (pairsOf ops' l)))
        else if P.follows .mixedOrders && okPerm ops p q && okDraw4 ops' (markP P ops' l 0 l) then some (.seq (.reg true (markP P ops' l 0 l)) (.chk (pairs4 ops' (markP P ops' l 0 l)))) else compQ P ops
      | none => none
    else (compOps P ops ops.toList).map (.reg false)
  | .seq a b => match compC P a, compC P b with
    | some a, some b => some (.seq a b)
    | _, _ => none
  | .cond x a b => match compA x, compC P a, compC P b with
    | some x, some a, some b => some (.cond x a b)
    | _, _, _ => none
  | .block id c => (compC P c).map (.block id)
  | .loop c => (compC P c).map .loop
  | .exit id => some (.exit id)
  | .ret => some .ret
  | .label _ => some .skip
  | _ => none

section
variable {P : Program} {W : Nat → Prop} {n0 : Nat}

theorem S.drew {G : Gx} {t : List AV} {h : AH} {n : Nat} {a : Act} {w : World} (s : S G t h n a w) : S G t h n a { w with drawn := w.drawn + 1 } := by
  obtain ⟨ρ, h1, h2, h3, h4, h5, h6⟩ := s
  exact ⟨ρ, h1, h2, ⟨fun i b hb => let ⟨r, g1, g2⟩ := h3.lies i b hb; ⟨r, g1, ⟨g2.cells, g2.own, g2.fix⟩⟩, h3.inj⟩, h4, h5, ⟨h6.os, h6.tape, h6.output, h6.size, h6.blk, h6.old, h6.far, h6.own, dle_trans h6.drawn (dle_of (Nat.le_succ _))⟩⟩

theorem S.setA {G : Gx} {t : List AV} {h : AH} {n : Nat} {a : Act} {w : World} {x : A} {c : Bool} (s : S G t h n a w) (hx : ev t x = .bool c) : S G (L.setA t x (.bool c)) h n a w := by
  cases x with
  | t k =>
    simp only [L.setA]
    rw [set_same (by simpa [ev] using hx) (by simp)]; exact s
  | c v => exact s
  | f k => exact s

theorem S.wk {G : Gx} {t t' : List AV} {h h' : AH} {n n' : Nat} {a : Act} {w : World} (s : S G t h n a w) (k : Wk t h n t' h' n') : S G t' h' n' a w := by
  obtain ⟨ρ, h1, h2, h3, h4, h5, h6⟩ := s
  exact ⟨ρ, k.1.is h1, h2, h3.less k.2.1, fun i g1 g2 => h4 i (Nat.le_trans k.2.2 g1) g2, Nat.le_trans h5 k.2.2, h6⟩

theorem X_sound : ∀ (code : Code) (c : C) (t : List AV) (h : AH) (n : Nat) (K : KT), compC P code = some c → X P n0 W c t h n K → ∃ e t' h' n', K e t' h' n' ∧ RS P W n0 code t h n e t' h' n' := by
  intro code
  induction code with
  | skip =>
    intro c t h n K hc hx
    simp only [compC, Option.some.injEq] at hc; subst hc
    exact ⟨.nrm, t, h, n, hx, Nat.le_refl _, fun G a w _ _ _ hs => wp_skip ⟨rfl, hs⟩⟩
  | label l =>
    intro c t h n K hc hx
    simp only [compC, Option.some.injEq] at hc; subst hc
    exact ⟨.nrm, t, h, n, hx, Nat.le_refl _, fun G a w _ _ _ hs => wp_label ⟨rfl, hs⟩⟩
  | exit id =>
    intro c t h n K hc hx
    simp only [compC, Option.some.injEq] at hc; subst hc
    exact ⟨.ex id, t, h, n, hx, Nat.le_refl _, fun G a w _ _ _ hs => wp_exit ⟨rfl, hs⟩⟩
  | ret =>
    intro c t h n K hc hx
    simp only [compC, Option.some.injEq] at hc; subst hc
    exact ⟨.ret, t, h, n, hx, Nat.le_refl _, fun G a w _ _ _ hs => wp_ret ⟨rfl, hs⟩⟩
  | region id ops d =>
    intro c t h n K hc hx
    simp only [compC] at hc
    cases d with
    | false =>
      simp only [Bool.false_eq_true, if_false, Option.map_eq_some_iff] at hc
      obtain ⟨l, hl, rfl⟩ := hc
      simp only [X] at hx
      obtain ⟨t', h', n', hk, hn, hw⟩ := xops_seq ops ops.toList 0 l t h n _ (fun i o hi => by simpa using hi) hl hx
      refine ⟨.nrm, t', h', n', hk, hn, fun G a w g1 g2 g3 hs => wp_region ?_⟩
      have := hw G a w g1 g2 g3 hs
      rwa [Array.length_toList, ← List.range_eq_range'] at this
    | true =>
      simp only [if_true] at hc
      generalize orderOf ops ops.size (Array.replicate ops.size false) [] = p at hc
      generalize invOf ops.size p = q at hc
      split at hc
      · rename_i l hl
        split at hc
        · rename_i hok
          simp only [Bool.and_eq_true] at hok
          cases hc
          simp only [X] at hx
          have okp := OkP.of hok.1.2
          obtain ⟨t', h', n', hk, hn, hw⟩ := xops_draw3 (permOps ops p q) l hl hok.2 hx
          refine ⟨.nrm, t', h', n', hk, hn, fun G a w g1 g2 g3 hs => wp_region_any hok.1.1 ?_⟩
          have := hw G a _ g1 g2 g3 hs.drew
          rw [perm_size okp] at this
          refine perm_any okp _ _ _ a _ (by simp) (by simp) (fun i hi => ?_) this
          have := okp.q_lt i hi
          simp only [Array.getD_eq_getD_getElem?, Array.getElem?_replicate, if_pos this, if_pos hi]
        split at hc
        · rename_i hok
          simp only [Bool.and_eq_true] at hok
          cases hc
          simp only [X] at hx
          have okp := OkP.of hok.1.2
          obtain ⟨t', h', n', hk, hn, hw⟩ := xops_draw4 (permOps ops p q) (markP P (permOps ops p q) l 0 l) (K := fun t' h' n' => K .nrm t' h' n') ⟨_, hl, markP_ups _ _ _ _ _⟩ hok.2.2 hx
          refine ⟨.nrm, t', h', n', hk, hn, fun G a w g1 g2 g3 hs => wp_region_any hok.1.1 ?_⟩
          have := hw G a _ g1 g2 g3 hs.drew
          rw [perm_size okp] at this
          refine perm_any okp _ _ _ a _ (by simp) (by simp) (fun i hi => ?_) this
          have := okp.q_lt i hi
          simp only [Array.getD_eq_getD_getElem?, Array.getElem?_replicate, if_pos this, if_pos hi]
        · split at hc
          · rename_i hok
            simp only [Bool.and_eq_true] at hok
            cases hc
            simp only [X] at hx
            have okp := OkP.of hok.1.2
            obtain ⟨t', h', n', hk, hn, hw⟩ := xops_draw (permOps ops p q) (strictL (permOps ops p q) l 0 l) ⟨_, hl, strictL_ups _ _ _ _⟩ hok.2 hx
            refine ⟨.nrm, t', h', n', hk, hn, fun G a w g1 g2 g3 hs => wp_region_any hok.1.1 ?_⟩
            have := hw G a _ g1 g2 g3 hs.drew
            rw [perm_size okp] at this
            refine perm_any okp _ _ _ a _ (by simp) (by simp) (fun i hi => ?_) this
            have := okp.q_lt i hi
            simp only [Array.getD_eq_getD_getElem?, Array.getElem?_replicate, if_pos this, if_pos hi]
          · split at hc
            · rename_i hok
              simp only [Bool.and_eq_true] at hok
              cases hc
              simp only [X] at hx
              have okp := OkP.of hok.1.2
              obtain ⟨t', h', n', hk, hn, hw⟩ := xops_draw (permOps ops p q) l ⟨_, hl, Ups.refl _⟩ hok.2 hx
              refine ⟨.nrm, t', h', n', hk, hn, fun G a w g1 g2 g3 hs => wp_region_any hok.1.1 ?_⟩
              have := hw G a _ g1 g2 g3 hs.drew
              rw [perm_size okp] at this
              refine perm_any okp _ _ _ a _ (by simp) (by simp) (fun i hi => ?_) this
              have := okp.q_lt i hi
              simp only [Array.getD_eq_getD_getElem?, Array.getElem?_replicate, if_pos this, if_pos hi]
            · split at hc
              · rename_i hok
                simp only [Bool.and_eq_true] at hok
                cases hc
                simp only [X] at hx
                have okp := OkP.of hok.1.2
                obtain ⟨t', h', n', hk, hn, hw⟩ := xops_draw2 (permOps ops p q) l (K := fun t' h' n' => K .nrm t' h' n') hl hok.2 hx
                refine ⟨.nrm, t', h', n', hk, hn, fun G a w g1 g2 g3 hs => wp_region_any hok.1.1 ?_⟩
                have := hw G a _ g1 g2 g3 hs.drew
                rw [perm_size okp] at this
                refine perm_any okp _ _ _ a _ (by simp) (by simp) (fun i hi => ?_) this
                have := okp.q_lt i hi
                simp only [Array.getD_eq_getD_getElem?, Array.getElem?_replicate, if_pos this, if_pos hi]
              · split at hc
                · rename_i hok
                  simp only [Bool.and_eq_true] at hok
                  cases hc
                  simp only [X] at hx
                  have okp := OkP.of hok.1.2
                  obtain ⟨t', h', n', hk, hn, hw⟩ := xops_draw4 (permOps ops p q) (markP P (permOps ops p q) l 0 l) (K := fun t' h' n' => K .nrm t' h' n') ⟨_, hl, markP_ups _ _ _ _ _⟩ hok.2 hx
                  refine ⟨.nrm, t', h', n', hk, hn, fun G a w g1 g2 g3 hs => wp_region_any hok.1.1 ?_⟩
                  have := hw G a _ g1 g2 g3 hs.drew
                  rw [perm_size okp] at this
                  refine perm_any okp _ _ _ a _ (by simp) (by simp) (fun i hi => ?_) this
                  have := okp.q_lt i hi
                  simp only [Array.getD_eq_getD_getElem?, Array.getElem?_replicate, if_pos this, if_pos hi]
                · simp only [compQ] at hc
                  generalize orderLate ops ops.size (Array.replicate ops.size false) [] = p2 at hc
                  generalize invOf ops.size p2 = q2 at hc
                  split at hc
                  · rename_i l2 hl2
                    split at hc
                    · rename_i hok
                      simp only [Bool.and_eq_true] at hok
                      cases hc
                      simp only [X] at hx
                      have okp := OkP.of hok.1.2
                      obtain ⟨t', h', n', hk, hn, hw⟩ := xops_draw (permOps ops p2 q2) (l2.map toQ) ⟨_, hl2, toQ_ups _⟩ hok.2 hx
                      refine ⟨.nrm, t', h', n', hk, hn, fun G a w g1 g2 g3 hs => wp_region_any hok.1.1 ?_⟩
                      have := hw G a _ g1 g2 g3 hs.drew
                      rw [perm_size okp] at this
                      refine perm_any okp _ _ _ a _ (by simp) (by simp) (fun i hi => ?_) this
                      have := okp.q_lt i hi
                      simp only [Array.getD_eq_getD_getElem?, Array.getElem?_replicate, if_pos this, if_pos hi]
                    · cases hc
                  · cases hc
      · cases hc
  | seq a b iha ihb =>
    intro c t h n K hc hx
    simp only [compC] at hc
    split at hc
    · rename_i ca cb ha hb
      cases hc
      simp only [X] at hx
      obtain ⟨e, t1, h1, n1, hk, hn, hw⟩ := iha ca t h n _ ha hx
      cases e with
      | nrm =>
        obtain ⟨e2, t2, h2, n2, hk2, hn2, hw2⟩ := ihb cb t1 h1 n1 K hb hk
        refine ⟨e2, t2, h2, n2, hk2, Nat.le_trans hn hn2, fun G a w g1 g2 g3 hs => wp_seq (wp_mono (hw G a w g1 g2 (by omega) hs) ?_)⟩
        rintro e' a' w' ⟨rfl, hs'⟩
        exact hw2 G a' w' g1 g2 g3 hs'
      | ex id =>
        refine ⟨.ex id, t1, h1, n1, hk, hn, fun G a w g1 g2 g3 hs => wp_seq (wp_mono (hw G a w g1 g2 g3 hs) ?_)⟩
        rintro e' a' w' ⟨rfl, hs'⟩
        exact ⟨rfl, hs'⟩
      | ret =>
        refine ⟨.ret, t1, h1, n1, hk, hn, fun G a w g1 g2 g3 hs => wp_seq (wp_mono (hw G a w g1 g2 g3 hs) ?_)⟩
        rintro e' a' w' ⟨rfl, hs'⟩
        exact ⟨rfl, hs'⟩
    · cases hc
  | cond x a b iha ihb =>
    intro c t h n K hc hx
    simp only [compC] at hc
    split at hc
    · rename_i x' ca cb hx' ha hb
      cases hc
      simp only [X] at hx
      split at hx
      · rename_i bc hbc
        have hev : ∀ (G : Gx) (act : Act) (w : World), S G t h n act w → act.eval x = .bool bc := fun G act w hs => by
          obtain ⟨ρ, h1, _⟩ := hs
          have := compA_is (ρ := ρ) (t := t) (a := act) hx' (Rel.of_all h1)
          rw [hbc] at this; simp only [Is] at this; exact this
        cases bc with
        | true =>
          obtain ⟨e, t1, h1, n1, hk, hn, hw⟩ := iha ca _ h n K ha (hx.1 rfl)
          exact ⟨e, t1, h1, n1, hk, hn, fun G act w g1 g2 g3 hs => wp_cond_true (hev G act w hs) (hw G act w g1 g2 g3 (hs.setA hbc))⟩
        | false =>
          obtain ⟨e, t1, h1, n1, hk, hn, hw⟩ := ihb cb _ h n K hb (hx.2 rfl)
          exact ⟨e, t1, h1, n1, hk, hn, fun G act w g1 g2 g3 hs => wp_cond_false (hev G act w hs) (hw G act w g1 g2 g3 (hs.setA hbc))⟩
      · exact hx.elim
    · cases hc
  | block id body ih =>
    intro c t h n K hc hx
    simp only [compC, Option.map_eq_some_iff] at hc
    obtain ⟨cb, hb, rfl⟩ := hc
    simp only [X] at hx
    obtain ⟨e, t1, h1, n1, hk, hn, hw⟩ := ih cb t h n _ hb hx
    cases e with
    | nrm =>
      refine ⟨.nrm, t1, h1, n1, hk, hn, fun G a w g1 g2 g3 hs => wp_block (wp_mono (hw G a w g1 g2 g3 hs) ?_)⟩
      rintro e' a' w' ⟨rfl, hs'⟩
      exact ⟨rfl, hs'⟩
    | ret =>
      refine ⟨.ret, t1, h1, n1, hk, hn, fun G a w g1 g2 g3 hs => wp_block (wp_mono (hw G a w g1 g2 g3 hs) ?_)⟩
      rintro e' a' w' ⟨rfl, hs'⟩
      exact ⟨rfl, hs'⟩
    | ex j =>
      simp only at hk
      by_cases hj : j = id
      · rw [if_pos hj] at hk
        refine ⟨.nrm, t1, h1, n1, hk, hn, fun G a w g1 g2 g3 hs => wp_block (wp_mono (hw G a w g1 g2 g3 hs) ?_)⟩
        rintro e' a' w' ⟨rfl, hs'⟩
        simp only [E.out, Exit.inBlock, if_pos hj]
        exact ⟨trivial, hs'⟩
      · rw [if_neg hj] at hk
        refine ⟨.ex j, t1, h1, n1, hk, hn, fun G a w g1 g2 g3 hs => wp_block (wp_mono (hw G a w g1 g2 g3 hs) ?_)⟩
        rintro e' a' w' ⟨rfl, hs'⟩
        simp only [E.out, Exit.inBlock, if_neg hj]
        exact ⟨trivial, hs'⟩
  | loop body ih =>
    intro c t h n K hc hx
    simp only [compC, Option.map_eq_some_iff] at hc
    obtain ⟨cb, hb, rfl⟩ := hc
    simp only [X] at hx
    obtain ⟨k, hx⟩ := hx
    have key : ∀ k t h n, itr (X P n0 W cb) k t h n K → ∃ e t' h' n', K e t' h' n' ∧ n ≤ n' ∧ ∀ (G : Gx) (a : Act) (w : World), G.W = W → G.n0 = n0 → n' ≤ G.n1 → S G t h n a w →
        Code.rounds P body (fun e' a' w' => e' = e.out ∧ S G t' h' n' a' w') k a w := by
      intro k
      induction k with
      | zero => intro t h n hx; exact hx.elim
      | succ k ihk =>
        intro t h n hx
        simp only [itr] at hx
        obtain ⟨t0, h0, n0', hwk, hx⟩ := hx
        obtain ⟨e, t1, h1, n1, hk, hn, hw⟩ := ih cb t0 h0 n0' _ hb hx
        have hnn := hwk.2.2
        cases e with
        | nrm =>
          obtain ⟨e2, t2, h2, n2, hk2, hn2, hw2⟩ := ihk t1 h1 n1 hk
          refine ⟨e2, t2, h2, n2, hk2, by omega, fun G a w g1 g2 g3 hs => ?_⟩
          rw [rounds_succ]
          refine wp_mono (hw G a w g1 g2 (by omega) (hs.wk hwk)) ?_
          rintro e' a' w' ⟨rfl, hs'⟩
          exact hw2 G a' w' g1 g2 g3 hs'
        | ex id =>
          refine ⟨.ex id, t1, h1, n1, hk, by omega, fun G a w g1 g2 g3 hs => ?_⟩
          rw [rounds_succ]
          refine wp_mono (hw G a w g1 g2 g3 (hs.wk hwk)) ?_
          rintro e' a' w' ⟨rfl, hs'⟩
          exact ⟨rfl, hs'⟩
        | ret =>
          refine ⟨.ret, t1, h1, n1, hk, by omega, fun G a w g1 g2 g3 hs => ?_⟩
          rw [rounds_succ]
          refine wp_mono (hw G a w g1 g2 g3 (hs.wk hwk)) ?_
          rintro e' a' w' ⟨rfl, hs'⟩
          exact ⟨rfl, hs'⟩
    obtain ⟨e, t', h', n', hk, hn, hw⟩ := key k t h n hx
    exact ⟨e, t', h', n', hk, hn, fun G a w g1 g2 g3 hs => wp_loop_rounds k (hw G a w g1 g2 g3 hs)⟩
  | _ =>
    intro c t h n K hc hx
    simp [compC] at hc
end

inductive RV where
  | t (i : Nat)
  | c1 (i : Nat)
  | ca (i s : Nat)
def compR (P : Program) : ResultVar → Option RV
  | .tmp t => some (.t t)
  | .cell a ty => match isAgg' P ty, sizeOf' P ty with
    | some true, some s => some (.ca a s)
    | some false, some _ => some (.c1 a)
    | _, _ => none
def compRs (P : Program) : List ResultVar → Option (List RV)
  | [] => some []
  | r :: rs => match compR P r, compRs P rs with
    | some a, some l => some (a :: l)
    | _, _ => none
def xres : List RV → List AV → AH → (List AV → Prop) → Prop
  | [], _, _, K => K []
  | .t i :: r, t, h, K => xres r t h fun vs => K (t.getD i .any :: vs)
  | .c1 i :: r, t, h, K => match t.getD i .any with
    | .ptr id o => ∃ b c, h id = some b ∧ b.cells[o]? = some c ∧ xres r t h fun vs => K (c :: vs)
    | _ => False
  | .ca i s :: r, t, h, K => match t.getD i .any with
    | .ptr id o => ∃ b, h id = some b ∧ o + s ≤ b.cells.length ∧ xres r t h fun vs => K (.agg (cutA b.cells o s) :: vs)
    | _ => False
def oneOr : List AV → AV
  | [v] => v
  | vs => .tup vs

structure F where
  c : C
  nt : Nat
  rs : List RV
def compF (P : Program) (fn : Func) : Option F := match fn.body with
  | some code => if fn.name == "runtime.NumGoroutine" then none else match compC P code, compRs P fn.results.toList with
    | some c, some rs => some ⟨c, fn.ntmps, rs⟩
    | _, _ => none
  | none => none

theorem xres_run {P : Program} {t : List AV} {h : AH} : ∀ (rs : List ResultVar) (rs' : List RV) (K : List AV → Prop), compRs P rs = some rs' → xres rs' t h K →
    ∃ vs, K vs ∧ ∀ (ρ : Rho) (a : Act) (w : World) (g : ResultVar → Sem Value), (∀ i, g (.tmp i) = pure (a.tmps.getD i undef)) → (∀ b ty, g (.cell b ty) = (do loadVar ty (← asAddr (a.tmps.getD b undef)))) →
      IsL ρ t a.tmps.toList → Sim ρ h w → ∃ us : List Value, IsL ρ vs us ∧ (rs.mapM g).run P w = .ok us w
  | [], rs', K, hc, hx => by
    simp only [compRs, Option.some.injEq] at hc; subst hc
    exact ⟨[], hx, fun ρ a w g _ _ _ _ => ⟨[], IsL.nil ρ, by simp⟩⟩
  | r :: rs, rs', K, hc, hx => by
    have slot : ∀ (ρ : Rho) (a : Act), IsL ρ t a.tmps.toList → ∀ i, Is ρ (t.getD i .any) (a.tmps.getD i undef) := fun ρ a h1 i => Rel.of_all (ds := [i]) h1 i (List.mem_singleton.2 rfl)
    simp only [compRs] at hc
    split at hc
    · rename_i r' l hr hl
      cases hc
      cases r with
      | tmp i =>
        simp only [compR, Option.some.injEq] at hr; subst hr
        simp only [xres] at hx
        obtain ⟨vs, hk, hall⟩ := xres_run rs l _ hl hx
        refine ⟨_, hk, fun ρ a w g g1 g2 h1 h2 => ?_⟩
        obtain ⟨us, hu, hrun⟩ := hall ρ a w g g1 g2 h1 h2
        refine ⟨_, IsL.cons (slot ρ a h1 i) hu, ?_⟩
        simp only [List.mapM_cons, Sem.run_bind, g1, Sem.run_pure, Result.andThen_ok, hrun]
      | cell b ty =>
        simp only [compR] at hr
        split at hr
        · rename_i s ha hs
          cases hr
          simp only [xres] at hx
          split at hx
          · rename_i id o hp
            obtain ⟨bl, hb, hlen, hx⟩ := hx
            obtain ⟨vs, hk, hall⟩ := xres_run rs l _ hl hx
            refine ⟨_, hk, fun ρ a w g g1 g2 h1 h2 => ?_⟩
            obtain ⟨us, hu, hrun⟩ := hall ρ a w g g1 g2 h1 h2
            have e1 := slot ρ a h1 b
            rw [hp] at e1; simp only [Is] at e1
            obtain ⟨r, hr', e1⟩ := e1
            obtain ⟨r', f1, f2⟩ := h2.lies id bl hb
            rw [hr'] at f1; cases f1
            obtain ⟨cs, q1, q2, q3⟩ := read_cells f2 o s hlen
            have hrc := run_loadCells_list (P := P) w ⟨r.b, r.s + o, none⟩ cs q3
            rw [q1] at hrc
            refine ⟨_, IsL.cons (v := .agg cs.toArray) (by simp only [Is]; exact ⟨cs, rfl, q2⟩) hu, ?_⟩
            simp only [List.mapM_cons, Sem.run_bind, g2, e1, asAddr, Sem.run_pure, Result.andThen_ok, loadVar, isAgg'_run ha, if_true, sizeOf'_run hs, hrc, hrun]
          · exact hx.elim
        · rename_i s ha hs
          cases hr
          simp only [xres] at hx
          split at hx
          · rename_i id o hp
            obtain ⟨bl, c, hb, hc', hx⟩ := hx
            obtain ⟨vs, hk, hall⟩ := xres_run rs l _ hl hx
            refine ⟨_, hk, fun ρ a w g g1 g2 h1 h2 => ?_⟩
            obtain ⟨us, hu, hrun⟩ := hall ρ a w g g1 g2 h1 h2
            have e1 := slot ρ a h1 b
            rw [hp] at e1; simp only [Is] at e1
            obtain ⟨r, hr', e1⟩ := e1
            obtain ⟨r', f1, f2⟩ := h2.lies id bl hb
            rw [hr'] at f1; cases f1
            obtain ⟨v, q1, q2⟩ := f2.cells o c hc'
            refine ⟨_, IsL.cons q2 hu, ?_⟩
            simp only [List.mapM_cons, Sem.run_bind, g2, e1, asAddr, Sem.run_pure, Result.andThen_ok, loadVar, isAgg'_run ha, Bool.false_eq_true, if_false, run_load, q1, hrun]
          · exact hx.elim
        · cases hr
    · cases hc

theorem oneOr_is {ρ : Rho} {vs : List AV} {us : List Value} (h : IsL ρ vs us) : Is ρ (oneOr vs) (if h : us.toArray.size = 1 then us.toArray[0] else .tuple us.toArray) := by
  match vs, us, h with
  | [], us, h =>
    simp only [IsL] at h; subst h
    simp only [oneOr, Is]
    exact ⟨[], by simp, IsL.nil ρ⟩
  | [v], us, h =>
    simp only [IsL] at h
    obtain ⟨u, r, rfl, h1, rfl⟩ := h
    simpa [oneOr] using h1
  | v :: v' :: vs, us, h =>
    have hl := h.length
    have : ¬ us.toArray.size = 1 := by simp at hl ⊢; omega
    rw [dif_neg this]
    simp only [oneOr, Is]
    exact ⟨us, rfl, h⟩

theorem bcalls {P : Program} {W : Nat → Prop} {f : Nat} {fn : Func} {F' : F} {args : List AV} {h : AH} {n : Nat} {K : AV → AH → Nat → Prop} (hf : P.funcs[f]? = some fn) (hF : compF P fn = some F')
    (hx : X P n W F'.c (args ++ List.replicate (F'.nt - args.length) .any) h n fun e t' h' n' => (e = .nrm ∨ e = .ret) ∧ xres F'.rs t' h' fun vs => K (oneOr vs) h' n') :
    ∃ v h' n', K v h' n' ∧ BCalls P W f args h n v h' n' := by
  simp only [compF] at hF
  split at hF
  · rename_i code hb
    split at hF
    · cases hF
    · rename_i hname
      split at hF
      · rename_i c rs hc hrs
        cases hF
        simp only at hx
        obtain ⟨e, t', h', n', ⟨he, hres⟩, hn, hw⟩ := X_sound code c _ h n _ hc hx
        obtain ⟨vs, hk, hall⟩ := xres_run fn.results.toList rs _ hrs hres
        refine ⟨_, _, _, hk, by simp only [okFn, hf, hb, Option.isSome_some, Bool.true_and, Bool.not_eq_true']; simpa using hname, hn, fun ρ w us hsim hargs hfree => ?_⟩
        refine calls_of_wp hf hb ?_
        have hS : S ⟨ρ, w, W, n, n'⟩ (args ++ List.replicate (fn.ntmps - args.length) .any) h n { tmps := us.toArray ++ Array.replicate (fn.ntmps - us.toArray.size) undef, defers := [] } w := by
          refine ⟨ρ, ?_, rfl, hsim, hfree, Nat.le_refl _, Cx.refl ρ w W n n' hfree⟩
          have h1 : (us.toArray ++ Array.replicate (fn.ntmps - us.toArray.size) undef).toList = us ++ List.replicate (fn.ntmps - us.length) undef := by simp
          rw [h1, hargs.length]
          refine hargs.append ?_
          have := IsL.replicate_any ρ (List.replicate (fn.ntmps - args.length) undef)
          simpa using this
        refine wp_mono (hw ⟨ρ, w, W, n, n'⟩ _ w rfl rfl (Nat.le_refl _) hS) fun e' a' w' ⟨he', hs'⟩ => ?_
        obtain ⟨ρ', p1, p2, p3, p4, p5, p6⟩ := hs'
        obtain ⟨rv, hrv, hrun⟩ := hall ρ' a' w' (fun | .tmp i => pure (a'.tmps.getD i undef) | .cell b ty => do loadVar ty (← asAddr (a'.tmps.getD b undef))) (fun _ => rfl) (fun _ _ => rfl) p1 p3
        have hpost : a'.defers = [] ∧ ∃ v, (results fn a'.tmps).run P w' = .ok v w' ∧ ∃ rv ρ', Ending.returned v = .returned rv ∧ Is ρ' (oneOr vs) rv ∧ Sim ρ' h' w' ∧ Cx ⟨ρ, w, W, n, n'⟩ ρ' w' := by
          refine ⟨p2, _, ?_, _, ρ', rfl, oneOr_is hrv, p3, p6⟩
          simp only [results, Array.mapM_eq_mapM_toList, Sem.run_bind, Sem.run_map]
          change (((List.mapM (fun (x : ResultVar) => (match x with | .tmp i => pure (a'.tmps.getD i undef) | .cell b ty => do loadVar ty (← asAddr (a'.tmps.getD b undef)) : Sem Value)) fn.results.toList).run P w').andThen fun a w' => Result.ok a.toArray w').andThen _ = _
          rw [hrun]
          rfl
        rcases he with rfl | rfl
        · subst he'; exact hpost
        · subst he'; exact hpost
      · cases hF
  · cases hF

section
variable {P : Program} {W : Nat → Prop} {f : Nat} {args : List AV} {h h' : AH} {n n' : Nat} {v : AV}

theorem BCalls.quiet (c : BCalls P none' f args h n v h' n') : BCalls P none' f args h n v h n' :=
  ⟨c.1, c.2.1, fun ρ w vs hs ha hf => (c.2.2 ρ w vs hs ha hf).mono fun e w' ⟨rv, ρ', h1, h2, h3, h4⟩ =>
    ⟨rv, ρ', h1, h2, (hs.mix h4 hf (Sim.emp ρ' w')).less fun i b hb => by
      obtain ⟨r, hr, _⟩ := hs.lies i b hb
      simp only [mix]
      rw [if_neg fun hm => by rw [hf i hm.1 hm.2] at hr; cases hr]
      exact hb, h4⟩⟩

def Q (P : Program) (f : Nat) (args : List AV) (h : AH) (n : Nat) (v : AV) : Prop := ∃ n', BCalls P none' f args h n v h n'

theorem Q.mk (c : BCalls P none' f args h n v h' n') : Q P f args h n v := ⟨n', c.quiet⟩

theorem q_use {n0 : Nat} {W : Nat → Prop} {d : Bool} {K : AV → AH → Nat → Prop} (q : Q P f args h n v) (hk : ∀ n', n ≤ n' → K v h n') :
    CallC P n0 W d f args h n K := by
  obtain ⟨n', c⟩ := q
  exact ⟨v, h, n', none', c, fun _ _ h => h.elim, fun _ => ⟨rfl, fun _ _ => rfl⟩, hk n' c.2.1⟩
end


theorem kInt_mono {k : IntKind} {x : Int} {K K' : AV → Prop} (hk : ∀ v, K v → K' v) : kInt k x K → kInt k x K' := by
  cases k <;> simp only [kInt] <;> first | exact hk _ | exact fun h => ⟨h.1, hk _ h.2⟩
theorem xint_mono {op : BinOp} {k : IntKind} {a b : Int} {K K' : AV → Prop} (hk : ∀ v, K v → K' v) : xint op k a b K → xint op k a b K' := by
  cases op <;> simp only [xint] <;> first | exact hk _ | exact kInt_mono hk | exact fun h => ⟨h.1, kInt_mono hk h.2⟩ | exact fun h => ⟨h.1, hk _ h.2⟩ | exact id
theorem xbin_mono {op : BinOp} {x y : AV} {K K' : AV → Prop} (hk : ∀ v, K v → K' v) : xbin op x y K → xbin op x y K' := by
  unfold xbin
  cases x <;> first | exact id | skip
  all_goals (cases y <;> first | exact id | skip)
  all_goals (cases op <;> first | exact id | exact hk _ | exact fun h => ⟨h.1, kInt_mono hk h.2⟩ | exact fun h => ⟨h.1, hk _ h.2⟩ | exact fun h => ⟨h.1, xint_mono hk h.2⟩)
theorem bnds_mono {len cap : Nat} {lo hi mx : Option AV} {K K' : Nat → Nat → Nat → Prop} (hk : ∀ a b c, K a b c → K' a b c) : bnds len cap lo hi mx K → bnds len cap lo hi mx K' := by
  unfold bnds
  intro h
  split at h
  · split at h
    · split at h
      · exact hk _ _ _ h
      · exact ⟨h.1, h.2.1, hk _ _ _ h.2.2⟩
      · exact h.elim
    · refine ⟨h.1, h.2.1, ?_⟩
      have h := h.2.2
      split at h
      · exact hk _ _ _ h
      · exact ⟨h.1, h.2.1, hk _ _ _ h.2.2⟩
      · exact h.elim
    · exact h.elim
  · refine ⟨h.1, h.2.1, ?_⟩
    have h := h.2.2
    split at h
    · refine ⟨h.1, h.2.1, ?_⟩
      have h := h.2.2
      split at h
      · exact hk _ _ _ h
      · exact ⟨h.1, h.2.1, hk _ _ _ h.2.2⟩
      · exact h.elim
    · exact h.elim
  · exact h.elim
theorem FE_mono {neg : Bool} {v u : AV} {K K' : AV → Prop} (hk : ∀ v, K v → K' v) (h : FE neg v u K) : FE neg v u K' := by
  obtain ⟨a, b, c, d, e1, e2, h⟩ := FE_elim h
  subst e1 e2
  exact hk _ h
theorem xp_mono {o : O} {t : List AV} {K K' : AV → Prop} (hk : ∀ v, K v → K' v) : xp o t K → xp o t K' := by
  cases o <;> simp only [xp] <;> try exact id
  case mv => exact hk _
  case pick c a b => generalize ev t c = q; cases q <;> first | exact id | exact fun h => ⟨fun e => hk _ (h.1 e), fun e => hk _ (h.2 e)⟩
  case bin => exact xbin_mono hk
  case beq neg x y =>
    generalize ev t x = p; generalize ev t y = q
    cases p <;> first | exact id | (cases q <;> first | exact id | exact hk _)
  case feq neg x y => exact FE_mono hk
  case nileq neg x y => generalize ev t x = p; cases p <;> first | exact id | exact hk _
  case nilseq neg x => generalize ev t x = p; cases p <;> first | exact id | exact hk _
  case un op x => generalize ev t x = p; cases op <;> cases p <;> first | exact id | exact hk _ | exact kInt_mono hk
  case build z ps => cases fillA z _ <;> first | exact id | exact hk _
  case nck x => generalize ev t x = p; cases p <;> first | exact id | exact hk _
  case cvi k x => generalize ev t x = p; cases p <;> first | exact id | exact kInt_mono hk
  case cvs x => generalize ev t x = p; cases p <;> first | exact id | exact hk _
  case mkf => exact hk _
  case slc es x lo hi m =>
    generalize ev t x = p
    intro h
    split at h
    · exact bnds_mono (fun _ _ _ => hk _) h
    · split at h
      · exact hk _ h
      · exact ⟨h.1, h.2.1, hk _ h.2.2⟩
      · exact ⟨h.1, h.2.1, hk _ h.2.2⟩
      · exact ⟨h.1, h.2.1, h.2.2.1, hk _ h.2.2.2⟩
      · exact h.elim
    · split at h
      · exact ⟨h.1, h.2.1, hk _ h.2.2⟩
      · exact ⟨h.1, h.2.1, hk _ h.2.2⟩
      · exact h.elim
    · split at h <;> first | exact hk _ h | exact h.elim
    · exact h.elim
  case sls x lo hi =>
    generalize ev t x = p
    intro h
    split at h
    · exact bnds_mono (fun _ _ _ => hk _) h
    · exact h.elim
  case fa off x => generalize ev t x = p; cases p <;> first | exact id | exact hk _
  case fld s off x => generalize ev t x = p; cases p <;> first | exact id | exact hk _
  case fld1 off x => generalize ev t x = p; cases p <;> first | exact id | exact fun ⟨c, h1, h2⟩ => ⟨c, h1, hk _ h2⟩
  case ia es x i =>
    generalize ev t x = p; generalize ev t i = q
    cases p <;> first | exact id | (cases q <;> first | exact id | exact fun h => ⟨h.1, h.2.1, hk _ h.2.2⟩)
  case ixs x i =>
    generalize ev t x = p; generalize ev t i = q
    cases p <;> first | exact id | (cases q <;> first | exact id | exact fun ⟨c, h0, h1, h2⟩ => ⟨c, h0, h1, hk _ h2⟩)
  case ext x i => generalize ev t x = p; cases p <;> first | exact id | exact fun ⟨c, h1, h2⟩ => ⟨c, h1, hk _ h2⟩
  case len x => generalize ev t x = p; cases p <;> first | exact id | exact hk _
  case lens x => generalize ev t x = p; cases p <;> first | exact id | exact hk _
  case cap x => generalize ev t x = p; cases p <;> first | exact id | exact hk _
  case mx xs =>
    intro h
    split at h
    · split at h
      · exact hk _ h
      · exact h.elim
    · exact h.elim
  case mn xs =>
    intro h
    split at h
    · split at h
      · exact hk _ h
      · exact h.elim
    · exact h.elim
theorem xo_mono {P : Program} {n0 : Nat} {W : Nat → Prop} {d : Bool} {o : O} {t : List AV} {h : AH} {n : Nat} {K K' : AV → AH → Nat → Prop} (hk : ∀ v h n, K v h n → K' v h n) : xo P n0 W d o t h n K → xo P n0 W d o t h n K' := by
  cases o <;> try (simp only [xo]; exact xp_mono (fun v => hk v h n))
  case alloc => exact hk _ _ _
  case box => exact fun h => ⟨h.1, hk _ _ _ h.2⟩
  case mks ty es z l c =>
    simp only [xo]
    generalize ev t l = p; generalize ev t c = q
    cases p <;> first | exact id | (cases q <;> first | exact id | exact fun h => ⟨h.1, h.2.1, h.2.2.1, hk _ _ _ h.2.2.2⟩)
  case lit ty es len z ps => simp only [xo]; cases fillA _ _ <;> first | exact id | exact hk _ _ _
  case ld1 x => simp only [xo]; generalize ev t x = p; cases p <;> first | exact id | exact fun ⟨b, c, h1, h2, h3⟩ => ⟨b, c, h1, h2, hk _ _ _ h3⟩
  case ld s x => simp only [xo]; generalize ev t x = p; cases p <;> first | exact id | exact fun ⟨b, h1, h2, h3⟩ => ⟨b, h1, h2, hk _ _ _ h3⟩
  case st s x y => simp only [xo]; generalize ev t x = p; cases p <;> first | exact id | exact fun ⟨b, h1, h2, h3, h4, h5, h6, h7, h8⟩ => ⟨b, h1, h2, h3, h4, h5, h6, h7, hk _ _ _ h8⟩
  case clr z x => simp only [xo]; generalize ev t x = p; cases p <;> first | exact id | exact fun ⟨b, h1, h2, h3, h4, h5, h6, h7⟩ => ⟨b, h1, h2, h3, h4, h5, h6, hk _ _ _ h7⟩
  case appz ty es x y =>
    simp only [xo]
    generalize ev t x = p; generalize ev t y = q
    cases p <;> first | exact id | (cases q <;> first | exact id | (rename_i k m; cases k <;> first | exact id | exact fun ⟨h1, h2, h3⟩ => ⟨h1, h2, hk _ _ _ h3⟩))
  case app => exact fun ⟨v, h', n', W', h1, h2, h3⟩ => ⟨v, h', n', W', h1, h2, hk _ _ _ h3⟩
  case callq f xs => simp only [xo]; generalize ev t f = p; cases p <;> first | exact id | exact fun ⟨v, h1, h2⟩ => ⟨v, h1, hk _ _ _ h2⟩
  case b2s => exact fun ⟨l, h0, h1, h2⟩ => ⟨l, h0, h1, hk _ _ _ h2⟩
  case callw f xs => simp only [xo]; generalize ev t f = p; cases p <;> first | exact id | exact fun ⟨v, h', n', W', h1, h2, h3, h4⟩ => ⟨v, h', n', W', h1, h2, h3, hk _ _ _ h4⟩
  case callp f xs =>
    simp only [xo]
    cases xs with
    | nil => exact id
    | cons a r =>
      simp only
      generalize ev t f = p; cases p <;> first | exact id | exact fun ⟨v, h', W', i, k, r, b, h1, h2, h3, h4, h5, h6, h7, h8, h9⟩ => ⟨v, h', W', i, k, r, b, h1, h2, h3, h4, h5, h6, h7, h8, hk _ _ _ h9⟩
  case call f xs => simp only [xo]; generalize ev t f = p; cases p <;> first | exact id | exact fun ⟨v, h', n', W', h1, h2, h3, h4⟩ => ⟨v, h', n', W', h1, h2, h3, hk _ _ _ h4⟩
theorem xops_mono {P : Program} {n0 : Nat} {W : Nat → Prop} {d : Bool} {K K' : List AV → AH → Nat → Prop} (hk : ∀ t h n, K t h n → K' t h n) : ∀ (l : List OO) (t : List AV) (h : AH) (n : Nat), xops P n0 W d l t h n K → xops P n0 W d l t h n K'
  | [], _, _, _, h => hk _ _ _ h
  | ⟨dst, o, none⟩ :: r, t, h, n, hx => by
    simp only [xops] at hx ⊢
    exact xo_mono (fun v h' n' => xops_mono hk r _ _ _) hx
  | ⟨dst, o, some (s, b)⟩ :: r, t, h, n, hx => by
    simp only [xops] at hx ⊢
    split at hx
    · exact ⟨fun e => xo_mono (fun v h' n' => xops_mono hk r _ _ _) (hx.1 e), fun e => xops_mono hk r _ _ _ (hx.2 e)⟩
    · exact xops_mono hk r _ _ _ hx
    · exact hx.elim
theorem X_mono {P : Program} {n0 : Nat} {W : Nat → Prop} : ∀ (c : C) (t : List AV) (h : AH) (n : Nat) (K K' : KT), (∀ e t h n, K e t h n → K' e t h n) → X P n0 W c t h n K → X P n0 W c t h n K' := by
  intro c
  induction c with
  | skip => exact fun t h n K K' hk hx => hk _ _ _ _ hx
  | ret => exact fun t h n K K' hk hx => hk _ _ _ _ hx
  | exit id => exact fun t h n K K' hk hx => hk _ _ _ _ hx
  | reg d l => exact fun t h n K K' hk hx => xops_mono (fun t h n => hk _ _ _ _) l t h n hx
  | chk l => exact fun t h n K K' hk hx => ⟨hx.1, hk _ _ _ _ hx.2⟩
  | seq a b iha ihb =>
    intro t h n K K' hk hx
    simp only [X] at hx ⊢
    refine iha t h n _ _ (fun e t' h' n' he => ?_) hx
    cases e with
    | nrm => exact ihb _ _ _ _ _ hk he
    | ex id => exact hk _ _ _ _ he
    | ret => exact hk _ _ _ _ he
  | cond x a b iha ihb =>
    intro t h n K K' hk hx
    simp only [X] at hx ⊢
    split at hx
    · exact ⟨fun e => iha _ _ _ _ _ hk (hx.1 e), fun e => ihb _ _ _ _ _ hk (hx.2 e)⟩
    · exact hx.elim
  | block id c ih =>
    intro t h n K K' hk hx
    simp only [X] at hx ⊢
    refine ih t h n _ _ (fun e t' h' n' he => ?_) hx
    cases e with
    | nrm => exact hk _ _ _ _ he
    | ret => exact hk _ _ _ _ he
    | ex j =>
      simp only at he ⊢
      split at he
      · rename_i hj; rw [if_pos hj]; exact hk _ _ _ _ he
      · rename_i hj; rw [if_neg hj]; exact hk _ _ _ _ he
  | loop c ih =>
    intro t h n K K' hk hx
    obtain ⟨k, hx⟩ := hx
    refine ⟨k, ?_⟩
    revert t h n
    induction k with
    | zero => exact fun _ _ _ h => h
    | succ k ihk =>
      intro t h n hx
      simp only [itr] at hx ⊢
      obtain ⟨t1, h1, n1, hw, hx⟩ := hx
      refine ⟨t1, h1, n1, hw, ih _ _ _ _ _ (fun e t' h' n' he => ?_) hx⟩
      cases e with
      | nrm => exact ihk _ _ _ he
      | ex id => exact hk _ _ _ _ he
      | ret => exact hk _ _ _ _ he


inductive Fr where
  | seq (c : C)
  | blk (id : Nat)

def KS (P : Program) (n0 : Nat) (W : Nat → Prop) : List Fr → KT → KT
  | [], K => K
  | .seq b :: s, K => fun e t h n => match e with
    | .nrm => X P n0 W b t h n (KS P n0 W s K)
    | e => KS P n0 W s K e t h n
  | .blk id :: s, K => fun e t h n => match e with
    | .ex j => if j = id then KS P n0 W s K .nrm t h n else KS P n0 W s K (.ex j) t h n
    | e => KS P n0 W s K e t h n
def KO (P : Program) (n0 : Nat) (W : Nat → Prop) (s : List Fr) (K : KT) : List AV → AH → Nat → Prop := fun t h n => KS P n0 W s K .nrm t h n
def AO (P : Program) (n0 : Nat) (W : Nat → Prop) (d : Bool) (dst : Option Nat) (r : List OO) (t : List AV) (s : List Fr) (K : KT) : AV → AH → Nat → Prop :=
  fun v h n => xops P n0 W d r (setD t dst v) h n (KO P n0 W s K)
def PO (K : AV → AH → Nat → Prop) (h : AH) (n : Nat) : AV → Prop := fun v => K v h n
def KL {α : Type} (T : α → List AV) (H : α → AH) (N : α → Nat) (μ : α → Nat) (a : α) (K : KT) : KT := fun e t h n => match e with
  | .nrm => ∃ b, μ b < μ a ∧ Wk t h n (T b) (H b) (N b)
  | e => K e t h n
def KF (rs : List RV) (K : AV → AH → Nat → Prop) : KT := fun e t h n => (e = .nrm ∨ e = .ret) ∧ xres rs t h fun vs => K (oneOr vs) h n

section
variable {P : Program} {n0 : Nat} {W : Nat → Prop} {t : List AV} {h : AH} {n : Nat} {K : KT} {d : Bool} {s : List Fr}
theorem y_skip : X P n0 W .skip t h n (KS P n0 W s K) = KS P n0 W s K .nrm t h n := rfl
theorem y_reg {l : List OO} : X P n0 W (.reg d l) t h n (KS P n0 W s K) = xops P n0 W d l t h n (KO P n0 W s K) := rfl
theorem y_chk {l : List (A × A)} : X P n0 W (.chk l) t h n (KS P n0 W s K) = (CH l t ∧ KS P n0 W s K .nrm t h n) := rfl
theorem ch_nil : CH [] t = True := rfl
theorem ch_cons {x y : A} {r : List (A × A)} : CH ((x, y) :: r) t = (NEp (ev t x) (ev t y) ∧ CH r t) := rfl
theorem ne_p {i j o o' : Nat} : NEp (.ptr i o) (.ptr j o') = (i ≠ j) := rfl
theorem y_seq {a b : C} : X P n0 W (.seq a b) t h n (KS P n0 W s K) = X P n0 W a t h n (KS P n0 W (.seq b :: s) K) := rfl
theorem y_block {id : Nat} {c : C} : X P n0 W (.block id c) t h n (KS P n0 W s K) = X P n0 W c t h n (KS P n0 W (.blk id :: s) K) := rfl
theorem y_exit {id : Nat} : X P n0 W (.exit id) t h n (KS P n0 W s K) = KS P n0 W s K (.ex id) t h n := rfl
theorem y_ret : X P n0 W .ret t h n (KS P n0 W s K) = KS P n0 W s K .ret t h n := rfl
theorem ks_nil {e : E} : KS P n0 W [] K e t h n = K e t h n := rfl
theorem ks_seq_nrm {b : C} : KS P n0 W (.seq b :: s) K .nrm t h n = X P n0 W b t h n (KS P n0 W s K) := rfl
theorem ks_seq_ex {b : C} {j : Nat} : KS P n0 W (.seq b :: s) K (.ex j) t h n = KS P n0 W s K (.ex j) t h n := rfl
theorem ks_seq_ret {b : C} : KS P n0 W (.seq b :: s) K .ret t h n = KS P n0 W s K .ret t h n := rfl
theorem ks_blk_nrm {id : Nat} : KS P n0 W (.blk id :: s) K .nrm t h n = KS P n0 W s K .nrm t h n := rfl
theorem ks_blk_ret {id : Nat} : KS P n0 W (.blk id :: s) K .ret t h n = KS P n0 W s K .ret t h n := rfl
theorem ks_blk_same {id : Nat} : KS P n0 W (.blk id :: s) K (.ex id) t h n = KS P n0 W s K .nrm t h n := by simp [KS]
theorem ks_blk_ex {id j : Nat} (hj : j ≠ id) : KS P n0 W (.blk id :: s) K (.ex j) t h n = KS P n0 W s K (.ex j) t h n := by simp [KS, hj]
theorem z_nil : xops P n0 W d [] t h n (KO P n0 W s K) = KS P n0 W s K .nrm t h n := rfl
theorem z_op {dst : Option Nat} {o : O} {r : List OO} : xops P n0 W d (⟨dst, o, none⟩ :: r) t h n (KO P n0 W s K) = xo P n0 W d o t h n (AO P n0 W d dst r t s K) := rfl
theorem ao_app {dst : Option Nat} {r : List OO} {v : AV} {h' : AH} {n' : Nat} : AO P n0 W d dst r t s K v h' n' = xops P n0 W d r (setD t dst v) h' n' (KO P n0 W s K) := rfl
theorem po_app {K : AV → AH → Nat → Prop} {v : AV} : PO K h n v = K v h n := rfl
theorem kl_nrm {α : Type} {T : α → List AV} {H : α → AH} {N : α → Nat} {μ : α → Nat} {a : α} : KL T H N μ a K .nrm t h n = ∃ b, μ b < μ a ∧ Wk t h n (T b) (H b) (N b) := rfl
theorem kl_ex {α : Type} {T : α → List AV} {H : α → AH} {N : α → Nat} {μ : α → Nat} {a : α} {j : Nat} : KL T H N μ a K (.ex j) t h n = K (.ex j) t h n := rfl
theorem kl_ret {α : Type} {T : α → List AV} {H : α → AH} {N : α → Nat} {μ : α → Nat} {a : α} : KL T H N μ a K .ret t h n = K .ret t h n := rfl
end

theorem loop_rule {P : Program} {n0 : Nat} {W : Nat → Prop} {c : C} {t : List AV} {h : AH} {n : Nat} {K : KT} {α : Type} (T : α → List AV) (H : α → AH) (N : α → Nat) (μ : α → Nat) (a : α) (h0 : Wk t h n (T a) (H a) (N a))
    (step : ∀ a, X P n0 W c (T a) (H a) (N a) (KS P n0 W [] (KL T H N μ a K))) : X P n0 W (.loop c) t h n K := by
  have key : ∀ m a t h n, μ a < m → Wk t h n (T a) (H a) (N a) → itr (X P n0 W c) m t h n K := by
    intro m
    induction m with
    | zero => intro a t h n hm; omega
    | succ m ih =>
      intro a t h n hm hw
      refine ⟨_, _, _, hw, X_mono c _ _ _ _ _ (fun e t' h' n' he => ?_) (step a)⟩
      cases e with
      | nrm => obtain ⟨b, h1, h2⟩ := he; exact ih b _ _ _ (by omega) h2
      | ex id => exact he
      | ret => exact he
  exact ⟨μ a + 1, key _ a t h n (Nat.lt_succ_self _) h0⟩
theorem q_intro {P : Program} {f : Nat} {args : List AV} {h : AH} {n : Nat} {v : AV} {fn : Func} {F' : F} (hf : P.funcs[f]? = some fn) (hF : compF P fn = some F')
    (hx : X P n none' F'.c (args ++ List.replicate (F'.nt - args.length) .any) h n (KS P n none' [] (KF F'.rs fun v' _ _ => v' = v))) : Q P f args h n v := by
  obtain ⟨v', h', n', rfl, c⟩ := bcalls (K := fun v' _ _ => v' = v) hf hF hx
  exact Q.mk c
theorem f_intro {P : Program} {W : Nat → Prop} {f : Nat} {args : List AV} {h : AH} {n : Nat} {K : AV → AH → Nat → Prop} {fn : Func} {F' : F} (hf : P.funcs[f]? = some fn) (hF : compF P fn = some F')
    (hx : X P n W F'.c (args ++ List.replicate (F'.nt - args.length) .any) h n (KS P n W [] (KF F'.rs K))) : ∃ v h' n', K v h' n' ∧ BCalls P W f args h n v h' n' :=
  bcalls hf hF hx

theorem sto_bool (b : Bool) : AV.storable (.bool b) = true := rfl
theorem one_bool (b : Bool) : AV.one (.bool b) = true := rfl
theorem cel_bool (b : Bool) : AV.cells (.bool b) = [(.bool b)] := rfl
theorem sto_int (k : IntKind) (m : Int) : AV.storable (.int k m) = true := rfl
theorem one_int (k : IntKind) (m : Int) : AV.one (.int k m) = true := rfl
theorem cel_int (k : IntKind) (m : Int) : AV.cells (.int k m) = [(.int k m)] := rfl
theorem sto_str (s : ByteArray) : AV.storable (.str s) = true := rfl
theorem one_str (s : ByteArray) : AV.one (.str s) = true := rfl
theorem cel_str (s : ByteArray) : AV.cells (.str s) = [(.str s)] := rfl
theorem sto_ptr (i o : Nat) : AV.storable (.ptr i o) = true := rfl
theorem one_ptr (i o : Nat) : AV.one (.ptr i o) = true := rfl
theorem cel_ptr (i o : Nat) : AV.cells (.ptr i o) = [(.ptr i o)] := rfl
theorem sto_nilptr  : AV.storable .nilptr = true := rfl
theorem one_nilptr  : AV.one .nilptr = true := rfl
theorem cel_nilptr  : AV.cells .nilptr = [.nilptr] := rfl
theorem sto_sl (i o m c : Nat) : AV.storable (.sl i o m c) = true := rfl
theorem one_sl (i o m c : Nat) : AV.one (.sl i o m c) = true := rfl
theorem cel_sl (i o m c : Nat) : AV.cells (.sl i o m c) = [(.sl i o m c)] := rfl
theorem sto_so (i m : Nat) : AV.storable (.so i m) = true := rfl
theorem one_so (i m : Nat) : AV.one (.so i m) = true := rfl
theorem cel_so (i m : Nat) : AV.cells (.so i m) = [(.so i m)] := rfl
theorem sto_sx (i o m : Nat) : AV.storable (.sx i o m) = true := rfl
theorem one_sx (i o m : Nat) : AV.one (.sx i o m) = true := rfl
theorem cel_sx (i o m : Nat) : AV.cells (.sx i o m) = [(.sx i o m)] := rfl
theorem sto_nilsl  : AV.storable .nilsl = true := rfl
theorem one_nilsl  : AV.one .nilsl = true := rfl
theorem cel_nilsl  : AV.cells .nilsl = [.nilsl] := rfl
theorem sto_fn (f : Nat) (cs : List AV) : AV.storable (.fn f cs) = true := rfl
theorem one_fn (f : Nat) (cs : List AV) : AV.one (.fn f cs) = true := rfl
theorem cel_fn (f : Nat) (cs : List AV) : AV.cells (.fn f cs) = [(.fn f cs)] := rfl
theorem sto_nilif  : AV.storable .nilif = true := rfl
theorem one_nilif  : AV.one .nilif = true := rfl
theorem cel_nilif  : AV.cells .nilif = [.nilif] := rfl
theorem sto_iface  : AV.storable .iface = true := rfl
theorem one_iface  : AV.one .iface = true := rfl
theorem cel_iface  : AV.cells .iface = [.iface] := rfl
theorem sto_agg (cs : List AV) : AV.storable (.agg cs) = cs.all AV.one := rfl
theorem cel_agg (cs : List AV) : AV.cells (.agg cs) = cs := rfl

section
variable {P : Program} {n0 : Nat} {W : Nat → Prop} {t : List AV} {h : AH} {n : Nat} {d : Bool} {s : List Fr}

def CD (P : Program) (n0 : Nat) (W : Nat → Prop) (x : AV) (a b : C) (t : List AV) (h : AH) (n : Nat) (s : List Fr) (K : KT) : Prop := match x with
  | .bool c => (c = true → X P n0 W a t h n (KS P n0 W s K)) ∧ (c = false → X P n0 W b t h n (KS P n0 W s K))
  | _ => False
theorem setA_same {t : List AV} {x : A} {c : Bool} (e : ev t x = .bool c) : setA t x (.bool c) = t := by
  cases x with
  | t k => simp only [setA]; exact set_same (by simpa [ev] using e) (by simp)
  | _ => rfl
theorem y_cond {K : KT} {x : A} {a b : C} : X P n0 W (.cond x a b) t h n (KS P n0 W s K) = CD P n0 W (ev t x) a b t h n s K := by
  simp only [X, CD]
  cases hx : ev t x <;> try rfl
  rename_i c
  cases c <;> simp [setA_same hx]
theorem cd_t {K : KT} {a b : C} : CD P n0 W (.bool true) a b t h n s K = X P n0 W a t h n (KS P n0 W s K) := by simp [CD]
theorem cd_f {K : KT} {a b : C} : CD P n0 W (.bool false) a b t h n s K = X P n0 W b t h n (KS P n0 W s K) := by simp [CD]
theorem cd_dec {K : KT} {a b : C} {p : Prop} [Decidable p] (h1 : p → X P n0 W a t h n (KS P n0 W s K)) (h2 : ¬ p → X P n0 W b t h n (KS P n0 W s K)) : CD P n0 W (.bool (decide p)) a b t h n s K :=
  ⟨fun e => h1 (of_decide_eq_true e), fun e => h2 (of_decide_eq_false e)⟩
def GD (P : Program) (n0 : Nat) (W : Nat → Prop) (d : Bool) (x : AV) (b : Bool) (dst : Option Nat) (o : O) (r : List OO) (t : List AV) (h : AH) (n : Nat) (s : List Fr) (K : KT) : Prop := match x with
  | .bool c => (c = b → xo P n0 W d o t h n (AO P n0 W d dst r t s K)) ∧ (c = (!b) → xops P n0 W d r (setD t dst (.tup [])) h n (KO P n0 W s K))
  | .tup [] => xops P n0 W d r (setD t dst (.tup [])) h n (KO P n0 W s K)
  | _ => False
theorem z_guard {K : KT} {dst : Option Nat} {o : O} {r : List OO} {i : Nat} {b : Bool} : xops P n0 W d (⟨dst, o, some (i, b)⟩ :: r) t h n (KO P n0 W s K) = GD P n0 W d (t.getD i .any) b dst o r t h n s K := by
  simp only [xops, GD]
  cases hx : t.getD i .any with
  | tup cs => cases cs <;> rfl
  | bool c => ?_
  | _ => rfl
  have e := set_same hx (by simp)
  simp only
  cases c <;> cases b <;> simp [e] <;> exact Iff.rfl
theorem gd_tt {K : KT} {dst : Option Nat} {o : O} {r : List OO} : GD P n0 W d (.bool true) true dst o r t h n s K = xo P n0 W d o t h n (AO P n0 W d dst r t s K) := by simp [GD]
theorem gd_ff {K : KT} {dst : Option Nat} {o : O} {r : List OO} : GD P n0 W d (.bool false) false dst o r t h n s K = xo P n0 W d o t h n (AO P n0 W d dst r t s K) := by simp [GD]
theorem gd_tf {K : KT} {dst : Option Nat} {o : O} {r : List OO} : GD P n0 W d (.bool true) false dst o r t h n s K = xops P n0 W d r (setD t dst (.tup [])) h n (KO P n0 W s K) := by simp [GD]
theorem gd_ft {K : KT} {dst : Option Nat} {o : O} {r : List OO} : GD P n0 W d (.bool false) true dst o r t h n s K = xops P n0 W d r (setD t dst (.tup [])) h n (KO P n0 W s K) := by simp [GD]
theorem gd_no {K : KT} {dst : Option Nat} {o : O} {r : List OO} {b : Bool} : GD P n0 W d (.tup []) b dst o r t h n s K = xops P n0 W d r (setD t dst (.tup [])) h n (KO P n0 W s K) := rfl
theorem gd {K : KT} {dst : Option Nat} {o : O} {r : List OO} {b c : Bool} (h1 : c = true → GD P n0 W d (.bool true) b dst o r t h n s K) (h2 : c = false → GD P n0 W d (.bool false) b dst o r t h n s K) :
    GD P n0 W d (.bool c) b dst o r t h n s K := by
  cases c
  · exact h2 rfl
  · exact h1 rfl
theorem gd_dec {K : KT} {dst : Option Nat} {o : O} {r : List OO} {b : Bool} {p : Prop} [Decidable p] (h1 : p → GD P n0 W d (.bool true) b dst o r t h n s K) (h2 : ¬ p → GD P n0 W d (.bool false) b dst o r t h n s K) :
    GD P n0 W d (.bool (decide p)) b dst o r t h n s K := gd (fun e => h1 (of_decide_eq_true e)) (fun e => h2 (of_decide_eq_false e))

theorem cd_y {K : KT} {a b : C} {p : Prop} [Decidable p] (hp : p) : CD P n0 W (.bool (decide p)) a b t h n s K = X P n0 W a t h n (KS P n0 W s K) := by rw [decide_eq_true hp, cd_t]
theorem cd_n {K : KT} {a b : C} {p : Prop} [Decidable p] (hp : ¬ p) : CD P n0 W (.bool (decide p)) a b t h n s K = X P n0 W b t h n (KS P n0 W s K) := by rw [decide_eq_false hp, cd_f]
theorem gd_y {K : KT} {dst : Option Nat} {o : O} {r : List OO} {b : Bool} {p : Prop} [Decidable p] (hp : p) : GD P n0 W d (.bool (decide p)) b dst o r t h n s K = GD P n0 W d (.bool true) b dst o r t h n s K := by rw [decide_eq_true hp]
theorem gd_n {K : KT} {dst : Option Nat} {o : O} {r : List OO} {b : Bool} {p : Prop} [Decidable p] (hp : ¬ p) : GD P n0 W d (.bool (decide p)) b dst o r t h n s K = GD P n0 W d (.bool false) b dst o r t h n s K := by rw [decide_eq_false hp]

variable {K : AV → AH → Nat → Prop}
theorem w_mv {x : A} : xo P n0 W d (.mv x) t h n K = K (ev t x) h n := rfl
def PK (c x y : AV) (K : AV → AH → Nat → Prop) (h : AH) (n : Nat) : Prop := match c with
  | .bool p => (p = true → K x h n) ∧ (p = false → K y h n)
  | _ => False
theorem w_pick {c a b : A} : xo P n0 W d (.pick c a b) t h n K = PK (ev t c) (ev t a) (ev t b) K h n := rfl
theorem pk_t {x y : AV} : PK (.bool true) x y K h n = K x h n := by simp [PK]
theorem pk_f {x y : AV} : PK (.bool false) x y K h n = K y h n := by simp [PK]
theorem pk_y {x y : AV} {p : Prop} [Decidable p] (hp : p) : PK (.bool (decide p)) x y K h n = K x h n := by rw [decide_eq_true hp, pk_t]
theorem pk_n {x y : AV} {p : Prop} [Decidable p] (hp : ¬ p) : PK (.bool (decide p)) x y K h n = K y h n := by rw [decide_eq_false hp, pk_f]
theorem w_bin {op : BinOp} {x y : A} : xo P n0 W d (.bin op x y) t h n K = xbin op (ev t x) (ev t y) (PO K h n) := rfl
section
variable {k k' : IntKind} {a b : Int} {K : AV → Prop}
theorem b_add : xbin .add (.int k a) (.int k b) K = kInt k (a + b) K := by simp [xbin, xint]
theorem b_sub : xbin .sub (.int k a) (.int k b) K = kInt k (a - b) K := by simp [xbin, xint]
theorem b_mul : xbin .mul (.int k a) (.int k b) K = kInt k (a * b) K := by simp [xbin, xint]
theorem b_quo : xbin .quo (.int k a) (.int k b) K = (b ≠ 0 ∧ kInt k (a.tdiv b) K) := by simp [xbin, xint]
theorem b_rem : xbin .rem (.int k a) (.int k b) K = (b ≠ 0 ∧ K (.int k (a.tmod b))) := by simp [xbin, xint]
theorem b_quo' (hb : b ≠ 0) : xbin .quo (.int k a) (.int k b) K = kInt k (a.tdiv b) K := by rw [b_quo]; exact propext ⟨fun h => h.2, fun h => ⟨hb, h⟩⟩
theorem b_rem' (hb : b ≠ 0) : xbin .rem (.int k a) (.int k b) K = K (.int k (a.tmod b)) := by rw [b_rem]; exact propext ⟨fun h => h.2, fun h => ⟨hb, h⟩⟩
theorem b_and : xbin .and (.int k a) (.int k b) K = K (.int k (bitv .and k a b)) := by simp [xbin, xint]
theorem b_or : xbin .or (.int k a) (.int k b) K = K (.int k (bitv .or k a b)) := by simp [xbin, xint]
theorem b_xor : xbin .xor (.int k a) (.int k b) K = K (.int k (bitv .xor k a b)) := by simp [xbin, xint]
theorem b_andNot : xbin .andNot (.int k a) (.int k b) K = K (.int k (bitv .andNot k a b)) := by simp [xbin, xint]
theorem b_eql : xbin .eql (.int k a) (.int k b) K = K (.bool (decide (a = b))) := by simp [xbin, xint]; rfl
theorem b_neq : xbin .neq (.int k a) (.int k b) K = K (.bool (decide (a ≠ b))) := by simp [xbin, xint]; rw [show (a != b) = !decide (a = b) from rfl]
theorem b_lss : xbin .lss (.int k a) (.int k b) K = K (.bool (decide (a < b))) := by simp [xbin, xint]
theorem b_leq : xbin .leq (.int k a) (.int k b) K = K (.bool (decide (a ≤ b))) := by simp [xbin, xint]
theorem b_gtr : xbin .gtr (.int k a) (.int k b) K = K (.bool (decide (b < a))) := by simp [xbin, xint]
theorem b_geq : xbin .geq (.int k a) (.int k b) K = K (.bool (decide (b ≤ a))) := by simp [xbin, xint]
theorem b_shl : xbin .shl (.int k a) (.int k' b) K = (0 ≤ b ∧ kInt k (a * 2 ^ (min b.toNat k.bits)) K) := by simp [xbin]
theorem b_shr : xbin .shr (.int k a) (.int k' b) K = (0 ≤ b ∧ K (.int k (a.fdiv (2 ^ (min b.toNat k.bits))))) := by simp [xbin]
theorem b_shl' (hb : 0 ≤ b) : xbin .shl (.int k a) (.int k' b) K = kInt k (a * 2 ^ (min b.toNat k.bits)) K := by rw [b_shl]; exact propext ⟨fun h => h.2, fun h => ⟨hb, h⟩⟩
theorem b_shr' (hb : 0 ≤ b) : xbin .shr (.int k a) (.int k' b) K = K (.int k (a.fdiv (2 ^ (min b.toNat k.bits)))) := by rw [b_shr]; exact propext ⟨fun h => h.2, fun h => ⟨hb, h⟩⟩
theorem u64w {x : Int} (h0 : 0 ≤ x) (h1 : x ≤ 9223372036854775807) : IntKind.u64.wrap x = x := by simp [IntKind.wrap, IntKind.signed, IntKind.bits]; omega
theorem b_sadd {a b : ByteArray} : xbin .add (.str a) (.str b) K = (a.size + b.size ≤ 9223372036854775807 ∧ K (.str (a ++ b))) := rfl
theorem b_seql {a b : ByteArray} : xbin .eql (.str a) (.str b) K = K (.bool (a.toList == b.toList)) := rfl
theorem b_sneq {a b : ByteArray} : xbin .neq (.str a) (.str b) K = K (.bool (!(a.toList == b.toList))) := rfl
theorem ki_i64 {x : Int} : kInt .i64 x K = (in64 x ∧ K (.int .i64 x)) := rfl
theorem ki_i64' {x : Int} (h1 : -9223372036854775808 ≤ x) (h2 : x ≤ 9223372036854775807) : kInt .i64 x K = K (.int .i64 x) := by rw [ki_i64]; exact propext ⟨fun h => h.2, fun h => ⟨⟨by omega, by omega⟩, h⟩⟩
theorem ki_u64 {x : Int} : kInt .u64 x K = K (.int .u64 (IntKind.u64.wrap x)) := rfl
theorem ki_u8 {x : Int} : kInt .u8 x K = K (.int .u8 (IntKind.u8.wrap x)) := rfl
theorem ki_i32 {x : Int} : kInt .i32 x K = K (.int .i32 (IntKind.i32.wrap x)) := rfl
end
def BQ (neg : Bool) (x y : AV) (K : AV → AH → Nat → Prop) (h : AH) (n : Nat) : Prop := match x, y with
  | .bool p, .bool q => K (.bool (if neg then p != q else p == q)) h n
  | _, _ => False
theorem w_beq {neg : Bool} {x y : A} : xo P n0 W d (.beq neg x y) t h n K = BQ neg (ev t x) (ev t y) K h n := rfl
theorem bq_t {p q : Bool} : BQ true (.bool p) (.bool q) K h n = K (.bool (p != q)) h n := rfl
theorem bq_f {p q : Bool} : BQ false (.bool p) (.bool q) K h n = K (.bool (p == q)) h n := rfl
def NQ (neg : Bool) (x : AV) (K : AV → AH → Nat → Prop) (h : AH) (n : Nat) : Prop := match x with
  | .nilif => K (.bool (!neg)) h n
  | .iface => K (.bool neg) h n
  | _ => False
theorem w_nileq {neg : Bool} {x y : A} : xo P n0 W d (.nileq neg x y) t h n K = NQ neg (ev t x) K h n := rfl
theorem nq_n {neg : Bool} : NQ neg .nilif K h n = K (.bool (!neg)) h n := rfl
theorem nq_i {neg : Bool} : NQ neg .iface K h n = K (.bool neg) h n := rfl
def SQ (neg : Bool) (x : AV) (K : AV → AH → Nat → Prop) (h : AH) (n : Nat) : Prop := match x with
  | .nilsl => K (.bool (!neg)) h n
  | .sl _ _ _ _ => K (.bool neg) h n
  | .so _ _ => K (.bool neg) h n
  | .sx _ _ _ => K (.bool neg) h n
  | _ => False
theorem w_nilseq {neg : Bool} {x : A} : xo P n0 W d (.nilseq neg x) t h n K = SQ neg (ev t x) K h n := rfl
theorem sq_n {neg : Bool} : SQ neg .nilsl K h n = K (.bool (!neg)) h n := rfl
theorem sq_s {neg : Bool} {i o m c : Nat} : SQ neg (.sl i o m c) K h n = K (.bool neg) h n := rfl
theorem sq_o {neg : Bool} {i m : Nat} : SQ neg (.so i m) K h n = K (.bool neg) h n := rfl
def NG (x : AV) (K : AV → Prop) : Prop := match x with
  | .int k m => kInt k (-m) K
  | _ => False
theorem w_neg {x : A} : xo P n0 W d (.un .neg x) t h n K = NG (ev t x) (PO K h n) := by simp only [xo, xp, NG]; cases ev t x <;> rfl
theorem ng {k : IntKind} {m : Int} {K : AV → Prop} : NG (.int k m) K = kInt k (-m) K := rfl
def NT (x : AV) (K : AV → AH → Nat → Prop) (h : AH) (n : Nat) : Prop := match x with
  | .bool b => K (.bool (!b)) h n
  | _ => False
theorem w_not {x : A} : xo P n0 W d (.un .not x) t h n K = NT (ev t x) K h n := by simp only [xo, xp, NT]; cases ev t x <;> rfl
theorem nt {b : Bool} : NT (.bool b) K h n = K (.bool (!b)) h n := rfl
theorem w_alloc {ty : Nat} {z : List AV} : xo P n0 W d (.alloc ty z) t h n K = K (.ptr n 0) (upd h n (some ⟨ty, z, true, 0⟩)) (n + 1) := rfl
theorem w_box {ty : Nat} {x : A} : xo P n0 W d (.box ty x) t h n K = ((ev t x).storable = true ∧ K (.ptr n 0) (upd h n (some ⟨ty, (ev t x).cells, true, 0⟩)) (n + 1)) := rfl
def BD (x : Option (List AV)) (K : AV → AH → Nat → Prop) (h : AH) (n : Nat) : Prop := match x with
  | some cs => K (.agg cs) h n
  | none => False
def evP (t : List AV) : List (Nat × Nat × A) → List (Nat × Nat × AV)
  | [] => []
  | (o, z, x) :: r => (o, z, ev t x) :: evP t r
theorem evP_eq (t : List AV) : ∀ ps : List (Nat × Nat × A), (ps.map fun p => (p.1, p.2.1, ev t p.2.2)) = evP t ps
  | [] => rfl
  | (o, z, x) :: r => by simp [evP, evP_eq t r]
theorem w_build {z : List AV} {ps : List (Nat × Nat × A)} : xo P n0 W d (.build z ps) t h n K = BD (fillA z (evP t ps)) K h n := by
  simp only [xo, xp, BD, evP_eq]; cases fillA z (evP t ps) <;> rfl
theorem bd {cs : List AV} : BD (some cs) K h n = K (.agg cs) h n := rfl
def MK (ty : Nat) (z : List AV) (x y : AV) (K : AV → AH → Nat → Prop) (h : AH) (n : Nat) : Prop := match x, y with
  | .int _ m, .int _ p => 0 ≤ m ∧ m ≤ p ∧ p ≤ 4294967296 ∧ K (.sl n 0 m.toNat p.toNat) (upd h n (some ⟨ty, repA p.toNat z, true, 0⟩)) (n + 1)
  | _, _ => False
theorem w_mks {ty es : Nat} {z : List AV} {l c : A} : xo P n0 W d (.mks ty es z l c) t h n K = MK ty z (ev t l) (ev t c) K h n := rfl
theorem mk_ {ty : Nat} {z : List AV} {k k' : IntKind} {m p : Int} : MK ty z (.int k m) (.int k' p) K h n = (0 ≤ m ∧ m ≤ p ∧ p ≤ 4294967296 ∧ K (.sl n 0 m.toNat p.toNat) (upd h n (some ⟨ty, repA p.toNat z, true, 0⟩)) (n + 1)) := rfl
theorem mk_' {ty : Nat} {z : List AV} {k k' : IntKind} {m p : Int} (h0 : 0 ≤ m) (h1 : m ≤ p) (h2 : p ≤ 4294967296) : MK ty z (.int k m) (.int k' p) K h n = K (.sl n 0 m.toNat p.toNat) (upd h n (some ⟨ty, repA p.toNat z, true, 0⟩)) (n + 1) := by
  rw [mk_]; exact propext ⟨fun h => h.2.2.2, fun h => ⟨h0, h1, h2, h⟩⟩
def AZ (ty es : Nat) (x y : AV) (K : AV → AH → Nat → Prop) (h : AH) (n : Nat) : Prop := match x, y with
  | .nilsl, .int .i64 m => 0 < m ∧ m ≤ 1073741824 ∧ K (.so n m.toNat) (upd h n (some ⟨ty, [], true, es⟩)) (n + 1)
  | _, _ => False
theorem w_appz {ty es : Nat} {x y : A} : xo P n0 W d (.appz ty es x y) t h n K = AZ ty es (ev t x) (ev t y) K h n := rfl
theorem az {ty es : Nat} {m : Int} (h0 : 0 < m) (h1 : m ≤ 1073741824) : AZ ty es .nilsl (.int .i64 m) K h n = K (.so n m.toNat) (upd h n (some ⟨ty, [], true, es⟩)) (n + 1) := by
  simp only [AZ]; exact propext ⟨fun h => h.2.2, fun h => ⟨h0, h1, h⟩⟩
theorem repA_one (p : Nat) (z : AV) : repA p [z] = List.replicate p z := by
  simp only [repA]
  induction p with
  | zero => rfl
  | succ p ih => simp [List.replicate_succ, ih]
theorem repA_zero {z : List AV} : repA 0 z = [] := rfl
theorem repA_succ {k : Nat} {z : List AV} : repA (k + 1) z = z ++ repA k z := by simp [repA, List.replicate_succ]
def LT_ (ty len : Nat) (x : Option (List AV)) (K : AV → AH → Nat → Prop) (h : AH) (n : Nat) : Prop := match x with
  | some cs => K (.sl n 0 len len) (upd h n (some ⟨ty, cs, true, 0⟩)) (n + 1)
  | none => False
def evE (es : Nat) (t : List AV) : List (Nat × A) → List (Nat × Nat × AV)
  | [] => []
  | (i, x) :: r => (i * es, es, ev t x) :: evE es t r
theorem evE_eq (es : Nat) (t : List AV) : ∀ ps : List (Nat × A), elemsOf es (ps.map fun p => (p.1, ev t p.2)) = evE es t ps
  | [] => rfl
  | (i, x) :: r => by have := evE_eq es t r; simp only [elemsOf, List.map_cons, evE] at this ⊢; rw [this]
theorem w_lit {ty es len : Nat} {z : List AV} {ps : List (Nat × A)} : xo P n0 W d (.lit ty es len z ps) t h n K = LT_ ty len (fillA (repA len z) (evE es t ps)) K h n := by
  simp only [xo, LT_, evE_eq]; cases fillA (repA len z) (evE es t ps) <;> rfl
theorem lt_ {ty len : Nat} {cs : List AV} : LT_ ty len (some cs) K h n = K (.sl n 0 len len) (upd h n (some ⟨ty, cs, true, 0⟩)) (n + 1) := rfl
def L1 (x : AV) (K : AV → AH → Nat → Prop) (h : AH) (n : Nat) : Prop := match x with
  | .ptr i o => ∃ b c, h i = some b ∧ b.cells[o]? = some c ∧ K c h n
  | _ => False
def L2 (b : Option Blk) (o : Nat) (K : AV → AH → Nat → Prop) (h : AH) (n : Nat) : Prop := ∃ b' c, b = some b' ∧ b'.cells[o]? = some c ∧ K c h n
def L3 (x : Option AV) (K : AV → AH → Nat → Prop) (h : AH) (n : Nat) : Prop := ∃ c, x = some c ∧ K c h n
theorem w_ld1 {x : A} : xo P n0 W d (.ld1 x) t h n K = L1 (ev t x) K h n := rfl
theorem l1 {i o : Nat} : L1 (.ptr i o) K h n = L2 (h i) o K h n := rfl
theorem l2 {ty op o : Nat} {cs : List AV} {wr : Bool} : L2 (some ⟨ty, cs, wr, op⟩) o K h n = L3 (cs[o]?) K h n := by simp [L2, L3]
theorem l3 {c : AV} : L3 (some c) K h n = K c h n := by simp [L3]
def M1 (z : Nat) (x : AV) (K : AV → AH → Nat → Prop) (h : AH) (n : Nat) : Prop := match x with
  | .ptr i o => ∃ b, h i = some b ∧ o + z ≤ b.cells.length ∧ K (.agg (cutA b.cells o z)) h n
  | _ => False
def M2 (z : Nat) (b : Option Blk) (o : Nat) (K : AV → AH → Nat → Prop) (h : AH) (n : Nat) : Prop := ∃ b', b = some b' ∧ o + z ≤ b'.cells.length ∧ K (.agg (cutA b'.cells o z)) h n
theorem w_ld {z : Nat} {x : A} : xo P n0 W d (.ld z x) t h n K = M1 z (ev t x) K h n := rfl
theorem m1 {z i o : Nat} : M1 z (.ptr i o) K h n = M2 z (h i) o K h n := rfl
theorem m2 {z ty op o : Nat} {cs : List AV} {wr : Bool} : M2 z (some ⟨ty, cs, wr, op⟩) o K h n = (o + z ≤ cs.length ∧ K (.agg (cutA cs o z)) h n) := by simp [M2]
def S1 (n0 : Nat) (W : Nat → Prop) (z : Nat) (x y : AV) (K : AV → AH → Nat → Prop) (h : AH) (n : Nat) : Prop := match x with
  | .ptr i o => ∃ b, h i = some b ∧ b.wr = true ∧ y.storable = true ∧ y.cells.length = z ∧ o + z ≤ b.cells.length ∧ i < n ∧ (n0 ≤ i ∨ W i) ∧ K .any (upd h i (some { b with cells := putA b.cells o y.cells })) n
  | _ => False
def S2 (n0 : Nat) (W : Nat → Prop) (z : Nat) (b : Option Blk) (i o : Nat) (y : AV) (K : AV → AH → Nat → Prop) (h : AH) (n : Nat) : Prop :=
  ∃ b', b = some b' ∧ b'.wr = true ∧ y.storable = true ∧ y.cells.length = z ∧ o + z ≤ b'.cells.length ∧ i < n ∧ (n0 ≤ i ∨ W i) ∧ K .any (upd h i (some { b' with cells := putA b'.cells o y.cells })) n
theorem w_st {z : Nat} {x y : A} : xo P n0 W d (.st z x y) t h n K = S1 n0 W z (ev t x) (ev t y) K h n := rfl
theorem s1 {z i o : Nat} {y : AV} : S1 n0 W z (.ptr i o) y K h n = S2 n0 W z (h i) i o y K h n := rfl
theorem s2 {z ty op i o : Nat} {cs : List AV} {y : AV} : S2 n0 W z (some ⟨ty, cs, true, op⟩) i o y K h n =
    (y.storable = true ∧ y.cells.length = z ∧ o + z ≤ cs.length ∧ i < n ∧ (n0 ≤ i ∨ W i) ∧ K .any (upd h i (some ⟨ty, putA cs o y.cells, true, op⟩)) n) := by simp [S2]
theorem s2' {z ty op i o : Nat} {cs : List AV} {y : AV} (hi : i < n) (hn : n0 ≤ i) : S2 n0 W z (some ⟨ty, cs, true, op⟩) i o y K h n =
    (y.storable = true ∧ y.cells.length = z ∧ o + z ≤ cs.length ∧ K .any (upd h i (some ⟨ty, putA cs o y.cells, true, op⟩)) n) := by
  rw [s2]; exact propext ⟨fun ⟨a, b, c, _, _, e⟩ => ⟨a, b, c, e⟩, fun ⟨a, b, c, e⟩ => ⟨a, b, c, hi, Or.inl hn, e⟩⟩
def NK (x : AV) (K : AV → AH → Nat → Prop) (h : AH) (n : Nat) : Prop := match x with
  | .ptr i o => K (.ptr i o) h n
  | .fn f cs => K (.fn f cs) h n
  | _ => False
theorem w_nck {x : A} : xo P n0 W d (.nck x) t h n K = NK (ev t x) K h n := rfl
theorem nk_p {i o : Nat} : NK (.ptr i o) K h n = K (.ptr i o) h n := rfl
theorem nk_f {f : Nat} {cs : List AV} : NK (.fn f cs) K h n = K (.fn f cs) h n := rfl
def CV (k : IntKind) (x : AV) (K : AV → Prop) : Prop := match x with
  | .int _ m => kInt k m K
  | _ => False
theorem w_cvi {k : IntKind} {x : A} : xo P n0 W d (.cvi k x) t h n K = CV k (ev t x) (PO K h n) := rfl
theorem cv {k k' : IntKind} {m : Int} {K : AV → Prop} : CV k (.int k' m) K = kInt k m K := rfl
def CS (x : AV) (K : AV → AH → Nat → Prop) (h : AH) (n : Nat) : Prop := match x with
  | .str s => K (.str s) h n
  | _ => False
theorem w_cvs {x : A} : xo P n0 W d (.cvs x) t h n K = CS (ev t x) K h n := rfl
theorem cs_ {s : ByteArray} : CS (.str s) K h n = K (.str s) h n := rfl
theorem w_mkf {f : Nat} {cs : List A} : xo P n0 W d (.mkf f cs) t h n K = K (.fn f (cs.map (ev t))) h n := rfl
def FA (off : Nat) (x : AV) (K : AV → AH → Nat → Prop) (h : AH) (n : Nat) : Prop := match x with
  | .ptr i o => K (.ptr i (o + off)) h n
  | _ => False
theorem w_fa {off : Nat} {x : A} : xo P n0 W d (.fa off x) t h n K = FA off (ev t x) K h n := rfl
theorem fa {off i o : Nat} : FA off (.ptr i o) K h n = K (.ptr i (o + off)) h n := rfl
def FL (off z : Nat) (x : AV) (K : AV → AH → Nat → Prop) (h : AH) (n : Nat) : Prop := match x with
  | .agg cs => K (.agg (cutA cs off z)) h n
  | _ => False
theorem w_fld {z off : Nat} {x : A} : xo P n0 W d (.fld z off x) t h n K = FL off z (ev t x) K h n := rfl
theorem fl {off z : Nat} {cs : List AV} : FL off z (.agg cs) K h n = K (.agg (cutA cs off z)) h n := rfl
def F1 (off : Nat) (x : AV) (K : AV → AH → Nat → Prop) (h : AH) (n : Nat) : Prop := match x with
  | .agg cs => ∃ c, cs[off]? = some c ∧ K c h n
  | _ => False
theorem w_fld1 {off : Nat} {x : A} : xo P n0 W d (.fld1 off x) t h n K = F1 off (ev t x) K h n := rfl
theorem f1 {off : Nat} {cs : List AV} : F1 off (.agg cs) K h n = L3 (cs[off]?) K h n := rfl
def IA (es : Nat) (x i : AV) (K : AV → AH → Nat → Prop) (h : AH) (n : Nat) : Prop := match x, i with
  | .sl id o m _, .int _ j => 0 ≤ j ∧ j < m ∧ K (.ptr id (o + j.toNat * es)) h n
  | .so id m, .int _ j => 0 ≤ j ∧ j < m ∧ K (.ptr id (j.toNat * es)) h n
  | .sx id o m, .int _ j => 0 ≤ j ∧ j < m ∧ K (.ptr id (o + j.toNat * es)) h n
  | _, _ => False
theorem w_ia {es : Nat} {x i : A} : xo P n0 W d (.ia es x i) t h n K = IA es (ev t x) (ev t i) K h n := by
  simp only [xo, xp, IA]; cases ev t x <;> cases ev t i <;> rfl
theorem ia_s {es id o m c : Nat} {k : IntKind} {j : Int} : IA es (.sl id o m c) (.int k j) K h n = (0 ≤ j ∧ j < m ∧ K (.ptr id (o + j.toNat * es)) h n) := rfl
theorem ia_o {es id m : Nat} {k : IntKind} {j : Int} : IA es (.so id m) (.int k j) K h n = (0 ≤ j ∧ j < m ∧ K (.ptr id (j.toNat * es)) h n) := rfl
theorem ia_x {es id o m : Nat} {k : IntKind} {j : Int} : IA es (.sx id o m) (.int k j) K h n = (0 ≤ j ∧ j < m ∧ K (.ptr id (o + j.toNat * es)) h n) := rfl
theorem ia_s' {es id o m c : Nat} {k : IntKind} {j : Int} (h0 : 0 ≤ j) (h1 : j < m) : IA es (.sl id o m c) (.int k j) K h n = K (.ptr id (o + j.toNat * es)) h n := by rw [ia_s]; exact propext ⟨fun h => h.2.2, fun h => ⟨h0, h1, h⟩⟩
theorem ia_o' {es id m : Nat} {k : IntKind} {j : Int} (h0 : 0 ≤ j) (h1 : j < m) : IA es (.so id m) (.int k j) K h n = K (.ptr id (j.toNat * es)) h n := by rw [ia_o]; exact propext ⟨fun h => h.2.2, fun h => ⟨h0, h1, h⟩⟩
theorem putA_zero {z cs : List AV} : putA z 0 cs = cs ++ z.drop cs.length := by simp [putA]
theorem putA_cons {a : AV} {z cs : List AV} {k : Nat} : putA (a :: z) (k + 1) cs = a :: putA z k cs := by simp [putA, Nat.succ_add]
def IX (x i : AV) (K : AV → AH → Nat → Prop) (h : AH) (n : Nat) : Prop := match x, i with
  | .str s, .int _ j => ∃ c, 0 ≤ j ∧ s.data[j.toNat]? = some c ∧ K (.int .u8 c.toNat) h n
  | _, _ => False
theorem w_ixs {x i : A} : xo P n0 W d (.ixs x i) t h n K = IX (ev t x) (ev t i) K h n := by
  simp only [xo, xp, IX]; cases ev t x <;> cases ev t i <;> rfl
theorem ix {s : ByteArray} {k : IntKind} {j : Int} {c : UInt8} (h0 : 0 ≤ j) (h1 : s.data[j.toNat]? = some c) (hk : K (.int .u8 c.toNat) h n) : IX (.str s) (.int k j) K h n := ⟨c, h0, h1, hk⟩
def EX (x : AV) (i : Nat) (K : AV → AH → Nat → Prop) (h : AH) (n : Nat) : Prop := match x with
  | .tup vs => ∃ c, vs[i]? = some c ∧ K c h n
  | _ => False
theorem w_ext {x : A} {i : Nat} : xo P n0 W d (.ext x i) t h n K = EX (ev t x) i K h n := rfl
theorem ex_ {vs : List AV} {i : Nat} : EX (.tup vs) i K h n = L3 (vs[i]?) K h n := rfl
def LN (x : AV) (K : AV → AH → Nat → Prop) (h : AH) (n : Nat) : Prop := match x with
  | .sl _ _ m _ => K (.int .i64 m) h n
  | .so _ m => K (.int .i64 m) h n
  | .sx _ _ m => K (.int .i64 m) h n
  | .nilsl => K (.int .i64 0) h n
  | .sl0 => K (.int .i64 0) h n
  | _ => False
theorem w_len {x : A} : xo P n0 W d (.len x) t h n K = LN (ev t x) K h n := rfl
theorem ln_s {i o m c : Nat} : LN (.sl i o m c) K h n = K (.int .i64 m) h n := rfl
theorem ln_o {i m : Nat} : LN (.so i m) K h n = K (.int .i64 m) h n := rfl
theorem ln_x {i o m : Nat} : LN (.sx i o m) K h n = K (.int .i64 m) h n := rfl
theorem ln_n : LN .nilsl K h n = K (.int .i64 0) h n := rfl
def LS (x : AV) (K : AV → AH → Nat → Prop) (h : AH) (n : Nat) : Prop := match x with
  | .str s => K (.int .i64 s.size) h n
  | _ => False
theorem w_lens {x : A} : xo P n0 W d (.lens x) t h n K = LS (ev t x) K h n := rfl
theorem ls_ {s : ByteArray} : LS (.str s) K h n = K (.int .i64 s.size) h n := rfl
def CP (x : AV) (K : AV → AH → Nat → Prop) (h : AH) (n : Nat) : Prop := match x with
  | .sl _ _ _ c => K (.int .i64 c) h n
  | .nilsl => K (.int .i64 0) h n
  | _ => False
theorem w_cap {x : A} : xo P n0 W d (.cap x) t h n K = CP (ev t x) K h n := rfl
theorem cp_s {i o m c : Nat} : CP (.sl i o m c) K h n = K (.int .i64 c) h n := rfl
theorem cp_n : CP .nilsl K h n = K (.int .i64 0) h n := rfl
def MX (x y : AV) (K : AV → AH → Nat → Prop) (h : AH) (n : Nat) : Prop := match x, y with
  | .int k a, .int _ b => K (.int k (max a b)) h n
  | _, _ => False
def MN (x y : AV) (K : AV → AH → Nat → Prop) (h : AH) (n : Nat) : Prop := match x, y with
  | .int k a, .int _ b => K (.int k (min a b)) h n
  | _, _ => False
theorem max_is (a b : Int) : (if b > a then b else a) = max a b := by rw [Int.max_def]; split <;> split <;> omega
theorem min_is (a b : Int) : (if b < a then b else a) = min a b := by rw [Int.min_def]; split <;> split <;> omega
theorem w_mx {x y : A} : xo P n0 W d (.mx [x, y]) t h n K = MX (ev t x) (ev t y) K h n := by
  simp only [xo, xp, MX, max_is]; cases ev t x <;> cases ev t y <;> rfl
theorem w_mn {x y : A} : xo P n0 W d (.mn [x, y]) t h n K = MN (ev t x) (ev t y) K h n := by
  simp only [xo, xp, MN, min_is]; cases ev t x <;> cases ev t y <;> rfl
theorem mx_ {k k' : IntKind} {a b : Int} : MX (.int k a) (.int k' b) K h n = K (.int k (max a b)) h n := rfl
theorem mn_ {k k' : IntKind} {a b : Int} : MN (.int k a) (.int k' b) K h n = K (.int k (min a b)) h n := rfl
theorem w_app {ty es b : Nat} {z : List AV} {x y : A} : xo P n0 W d (.app ty es b z x y) t h n K = AppC n0 W ty es (ev t x) (ev t y) h n K := rfl
def CL (P : Program) (n0 : Nat) (W : Nat → Prop) (d : Bool) (f : AV) (xs : List AV) (h : AH) (n : Nat) (K : AV → AH → Nat → Prop) : Prop := match f with
  | .fn g cs => CallC P n0 W d g (xs ++ cs) h n K
  | _ => False
theorem w_call {f : A} {xs : List A} : xo P n0 W d (.call f xs) t h n K = CL P n0 W d (ev t f) (xs.map (ev t)) h n K := rfl
def CLW (P : Program) (n0 : Nat) (W : Nat → Prop) (f : AV) (xs : List AV) (h : AH) (n : Nat) (K : AV → AH → Nat → Prop) : Prop := match f with
  | .fn g cs => CallW P n0 W g (xs ++ cs) h n K
  | _ => False
theorem w_callw {f : A} {xs : List A} : xo P n0 W d (.callw f xs) t h n K = CLW P n0 W (ev t f) (xs.map (ev t)) h n K := rfl
theorem clw {g : Nat} {cs xs : List AV} : CLW P n0 W (.fn g cs) xs h n K = CallW P n0 W g (xs ++ cs) h n K := rfl
def CLP (P : Program) (n0 : Nat) (W : Nat → Prop) (f a : AV) (xs : List AV) (h : AH) (n : Nat) (K : AV → AH → Nat → Prop) : Prop := match f with
  | .fn g cs => CallP P n0 W g (a :: (xs ++ cs)) h n K
  | _ => False
theorem w_callp {f a : A} {xs : List A} : xo P n0 W d (.callp f (a :: xs)) t h n K = CLP P n0 W (ev t f) (ev t a) (xs.map (ev t)) h n K := rfl
theorem clp {g : Nat} {cs xs : List AV} {a : AV} : CLP P n0 W (.fn g cs) a xs h n K = CallP P n0 W g (a :: (xs ++ cs)) h n K := rfl
theorem cl {g : Nat} {cs xs : List AV} : CL P n0 W d (.fn g cs) xs h n K = CallC P n0 W d g (xs ++ cs) h n K := rfl
def SL (es : Nat) (x : AV) (lo hi m : Option AV) (K : AV → AH → Nat → Prop) (h : AH) (n : Nat) : Prop := match x with
    | .sl i o n1 c => bnds n1 c lo hi m fun l h1 m => K (.sl i (if m = l then o else o + l * es) (h1 - l) (m - l)) h n
    | .so i n1 => match lo, hi, m with
      | none, none, none => K (.so i n1) h n
      | some (.int _ l), none, none => 0 ≤ l ∧ l ≤ n1 ∧ K (.sx i (l.toNat * es) (n1 - l.toNat)) h n
      | none, some (.int _ h1), none => 0 ≤ h1 ∧ h1 ≤ n1 ∧ K (.so i h1.toNat) h n
      | some (.int _ l), some (.int _ h1), none => 0 ≤ l ∧ l ≤ h1 ∧ h1 ≤ n1 ∧ K (.sx i (l.toNat * es) (h1.toNat - l.toNat)) h n
      | _, _, _ => False
    | .sx i o n1 => match lo, hi, m with
      | some (.int _ l), none, none => 0 ≤ l ∧ l ≤ n1 ∧ K (.sx i (o + l.toNat * es) (n1 - l.toNat)) h n
      | none, some (.int _ h1), none => 0 ≤ h1 ∧ h1 ≤ n1 ∧ K (.sx i o h1.toNat) h n
      | _, _, _ => False
    | .nilsl => match lo, hi, m with
      | none, none, none => K .nilsl h n
      | some (.int _ 0), none, none => K .nilsl h n
      | none, some (.int _ 0), none => K .nilsl h n
      | some (.int _ 0), some (.int _ 0), some (.int _ 0) => K .nilsl h n
      | none, some (.int _ 0), some (.int _ 0) => K .nilsl h n
      | _, _, _ => False
    | _ => False
theorem w_slc {es : Nat} {x : A} {lo hi m : Option A} : xo P n0 W d (.slc es x lo hi m) t h n K = SL es (ev t x) (lo.map (ev t)) (hi.map (ev t)) (m.map (ev t)) K h n := rfl
theorem sl_lo {es i o m c : Nat} {k : IntKind} {l : Int} : SL es (.sl i o m c) (some (.int k l)) none none K h n = (0 ≤ l ∧ l ≤ m ∧ K (.sl i (if c = l.toNat then o else o + l.toNat * es) (m - l.toNat) (c - l.toNat)) h n) := rfl
theorem sl_hi {es i o m c : Nat} {k : IntKind} {l : Int} : SL es (.sl i o m c) none (some (.int k l)) none K h n = (0 ≤ l ∧ l ≤ c ∧ K (.sl i (if c = 0 then o else o + 0 * es) (l.toNat - 0) (c - 0)) h n) := rfl
theorem sl_so {es i m : Nat} {k : IntKind} {l : Int} : SL es (.so i m) none (some (.int k l)) none K h n = (0 ≤ l ∧ l ≤ m ∧ K (.so i l.toNat) h n) := rfl
theorem sl_sol {es i m : Nat} {k : IntKind} {l : Int} : SL es (.so i m) (some (.int k l)) none none K h n = (0 ≤ l ∧ l ≤ m ∧ K (.sx i (l.toNat * es) (m - l.toNat)) h n) := rfl
theorem sl_son {es i m : Nat} : SL es (.so i m) none none none K h n = K (.so i m) h n := rfl
theorem sl_nn {es : Nat} : SL es .nilsl none none none K h n = K .nilsl h n := rfl
def SS (x : AV) (lo hi : Option AV) (K : AV → AH → Nat → Prop) (h : AH) (n : Nat) : Prop := match x with
  | .str s => bnds s.size s.size lo hi none fun l h1 _ => K (.str (s.extract l h1)) h n
  | _ => False
theorem w_sls {x : A} {lo hi : Option A} : xo P n0 W d (.sls x lo hi) t h n K = SS (ev t x) (lo.map (ev t)) (hi.map (ev t)) K h n := rfl
theorem ss_lo {s : ByteArray} {k : IntKind} {l : Int} : SS (.str s) (some (.int k l)) none K h n = (0 ≤ l ∧ l ≤ s.size ∧ K (.str (s.extract l.toNat s.size)) h n) := rfl
theorem ss_hi {s : ByteArray} {k : IntKind} {l : Int} : SS (.str s) none (some (.int k l)) K h n = (0 ≤ l ∧ l ≤ s.size ∧ K (.str (s.extract 0 l.toNat)) h n) := rfl
theorem ss_lh {s : ByteArray} {k k' : IntKind} {l m : Int} : SS (.str s) (some (.int k l)) (some (.int k' m)) K h n = (0 ≤ m ∧ m ≤ s.size ∧ 0 ≤ l ∧ l ≤ m ∧ K (.str (s.extract l.toNat m.toNat)) h n) := rfl
end

section
variable {t : List AV} {h : AH} {n : Nat} {K : AV → AH → Nat → Prop}
def RF (rs : List RV) (acc : List AV) (t : List AV) (h : AH) (n : Nat) (K : AV → AH → Nat → Prop) : Prop := xres rs t h fun vs => K (oneOr (acc ++ vs)) h n
theorem kf_n {rs : List RV} : KF rs K .nrm t h n = RF rs [] t h n K := by simp [KF, RF]
theorem kf_r {rs : List RV} : KF rs K .ret t h n = RF rs [] t h n K := by simp [KF, RF]
theorem rf_nil {acc : List AV} : RF [] acc t h n K = K (oneOr acc) h n := by simp [RF, xres]
theorem rf_t {rs : List RV} {acc : List AV} {i : Nat} : RF (.t i :: rs) acc t h n K = RF rs (acc ++ [t.getD i .any]) t h n K := by simp [RF, xres]
def R1 (x : AV) (rs : List RV) (acc : List AV) (t : List AV) (h : AH) (n : Nat) (K : AV → AH → Nat → Prop) : Prop := match x with
  | .ptr id o => ∃ b c, h id = some b ∧ b.cells[o]? = some c ∧ RF rs (acc ++ [c]) t h n K
  | _ => False
def R2 (s : Nat) (x : AV) (rs : List RV) (acc : List AV) (t : List AV) (h : AH) (n : Nat) (K : AV → AH → Nat → Prop) : Prop := match x with
  | .ptr id o => ∃ b, h id = some b ∧ o + s ≤ b.cells.length ∧ RF rs (acc ++ [.agg (cutA b.cells o s)]) t h n K
  | _ => False
def R3 (s : Nat) (b : Option Blk) (o : Nat) (rs : List RV) (acc : List AV) (t : List AV) (h : AH) (n : Nat) (K : AV → AH → Nat → Prop) : Prop := ∃ b', b = some b' ∧ o + s ≤ b'.cells.length ∧ RF rs (acc ++ [.agg (cutA b'.cells o s)]) t h n K
def R4 (b : Option Blk) (o : Nat) (rs : List RV) (acc : List AV) (t : List AV) (h : AH) (n : Nat) (K : AV → AH → Nat → Prop) : Prop := ∃ b' c, b = some b' ∧ b'.cells[o]? = some c ∧ RF rs (acc ++ [c]) t h n K
def R5 (x : Option AV) (rs : List RV) (acc : List AV) (t : List AV) (h : AH) (n : Nat) (K : AV → AH → Nat → Prop) : Prop := ∃ c, x = some c ∧ RF rs (acc ++ [c]) t h n K
theorem rf_c1 {rs : List RV} {acc : List AV} {i : Nat} : RF (.c1 i :: rs) acc t h n K = R1 (t.getD i .any) rs acc t h n K := by
  simp only [RF, xres, R1]; cases t.getD i .any <;> simp
theorem rf_ca {rs : List RV} {acc : List AV} {i s : Nat} : RF (.ca i s :: rs) acc t h n K = R2 s (t.getD i .any) rs acc t h n K := by
  simp only [RF, xres, R2]; cases t.getD i .any <;> simp
theorem r1 {id o : Nat} {rs : List RV} {acc : List AV} : R1 (.ptr id o) rs acc t h n K = R4 (h id) o rs acc t h n K := rfl
theorem r2 {s id o : Nat} {rs : List RV} {acc : List AV} : R2 s (.ptr id o) rs acc t h n K = R3 s (h id) o rs acc t h n K := rfl
theorem r3 {s o ty op : Nat} {cs : List AV} {wr : Bool} {rs : List RV} {acc : List AV} : R3 s (some ⟨ty, cs, wr, op⟩) o rs acc t h n K = (o + s ≤ cs.length ∧ RF rs (acc ++ [.agg (cutA cs o s)]) t h n K) := by simp [R3]
theorem r4 {o ty op : Nat} {cs : List AV} {wr : Bool} {rs : List RV} {acc : List AV} : R4 (some ⟨ty, cs, wr, op⟩) o rs acc t h n K = R5 (cs[o]?) rs acc t h n K := by simp [R4, R5]
theorem r5 {c : AV} {rs : List RV} {acc : List AV} : R5 (some c) rs acc t h n K = RF rs (acc ++ [c]) t h n K := by simp [R5]
theorem one1 {v : AV} : oneOr [v] = v := rfl
theorem one2 {v v' : AV} {vs : List AV} : oneOr (v :: v' :: vs) = .tup (v :: v' :: vs) := rfl
end
end Go.Proofs.YtkpibnhddhdooacDoor.L
namespace Go.Proofs.YtkpibnhddhdooacDoor.L
open Go
open Go.RowKit Go.ChangeShapes Go.WideShapes Go.ChangeAt

theorem Cx.below {ρ ρ' : Rho} {w w' : World} {n n' : Nat} (c : Cx ⟨ρ, w, none', n, n'⟩ ρ' w') : Below w.heap.size w w' :=
  ⟨c.os, c.tape, c.output, c.size, fun k hk => c.blk k hk (fun _ _ _ h => h.elim)⟩

theorem Q.link {P : Program} {f : Nat} {args : List AV} {h : AH} {n : Nat} {v : AV} (q : Q P f args h n v) {ρ : Rho} {w : World} {vs : List Value} (hs : Sim ρ h w) (ha : IsL ρ args vs) (hf : ∀ i, n ≤ i → ρ i = none) :
    Calls P f vs.toArray w fun e w' => ∃ rv ρ', e = .returned rv ∧ Is ρ' v rv ∧ Below w.heap.size w w' := by
  obtain ⟨n', c⟩ := q
  refine (c.2.2 ρ w vs hs ha fun i h1 _ => hf i h1).mono fun e w' ⟨rv, ρ', h1, h2, _, h4⟩ => ⟨rv, ρ', h1, h2, h4.below⟩

section
variable {H : Type} {enc : TypeId × Value → H} {P : Program}
theorem trodAll_below (hl : laidOutB P = true) {W W' : World} (hb : Below W.heap.size W W') : ∀ {ts : List TypeId} {vs : List Value} {ds : List (DataW H)} {ps : List MemPlace},
    ts.all (fun t => P.readableRec t && decide (t < P.types.size)) = true → DataW.TrodAll enc P W 0 (fun _ => true) true ts vs ds ps → (∀ x ∈ ps, x.block < W.heap.size) →
    DataW.TrodAll enc P W' 0 (fun b => decide (b < W.heap.size)) true ts vs ds ps
  | [], [], [], _, _, h, _ => h
  | t :: ts, v :: vs, d :: ds, ps, ht, ⟨p, q, h1, h2, e⟩, hlt => by
    simp only [List.all_cons, Bool.and_eq_true, decide_eq_true_eq] at ht
    subst e
    exact ⟨p, q, Below.trod hl ht.1.1 ht.1.2 h1 hb (fun x hx => hlt x (List.mem_append_left _ hx)),
      trodAll_below hl hb ht.2 h2 (fun x hx => hlt x (List.mem_append_right _ hx)), rfl⟩
  | [], _ :: _, _, _, _, h, _ => h.elim
  | [], [], _ :: _, _, _, h, _ => h.elim
  | _ :: _, [], _, _, _, h, _ => h.elim
  | _ :: _, _ :: _, [], _, _, h, _ => h.elim

end
end Go.Proofs.YtkpibnhddhdooacDoor.L
namespace Go.Proofs.YtkpibnhddhdooacDoor.L
open Go
open Go.RowKit Go.ChangeShapes Go.WideShapes Go.ChangeAt Go.Joins Go.Deep

def rho0 : Rho := fun _ => none

section
variable {H : Type} {enc : TypeId × Value → H} {P : Program} {W : World} {base : Nat}

end

def bid : AV → Nat
  | .sl i _ _ _ => i
  | .so i _ => i
  | .sx i _ _ => i
  | _ => 0
def boff : AV → Nat
  | .sl _ o _ _ => o
  | .sx _ o _ => o
  | _ => 0
def slen : AV → Nat
  | .sl _ _ n _ => n
  | .so _ n => n
  | .sx _ _ n => n
  | _ => 0
def isSl : AV → Bool
  | .sl _ _ n c => decide (n ≤ c)
  | .so _ _ => true
  | .sx _ _ _ => true
  | _ => false

structure Sl (w : Bool) (lo hi : Nat) (h : AH) (es : Nat) (v : AV) (cs : List AV) : Prop where
  len : cs.length = slen v * es
  shape : v = .nilsl ∨ (w = false ∧ v = .sl0) ∨ isSl v = true ∧ lo ≤ bid v ∧ bid v < hi ∧ ∃ b, h (bid v) = some b ∧ (w = true → b.wr = true) ∧ boff v + cs.length ≤ b.cells.length ∧ cutA b.cells (boff v) cs.length = cs

theorem cutA_get {cells : List AV} {o m k : Nat} (hk : k < m) (hl : o + m ≤ cells.length) : (cutA cells o m)[k]? = cells[o + k]? := by
  simp [cutA, List.getElem?_take, hk]
theorem cutA_cutA {cells : List AV} {o m k z : Nat} (hk : k + z ≤ m) : cutA (cutA cells o m) k z = cutA cells (o + k) z := by
  simp only [cutA, List.drop_take, List.drop_drop, List.take_take]
  rw [show min z (m - k) = z by omega]
theorem getD_mem {α : Type} {l : List α} {k : Nat} {d : α} (h : k < l.length) : l.getD k d ∈ l := by simp [List.getD, h]

section
variable {w : Bool} {lo hi : Nat} {h : AH} {es : Nat} {v : AV} {cs : List AV}
theorem Sl.nil : Sl w lo hi h es .nilsl [] := ⟨by simp [slen], .inl rfl⟩
theorem Sl.keep {h' : AH} (s : Sl w lo hi h es v cs) (k : ∀ i, lo ≤ i → i < hi → h' i = h i) : Sl w lo hi h' es v cs :=
  ⟨s.len, s.shape.imp id (Or.imp id fun ⟨h1, h2, h3, b, h4, h5⟩ => ⟨h1, h2, h3, b, by rw [k _ h2 h3]; exact h4, h5⟩)⟩
theorem Sl.wide {lo' hi' : Nat} (s : Sl w lo hi h es v cs) (h1 : lo' ≤ lo) (h2 : hi ≤ hi') : Sl w lo' hi' h es v cs :=
  ⟨s.len, s.shape.imp id (Or.imp id fun ⟨g1, g2, g3, g⟩ => ⟨g1, by omega, by omega, g⟩)⟩
theorem Sl.ro (s : Sl w lo hi h es v cs) : Sl false lo hi h es v cs :=
  ⟨s.len, s.shape.imp id (Or.imp (fun h => ⟨rfl, h.2⟩) fun ⟨h1, h2, h3, b, h4, _, h5⟩ => ⟨h1, h2, h3, b, h4, fun h => (by cases h), h5⟩)⟩
theorem Sl.any (s : Sl w lo hi h es v cs) : v = .nilsl ∨ v = .sl0 ∨ isSl v = true := s.shape.imp id (Or.imp (fun h => h.2) fun h => h.1)
theorem Sl.isReal (s : Sl true lo hi h es v cs) (h0 : v ≠ .nilsl) : isSl v = true := by
  rcases s.shape with rfl | ⟨hw, _⟩ | ⟨h1, _⟩
  · exact absurd rfl h0
  · cases hw
  · exact h1
theorem one_any (s : v = .nilsl ∨ v = .sl0 ∨ isSl v = true) : v.one = true := by
  rcases s with rfl | rfl | s
  · rfl
  · rfl
  · cases v <;> first | rfl | simp [isSl] at s
theorem sto_any (s : v = .nilsl ∨ v = .sl0 ∨ isSl v = true) : v.storable = true := by
  rcases s with rfl | rfl | s
  · rfl
  · rfl
  · cases v <;> first | rfl | simp [isSl] at s
theorem cel_any (s : v = .nilsl ∨ v = .sl0 ∨ isSl v = true) : v.cells = [v] := by
  rcases s with rfl | rfl | s
  · rfl
  · rfl
  · cases v <;> first | rfl | simp [isSl] at s
theorem ln_any (s : v = .nilsl ∨ v = .sl0 ∨ isSl v = true) (K : AV → AH → Nat → Prop) (h' : AH) (n : Nat) : LN v K h' n = K (.int .i64 (slen v)) h' n := by
  rcases s with rfl | rfl | s
  · rfl
  · rfl
  · cases v <;> first | rfl | simp [isSl] at s
theorem Sl.ln (s : Sl w lo hi h es v cs) (K : AV → AH → Nat → Prop) (h' : AH) (n : Nat) : LN v K h' n = K (.int .i64 (slen v)) h' n := ln_any s.any K h' n
theorem ia_any (s : v = .nilsl ∨ v = .sl0 ∨ isSl v = true) {es' : Nat} {k : IntKind} {j : Int} (h0 : 0 ≤ j) (h1 : j < slen v) (K : AV → AH → Nat → Prop) (h' : AH) (n : Nat) :
    IA es' v (.int k j) K h' n = K (.ptr (bid v) (boff v + j.toNat * es')) h' n := by
  rcases s with rfl | rfl | s
  · simp [slen] at h1; omega
  · simp [slen] at h1; omega
  · cases v with
    | sl i o m c => simp only [slen] at h1; simp only [ia_s, bid, boff]; exact propext ⟨fun h => h.2.2, fun h => ⟨h0, by omega, h⟩⟩
    | so i m => simp only [slen] at h1; simp only [ia_o, bid, boff, Nat.zero_add]; exact propext ⟨fun h => h.2.2, fun h => ⟨h0, by omega, h⟩⟩
    | sx i o m => simp only [slen] at h1; simp only [ia_x, bid, boff]; exact propext ⟨fun h => h.2.2, fun h => ⟨h0, by omega, h⟩⟩
    | _ => simp [isSl] at s
theorem Sl.ia (s : Sl w lo hi h es v cs) {es' : Nat} {k : IntKind} {j : Int} (h0 : 0 ≤ j) (h1 : j < slen v) (K : AV → AH → Nat → Prop) (h' : AH) (n : Nat) :
    IA es' v (.int k j) K h' n = K (.ptr (bid v) (boff v + j.toNat * es')) h' n := ia_any s.any h0 h1 K h' n
theorem Sl.cell (s : Sl w lo hi h es v cs) {k : Nat} (hk : k < cs.length) : lo ≤ bid v ∧ bid v < hi ∧ ∃ b, h (bid v) = some b ∧ b.cells[boff v + k]? = some (cs.getD k .any) := by
  rcases s.shape with rfl | ⟨_, rfl⟩ | ⟨_, h1, h2, b, hb, hw, hl, hc⟩
  · have := s.len; simp [slen] at this; subst this; simp at hk
  · have := s.len; simp [slen] at this; subst this; simp at hk
  · refine ⟨h1, h2, b, hb, ?_⟩
    rw [← cutA_get hk hl, hc]
    simp [List.getD, hk]
theorem Sl.ld (s : Sl w lo hi h es v cs) {k : Nat} (hk : k < cs.length) (K : AV → AH → Nat → Prop) (h' : AH) (n : Nat) : L2 (h (bid v)) (boff v + k) K h' n = K (cs.getD k .any) h' n := by
  obtain ⟨_, _, ⟨ty, cells, wr, op⟩, hb, hc⟩ := s.cell hk
  rw [hb, l2, hc, l3]
theorem Sl.below (s : Sl w lo hi h es v cs) (hk : 0 < slen v) : lo ≤ bid v ∧ bid v < hi := by
  rcases s.shape with rfl | ⟨_, rfl⟩ | ⟨_, h1, h2, _⟩
  · simp [slen] at hk
  · simp [slen] at hk
  · exact ⟨h1, h2⟩
theorem Sl.own (s : Sl true lo hi h es v cs) (hs : isSl v = true) : lo ≤ bid v ∧ bid v < hi := by
  rcases s.shape with rfl | ⟨hw, _⟩ | ⟨_, h1, h2, _⟩
  · simp [isSl] at hs
  · cases hw
  · exact ⟨h1, h2⟩
theorem Sl.keep1 {h' : AH} (s : Sl true lo hi h es v cs) (k : isSl v = true → h' (bid v) = h (bid v)) : Sl true lo hi h' es v cs :=
  ⟨s.len, s.shape.imp id (Or.imp id fun ⟨h1, h2, h3, b, h4, h5⟩ => ⟨h1, h2, h3, b, by rw [k h1]; exact h4, h5⟩)⟩
theorem Sl.ld2 (s : Sl w lo hi h es v cs) {k z : Nat} (hk : k + z ≤ cs.length) (hz : 0 < z) (K : AV → AH → Nat → Prop) (h' : AH) (n : Nat) : M2 z (h (bid v)) (boff v + k) K h' n = K (.agg (cutA cs k z)) h' n := by
  rcases s.shape with rfl | ⟨_, rfl⟩ | ⟨_, h1, h2, ⟨ty, cells, wr, op⟩, hb, hw, hl, hc⟩
  · have := s.len; simp [slen] at this; subst this; simp at hk; omega
  · have := s.len; simp [slen] at this; subst this; simp at hk; omega
  · have e : cutA cells (boff v + k) z = cutA cs k z := by
      rw [← cutA_cutA hk]; simp only at hc; rw [hc]
    rw [hb, m2, e]
    simp only at hl
    exact propext ⟨fun h => h.2, fun h => ⟨by omega, h⟩⟩
end

theorem Sl.of_sl {w : Bool} {lo hi es i m c ty op : Nat} {h : AH} {cs : List AV} (hb : h i = some ⟨ty, cs, true, op⟩) (hl : cs.length = m * es) (hc : m ≤ c) (h1 : lo ≤ i) (h2 : i < hi) : Sl w lo hi h es (.sl i 0 m c) cs :=
  ⟨hl, .inr (.inr ⟨by simp [isSl, hc], h1, h2, _, hb, fun _ => rfl, by simp [boff], by simp [boff, cutA]⟩)⟩
theorem Sl.of_so {w : Bool} {lo hi es i m ty op : Nat} {h : AH} {cs : List AV} (hb : h i = some ⟨ty, cs, true, op⟩) (hl : cs.length = m * es) (h1 : lo ≤ i) (h2 : i < hi) : Sl w lo hi h es (.so i m) cs :=
  ⟨hl, .inr (.inr ⟨by simp [isSl], h1, h2, _, hb, fun _ => rfl, by simp [boff], by simp [boff, cutA]⟩)⟩
def ints (l : List Int) : List AV := l.map (AV.int .i64)
def Ints (w : Bool) (lo hi : Nat) (h : AH) (v : AV) (l : List Int) : Prop := Sl w lo hi h 1 v (ints l)
section
variable {w : Bool} {lo hi : Nat} {h : AH} {v : AV} {l : List Int}
theorem Ints.slen (s : Ints w lo hi h v l) : slen v = l.length := by have := Sl.len s; simp [ints] at this; omega
theorem Ints.ln (s : Ints w lo hi h v l) (K : AV → AH → Nat → Prop) (h' : AH) (n : Nat) : LN v K h' n = K (.int .i64 l.length) h' n := by rw [Sl.ln s, s.slen]
theorem Ints.ia (s : Ints w lo hi h v l) {k : IntKind} {j : Int} (h0 : 0 ≤ j) (h1 : j < l.length) (K : AV → AH → Nat → Prop) (h' : AH) (n : Nat) :
    IA 1 v (.int k j) K h' n = K (.ptr (bid v) (boff v + j.toNat)) h' n := by rw [Sl.ia s h0 (by rw [s.slen]; exact h1), Nat.mul_one]
theorem ints_getD (l : List Int) (k : Nat) (hk : k < l.length) : (ints l).getD k .any = .int .i64 (l.getD k 0) := by simp [ints, List.getD, hk]
theorem Ints.ld (s : Ints w lo hi h v l) {k : Nat} (hk : k < l.length) (K : AV → AH → Nat → Prop) (h' : AH) (n : Nat) : L2 (h (bid v)) (boff v + k) K h' n = K (.int .i64 (l.getD k 0)) h' n := by
  rw [Sl.ld s (by simpa [ints] using hk), ints_getD l k hk]
theorem Ints.keep {h' : AH} (s : Ints w lo hi h v l) (k : ∀ i, lo ≤ i → i < hi → h' i = h i) : Ints w lo hi h' v l := Sl.keep s k
theorem Ints.ro (s : Ints w lo hi h v l) : Ints false lo hi h v l := Sl.ro s
theorem Ints.wide {lo' hi' : Nat} (s : Ints w lo hi h v l) (h1 : lo' ≤ lo) (h2 : hi ≤ hi') : Ints w lo' hi' h v l := Sl.wide s h1 h2
end

structure RowsV (w : Bool) (lo hi : Nat) (h : AH) (vs : List AV) (ll : List (List Int)) : Prop where
  len : vs.length = ll.length
  row : ∀ k, k < ll.length → Ints w lo hi h (vs.getD k .any) (ll.getD k [])
  apart : w = true → ∀ j k, j < ll.length → k < ll.length → j ≠ k → isSl (vs.getD j .any) = true → isSl (vs.getD k .any) = true → bid (vs.getD j .any) ≠ bid (vs.getD k .any)
theorem RowsV.nil {w : Bool} {lo hi : Nat} {h : AH} : RowsV w lo hi h [] [] := ⟨rfl, fun k hk => absurd hk (Nat.not_lt_zero _), fun _ j k hk => absurd hk (Nat.not_lt_zero _)⟩
theorem RowsV.keep {w : Bool} {lo hi : Nat} {h h' : AH} {vs : List AV} {ll : List (List Int)} (s : RowsV w lo hi h vs ll) (k : ∀ i, lo ≤ i → i < hi → h' i = h i) : RowsV w lo hi h' vs ll := ⟨s.len, fun j hj => (s.row j hj).keep k, s.apart⟩
theorem RowsV.ro {w : Bool} {lo hi : Nat} {h : AH} {vs : List AV} {ll : List (List Int)} (s : RowsV w lo hi h vs ll) : RowsV false lo hi h vs ll := ⟨s.len, fun j hj => (s.row j hj).ro, fun h => (by cases h)⟩
theorem RowsV.wide {w : Bool} {lo hi lo' hi' : Nat} {h : AH} {vs : List AV} {ll : List (List Int)} (s : RowsV w lo hi h vs ll) (h1 : lo' ≤ lo) (h2 : hi ≤ hi') : RowsV w lo' hi' h vs ll := ⟨s.len, fun j hj => (s.row j hj).wide h1 h2, s.apart⟩
theorem getD_snoc_lt {α : Type} {l : List α} {x d : α} {k : Nat} (hk : k < l.length) : (l ++ [x]).getD k d = l.getD k d := by simp [List.getD, List.getElem?_append_left hk]
theorem getD_snoc_eq {α : Type} {l : List α} {x d : α} {k : Nat} (hk : k = l.length) : (l ++ [x]).getD k d = x := by subst hk; simp [List.getD]
theorem Ints.below {w : Bool} {lo hi : Nat} {h : AH} {v : AV} {l : List Int} (s : Ints w lo hi h v l) (hl : l ≠ []) : lo ≤ bid v ∧ bid v < hi := by
  refine Sl.below s ?_
  rw [s.slen]
  cases l with
  | nil => exact absurd rfl hl
  | cons a l => simp
theorem RowsV.snoc {w : Bool} {lo mid hi : Nat} {h h' : AH} {vs : List AV} {ll : List (List Int)} {v : AV} {l : List Int} (s : RowsV w lo mid h vs ll) (hk : ∀ i, lo ≤ i → i < mid → h' i = h i) (hv : Ints w mid hi h' v l) (h1 : lo ≤ mid) (h2 : mid ≤ hi) :
    RowsV w lo hi h' (vs ++ [v]) (ll ++ [l]) := by
  have hlen := s.len
  refine ⟨by simp [hlen], fun k hk' => ?_, fun hw j k hj hk' hne h3 h4 => ?_⟩
  · simp only [List.length_append, List.length_cons, List.length_nil] at hk'
    by_cases e : k < ll.length
    · rw [getD_snoc_lt (by omega), getD_snoc_lt e]; exact ((s.row k e).keep hk).wide (Nat.le_refl _) h2
    · rw [getD_snoc_eq (by omega), getD_snoc_eq (by omega)]; exact hv.wide h1 (Nat.le_refl _)
  · subst hw
    simp only [List.length_append, List.length_cons, List.length_nil] at hj hk'
    by_cases e : j < ll.length
    · by_cases e' : k < ll.length
      · rw [getD_snoc_lt (by omega)] at h3
        rw [getD_snoc_lt (by omega)] at h4
        rw [getD_snoc_lt (by omega), getD_snoc_lt (by omega)]
        exact s.apart rfl j k e e' hne h3 h4
      · rw [getD_snoc_lt (by omega)] at h3
        rw [getD_snoc_eq (by omega)] at h4
        rw [getD_snoc_lt (by omega), getD_snoc_eq (by omega)]
        have := (Sl.own (s.row j e) h3).2
        have := (Sl.own hv h4).1
        omega
    · rw [getD_snoc_eq (by omega)] at h3
      rw [getD_snoc_lt (show k < vs.length by omega)] at h4
      rw [getD_snoc_eq (by omega), getD_snoc_lt (by omega)]
      have := (Sl.own (s.row k (by omega)) h4).2
      have := (Sl.own hv h3).1
      omega
theorem RowsV.keep1 {lo hi : Nat} {h h' : AH} {vs : List AV} {ll : List (List Int)} (s : RowsV true lo hi h vs ll) (k : ∀ j, j < ll.length → isSl (vs.getD j .any) = true → h' (bid (vs.getD j .any)) = h (bid (vs.getD j .any))) : RowsV true lo hi h' vs ll :=
  ⟨s.len, fun j hj => Sl.keep1 (s.row j hj) (k j hj), s.apart⟩
theorem take_succ_getD {α : Type} {l : List α} {k : Nat} {d : α} (hk : k < l.length) : l.take (k + 1) = l.take k ++ [l.getD k d] := by
  rw [List.take_succ_eq_append_getElem hk]; simp [List.getD, hk]
theorem getD_ext {α : Type} {l l' : List α} {d : α} (h : l.length = l'.length) (he : ∀ j, j < l.length → l.getD j d = l'.getD j d) : l = l' := by
  refine List.ext_getElem h fun j h1 h2 => ?_
  have := he j h1
  simpa [List.getD, h1, h2] using this

structure Rows (w : Bool) (lo hi : Nat) (h : AH) (v : AV) (vs : List AV) (ll : List (List Int)) : Prop where
  out : Sl w lo hi h 1 v vs
  rows : RowsV w lo hi h vs ll
  outer : w = true → ∀ k, k < ll.length → isSl (vs.getD k .any) = true → bid (vs.getD k .any) ≠ bid v
section
variable {w : Bool} {lo hi : Nat} {h : AH} {v : AV} {vs : List AV} {ll : List (List Int)}
theorem Rows.len (s : Rows w lo hi h v vs ll) : vs.length = ll.length := s.rows.len
theorem Rows.row (s : Rows w lo hi h v vs ll) : ∀ k, k < ll.length → Ints w lo hi h (vs.getD k .any) (ll.getD k []) := s.rows.row
theorem Rows.slen (s : Rows w lo hi h v vs ll) : slen v = ll.length := by have := s.out.len; have := s.len; omega
theorem Rows.ln (s : Rows w lo hi h v vs ll) (K : AV → AH → Nat → Prop) (h' : AH) (n : Nat) : LN v K h' n = K (.int .i64 ll.length) h' n := by rw [s.out.ln, s.slen]
theorem Rows.ia (s : Rows w lo hi h v vs ll) {k : IntKind} {j : Int} (h0 : 0 ≤ j) (h1 : j < ll.length) (K : AV → AH → Nat → Prop) (h' : AH) (n : Nat) :
    IA 1 v (.int k j) K h' n = K (.ptr (bid v) (boff v + j.toNat)) h' n := by rw [s.out.ia h0 (by rw [s.slen]; exact h1), Nat.mul_one]
theorem Rows.ld (s : Rows w lo hi h v vs ll) {k : Nat} (hk : k < ll.length) (K : AV → AH → Nat → Prop) (h' : AH) (n : Nat) : L2 (h (bid v)) (boff v + k) K h' n = K (vs.getD k .any) h' n :=
  s.out.ld (by rw [s.len]; exact hk) K h' n
theorem Rows.keep {h' : AH} (s : Rows w lo hi h v vs ll) (k : ∀ i, lo ≤ i → i < hi → h' i = h i) : Rows w lo hi h' v vs ll := ⟨s.out.keep k, s.rows.keep k, s.outer⟩
theorem Rows.ro (s : Rows w lo hi h v vs ll) : Rows false lo hi h v vs ll := ⟨s.out.ro, s.rows.ro, fun h => (by cases h)⟩
theorem Rows.wide {lo' hi' : Nat} (s : Rows w lo hi h v vs ll) (h1 : lo' ≤ lo) (h2 : hi ≤ hi') : Rows w lo' hi' h v vs ll := ⟨s.out.wide h1 h2, s.rows.wide h1 h2, s.outer⟩
end

def FQ (P : Program) (f : Nat) (args : List AV) (h : AH) (n : Nat) (R : AV → AH → Nat → Prop) : Prop :=
  ∃ v h' n', BCalls P none' f args h n v h' n' ∧ (∀ i, (i < n ∨ n' ≤ i) → h' i = h i) ∧ R v h' n'
theorem fq_use {P : Program} {n0 : Nat} {W : Nat → Prop} {d : Bool} {f : Nat} {args : List AV} {h : AH} {n : Nat} {R : AV → AH → Nat → Prop} {K : AV → AH → Nat → Prop} (q : FQ P f args h n R)
    (hk : ∀ v h' n', n ≤ n' → (∀ i, i < n → h' i = h i) → R v h' n' → K v h' n') : CallC P n0 W d f args h n K := by
  obtain ⟨v, h', n', c, hs, hr⟩ := q
  exact ⟨v, h', n', none', c, fun _ _ h => h.elim, fun _ => ⟨rfl, hs⟩, hk v h' n' c.2.1 (fun i hi => hs i (.inl hi)) hr⟩
theorem fq_intro {P : Program} {f : Nat} {args : List AV} {h : AH} {n : Nat} {R : AV → AH → Nat → Prop} {fn : Func} {F' : F} (hf : P.funcs[f]? = some fn) (hF : compF P fn = some F')
    (hx : X P n none' F'.c (args ++ List.replicate (F'.nt - args.length) .any) h n (KS P n none' [] (KF F'.rs fun v h' n' => n ≤ n' → ∀ h2 : AH, (∀ i, n ≤ i → i < n' → h2 i = h' i) → R v h2 n'))) : FQ P f args h n R := by
  obtain ⟨v, h', n', hr, c⟩ := f_intro (K := fun v h' n' => n ≤ n' → ∀ h2 : AH, (∀ i, n ≤ i → i < n' → h2 i = h' i) → R v h2 n') hf hF hx
  refine ⟨v, mix n n' h h', n', ⟨c.1, c.2.1, fun ρ w vs hs ha hf => (c.2.2 ρ w vs hs ha hf).mono fun e w' ⟨rv, ρ', h1, h2, h3, h4⟩ => ⟨rv, ρ', h1, h2, hs.mix h4 hf h3, h4⟩⟩, fun i hi => ?_, hr c.2.1 _ fun i h1 h2 => ?_⟩
  · simp only [mix]; rw [if_neg (by omega)]
  · simp only [mix]; rw [if_pos ⟨h1, h2⟩]
theorem eq_intro {P : Program} {f : Nat} {args : List AV} {h : AH} {n : Nat} {R : AV → Prop} {fn : Func} {F' : F} (hf : P.funcs[f]? = some fn) (hF : compF P fn = some F')
    (hx : X P n none' F'.c (args ++ List.replicate (F'.nt - args.length) .any) h n (KS P n none' [] (KF F'.rs fun v' _ _ => R v'))) : ∃ v, R v ∧ Q P f args h n v := by
  obtain ⟨v', h', n', hr, c⟩ := bcalls (K := fun v' _ _ => R v') hf hF hx
  exact ⟨v', hr, Q.mk c⟩
theorem Q.fq {P : Program} {f : Nat} {args : List AV} {h : AH} {n : Nat} {v : AV} (q : Q P f args h n v) : FQ P f args h n fun v' _ _ => v' = v := by
  obtain ⟨n', c⟩ := q
  exact ⟨v, h, n', c, fun _ _ => rfl, rfl⟩
theorem upd_twice (h : AH) (i : Nat) (a b : Option Blk) : upd (upd h i a) i b = upd h i b := by
  funext j; simp only [upd]; split <;> rfl
def KI (I : Nat → List AV → AH → Nat → Prop) (m : Nat) (K : KT) : KT := fun e t h n => match e with
  | .nrm => ∃ m' t1 h1 n1, m' < m ∧ Wk t h n t1 h1 n1 ∧ I m' t1 h1 n1
  | e => K e t h n
section
variable {I : Nat → List AV → AH → Nat → Prop} {m : Nat} {K : KT} {t : List AV} {h : AH} {n : Nat}
theorem kj_nrm : KI I m K .nrm t h n = ∃ m' t1 h1 n1, m' < m ∧ Wk t h n t1 h1 n1 ∧ I m' t1 h1 n1 := rfl
theorem kj_ex {j : Nat} : KI I m K (.ex j) t h n = K (.ex j) t h n := rfl
theorem kj_ret : KI I m K .ret t h n = K .ret t h n := rfl
end
def KG {σ : Type} (L n0 : Nat) (T : Nat → σ → List AV) (H : Nat → σ → AH) (Inv : Nat → σ → Nat → Prop) (k : Nat) (K : KT) : KT := fun e t h n => match e with
  | .nrm => ∃ s, Inv (k + 1) s n ∧ k + 1 ≤ L ∧ n0 ≤ n ∧ LeL t (T (k + 1) s) ∧ ∀ i b, H (k + 1) s i = some b → h i = some b
  | e => K e t h n
section
variable {σ : Type} {L m0 k : Nat} {T : Nat → σ → List AV} {H : Nat → σ → AH} {Inv : Nat → σ → Nat → Prop} {K : KT} {t : List AV} {h : AH} {n : Nat}
theorem kg_nrm : KG L m0 T H Inv k K .nrm t h n = ∃ s, Inv (k + 1) s n ∧ k + 1 ≤ L ∧ m0 ≤ n ∧ LeL t (T (k + 1) s) ∧ ∀ i b, H (k + 1) s i = some b → h i = some b := rfl
theorem kg_ex {j : Nat} : KG L m0 T H Inv k K (.ex j) t h n = K (.ex j) t h n := rfl
theorem kg_ret : KG L m0 T H Inv k K .ret t h n = K .ret t h n := rfl
end
theorem loop_for {P : Program} {n0 : Nat} {W : Nat → Prop} {c : C} {t : List AV} {h : AH} {n : Nat} {K : KT} {σ : Type} (L k0 : Nat) (T : Nat → σ → List AV) (H : Nat → σ → AH) (Inv : Nat → σ → Nat → Prop) (s0 : σ) (hk0 : k0 ≤ L) (h0 : Inv k0 s0 n)
    (hT : LeL t (T k0 s0)) (hH : ∀ i b, H k0 s0 i = some b → h i = some b)
    (step : ∀ k s n1, k0 ≤ k → k ≤ L → n ≤ n1 → Inv k s n1 → X P n0 W c (T k s) (H k s) n1 (KS P n0 W [] (KG L n T H Inv k K))) : X P n0 W (.loop c) t h n K := by
  refine loop_rule (α := { p : Nat × σ × Nat // k0 ≤ p.1 ∧ p.1 ≤ L ∧ n ≤ p.2.2 ∧ Inv p.1 p.2.1 p.2.2 }) (fun p => T p.1.1 p.1.2.1) (fun p => H p.1.1 p.1.2.1) (fun p => p.1.2.2) (fun p => L - p.1.1)
    ⟨(k0, s0, n), Nat.le_refl _, hk0, Nat.le_refl _, h0⟩ ⟨hT, hH, Nat.le_refl _⟩ ?_
  rintro ⟨⟨k, s, n1⟩, hp0, hp1, hp2, hp3⟩
  refine X_mono c _ _ _ _ _ (fun e t' h' n' he => ?_) (step k s n1 hp0 hp1 hp2 hp3)
  cases e with
  | nrm =>
    obtain ⟨s', a, b, c, d, e⟩ := he
    exact ⟨⟨(k + 1, s', n'), by simp only at hp0 ⊢; omega, b, c, a⟩, by simp only at b ⊢; omega, d, e, Nat.le_refl _⟩
  | ex id => exact he
  | ret => exact he
theorem ints_len (l : List Int) : (ints l).length = l.length := by simp [ints]
theorem xsW : type_of% (And.intro (And.intro (And.intro (And.intro (And.intro (And.intro (And.intro @y_skip (And.intro @y_reg @y_chk)) (And.intro (And.intro @ch_nil @ch_cons) (And.intro @ne_p @y_seq))) (And.intro (And.intro @y_cond (And.intro @y_block @y_exit)) (And.intro (And.intro @y_ret @ks_nil) (And.intro @ks_seq_nrm @ks_seq_ex)))) (And.intro (And.intro (And.intro @ks_seq_ret (And.intro @ks_blk_nrm @ks_blk_ret)) (And.intro (And.intro @ks_blk_same @ks_blk_ex) (And.intro @z_nil @z_op))) (And.intro (And.intro @z_guard (And.intro @ao_app @po_app)) (And.intro (And.intro @kl_nrm @kl_ex) (And.intro @kl_ret @kf_n))))) (And.intro (And.intro (And.intro (And.intro @kf_r (And.intro @cd_t @cd_f)) (And.intro (And.intro @cd_y @cd_n) (And.intro @gd_y @gd_n))) (And.intro (And.intro @pk_y (And.intro @pk_n @gd_tt)) (And.intro (And.intro @gd_ff @gd_tf) (And.intro @gd_ft (And.intro @gd_no @w_mv))))) (And.intro (And.intro (And.intro @w_pick (And.intro @pk_t @pk_f)) (And.intro (And.intro @w_bin @b_add) (And.intro @b_sub @b_mul))) (And.intro (And.intro @b_quo' (And.intro @b_rem' @b_quo)) (And.intro (And.intro @b_rem @b_and) (And.intro @b_or @b_xor)))))) (And.intro (And.intro (And.intro (And.intro (And.intro @b_andNot (And.intro @b_eql @b_neq)) (And.intro (And.intro @b_lss @b_leq) (And.intro @b_gtr @b_geq))) (And.intro (And.intro @b_shl' (And.intro @b_shl @b_shr')) (And.intro (And.intro @b_shr @u64w) (And.intro @b_sadd @b_seql)))) (And.intro (And.intro (And.intro @b_sneq (And.intro @ki_i64' @ki_i64)) (And.intro (And.intro @ki_u64 @ki_u8) (And.intro @ki_i32 @w_beq))) (And.intro (And.intro @bq_t (And.intro @bq_f @w_nileq)) (And.intro (And.intro @nq_n @nq_i) (And.intro @w_nilseq @sq_n))))) (And.intro (And.intro (And.intro (And.intro @sq_s (And.intro @sq_o @w_neg)) (And.intro (And.intro @ng @w_not) (And.intro @nt @w_alloc))) (And.intro (And.intro @w_box (And.intro @w_build @bd)) (And.intro (And.intro @w_mks @mk_') (And.intro (And.intro @w_appz @az) (And.intro @mk_ @w_lit))))) (And.intro (And.intro (And.intro @lt_ (And.intro @w_ld1 @l1)) (And.intro (And.intro @l2 @l3) (And.intro @w_ld @m1))) (And.intro (And.intro @m2 (And.intro @w_st @s1)) (And.intro (And.intro @s2' @s2) (And.intro @w_nck @nk_p))))))) (And.intro (And.intro (And.intro (And.intro (And.intro (And.intro @nk_f (And.intro @w_cvi @cv)) (And.intro (And.intro @w_cvs @cs_) (And.intro @w_mkf @w_fa))) (And.intro (And.intro @fa (And.intro @w_fld @fl)) (And.intro (And.intro @w_fld1 @f1) (And.intro @w_ia @ia_s')))) (And.intro (And.intro (And.intro @ia_o' (And.intro @ia_x @ia_s)) (And.intro (And.intro @ia_o @w_ixs) (And.intro @w_ext @ex_))) (And.intro (And.intro @w_len (And.intro @ln_s @ln_o)) (And.intro (And.intro @ln_x @ln_n) (And.intro @w_lens @ls_))))) (And.intro (And.intro (And.intro (And.intro @w_cap (And.intro @cp_s @cp_n)) (And.intro (And.intro @w_mx @w_mn) (And.intro @mx_ @mn_))) (And.intro (And.intro @w_app (And.intro (And.intro @w_callw (And.intro (And.intro @clw @w_call) (And.intro @w_callp @clp))) @cl)) (And.intro (And.intro @w_slc @sl_lo) (And.intro @sl_hi @sl_so)))) (And.intro (And.intro (And.intro @sl_sol (And.intro @sl_son @sl_nn)) (And.intro (And.intro @w_sls @ss_lo) (And.intro @ss_hi @ss_lh))) (And.intro (And.intro @rf_nil (And.intro @rf_t @rf_c1)) (And.intro (And.intro @rf_ca @r1) (And.intro @r2 @r3)))))) (And.intro (And.intro (And.intro (And.intro (And.intro @r4 (And.intro @r5 @one1)) (And.intro (And.intro @one2 @sto_bool) (And.intro @one_bool @cel_bool))) (And.intro (And.intro @sto_int (And.intro @one_int @cel_int)) (And.intro (And.intro @sto_str @one_str) (And.intro @cel_str @sto_ptr)))) (And.intro (And.intro (And.intro @one_ptr (And.intro @cel_ptr @sto_nilptr)) (And.intro (And.intro @one_nilptr @cel_nilptr) (And.intro @sto_sl @one_sl))) (And.intro (And.intro @cel_sl (And.intro @sto_so @one_so)) (And.intro (And.intro @cel_so @sto_sx) (And.intro @one_sx @cel_sx))))) (And.intro (And.intro (And.intro (And.intro @sto_nilsl (And.intro @one_nilsl @cel_nilsl)) (And.intro (And.intro @sto_fn @one_fn) (And.intro @cel_fn @sto_nilif))) (And.intro (And.intro @one_nilif (And.intro @cel_nilif @sto_iface)) (And.intro (And.intro @one_iface @cel_iface) (And.intro @sto_agg @cel_agg)))) (And.intro (And.intro (And.intro @upd_same (And.intro @upd_other @putA_zero)) (And.intro (And.intro @putA_cons @repA_one) (And.intro @repA_zero @repA_succ))) (And.intro (And.intro (And.intro @kj_nrm @kj_ex) (And.intro @kj_ret @upd_twice)) (And.intro (And.intro @kg_nrm @kg_ex) (And.intro @kg_ret @ints_len)))))))) := And.intro (And.intro (And.intro (And.intro (And.intro (And.intro (And.intro @y_skip (And.intro @y_reg @y_chk)) (And.intro (And.intro @ch_nil @ch_cons) (And.intro @ne_p @y_seq))) (And.intro (And.intro @y_cond (And.intro @y_block @y_exit)) (And.intro (And.intro @y_ret @ks_nil) (And.intro @ks_seq_nrm @ks_seq_ex)))) (And.intro (And.intro (And.intro @ks_seq_ret (And.intro @ks_blk_nrm @ks_blk_ret)) (And.intro (And.intro @ks_blk_same @ks_blk_ex) (And.intro @z_nil @z_op))) (And.intro (And.intro @z_guard (And.intro @ao_app @po_app)) (And.intro (And.intro @kl_nrm @kl_ex) (And.intro @kl_ret @kf_n))))) (And.intro (And.intro (And.intro (And.intro @kf_r (And.intro @cd_t @cd_f)) (And.intro (And.intro @cd_y @cd_n) (And.intro @gd_y @gd_n))) (And.intro (And.intro @pk_y (And.intro @pk_n @gd_tt)) (And.intro (And.intro @gd_ff @gd_tf) (And.intro @gd_ft (And.intro @gd_no @w_mv))))) (And.intro (And.intro (And.intro @w_pick (And.intro @pk_t @pk_f)) (And.intro (And.intro @w_bin @b_add) (And.intro @b_sub @b_mul))) (And.intro (And.intro @b_quo' (And.intro @b_rem' @b_quo)) (And.intro (And.intro @b_rem @b_and) (And.intro @b_or @b_xor)))))) (And.intro (And.intro (And.intro (And.intro (And.intro @b_andNot (And.intro @b_eql @b_neq)) (And.intro (And.intro @b_lss @b_leq) (And.intro @b_gtr @b_geq))) (And.intro (And.intro @b_shl' (And.intro @b_shl @b_shr')) (And.intro (And.intro @b_shr @u64w) (And.intro @b_sadd @b_seql)))) (And.intro (And.intro (And.intro @b_sneq (And.intro @ki_i64' @ki_i64)) (And.intro (And.intro @ki_u64 @ki_u8) (And.intro @ki_i32 @w_beq))) (And.intro (And.intro @bq_t (And.intro @bq_f @w_nileq)) (And.intro (And.intro @nq_n @nq_i) (And.intro @w_nilseq @sq_n))))) (And.intro (And.intro (And.intro (And.intro @sq_s (And.intro @sq_o @w_neg)) (And.intro (And.intro @ng @w_not) (And.intro @nt @w_alloc))) (And.intro (And.intro @w_box (And.intro @w_build @bd)) (And.intro (And.intro @w_mks @mk_') (And.intro (And.intro @w_appz @az) (And.intro @mk_ @w_lit))))) (And.intro (And.intro (And.intro @lt_ (And.intro @w_ld1 @l1)) (And.intro (And.intro @l2 @l3) (And.intro @w_ld @m1))) (And.intro (And.intro @m2 (And.intro @w_st @s1)) (And.intro (And.intro @s2' @s2) (And.intro @w_nck @nk_p))))))) (And.intro (And.intro (And.intro (And.intro (And.intro (And.intro @nk_f (And.intro @w_cvi @cv)) (And.intro (And.intro @w_cvs @cs_) (And.intro @w_mkf @w_fa))) (And.intro (And.intro @fa (And.intro @w_fld @fl)) (And.intro (And.intro @w_fld1 @f1) (And.intro @w_ia @ia_s')))) (And.intro (And.intro (And.intro @ia_o' (And.intro @ia_x @ia_s)) (And.intro (And.intro @ia_o @w_ixs) (And.intro @w_ext @ex_))) (And.intro (And.intro @w_len (And.intro @ln_s @ln_o)) (And.intro (And.intro @ln_x @ln_n) (And.intro @w_lens @ls_))))) (And.intro (And.intro (And.intro (And.intro @w_cap (And.intro @cp_s @cp_n)) (And.intro (And.intro @w_mx @w_mn) (And.intro @mx_ @mn_))) (And.intro (And.intro @w_app (And.intro (And.intro @w_callw (And.intro (And.intro @clw @w_call) (And.intro @w_callp @clp))) @cl)) (And.intro (And.intro @w_slc @sl_lo) (And.intro @sl_hi @sl_so)))) (And.intro (And.intro (And.intro @sl_sol (And.intro @sl_son @sl_nn)) (And.intro (And.intro @w_sls @ss_lo) (And.intro @ss_hi @ss_lh))) (And.intro (And.intro @rf_nil (And.intro @rf_t @rf_c1)) (And.intro (And.intro @rf_ca @r1) (And.intro @r2 @r3)))))) (And.intro (And.intro (And.intro (And.intro (And.intro @r4 (And.intro @r5 @one1)) (And.intro (And.intro @one2 @sto_bool) (And.intro @one_bool @cel_bool))) (And.intro (And.intro @sto_int (And.intro @one_int @cel_int)) (And.intro (And.intro @sto_str @one_str) (And.intro @cel_str @sto_ptr)))) (And.intro (And.intro (And.intro @one_ptr (And.intro @cel_ptr @sto_nilptr)) (And.intro (And.intro @one_nilptr @cel_nilptr) (And.intro @sto_sl @one_sl))) (And.intro (And.intro @cel_sl (And.intro @sto_so @one_so)) (And.intro (And.intro @cel_so @sto_sx) (And.intro @one_sx @cel_sx))))) (And.intro (And.intro (And.intro (And.intro @sto_nilsl (And.intro @one_nilsl @cel_nilsl)) (And.intro (And.intro @sto_fn @one_fn) (And.intro @cel_fn @sto_nilif))) (And.intro (And.intro @one_nilif (And.intro @cel_nilif @sto_iface)) (And.intro (And.intro @one_iface @cel_iface) (And.intro @sto_agg @cel_agg)))) (And.intro (And.intro (And.intro @upd_same (And.intro @upd_other @putA_zero)) (And.intro (And.intro @putA_cons @repA_one) (And.intro @repA_zero @repA_succ))) (And.intro (And.intro (And.intro @kj_nrm @kj_ex) (And.intro @kj_ret @upd_twice)) (And.intro (And.intro @kg_nrm @kg_ex) (And.intro @kg_ret @ints_len)))))))
theorem dnot {p : Prop} [Decidable p] : (!decide p) = decide (¬ p) := by simp
theorem xsC : type_of% (And.intro (And.intro (And.intro (And.intro (And.intro (And.intro @List.length_cons.{0} @List.length_nil.{0}) (And.intro @List.replicate_succ.{0} @List.replicate_zero.{0})) (And.intro (And.intro @List.cons_append.{0} @List.nil_append.{0}) (And.intro @List.getD_cons_succ.{0} (And.intro @List.getD_cons_zero.{0} @List.set_cons_succ.{0})))) (And.intro (And.intro (And.intro @List.set_cons_zero.{0} @List.map_cons.{0, 0}) (And.intro @List.map_nil.{0, 0} @List.append_nil.{0})) (And.intro (And.intro @Bool.not_true @Bool.not_false) (And.intro @and_true (And.intro @true_and @or_true))))) (And.intro (And.intro (And.intro (And.intro @true_or @or_self) (And.intro @and_self @Bool.true_eq_false)) (And.intro (And.intro @Bool.false_eq_true @decide_eq_true_eq) (And.intro @decide_eq_false_iff_not (And.intro @List.all_cons.{0} @List.all_nil.{0})))) (And.intro (And.intro (And.intro @Bool.and_true @Bool.true_and) (And.intro @Option.some.injEq.{0} (And.intro @List.getElem?_cons_succ.{0} @List.getElem?_cons_zero.{0}))) (And.intro (And.intro @List.cons.injEq.{0} @AV.bool.injEq) (And.intro @AV.int.injEq (And.intro @AV.ptr.injEq @AV.agg.injEq)))))) (And.intro (And.intro (And.intro (And.intro (And.intro @AV.tup.injEq @Option.map_some.{0, 0}) (And.intro @Option.map_none.{0, 0} @not_false_eq_true)) (And.intro (And.intro @not_true_eq_false @Bool.not_eq_true') (And.intro @Bool.not_eq_false' (And.intro @decide_true @decide_false)))) (And.intro (And.intro (And.intro @List.take_succ_cons.{0} @List.take_zero.{0}) (And.intro @List.take_nil.{0} @List.drop_succ_cons.{0})) (And.intro (And.intro @List.drop_zero.{0} @List.drop_nil.{0}) (And.intro @Nat.zero_add (And.intro @Nat.add_zero @Nat.le_refl))))) (And.intro (And.intro (And.intro (And.intro @List.flatten_cons.{0} @List.flatten_nil.{0}) (And.intro @Nat.zero_mul @Nat.mul_one)) (And.intro (And.intro @false_and @and_false) (And.intro @Decidable.not_not (And.intro @Int.toNat_natCast @Int.toNat_zero)))) (And.intro (And.intro (And.intro @List.length_append.{0} @List.length_take.{0}) (And.intro @List.length_replicate.{0} (And.intro @Bool.false_and @Bool.and_false))) (And.intro (And.intro @Bool.or_true @Bool.true_or) (And.intro @Bool.or_false (And.intro @Bool.false_or @dnot))))))) := And.intro (And.intro (And.intro (And.intro (And.intro (And.intro @List.length_cons.{0} @List.length_nil.{0}) (And.intro @List.replicate_succ.{0} @List.replicate_zero.{0})) (And.intro (And.intro @List.cons_append.{0} @List.nil_append.{0}) (And.intro @List.getD_cons_succ.{0} (And.intro @List.getD_cons_zero.{0} @List.set_cons_succ.{0})))) (And.intro (And.intro (And.intro @List.set_cons_zero.{0} @List.map_cons.{0, 0}) (And.intro @List.map_nil.{0, 0} @List.append_nil.{0})) (And.intro (And.intro @Bool.not_true @Bool.not_false) (And.intro @and_true (And.intro @true_and @or_true))))) (And.intro (And.intro (And.intro (And.intro @true_or @or_self) (And.intro @and_self @Bool.true_eq_false)) (And.intro (And.intro @Bool.false_eq_true @decide_eq_true_eq) (And.intro @decide_eq_false_iff_not (And.intro @List.all_cons.{0} @List.all_nil.{0})))) (And.intro (And.intro (And.intro @Bool.and_true @Bool.true_and) (And.intro @Option.some.injEq.{0} (And.intro @List.getElem?_cons_succ.{0} @List.getElem?_cons_zero.{0}))) (And.intro (And.intro @List.cons.injEq.{0} @AV.bool.injEq) (And.intro @AV.int.injEq (And.intro @AV.ptr.injEq @AV.agg.injEq)))))) (And.intro (And.intro (And.intro (And.intro (And.intro @AV.tup.injEq @Option.map_some.{0, 0}) (And.intro @Option.map_none.{0, 0} @not_false_eq_true)) (And.intro (And.intro @not_true_eq_false @Bool.not_eq_true') (And.intro @Bool.not_eq_false' (And.intro @decide_true @decide_false)))) (And.intro (And.intro (And.intro @List.take_succ_cons.{0} @List.take_zero.{0}) (And.intro @List.take_nil.{0} @List.drop_succ_cons.{0})) (And.intro (And.intro @List.drop_zero.{0} @List.drop_nil.{0}) (And.intro @Nat.zero_add (And.intro @Nat.add_zero @Nat.le_refl))))) (And.intro (And.intro (And.intro (And.intro @List.flatten_cons.{0} @List.flatten_nil.{0}) (And.intro @Nat.zero_mul @Nat.mul_one)) (And.intro (And.intro @false_and @and_false) (And.intro @Decidable.not_not (And.intro @Int.toNat_natCast @Int.toNat_zero)))) (And.intro (And.intro (And.intro @List.length_append.{0} @List.length_take.{0}) (And.intro @List.length_replicate.{0} (And.intro @Bool.false_and @Bool.and_false))) (And.intro (And.intro @Bool.or_true @Bool.true_or) (And.intro @Bool.or_false (And.intro @Bool.false_or @dnot))))))
theorem ev_t' {t : List AV} {k : Nat} : ev t (.t k) = t.getD k .any := rfl
theorem ev_c' {t : List AV} {v : AV} : ev t (.c v) = v := rfl
theorem ev_f' {t : List AV} {k : Nat} : ev t (.f k) = .fn k [] := rfl
theorem setD_s {t : List AV} {d : Nat} {v : AV} : setD t (some d) v = t.set d v := rfl
theorem setD_n {t : List AV} {v : AV} : setD t none v = t := rfl
theorem cutA_e {z : List AV} {o m : Nat} : cutA z o m = (z.drop o).take m := rfl
theorem evP_n {t : List AV} : evP t [] = [] := rfl
theorem evP_c {t : List AV} {o z : Nat} {x : A} {r : List (Nat × Nat × A)} : evP t ((o, z, x) :: r) = (o, z, ev t x) :: evP t r := rfl
theorem evE_n {es : Nat} {t : List AV} : evE es t [] = [] := rfl
theorem evE_c {es : Nat} {t : List AV} {i : Nat} {x : A} {r : List (Nat × A)} : evE es t ((i, x) :: r) = (i * es, es, ev t x) :: evE es t r := rfl
theorem xsD.{u} : type_of% (And.intro (And.intro (And.intro @if_true.{u} @if_false.{u}) (And.intro @forall_const.{u} @ne_eq.{u})) (And.intro (And.intro @beq_self_eq_true.{u} @bne_self_eq_false.{u}) (And.intro @imp_self (And.intro @true_implies (And.intro @false_implies @implies_true.{u}))))) :=
  And.intro (And.intro (And.intro @if_true.{u} @if_false.{u}) (And.intro @forall_const.{u} @ne_eq.{u})) (And.intro (And.intro @beq_self_eq_true.{u} @bne_self_eq_false.{u}) (And.intro @imp_self (And.intro @true_implies (And.intro @false_implies @implies_true.{u}))))
theorem xsE : type_of% (And.intro (And.intro (And.intro @ev_t' @ev_c') (And.intro @ev_f' @setD_s)) (And.intro (And.intro @setD_n @cutA_e) (And.intro (And.intro @evP_n @evP_c) (And.intro @evE_n @evE_c)))) :=
  And.intro (And.intro (And.intro @ev_t' @ev_c') (And.intro @ev_f' @setD_s)) (And.intro (And.intro @setD_n @cutA_e) (And.intro (And.intro @evP_n @evP_c) (And.intro @evE_n @evE_c)))
end Go.Proofs.YtkpibnhddhdooacDoor.L
