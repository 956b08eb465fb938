/- A region in another order of writing: loads ahead of what makes memory, calls ahead of allocations. -/
import Derived.Test.YtmjfekgbbjojdacL10
namespace Go.Proofs.Ytmjfekgbbjojdac.L
open Go
set_option linter.unusedSimpArgs false
set_option linter.unusedVariables false

def isCall : Op → Bool
  | .call { callee := .value _, .. } => true
  | _ => false
def isMk : Op → Bool
  | .alloc _ | .box _ _ | .makeSlice _ _ _ | .buildSlice _ _ _ | .store _ _ _ => true
  | o => isCall o
def pickNext (ops : Array Oper) (rs : List Nat) : Option Nat :=
  match rs.find? fun i => match ops[i]? with | some o => !isMk o.op | none => false with
  | some i => some i
  | none => match rs.find? fun i => match ops[i]? with | some o => isCall o.op | none => false with
    | some i => some i
    | none => rs.head?
def orderOf (ops : Array Oper) : Nat → Array Bool → List Nat → List Nat
  | 0, _, acc => acc.reverse
  | k + 1, listed, acc => match pickNext ops (Region.ready .any ops listed) with
    | some i => orderOf ops k (listed.setIfInBounds i true) (i :: acc)
    | none => acc.reverse
def invOf (N : Nat) (p : List Nat) : List Nat := (List.range N).map fun i => p.idxOf i
def reOper (q : List Nat) (o : Oper) : Oper := { o with after := o.after.map (fun e => { e with on := q.getD e.on 0 }), guard := o.guard.map fun g => (q.getD g.1 0, g.2) }
def permOps (ops : Array Oper) (p q : List Nat) : Array Oper := (p.map fun i => reOper q (ops.getD i default)).toArray
def okPerm (ops : Array Oper) (p q : List Nat) : Bool :=
  decide (p.length = ops.size) && decide (q.length = ops.size) &&
  (List.range ops.size).all fun i => decide (p.getD i 0 < ops.size) && decide (q.getD i 0 < ops.size) && decide (q.getD (p.getD i 0) 0 = i) && decide (p.getD (q.getD i 0) 0 = i) &&
    (match ops[i]? with
      | some o => (o.after.toList.all fun e => decide (e.on < ops.size)) && (match o.guard with | some (j, _) => decide (j < ops.size) | none => true)
      | none => false)

structure OkP (ops : Array Oper) (p q : List Nat) : Prop where
  lp : p.length = ops.size
  p_lt : ∀ i, i < ops.size → p.getD i 0 < ops.size
  q_lt : ∀ i, i < ops.size → q.getD i 0 < ops.size
  qp : ∀ i, i < ops.size → q.getD (p.getD i 0) 0 = i
  pq : ∀ i, i < ops.size → p.getD (q.getD i 0) 0 = i
  on : ∀ (i : Nat) (o : Oper), ops[i]? = some o → (∀ e ∈ o.after, e.on < ops.size) ∧ ∀ j b, o.guard = some (j, b) → j < ops.size

theorem OkP.of {ops : Array Oper} {p q : List Nat} (h : okPerm ops p q = true) : OkP ops p q := by
  simp only [okPerm, Bool.and_eq_true, decide_eq_true_eq] at h
  obtain ⟨⟨h1, h2⟩, h3⟩ := h
  have H : ∀ i, i < ops.size → p.getD i 0 < ops.size ∧ q.getD i 0 < ops.size ∧ q.getD (p.getD i 0) 0 = i ∧ p.getD (q.getD i 0) 0 = i ∧ ∀ (o : Oper), ops[i]? = some o → (∀ e ∈ o.after, e.on < ops.size) ∧ ∀ j b, o.guard = some (j, b) → j < ops.size := by
    intro i hi
    have := List.all_eq_true.1 h3 i (List.mem_range.2 hi)
    simp only [Bool.and_eq_true, decide_eq_true_eq] at this
    obtain ⟨⟨⟨⟨g1, g2⟩, g3⟩, g4⟩, g5⟩ := this
    refine ⟨g1, g2, g3, g4, fun o ho => ?_⟩
    rw [ho] at g5
    simp only [Bool.and_eq_true] at g5
    refine ⟨fun e he => ?_, fun j b hg => ?_⟩
    · have := List.all_eq_true.1 g5.1 e (by simpa using he)
      simpa using this
    · have := g5.2
      rw [hg] at this
      simpa using this
  exact ⟨h1, fun i hi => (H i hi).1, fun i hi => (H i hi).2.1, fun i hi => (H i hi).2.2.1, fun i hi => (H i hi).2.2.2.1, fun i o ho => (H i (Array.getElem?_eq_some_iff.1 ho).1).2.2.2.2 o ho⟩

section
variable {P : Program} {ops : Array Oper} {p q : List Nat} {Q : Exit → Act → World → Prop}

theorem perm_at (ok : OkP ops p q) {j : Nat} {o : Oper} (hj : ops[j]? = some o) : (permOps ops p q)[q.getD j 0]? = some (reOper q o) := by
  have hlt := (Array.getElem?_eq_some_iff.1 hj).1
  have h1 : q.getD j 0 < p.length := by rw [ok.lp]; exact ok.q_lt j hlt
  have h2 : p[q.getD j 0]? = some j := by
    have := ok.pq j hlt
    rw [List.getD, List.getElem?_eq_getElem h1, Option.getD_some] at this
    rw [List.getElem?_eq_getElem h1, this]
  have hd : ops.getD j default = o := by
    rw [Array.getD_eq_getD_getElem?, hj]; rfl
  simp only [permOps, List.getElem?_toArray, List.getElem?_map, h2, Option.map_some, hd]
theorem perm_size (ok : OkP ops p q) : (permOps ops p q).size = ops.size := by simp [permOps, ok.lp]

theorem perm_ready (ok : OkP ops p q) {l l' : Array Bool} (h1 : l.size = ops.size) (h2 : l'.size = ops.size) (hl : ∀ i, i < ops.size → l'.getD (q.getD i 0) false = l.getD i false) {j : Nat} (hj : j < ops.size) :
    j ∈ Region.ready .any ops l ↔ q.getD j 0 ∈ Region.ready .any (permOps ops p q) l' := by
  have tf : ∀ (l : Array Bool) i, i < l.size → l.getD i true = l.getD i false := fun l i hi => by simp [hi]
  obtain ⟨o, ho⟩ : ∃ o, ops[j]? = some o := ⟨ops[j], by simp [hj]⟩
  rw [mem_ready, mem_ready]
  have hq := ok.q_lt j hj
  rw [tf l j (by omega), tf l' _ (by omega), hl j hj]
  constructor
  · rintro ⟨g1, o', ho', g2⟩
    rw [ho] at ho'; cases ho'
    refine ⟨g1, _, perm_at ok ho, fun e he hb => ?_⟩
    simp only [reOper, Array.mem_map] at he
    obtain ⟨e0, he0, rfl⟩ := he
    have := g2 e0 he0 (by simpa [Region.binds] using hb)
    rw [hl e0.on ((ok.on j o ho).1 e0 he0)]; exact this
  · rintro ⟨g1, o', ho', g2⟩
    rw [perm_at ok ho] at ho'; cases ho'
    refine ⟨g1, o, ho, fun e he hb => ?_⟩
    have := g2 { e with on := q.getD e.on 0 } (by simp only [reOper, Array.mem_map]; exact ⟨e, he, rfl⟩) (by simpa [Region.binds] using hb)
    rw [← hl e.on ((ok.on j o ho).1 e he)]; exact this

theorem perm_wanted (ok : OkP ops p q) {j : Nat} {o : Oper} (hj : ops[j]? = some o) (tmps : Array Value) : Region.wanted (reOper q o) (yielded (permOps ops p q) tmps) = Region.wanted o (yielded ops tmps) := by
  unfold Region.wanted
  cases hg : o.guard with
  | none => simp [reOper, hg]
  | some g =>
    obtain ⟨k, b⟩ := g
    have hk := (ok.on j o hj).2 k b hg
    obtain ⟨ok', hok'⟩ : ∃ o, ops[k]? = some o := ⟨ops[k], by simp [hk]⟩
    simp only [reOper, hg, Option.map_some, yielded, perm_at ok hok', hok', Option.bind_some]

theorem perm_any (ok : OkP ops p q) : ∀ (fuel : Nat) (l l' : Array Bool) (a : Act) (w : World), l.size = ops.size → l'.size = ops.size → (∀ i, i < ops.size → l'.getD (q.getD i 0) false = l.getD i false) →
    wpAny P .any (permOps ops p q) Q fuel l' a w → wpAny P .any ops Q fuel l a w := by
  have empty : ∀ {l l' : Array Bool}, l.size = ops.size → l'.size = ops.size → (∀ i, i < ops.size → l'.getD (q.getD i 0) false = l.getD i false) →
      (Region.ready .any ops l = [] ↔ Region.ready .any (permOps ops p q) l' = []) := fun {l l'} h1 h2 hl => by
    constructor
    · intro h
      cases hr : Region.ready .any (permOps ops p q) l' with
      | nil => rfl
      | cons j r =>
        have hj : j ∈ Region.ready .any (permOps ops p q) l' := by rw [hr]; simp
        have hlt : j < ops.size := by
          obtain ⟨_, o, ho, _⟩ := mem_ready.1 hj
          have := (Array.getElem?_eq_some_iff.1 ho).1
          rwa [perm_size ok] at this
        have hp := ok.p_lt j hlt
        have := (perm_ready ok h1 h2 hl hp).2 (by rw [ok.qp j hlt]; exact hj)
        rw [h] at this; cases this
    · intro h
      cases hr : Region.ready .any ops l with
      | nil => rfl
      | cons j r =>
        have hj : j ∈ Region.ready .any ops l := by rw [hr]; simp
        have hlt : j < ops.size := by
          obtain ⟨_, o, ho, _⟩ := mem_ready.1 hj
          exact (Array.getElem?_eq_some_iff.1 ho).1
        have := (perm_ready ok h1 h2 hl hlt).1 hj
        rw [h] at this; cases this
  intro fuel
  induction fuel with
  | zero =>
    intro l l' a w h1 h2 hl h
    exact ⟨(empty h1 h2 hl).2 h.1, h.2⟩
  | succ fuel ih =>
    intro l l' a w h1 h2 hl h
    refine ⟨fun hr => h.1 ((empty h1 h2 hl).1 hr), fun j hj => ?_⟩
    obtain ⟨_, o, ho, _⟩ := mem_ready.1 hj
    have hlt := (Array.getElem?_eq_some_iff.1 ho).1
    have h3 := h.2 _ ((perm_ready ok h1 h2 hl hlt).1 hj)
    have hK : ∀ a w, wpAny P .any (permOps ops p q) Q fuel (l'.setIfInBounds (q.getD j 0) true) a w → wpAny P .any ops Q fuel (l.setIfInBounds j true) a w := fun a w => ih _ _ a w (by simp [h1]) (by simp [h2]) fun i hi => by
      have hq := ok.q_lt j hlt
      have hqi := ok.q_lt i hi
      by_cases hij : i = j
      · subst hij
        simp only [Array.getD_eq_getD_getElem?, Array.getElem?_setIfInBounds, if_true, h1, h2, hi, hq]
      · have hne : q.getD j 0 ≠ q.getD i 0 := fun he => by
          have h4 := ok.pq i hi; have h5 := ok.pq j hlt
          rw [← he, h5] at h4; exact hij h4.symm
        have := hl i hi
        simp only [Array.getD_eq_getD_getElem?, Array.getElem?_setIfInBounds] at this ⊢
        rw [if_neg hne, if_neg (Ne.symm hij)]; exact this
    have h4 := wpOp_mono hK h3
    unfold wpOp at h4 ⊢
    rw [perm_at ok ho] at h4
    rw [ho]
    simp only [perm_wanted ok ho] at h4
    exact h4
end
end Go.Proofs.Ytmjfekgbbjojdac.L
