/- Operations that make memory, read it, write it, and calls: what each does to what is told of the heap. -/
import Derived.Test.YtmjfekgbbjojdacL4
import Derived.Laws.Append
import Derived.Laws.MakeOwn
import Derived.Great.BuildSlice
import Derived.Laws.Tables
namespace Go.Proofs.Ytmjfekgbbjojdac.L
open Go
set_option linter.unusedSimpArgs false
set_option linter.unusedVariables false

/-- Function f, called with values told by args where the heap is told by h and names from n on are free, hands back v; then the heap is told by h', the names below n' are taken. It may write the blocks of W alone. -/
def ACalls (P : Program) (W : Nat → Prop) (f : Nat) (args : List AV) (h : AH) (n : Nat) (v : AV) (h' : AH) (n' : Nat) : Prop :=
  n ≤ n' ∧ ∀ (ρ : Rho) (w : World) (vs : List Value), Sim ρ h w → IsL ρ args vs → (∀ i, n ≤ i → i < n' → ρ i = none) →
    Calls P f vs.toArray w fun e w' => ∃ rv ρ', e = .returned rv ∧ Is ρ' v rv ∧ Sim ρ' h' w' ∧ Cx ⟨ρ, w, W, n, n'⟩ ρ' w'

/-- An operation, carried out where the slots that it looks at are told by t and the heap by h. -/
def RO (P : Program) (W : Nat → Prop) (o : Oper) (ds : List Nat) (t : List AV) (h : AH) (n : Nat) (v : AV) (h' : AH) (n' : Nat) : Prop :=
  n ≤ n' ∧ ∀ (ρ : Rho) (a : Act) (w : World) (Kr : Act → World → Prop) (Qr : Exit → Act → World → Prop), Rel ρ ds t a → Sim ρ h w → (∀ i, n ≤ i → i < n' → ρ i = none) →
    (∀ rv ρ' w', Is ρ' v rv → Sim ρ' h' w' → Cx ⟨ρ, w, W, n, n'⟩ ρ' w' → Kr (a.put o.dst rv) w') → o.wp P a w Kr Qr

section
variable {P : Program} {o : Oper} {t : List AV}

theorem wp_value {a : Act} {w w' : World} {rv : Value} {Kr : Act → World → Prop} {Qr : Exit → Act → World → Prop} (hr : (execOp a.eval o).run P w = .ok (.value rv) w') (h : Kr (a.put o.dst rv) w') : o.wp P a w Kr Qr := by
  unfold Oper.wp; rw [hr]; exact h
theorem wp_skip' {a : Act} {w w' : World} {Kr : Act → World → Prop} {Qr : Exit → Act → World → Prop} (hr : (execOp a.eval o).run P w = .ok .skip w') (h : Kr (a.put o.dst undef) w') : o.wp P a w Kr Qr := by
  unfold Oper.wp; rw [hr]; exact h
theorem wp_enter {a : Act} {w w' : World} {f : Nat} {args : Array Value} {Kr : Act → World → Prop} {Qr : Exit → Act → World → Prop} (hr : (execOp a.eval o).run P w = .ok (.enter f args) w')
    (h : Calls P f args w' fun e w'' => ∃ rv, e = .returned rv ∧ Kr (a.put o.dst rv) w'') : o.wp P a w Kr Qr := by
  unfold Oper.wp; rw [hr]
  refine Calls.mono h fun e w'' he => ?_
  obtain ⟨rv, rfl, hk⟩ := he
  exact hk

theorem RO.of_PV {o' : O} {v : AV} (h : PV P o o' t v) (n : Nat) : RO P none' o o'.reads t emp n v emp n :=
  ⟨Nat.le_refl _, fun ρ a w Kr Qr hr hs hf hk => by
    obtain ⟨rv, hi, hrun⟩ := h ρ a hr
    exact wp_value (hrun w) (hk rv ρ w hi (Sim.emp _ _) (Cx.refl ρ w _ _ _ hf))⟩

theorem mix_same (n : Nat) (g new : AH) : mix n n g new = g := by
  funext i; simp only [mix]; split
  · omega
  · rfl
theorem mix_upd (n : Nat) (g : AH) (b : Option Blk) : mix n (n + 1) g (upd emp n b) = upd g n b := by
  funext i; simp only [mix, upd]
  by_cases h : i = n
  · subst h; simp
  · rw [if_neg (by omega), if_neg h]

/-- What needs to know nothing of the heap. -/
theorem RO.lift {ds : List Nat} {n n' : Nat} {v : AV} {new : AH} (h : RO P none' o ds t emp n v new n') (g : AH) : RO P none' o ds t g n v (mix n n' g new) n' :=
  ⟨h.1, fun ρ a w Kr Qr hr hs hf hk => h.2 ρ a w Kr Qr hr (Sim.emp _ _) hf fun rv ρ' w' hi hs' hc => hk rv ρ' w' hi (hs.mix hc hf hs') hc⟩

/-- A new block. -/
theorem RO.maker {ds : List Nat} {ty : Nat} {z : List AV} {v : AV} {rv : Nat → Value} (n : Nat)
    (hv : ∀ (ρ : Rho) b, ρ n = some ⟨b, 0, 0⟩ → Is ρ v (rv b))
    (h : ∀ ρ a, Rel ρ ds t a → ∃ rc : List Value, IsL ρ z rc ∧ ∀ w, (execOp a.eval o).run P w = .ok (.value (rv w.heap.size)) (w.alloc (.cells rc.toArray ty))) :
    RO P none' o ds t emp n v (upd emp n (some ⟨ty, z, true, 0⟩)) (n + 1) :=
  ⟨Nat.le_succ n, fun ρ a w Kr Qr hr hs hf hk => by
    obtain ⟨rc, hz, hrun⟩ := h ρ a hr
    let ρ' : Rho := fun i => if i = n then some ⟨w.heap.size, 0, 0⟩ else ρ i
    have e : Ext ρ ρ' := fun i r hi => by
      by_cases hn : i = n
      · subst hn; rw [hf i (Nat.le_refl _) (Nat.lt_succ_self _)] at hi; cases hi
      · simp [ρ', hn, hi]
    have hn : ρ' n = some ⟨w.heap.size, 0, 0⟩ := by simp [ρ']
    have hb : (w.alloc (.cells rc.toArray ty)).heap[w.heap.size]? = some (.cells rc.toArray ty (0, 0)) := heap_alloc_new w _
    refine wp_value (hrun w) (hk _ ρ' _ (hv ρ' _ hn) ⟨fun i b hi => ?_, fun i j bi bj ri rj hi hj hij => ?_⟩ ⟨rfl, rfl, rfl, by simp, fun b hb' _ => heap_alloc_old w _ b hb', fun i hi => ?_, fun i hi => ?_, fun i r h1 h2 h3 => ?_⟩)
    · simp only [upd] at hi
      split at hi
      · rename_i hin
        subst hin
        cases hi
        refine ⟨_, hn, fun k c hk' => ?_, fun _ => ⟨rfl, _, hb, by simp [hz.length], fun _ => by simp [hz.length], fun h => absurd rfl h⟩⟩
        obtain ⟨u, hu, hi⟩ := hz.get k c hk'
        exact ⟨u, by rw [cell_of_row _ _ _ _ _ _ hb]; simpa using hu, hi.mono e⟩
      · simp [L.emp] at hi
    · simp only [upd] at hi hj
      split at hi
      · split at hj
        · omega
        · simp [L.emp] at hj
      · simp [L.emp] at hi
    · simp only at hi; simp [ρ', Nat.ne_of_lt hi]
    · simp only at hi
      have : i ≠ n := by omega
      simp [ρ', this]
    · simp only at h1 h2
      obtain rfl : i = n := by omega
      rw [hn] at h3; cases h3
      exact .inl (Nat.le_refl _)⟩

theorem o_alloc {ty : Nat} {z : List AV} (ho : o.op = .alloc ty) (hz : zeroOf P ty = some z) (n : Nat) :
    RO P none' o (O.alloc ty z).reads t emp n (.ptr n 0) (upd emp n (some ⟨ty, z, true, 0⟩)) (n + 1) := by
  obtain ⟨i, v, hi, hiz, hs, hrun, his⟩ := zeroOf_run hz
  refine RO.maker (rv := fun b => .pointer (some ⟨b, 0, none⟩)) n (fun ρ b hb => by simp only [Is]; exact ⟨_, hb, rfl⟩) fun ρ a _ => ⟨v.cells.toList, his ρ, fun w => ?_⟩
  simp [execOp, ho, Instr.alloc, hrun, newVar, newRow]
theorem o_box {ty : Nat} {x : Operand} {x' : A} (ho : o.op = .box ty x) (hx : compA x = some x') (hst : (ev t x').storable = true) (n : Nat) :
    RO P none' o (O.box ty x').reads t emp n (.ptr n 0) (upd emp n (some ⟨ty, (ev t x').cells, true, 0⟩)) (n + 1) := by
  refine RO.maker (rv := fun b => .pointer (some ⟨b, 0, none⟩)) n (fun ρ b hb => by simp only [Is]; exact ⟨_, hb, rfl⟩) fun ρ a hR => ?_
  have e1 := compA_is hx (hR.arg (x := x') (by simp [O.args]))
  refine ⟨(a.eval x).cells.toList, (e1.storable hst).1, fun w => ?_⟩
  simp [execOp, ho, Instr.box, newVar, newRow]

def repA (n : Nat) (z : List AV) : List AV := (List.replicate n z).flatten
theorem repA_is {ρ : Rho} {z : List AV} {vs : List Value} (h : IsL ρ z vs) : ∀ n, IsL ρ (repA n z) (List.replicate n vs).flatten
  | 0 => by simp [repA, IsL.nil]
  | n + 1 => by
    have ih := repA_is h n
    simp only [repA, List.replicate_succ, List.flatten_cons] at ih ⊢
    exact h.append ih
theorem rep_range (vs : Array Value) : ∀ n, ((List.range (n * vs.size)).map (vs[· % vs.size]!)) = (List.replicate n vs.toList).flatten
  | 0 => by simp
  | n + 1 => by
    have ih := rep_range vs n
    rw [Nat.succ_mul, Nat.add_comm, List.range_add, List.map_append, List.map_map, List.replicate_succ, List.flatten_cons, ← ih]
    congr 1
    · apply List.ext_getElem?
      intro i
      by_cases hi : i < vs.size
      · simp [hi, Nat.mod_eq_of_lt]
      · simp [hi]
    · apply List.map_congr_left
      intro i _
      simp
theorem o_mks {T e : TypeId} {i : TypeInfo} {z : List AV} {l c : Operand} {l' c' : A} (ho : o.op = .makeSlice T l c) (hT : P.underlying T = some (.slice e)) (hi : P.info? e = some i) (hz : zeroOf P e = some z)
    (hs0 : i.size ≠ 0) (hby : i.bytes ≤ 4096) (hl : compA l = some l') (hc : compA c = some c') {k k' : IntKind} {m p : Int} (el : ev t l' = .int k m) (ec : ev t c' = .int k' p)
    (h0 : 0 ≤ m) (h1 : m ≤ p) (h2 : p ≤ 4294967296) (n : Nat) :
    RO P none' o (O.mks e i.size z l' c').reads t emp n (.sl n 0 m.toNat p.toNat) (upd emp n (some ⟨e, repA p.toNat z, true, 0⟩)) (n + 1) := by
  obtain ⟨i', v, hi', hiz, hs, hrun, his⟩ := zeroOf_run hz
  rw [hi] at hi'; cases hi'
  refine RO.maker (rv := fun b => .slice (some ⟨b, 0, none⟩) m.toNat p.toNat) n (fun ρ b hb => by simp only [Is]; exact ⟨_, hb, rfl⟩) fun ρ a hR => ?_
  have e1 := compA_is hl (hR.arg (x := l') (by simp [O.args]))
  have e2 := compA_is hc (hR.arg (x := c') (by simp [O.args]))
  rw [el] at e1; rw [ec] at e2; simp only [Is] at e1 e2
  refine ⟨(List.replicate p.toNat v.cells.toList).flatten, repA_is (his ρ) _, fun w => ?_⟩
  have hb : (i.bytes : Int) * p ≤ 281474976710656 := by
    have h3 : (i.bytes : Int) * p ≤ 4096 * p := Int.mul_le_mul_of_nonneg_right (by omega) (by omega)
    omega
  have hr := run_make (P := P) w T e i v hT hi hiz k k' m p h0 h1 hb (by omega)
  have hm : madeCells v.cells (p.toNat * i.size) = (List.replicate p.toNat v.cells.toList).flatten.toArray := by
    rw [← hs, ← rep_range]
    apply Array.ext'
    simp [madeCells]
  rw [hm] at hr
  simp [execOp, ho, e1, e2, hr]

theorem foldl_put (l : List Value) : ∀ (k off : Nat) (cs : Array Value), off + k + l.length ≤ cs.size →
    ((l.zipIdx k).foldl (fun (cs : Array Value) (x : Value × Nat) => cs.setIfInBounds (off + x.2) x.1) cs).toList = cs.toList.take (off + k) ++ l ++ cs.toList.drop (off + k + l.length) := by
  induction l with
  | nil => intro k off cs h; simp
  | cons v l ih =>
    intro k off cs h
    simp only [List.length_cons] at h
    simp only [List.zipIdx_cons, List.foldl_cons]
    rw [ih (k + 1) off _ (by simp; omega)]
    simp only [Array.toList_setIfInBounds, List.length_cons]
    have h1 : off + k < cs.toList.length := by simp; omega
    rw [show off + (k + 1) = off + k + 1 by omega, List.take_succ_eq_append_getElem (by simp; omega), List.take_set_of_le (by omega), List.drop_set_of_lt (by omega)]
    simp
    congr 1
    omega

/-- The parts of a literal, told. -/
def PartsRel (ρ : Rho) (place : Nat → Option (Nat × Nat)) : List (Nat × Value) → List (Nat × Nat × AV) → Prop
  | [], [] => True
  | (i, v) :: r, (off, s, a) :: q => place i = some (off, s) ∧ Is ρ a v ∧ PartsRel ρ place r q
  | _, _ => False
theorem putA_is {ρ : Rho} {z cs : List AV} {rz rv : List Value} (hz : IsL ρ z rz) (hc : IsL ρ cs rv) (off : Nat) : IsL ρ (putA z off cs) (rz.take off ++ rv ++ rz.drop (off + rv.length)) := by
  rw [hc.length]
  exact ((hz.take off).append hc).append (hz.drop _)
theorem putA_length {z cs : List AV} {off : Nat} (h : off + cs.length ≤ z.length) : (putA z off cs).length = z.length := by simp [putA]; omega
theorem fill_is {ρ : Rho} {place : Nat → Option (Nat × Nat)} : ∀ {ps : List (Nat × Value)} {qs : List (Nat × Nat × AV)} {z z' : List AV} {c : Array Value}, PartsRel ρ place ps qs → IsL ρ z c.toList →
    fillA z qs = some z' → ∃ c', Instr.fill place c ps = some c' ∧ IsL ρ z' c'.toList
  | [], [], z, z', c, _, hz, h => by simp only [fillA, Option.some.injEq] at h; subst h; exact ⟨c, rfl, hz⟩
  | (i, v) :: r, (off, s, a) :: q, z, z', c, hp, hz, h => by
    obtain ⟨h1, h2, h3⟩ := hp
    simp only [fillA] at h
    split at h
    · rename_i hc
      obtain ⟨hst, hl, hfit⟩ := hc
      have h4 := (h2.storable hst).1
      have hvs : v.cells.size = s := by have := h4.length; simp at this; omega
      have hcs : c.size = z.length := by simpa using hz.length
      have hput := putA_is hz h4 off
      have hf := foldl_put v.cells.toList 0 off c (by simp; omega)
      have hfit' : ¬ (off + v.cells.size > c.size) := by omega
      obtain ⟨c', h5, h6⟩ := fill_is (c := v.cells.zipIdx.foldl (fun cs (x : Value × Nat) => cs.setIfInBounds (off + x.2) x.1) c) h3 (by
        rw [← Array.foldl_toList, Array.toList_zipIdx, hf]; simpa using hput) h
      refine ⟨c', ?_, h6⟩
      simp only [Instr.fill, h1]
      rw [if_neg (by simp [hvs]; omega)]
      exact h5
    · cases h
  | [], _ :: _, _, _, _, hp, _, _ => by simp [PartsRel] at hp
  | _ :: _, [], _, _, _, hp, _, _ => by simp [PartsRel] at hp

theorem compParts_rel {ρ : Rho} {a : Act} {pl : Array (Nat × Nat)} : ∀ {ps : List (Nat × Operand)} {l : List (Nat × Nat × A)}, compParts pl ps = some l → Rel ρ ((l.map (·.2.2)).flatMap A.reads) t a →
    PartsRel ρ (pl[·]?) (ps.map fun p => (p.1, a.eval p.2)) (l.map fun p => (p.1, p.2.1, ev t p.2.2))
  | [], l, h, _ => by simp only [compParts, Option.some.injEq] at h; subst h; simp [PartsRel]
  | (i, x) :: r, l, h, hr => by
    simp only [compParts] at h
    split at h
    · rename_i q y m h1 h2 h3
      cases h
      simp only [List.map_cons, PartsRel]
      exact ⟨h1, compA_is h2 fun d hd => hr d (by simp [hd]), compParts_rel h3 fun d hd => hr d (by
        simp only [List.map_cons, List.flatMap_cons, List.mem_append]; exact .inr hd)⟩
    · cases h
theorem x_build {T : TypeId} {ps : Array (Nat × Operand)} {fs : Array Field} {z : List AV} {pl : List (Nat × Nat)} {l : List (Nat × Nat × A)} {K : AV → Prop} (ho : o.op = .build T ps) (hT : P.underlying T = some (.struct fs)) (hz : zeroOf P T = some z)
    (hpl : placesOf P fs = some pl) (hl : compParts pl.toArray ps.toList = some l) (h : xp (.build z l) t K) : ∃ v, K v ∧ PV P o (.build z l) t v := by
  simp only [xp] at h
  split at h
  · rename_i cs hcs
    obtain ⟨i, v, hi, hiz, hs, hrun, his⟩ := zeroOf_run hz
    refine ⟨_, h, fun ρ a hR => ?_⟩
    have hp := compParts_rel hl (hR.args (xs := l.map (·.2.2)) (by simp [O.args]))
    obtain ⟨c', hf, hc'⟩ := fill_is hp (his ρ) hcs
    refine ⟨.agg c', by simp only [Is]; exact ⟨c'.toList, by simp, hc'⟩, fun w => ?_⟩
    have hb : P.built T (ps.toList.map fun p => (p.1, a.eval p.2)) = some c' := by
      unfold placesOf at hpl
      simp only [Program.built, hi, hT, hiz, hpl]
      exact hf
    have := run_build (P := P) w T (ps.map fun p => (p.1, a.eval p.2)) c' (by simpa using hb)
    simp [execOp, ho, this]
  · exact h.elim
end
end Go.Proofs.Ytmjfekgbbjojdac.L
