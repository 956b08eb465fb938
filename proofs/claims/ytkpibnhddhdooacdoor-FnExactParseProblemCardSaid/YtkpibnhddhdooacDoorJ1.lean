/- The plain part of a program logic of our own: abstract values, abstract heaps, and what it means that a world of the model is told by them. No program in sight. -/
import Derived.Orders
import Derived.Laws.AppendOwn
import Derived.Laws.IdiomCopy
import Derived.Laws.Entries
import Derived.KernelRfl
import Derived.IntWalk
import Derived.Laws.Append
import Derived.Laws.MakeOwn
import Derived.Great.BuildSlice
import Derived.Laws.Tables
import Derived.Laws.IdiomStrings
set_option linter.unusedSimpArgs false
set_option linter.unusedVariables false
namespace Go.Proofs.YtkpibnhddhdooacDoor.L
open Go

inductive AV where
  | any
  | bool (b : Bool)
  | int (k : IntKind) (n : Int)
  | str (s : ByteArray)
  | ptr (i o : Nat)
  | nilptr
  | sl (i o n c : Nat)
  | so (i n : Nat)
  | sx (i o n : Nat)
  | nilsl
  | sl0
  | fn (f : Nat) (cs : List AV)
  | agg (cs : List AV)
  | tup (cs : List AV)
  | nilif
  | iface
  deriving Inhabited

structure Ref where
  b : Nat
  s : Nat
  c : Nat

abbrev Rho := Nat → Option Ref

mutual
def Is (ρ : Rho) : AV → Value → Prop
  | .any, _ => True
  | .bool b, v => v = .bool b
  | .int k n, v => v = .int k n
  | .str s, v => v = .string s
  | .ptr i o, v => ∃ r, ρ i = some r ∧ v = .pointer (some ⟨r.b, r.s + o, none⟩)
  | .nilptr, v => v = .pointer none
  | .sl i o n c, v => ∃ r, ρ i = some r ∧ v = .slice (some ⟨r.b, r.s + o, none⟩) n c
  | .so i n, v => ∃ r, ρ i = some r ∧ r.s = 0 ∧ n ≤ r.c ∧ v = .slice (some ⟨r.b, 0, none⟩) n r.c
  | .sx i o n, v => ∃ r a c, ρ i = some r ∧ v = .slice (some a) n c ∧ n ≤ c ∧ (n ≠ 0 → a = ⟨r.b, r.s + o, none⟩)
  | .nilsl, v => v = .slice none 0 0
  | .sl0, v => ∃ a, v = .slice a 0 0
  | .fn f cs, v => ∃ vs : List Value, v = .func (.func f) #[] vs.toArray ∧ IsL ρ cs vs
  | .agg cs, v => ∃ vs : List Value, v = .agg vs.toArray ∧ IsL ρ cs vs
  | .tup cs, v => ∃ vs : List Value, v = .tuple vs.toArray ∧ IsL ρ cs vs
  | .nilif, v => v = .nilIface
  | .iface, v => ∃ t u, v = .iface t u
def IsL (ρ : Rho) : List AV → List Value → Prop
  | [], vs => vs = []
  | c :: cs, vs => ∃ v r, vs = v :: r ∧ Is ρ c v ∧ IsL ρ cs r
end

def Ext (ρ ρ' : Rho) : Prop := ∀ i r, ρ i = some r → ρ' i = some r
theorem Ext.refl (ρ : Rho) : Ext ρ ρ := fun _ _ h => h

mutual
theorem Is.mono {ρ ρ' : Rho} (e : Ext ρ ρ') : ∀ (a : AV) (v : Value), Is ρ a v → Is ρ' a v
  | .any, _, _ => by simp only [Is]
  | .bool b, v, h => by simp only [Is] at h ⊢; exact h
  | .int k n, v, h => by simp only [Is] at h ⊢; exact h
  | .str s, v, h => by simp only [Is] at h ⊢; exact h
  | .ptr i o, v, h => by simp only [Is] at h ⊢; obtain ⟨r, h1, h2⟩ := h; exact ⟨r, e _ _ h1, h2⟩
  | .nilptr, v, h => by simp only [Is] at h ⊢; exact h
  | .sl i o n c, v, h => by simp only [Is] at h ⊢; obtain ⟨r, h1, h2⟩ := h; exact ⟨r, e _ _ h1, h2⟩
  | .so i n, v, h => by simp only [Is] at h ⊢; obtain ⟨r, h1, h2⟩ := h; exact ⟨r, e _ _ h1, h2⟩
  | .sx i o n, v, h => by simp only [Is] at h ⊢; obtain ⟨r, a, c, h1, h2⟩ := h; exact ⟨r, a, c, e _ _ h1, h2⟩
  | .nilsl, v, h => by simp only [Is] at h ⊢; exact h
  | .sl0, v, h => by simp only [Is] at h ⊢; exact h
  | .fn f cs, v, h => by simp only [Is] at h ⊢; obtain ⟨vs, h1, h2⟩ := h; exact ⟨vs, h1, IsL.mono e cs vs h2⟩
  | .agg cs, v, h => by simp only [Is] at h ⊢; obtain ⟨vs, h1, h2⟩ := h; exact ⟨vs, h1, IsL.mono e cs vs h2⟩
  | .tup cs, v, h => by simp only [Is] at h ⊢; obtain ⟨vs, h1, h2⟩ := h; exact ⟨vs, h1, IsL.mono e cs vs h2⟩
  | .nilif, v, h => by simp only [Is] at h ⊢; exact h
  | .iface, v, h => by simp only [Is] at h ⊢; exact h
theorem IsL.mono {ρ ρ' : Rho} (e : Ext ρ ρ') : ∀ (l : List AV) (vs : List Value), IsL ρ l vs → IsL ρ' l vs
  | [], _, h => by simp only [IsL] at h ⊢; exact h
  | c :: cs, vs, h => by
    simp only [IsL] at h ⊢
    obtain ⟨v, r, h1, h2, h3⟩ := h
    exact ⟨v, r, h1, Is.mono e c v h2, IsL.mono e cs r h3⟩
end

theorem IsL.nil (ρ : Rho) : IsL ρ [] [] := by simp only [IsL]
theorem IsL.cons {ρ : Rho} {c : AV} {cs : List AV} {v : Value} {vs : List Value} (h : Is ρ c v) (hs : IsL ρ cs vs) : IsL ρ (c :: cs) (v :: vs) := by
  simp only [IsL]; exact ⟨v, vs, rfl, h, hs⟩
theorem IsL.length {ρ : Rho} : ∀ {l : List AV} {vs : List Value}, IsL ρ l vs → vs.length = l.length
  | [], vs, h => by simp only [IsL] at h; simp [h]
  | c :: cs, vs, h => by
    simp only [IsL] at h
    obtain ⟨v, r, rfl, _, h3⟩ := h
    simp [h3.length]
theorem IsL.get {ρ : Rho} : ∀ {l : List AV} {vs : List Value}, IsL ρ l vs → ∀ (i : Nat) (c : AV), l[i]? = some c → ∃ v, vs[i]? = some v ∧ Is ρ c v
  | [], vs, h, i, c, hi => by simp at hi
  | c :: cs, vs, h, i, d, hi => by
    simp only [IsL] at h
    obtain ⟨v, r, rfl, h1, h2⟩ := h
    cases i with
    | zero => simp at hi; subst hi; exact ⟨v, by simp, h1⟩
    | succ i => simpa using h2.get i d (by simpa using hi)
theorem IsL.of_get {ρ : Rho} : ∀ {l : List AV} {vs : List Value}, vs.length = l.length → (∀ (i : Nat) (c : AV) (v : Value), l[i]? = some c → vs[i]? = some v → Is ρ c v) → IsL ρ l vs
  | [], vs, hl, _ => by simp only [IsL]; exact List.eq_nil_of_length_eq_zero (by simpa using hl)
  | c :: cs, [], hl, _ => by simp at hl
  | c :: cs, v :: vs, hl, h => by
    refine IsL.cons (h 0 c v (by simp) (by simp)) (IsL.of_get (by simpa using hl) fun i d u h1 h2 => h (i + 1) d u (by simpa using h1) (by simpa using h2))
theorem IsL.getD {ρ : Rho} {l : List AV} {vs : List Value} (h : IsL ρ l vs) (i : Nat) (u : Value) : Is ρ (l.getD i .any) (vs.getD i u) := by
  cases hc : l[i]? with
  | none => simp [List.getD, hc, Is]
  | some c =>
    obtain ⟨v, hv, his⟩ := h.get i c hc
    simp [List.getD, hc, hv, his]
theorem IsL.set {ρ : Rho} {c : AV} {v : Value} (hc : Is ρ c v) : ∀ {l : List AV} {vs : List Value}, IsL ρ l vs → ∀ i, IsL ρ (l.set i c) (vs.set i v)
  | [], vs, h, i => by simp only [IsL] at h; subst h; simp [IsL.nil]
  | d :: ds, vs, h, i => by
    simp only [IsL] at h
    obtain ⟨u, r, rfl, h1, h2⟩ := h
    cases i with
    | zero => exact IsL.cons hc h2
    | succ i => exact IsL.cons h1 (IsL.set hc h2 i)
theorem IsL.append {ρ : Rho} : ∀ {l m : List AV} {vs us : List Value}, IsL ρ l vs → IsL ρ m us → IsL ρ (l ++ m) (vs ++ us)
  | [], m, vs, us, h, h' => by simp only [IsL] at h; subst h; simpa using h'
  | c :: cs, m, vs, us, h, h' => by
    simp only [IsL] at h
    obtain ⟨v, r, rfl, h1, h2⟩ := h
    exact IsL.cons h1 (IsL.append h2 h')
theorem IsL.replicate_any (ρ : Rho) (vs : List Value) : IsL ρ (List.replicate vs.length .any) vs := by
  induction vs with
  | nil => exact IsL.nil ρ
  | cons v vs ih => exact IsL.cons (by simp only [Is]) ih
theorem IsL.take {ρ : Rho} {l : List AV} {vs : List Value} (h : IsL ρ l vs) (k : Nat) : IsL ρ (l.take k) (vs.take k) := by
  refine IsL.of_get (by simp [h.length]) fun i c v h1 h2 => ?_
  rw [List.getElem?_take] at h1 h2
  split at h1
  · obtain ⟨u, hu, hi⟩ := h.get i c h1
    rw [hu] at h2; split at h2 <;> simp_all
  · cases h1
theorem IsL.drop {ρ : Rho} {l : List AV} {vs : List Value} (h : IsL ρ l vs) (k : Nat) : IsL ρ (l.drop k) (vs.drop k) := by
  refine IsL.of_get (by simp [h.length]) fun i c v h1 h2 => ?_
  rw [List.getElem?_drop] at h1 h2
  obtain ⟨u, hu, hi⟩ := h.get _ c h1
  rw [hu] at h2; simp_all

def AV.one : AV → Bool
  | .any | .agg _ | .tup _ => false
  | _ => true
def AV.cells : AV → List AV
  | .agg cs => cs
  | v => [v]
theorem Is.one {ρ : Rho} {a : AV} {v : Value} (h : Is ρ a v) (ha : a.one = true) : v.oneCell' = true ∧ v.cells = #[v] := by
  cases a <;> simp only [AV.one, Bool.false_eq_true] at ha <;> simp only [Is] at h <;>
    first
      | (subst h; exact ⟨rfl, rfl⟩)
      | (obtain ⟨a, rfl⟩ := h; exact ⟨rfl, rfl⟩)
      | (obtain ⟨r, _, h⟩ := h; subst h; exact ⟨rfl, rfl⟩)
      | (obtain ⟨r, _, _, _, h⟩ := h; subst h; exact ⟨rfl, rfl⟩)
      | (obtain ⟨r, a, c, _, h, _⟩ := h; subst h; exact ⟨rfl, rfl⟩)
      | (obtain ⟨vs, h, _⟩ := h; subst h; exact ⟨rfl, rfl⟩)
      | (obtain ⟨t, u, h⟩ := h; subst h; exact ⟨rfl, rfl⟩)
def AV.storable (a : AV) : Bool := match a with
  | .agg cs => cs.all AV.one
  | v => v.one
theorem IsL.all_one {ρ : Rho} {l : List AV} {vs : List Value} (h : IsL ρ l vs) (hl : l.all AV.one = true) : ∀ v ∈ vs, v.oneCell' = true := by
  intro v hv
  obtain ⟨i, hi, rfl⟩ := List.mem_iff_getElem.1 hv
  have hi' : i < l.length := by rw [← h.length]; exact hi
  obtain ⟨u, hu, his⟩ := h.get i l[i] (by simp [hi'])
  rw [List.getElem?_eq_getElem hi] at hu
  cases hu
  exact (his.one (List.all_eq_true.1 hl _ (List.getElem_mem hi'))).1
theorem Is.storable {ρ : Rho} {a : AV} {v : Value} (h : Is ρ a v) (ha : a.storable = true) : IsL ρ a.cells v.cells.toList ∧ ∀ u ∈ v.cells.toList, u.oneCell' = true := by
  unfold AV.storable at ha
  split at ha
  · rename_i cs
    simp only [Is] at h
    obtain ⟨vs, rfl, h⟩ := h
    exact ⟨by simpa [AV.cells, Value.cells] using h, by simpa [Value.cells] using h.all_one ha⟩
  · rename_i x hx
    have hc : a.cells = [a] := by cases a <;> simp_all [AV.cells, AV.one]
    rw [hc, (h.one ha).2]
    exact ⟨IsL.cons h (IsL.nil ρ), by simpa using (h.one ha).1⟩

structure Blk where
  ty : Nat
  cells : List AV
  wr : Bool
  op : Nat

abbrev AH := Nat → Option Blk
def emp : AH := fun _ => none
def upd (h : AH) (i : Nat) (b : Option Blk) : AH := fun j => if j = i then b else h j
theorem upd_same (h : AH) (i : Nat) (b : Option Blk) : upd h i b i = b := by simp [upd]
theorem upd_other {h : AH} {i j : Nat} {b : Option Blk} (e : j ≠ i) : upd h i b j = h j := by simp [upd, e]

structure BlkAt (ρ : Rho) (w : World) (r : Ref) (b : Blk) : Prop where
  cells : ∀ k c, b.cells[k]? = some c → ∃ v, w.cell? ⟨r.b, r.s + k, none⟩ = some v ∧ Is ρ c v
  own : b.wr = true → r.s = 0 ∧ ∃ cs : Array Value, w.heap[r.b]? = some (.cells cs b.ty (0, 0)) ∧ b.cells.length ≤ cs.size ∧
    (b.op = 0 → cs.size = b.cells.length) ∧ (b.op ≠ 0 → cs.size = r.c * b.op ∧ r.c ≤ maxLen)
  fix : b.wr = false → b.op ≠ 0 → b.cells ≠ [] → r.s = 0 ∧ r.b + 1 = b.op ∧ ∃ (cs : Array Value) (t : Nat) (z : Nat × Nat), w.heap[r.b]? = some (.cells cs t z) ∧ cs.size = b.cells.length

structure Sim (ρ : Rho) (h : AH) (w : World) : Prop where
  lies : ∀ i b, h i = some b → ∃ r, ρ i = some r ∧ BlkAt ρ w r b
  inj : ∀ i j bi bj ri rj, h i = some bi → h j = some bj → i ≠ j → bi.wr = true → (bj.wr = true ∨ bj.cells ≠ []) → ρ i = some ri → ρ j = some rj → ri.b ≠ rj.b

theorem Sim.emp (ρ : Rho) (w : World) : Sim ρ emp w := ⟨fun _ _ h => by simp [L.emp] at h, fun _ _ _ _ _ _ h => by simp [L.emp] at h⟩
theorem Sim.less {ρ : Rho} {h g : AH} {w : World} (s : Sim ρ h w) (hg : ∀ i b, g i = some b → h i = some b) : Sim ρ g w :=
  ⟨fun i b hb => s.lies i b (hg i b hb), fun i j bi bj ri rj h1 h2 => s.inj i j bi bj ri rj (hg _ _ h1) (hg _ _ h2)⟩
theorem cell?_block {w w' : World} {a : Addr} (h : w'.heap[a.block]? = w.heap[a.block]?) : w'.cell? a = w.cell? a := by
  simp only [World.cell?, h]
theorem cell?_lt {w : World} {a : Addr} {v : Value} (h : w.cell? a = some v) : a.block < w.heap.size := by
  simp only [World.cell?] at h
  split at h
  · rename_i hb; exact (Array.getElem?_eq_some_iff.1 hb).1
  · cases h
theorem BlkAt.keep {ρ ρ' : Rho} {w w' : World} {r : Ref} {b : Blk} (h : BlkAt ρ w r b) (e : Ext ρ ρ') (hw : w'.heap[r.b]? = w.heap[r.b]?) : BlkAt ρ' w' r b := by
  refine ⟨fun k c hk => ?_, fun hb => ?_, fun a b c => ?_⟩
  · obtain ⟨v, h1, h2⟩ := h.cells k c hk
    exact ⟨v, by rw [cell?_block hw]; exact h1, h2.mono e⟩
  · obtain ⟨h1, cs, h2, h3⟩ := h.own hb
    exact ⟨h1, cs, by rw [hw]; exact h2, h3⟩
  · obtain ⟨h1, h2, cs, t, z, h3, h4⟩ := h.fix a b c
    exact ⟨h1, h2, cs, t, z, by rw [hw]; exact h3, h4⟩
theorem BlkAt.lt {ρ : Rho} {w : World} {r : Ref} {b : Blk} (h : BlkAt ρ w r b) (hb : b.wr = true ∨ b.cells ≠ []) : r.b < w.heap.size := by
  rcases hb with hb | hb
  · obtain ⟨_, cs, h2, _⟩ := h.own hb
    exact (Array.getElem?_eq_some_iff.1 h2).1
  · cases hc : b.cells with
    | nil => exact absurd hc hb
    | cons c cs =>
      obtain ⟨v, h1, _⟩ := h.cells 0 c (by simp [hc])
      exact cell?_lt h1

structure Gx where
  ρ0 : Rho
  w0 : World
  W : Nat → Prop
  n0 : Nat
  n1 : Nat

def dle (a b : Nat) : Prop := True
theorem dle_of {a b : Nat} (h : a ≤ b) : dle a b := by unfold dle; first | trivial | exact h
theorem dle_refl (a : Nat) : dle a a := dle_of (Nat.le_refl a)
theorem dle_trans {a b c : Nat} (h1 : dle a b) (h2 : dle b c) : dle a c := by unfold dle at *; first | trivial | exact Nat.le_trans h1 h2

structure Cx (G : Gx) (ρ : Rho) (w : World) : Prop where
  os : w.os = G.w0.os
  tape : w.tape = G.w0.tape
  output : w.output = G.w0.output
  size : G.w0.heap.size ≤ w.heap.size
  blk : ∀ b, b < G.w0.heap.size → (∀ i r, i < G.n0 → G.W i → G.ρ0 i = some r → r.b ≠ b) → w.heap[b]? = G.w0.heap[b]?
  old : ∀ i, i < G.n0 → ρ i = G.ρ0 i
  far : ∀ i, G.n1 ≤ i → ρ i = G.ρ0 i
  own : ∀ i r, G.n0 ≤ i → i < G.n1 → ρ i = some r → G.w0.heap.size ≤ r.b ∨ ∃ j rj, j < G.n0 ∧ G.W j ∧ G.ρ0 j = some rj ∧ rj.b = r.b
  drawn : dle G.w0.drawn w.drawn

def none' : Nat → Prop := fun _ => False

theorem Cx.refl (ρ : Rho) (w : World) (W : Nat → Prop) (n0 n1 : Nat) (hf : ∀ i, n0 ≤ i → i < n1 → ρ i = none) : Cx ⟨ρ, w, W, n0, n1⟩ ρ w :=
  ⟨rfl, rfl, rfl, Nat.le_refl _, fun _ _ _ => rfl, fun _ _ => rfl, fun _ _ => rfl, fun i r h1 h2 h3 => (by rw [hf i h1 h2] at h3; cases h3), dle_refl _⟩

theorem Cx.trans {G : Gx} {ρ ρ' : Rho} {w w' : World} {W' : Nat → Prop} {n n' : Nat} (c : Cx G ρ w) (c' : Cx ⟨ρ, w, W', n, n'⟩ ρ' w')
    (h0 : G.n0 ≤ n) (h1 : n ≤ n') (h2 : n' ≤ G.n1) (hW : ∀ i, i < n → W' i → G.n0 ≤ i ∨ G.W i) : Cx G ρ' w' := by
  refine ⟨c'.os.trans c.os, c'.tape.trans c.tape, c'.output.trans c.output, Nat.le_trans c.size c'.size, fun b hb hh => ?_, fun i hi => ?_, fun i hi => ?_, fun i r hi1 hi2 hr => ?_, dle_trans c.drawn c'.drawn⟩
  · have e1 := c.blk b hb hh
    have e2 := c'.blk b (Nat.lt_of_lt_of_le hb c.size) (fun i r hi hw hr => by
      rcases Nat.lt_or_ge i G.n0 with hlt | hge
      · rcases hW i hi hw with h | h
        · omega
        · exact hh i r hlt h (by rw [← c.old i hlt]; exact hr)
      · rcases c.own i r hge (by simp at hi; omega) hr with h | ⟨j, rj, hj, hwj, hrj, hb'⟩
        · omega
        · rw [← hb']; exact hh j rj hj hwj hrj)
    exact e2.trans e1
  · exact (c'.old i (by simp; omega)).trans (c.old i hi)
  · exact (c'.far i (by simp; omega)).trans (c.far i hi)
  · by_cases hm : n ≤ i ∧ i < n'
    · rcases c'.own i r hm.1 hm.2 hr with h | ⟨j, rj, hj, hwj, hrj, hb'⟩
      · exact .inl (Nat.le_trans c.size h)
      · rcases Nat.lt_or_ge j G.n0 with hlt | hge
        · rcases hW j hj hwj with h | h
          · omega
          · exact .inr ⟨j, rj, hlt, h, by rw [← c.old j hlt]; exact hrj, hb'⟩
        · rcases c.own j rj hge (by simp at hj; omega) hrj with h | ⟨j', rj', h3, h4, h5, h6⟩
          · exact .inl (by rw [← hb']; exact h)
          · exact .inr ⟨j', rj', h3, h4, h5, h6.trans hb'⟩
    · have : ρ' i = ρ i := by
        by_cases hlt : i < n
        · exact c'.old i hlt
        · exact c'.far i (by simp; omega)
      exact c.own i r hi1 hi2 (by rw [← this]; exact hr)

theorem Cx.ext {ρ ρ' : Rho} {w w' : World} {W : Nat → Prop} {n n' : Nat} (c : Cx ⟨ρ, w, W, n, n'⟩ ρ' w') (hf : ∀ i, n ≤ i → i < n' → ρ i = none) : Ext ρ ρ' := by
  intro i r hr
  by_cases h1 : i < n
  · rw [c.old i h1]; exact hr
  · by_cases h2 : i < n'
    · rw [hf i (by omega) h2] at hr; cases hr
    · rw [c.far i (by simp; omega)]; exact hr

def mix (n n' : Nat) (g new : AH) : AH := fun i => if n ≤ i ∧ i < n' then new i else g i

theorem Sim.mix {ρ ρ' : Rho} {g new : AH} {w w' : World} {n n' : Nat} (s : Sim ρ g w) (c : Cx ⟨ρ, w, none', n, n'⟩ ρ' w') (hf : ∀ i, n ≤ i → i < n' → ρ i = none)
    (s' : Sim ρ' new w') : Sim ρ' (mix n n' g new) w' := by
  have e := c.ext hf
  have same : ∀ b, b < w.heap.size → w'.heap[b]? = w.heap[b]? := fun b hb => c.blk b hb (fun i r _ h => h.elim)
  have hg : ∀ i b, g i = some b → ¬ (n ≤ i ∧ i < n') := fun i b hb hm => by
    obtain ⟨r, h1, _⟩ := s.lies i b hb
    rw [hf i hm.1 hm.2] at h1; cases h1
  have keep : ∀ i b, g i = some b → ∃ r, ρ i = some r ∧ ρ' i = some r ∧ BlkAt ρ' w' r b := fun i b hb => by
    obtain ⟨r, h1, h2⟩ := s.lies i b hb
    refine ⟨r, h1, e i r h1, ?_⟩
    by_cases hne : b.wr = true ∨ b.cells ≠ []
    · exact h2.keep e (same _ (h2.lt hne))
    · refine ⟨fun k c hk => ?_, fun hb' => absurd (Or.inl hb') hne, fun _ _ hc => absurd (Or.inr hc) hne⟩
      have : b.cells = [] := by simpa using fun hc => hne (.inr hc)
      simp [this] at hk
  refine ⟨fun i b hb => ?_, fun i j bi bj ri rj hi hj hij hwr hne hri hrj => ?_⟩
  · simp only [L.mix] at hb
    split at hb
    · exact s'.lies i b hb
    · obtain ⟨r, _, h2, h3⟩ := keep i b hb
      exact ⟨r, h2, h3⟩
  · simp only [L.mix] at hi hj
    split at hi <;> split at hj
    · exact s'.inj i j bi bj ri rj hi hj hij hwr hne hri hrj
    · rename_i hm _
      obtain ⟨r, h1, h2, h3⟩ := keep j bj hj
      rw [h2] at hrj; cases hrj
      rcases c.own i ri hm.1 hm.2 hri with h | ⟨_, _, _, h, _⟩
      · obtain ⟨r', h1', h2'⟩ := s.lies j bj hj
        rw [h1] at h1'; cases h1'
        have := h2'.lt hne
        intro heq; simp only at h; omega
      · exact h.elim
    · rename_i _ hm
      obtain ⟨r, h1, h2, h3⟩ := keep i bi hi
      rw [h2] at hri; cases hri
      rcases c.own j rj hm.1 hm.2 hrj with h | ⟨_, _, _, h, _⟩
      · obtain ⟨r', h1', h2'⟩ := s.lies i bi hi
        rw [h1] at h1'; cases h1'
        have := h2'.lt (.inl hwr)
        intro heq; simp only at h; omega
      · exact h.elim
    · obtain ⟨r, h1, h2, h3⟩ := keep i bi hi
      obtain ⟨r', h1', h2', h3'⟩ := keep j bj hj
      rw [h2] at hri; cases hri
      rw [h2'] at hrj; cases hrj
      exact s.inj i j bi bj _ _ hi hj hij hwr hne h1 h1'

inductive A where
  | t (n : Nat)
  | c (v : AV)
  | f (n : Nat)

def ev (t : List AV) : A → AV
  | .t n => t.getD n .any
  | .c v => v
  | .f n => .fn n []

inductive O where
  | mv (x : A)
  | pick (c a b : A)
  | bin (op : BinOp) (x y : A)
  | beq (neg : Bool) (x y : A)
  | feq (neg : Bool) (x y : A)
  | nileq (neg : Bool) (x y : A)
  | nilseq (neg : Bool) (x : A)
  | bad
  | un (op : UnOp) (x : A)
  | alloc (ty : Nat) (z : List AV)
  | box (ty : Nat) (x : A)
  | build (z : List AV) (ps : List (Nat × Nat × A))
  | mks (ty es : Nat) (z : List AV) (l c : A)
  | lit (ty es len : Nat) (z : List AV) (ps : List (Nat × A))
  | ld (sz : Nat) (x : A)
  | ld1 (x : A)
  | st (sz : Nat) (a x : A)
  | nck (x : A)
  | cvi (k : IntKind) (x : A)
  | cvs (x : A)
  | b2s (x : A)
  | mkf (f : Nat) (cs : List A)
  | slc (es : Nat) (x : A) (lo hi mx : Option A)
  | sls (x : A) (lo hi : Option A)
  | fa (off : Nat) (x : A)
  | fld (sz off : Nat) (x : A)
  | fld1 (off : Nat) (x : A)
  | ia (es : Nat) (x i : A)
  | ixs (x i : A)
  | ext (x : A) (i : Nat)
  | call (f : A) (xs : List A)
  | callw (f : A) (xs : List A)
  | callp (f : A) (xs : List A)
  | callq (f : A) (xs : List A)
  | app (ty es by_ : Nat) (z : List AV) (s x : A)
  | appz (ty es : Nat) (s x : A)
  | clr (z : List AV) (x : A)
  | len (x : A)
  | lens (x : A)
  | cap (x : A)
  | mx (xs : List A)
  | mn (xs : List A)

mutual
def compV : Value → Option AV
  | .bool b => some (.bool b)
  | .int k n => some (.int k n)
  | .string s => some (.str s)
  | .pointer none => some .nilptr
  | .slice none 0 0 => some .nilsl
  | .nilIface => some .nilif
  | _ => none
end
def compVs : List Value → Option (List AV)
  | [] => some []
  | v :: vs => match compV v, compVs vs with
    | some a, some l => some (a :: l)
    | _, _ => none
def compA : Operand → Option A
  | .tmp t => some (.t t)
  | .const v => (compV v).map .c
  | .func f => some (.f f)
  | .global _ => none
def compAs : List Operand → Option (List A)
  | [] => some []
  | v :: vs => match compA v, compAs vs with
    | some a, some l => some (a :: l)
    | _, _ => none
def compOA : Option Operand → Option (Option A)
  | none => some none
  | some x => (compA x).map some
def zeroOf (P : Program) (t : TypeId) : Option (List AV) :=
  match P.info? t with
  | some i => match i.zero with
    | some z => if z.cells.size = i.size then compVs z.cells.toList else none
    | none => none
  | none => none
def sizeOf' (P : Program) (t : TypeId) : Option Nat := (P.info? t).map (·.size)
def isAgg' (P : Program) (t : TypeId) : Option Bool := (P.underlying t).map fun d => match d with | .struct _ | .array _ _ => true | _ => false

def compParts (pl : Array (Nat × Nat)) : List (Nat × Operand) → Option (List (Nat × Nat × A))
  | [] => some []
  | (i, x) :: r => match pl[i]?, compA x, compParts pl r with
    | some q, some a, some l => some ((q.1, q.2, a) :: l)
    | _, _, _ => none
def placesOf (P : Program) (fs : Array Field) : Option (List (Nat × Nat)) := fs.toList.mapM (fun f => (P.info? f.type).map fun i => (f.offset, i.size))
def compElems : List (Nat × Operand) → Option (List (Nat × A))
  | [] => some []
  | (i, x) :: r => match compA x, compElems r with
    | some a, some l => some ((i, a) :: l)
    | _, _ => none

def isPair (P : Program) (t : TypeId) (fs : Array Field) : Bool := match fs.toList with
  | [f, g] => f.name != "_" && g.name != "_" && f.offset == 0 && g.offset == 1 && (match P.underlying f.type with | some (.int .i64) => true | _ => false) && (match P.underlying g.type with | some (.int .i64) => true | _ => false)
    && !P.stoodInHeld t && !P.eqGuardType P.depth t
  | _ => false
def compO1 (P : Program) : Op → Option O
  | .move x | .assign x => (compA x).map .mv
  | .pick c a b => match compA c, compA a, compA b with
    | some c, some a, some b => some (.pick c a b)
    | _, _, _ => none
  | .binOp op t x y _ => match compA x, compA y, P.underlying t with
    | some x, some y, some (.int _) => some (.bin op x y)
    | some x, some y, some .string => some (.bin op x y)
    | some x, some y, some .bool => match op with
      | .eql => some (.beq false x y)
      | .neq => some (.beq true x y)
      | _ => none
    | some x, some y, some (.struct fs) => if isPair P t fs then match op with
      | .eql => some (.feq false x y)
      | .neq => some (.feq true x y)
      | _ => none
      else none
    | some x, some (.c .nilif), some (.interface _) => match op with
      | .eql => some (.nileq false x (.c .nilif))
      | .neq => some (.nileq true x (.c .nilif))
      | _ => none
    | some x, some (.c .nilsl), some (.slice _) => match op with
      | .eql => some (.nilseq false x)
      | .neq => some (.nilseq true x)
      | _ => none
    | _, _, _ => none
  | .unOp op _ x => match op with
    | .plus => none
    | op => (compA x).map (.un op)
  | .alloc t => (zeroOf P t).map (.alloc t)
  | .box t x => (compA x).map (.box t)
  | .build t ps => match P.underlying t, zeroOf P t with
    | some (.struct fs), some z => match placesOf P fs with
      | some pl => match compParts pl.toArray ps.toList with
        | some l => some (.build z l)
        | none => none
      | none => none
    | _, _ => none
  | .makeSlice t l c => match P.underlying t with
    | some (.slice e) => match P.info? e, zeroOf P e, compA l, compA c with
      | some i, some z, some l, some c => if i.size ≠ 0 ∧ i.bytes ≤ 4096 then some (.mks e i.size z l c) else none
      | _, _, _, _ => none
    | _ => none
  | .buildSlice t len ps => match P.underlying t with
    | some (.slice e) => match P.info? e, zeroOf P e, compElems ps.toList with
      | some i, some z, some l => if i.size ≠ 0 ∧ len * i.size ≤ 65536 then some (.lit e i.size len z l) else none
      | _, _, _ => none
    | _ => none
  | .load t x => match compA x, isAgg' P t, sizeOf' P t with
    | some x, some true, some s => some (.ld s x)
    | some x, some false, some _ => some (.ld1 x)
    | _, _, _ => none
  | .store t a x => match compA a, compA x, sizeOf' P t with
    | some a, some x, some s => some (.st s a x)
    | _, _, _ => none
  | .nilCheck x => (compA x).map .nck
  | .convert s d x => match P.underlying s, P.underlying d, compA x with
    | some (.int _), some (.int k), some x => some (.cvi k x)
    | some .string, some .string, some x => some (.cvs x)
    | some (.slice e), some .string, some x => match P.underlying e with
      | some (.int .u8) => some (.b2s x)
      | _ => none
    | _, _, _ => none
  | .makeFunc (.func f) first cs => if first.size = 0 then (compAs cs.toList).map (.mkf f) else none
  | .slice t x lo hi mx => match P.underlying t, compA x, compOA lo, compOA hi, compOA mx with
    | some .string, some x, some lo, some hi, some none => some (.sls x lo hi)
    | some (.slice e), some x, some lo, some hi, some mx => match sizeOf' P e with
      | some s => some (.slc s x lo hi mx)
      | none => none
    | _, _, _, _, _ => none
  | .fieldAddr t x i => match P.underlying t, compA x with
    | some (.struct fs), some x => match fs[i]? with
      | some f => match sizeOf' P f.type with
        | some s => if s = 0 then none else some (.fa f.offset x)
        | none => none
      | none => none
    | _, _ => none
  | .field t x i => match P.underlying t, compA x with
    | some (.struct fs), some x => match fs[i]? with
      | some f => match isAgg' P f.type, sizeOf' P f.type with
        | some true, some s => some (.fld s f.offset x)
        | some false, some _ => some (.fld1 f.offset x)
        | _, _ => none
      | none => none
    | _, _ => none
  | .indexAddr t x i => match P.underlying t, compA x, compA i with
    | some (.slice e), some x, some i => match sizeOf' P e with
      | some s => some (.ia s x i)
      | none => none
    | _, _, _ => none
  | .index t x i => match P.underlying t, compA x, compA i with
    | some .string, some x, some i => some (.ixs x i)
    | _, _, _ => none
  | .extract x i => (compA x).map fun x => .ext x i
  | .call { callee := .value f, args, .. } => match compA f, compAs args.toList with
    | some f, some xs => some (.call f xs)
    | _, _ => none
  | .call { callee := .builtin .append, args, argTypes } => match args.toList, argTypes.toList with
    | [s, x], [t, t'] => match compA s, compA x, P.underlying t with
      | some s, some x, some (.slice e) => match P.info? e, zeroOf P e with
        | some i, some z => if i.size ≠ 0 ∧ i.bytes ≤ 4096 then (if t = t' then some (.app e i.size i.bytes z s x) else match P.underlying t' with
          | some (.int .i64) => some (.appz e i.size s x)
          | _ => none) else none
        | _, _ => none
      | _, _, _ => none
    | _, _ => none
  | .call { callee := .builtin .clear, args, argTypes } => match args.toList, argTypes.toList with
    | [x], [t] => match compA x, P.underlying t with
      | some x, some (.slice e) => match zeroOf P e with
        | some [c] => if c.one then some (.clr [c] x) else none
        | _ => none
      | _, _ => none
    | _, _ => none
  | .call { callee := .builtin .len, args, argTypes } => match args.toList, argTypes.toList with
    | [x], [t] => match compA x, P.underlying t with
      | some x, some .string => some (.lens x)
      | some x, some (.slice _) => some (.len x)
      | _, _ => none
    | _, _ => none
  | .call { callee := .builtin .cap, args, argTypes } => match args.toList, argTypes.toList with
    | [x], [t] => match compA x, P.underlying t with
      | some x, some (.slice _) => some (.cap x)
      | _, _ => none
    | _, _ => none
  | .call { callee := .builtin .max, args, .. } => (compAs args.toList).map .mx
  | .call { callee := .builtin .min, args, .. } => (compAs args.toList).map .mn
  | _ => none

def compO (P : Program) (o : Op) : Option O := match compO1 P o with
  | some x => some x
  | none => some .bad

def A.reads : A → List Nat
  | .t n => [n]
  | _ => []
def O.args : O → List A
  | .mv x | .un _ x | .box _ x | .ld _ x | .ld1 x | .nck x | .cvi _ x | .cvs x | .b2s x | .fa _ x | .fld _ _ x | .fld1 _ x | .ext x _ | .len x | .lens x | .cap x | .nilseq _ x | .clr _ x => [x]
  | .pick c a b => [c, a, b]
  | .bin _ x y | .beq _ x y | .feq _ x y | .nileq _ x y | .st _ x y | .ia _ x y | .ixs x y | .mks _ _ _ x y | .app _ _ _ _ x y | .appz _ _ x y => [x, y]
  | .alloc _ _ | .bad => []
  | .build _ ps => ps.map (·.2.2)
  | .lit _ _ _ _ ps => ps.map (·.2)
  | .mkf _ xs | .mx xs | .mn xs => xs
  | .call f xs => f :: xs
  | .callw f xs => f :: xs
  | .callp f xs => f :: xs
  | .callq f xs => f :: xs
  | .slc _ x lo hi m' => x :: (lo.toList ++ hi.toList ++ m'.toList)
  | .sls x lo hi => x :: (lo.toList ++ hi.toList)
def O.reads (o : O) : List Nat := o.args.flatMap A.reads

def Rel (ρ : Rho) (ds : List Nat) (t : List AV) (a : Act) : Prop := ∀ d ∈ ds, Is ρ (t.getD d .any) (a.tmps.getD d undef)

theorem Rel.of_all {ρ : Rho} {ds : List Nat} {t : List AV} {a : Act} (h : IsL ρ t a.tmps.toList) : Rel ρ ds t a := fun d _ => by
  have := h.getD d undef
  rw [Array.getD_eq_getD_getElem?]
  simpa [List.getD] using this

theorem compV_is (ρ : Rho) {v : Value} {x : AV} (h : compV v = some x) : Is ρ x v := by
  unfold compV at h
  split at h <;> first | (cases h; simp only [Is]) | cases h
theorem compVs_is (ρ : Rho) : ∀ {vs : List Value} {xs : List AV}, compVs vs = some xs → IsL ρ xs vs
  | [], xs, h => by simp only [compVs, Option.some.injEq] at h; subst h; exact IsL.nil ρ
  | v :: vs, xs, h => by
    simp only [compVs] at h
    split at h
    · rename_i a l ha hl
      cases h
      exact IsL.cons (compV_is ρ ha) (compVs_is ρ hl)
    · cases h
theorem compA_is {ρ : Rho} {t : List AV} {a : Act} {x : Operand} {x' : A} (h : compA x = some x') (hr : Rel ρ x'.reads t a) : Is ρ (ev t x') (a.eval x) := by
  cases x with
  | tmp n => simp only [compA, Option.some.injEq] at h; subst h; exact hr n (by simp [A.reads])
  | const v =>
    simp only [compA, Option.map_eq_some_iff] at h
    obtain ⟨y, hy, rfl⟩ := h
    exact compV_is ρ hy
  | global g => simp [compA] at h
  | func f => simp only [compA, Option.some.injEq] at h; subst h; simp only [ev, Is, Act.eval]; exact ⟨[], rfl, IsL.nil ρ⟩
theorem compAs_is {ρ : Rho} {t : List AV} {a : Act} : ∀ {xs : List Operand} {xs' : List A}, compAs xs = some xs' → Rel ρ (xs'.flatMap A.reads) t a → IsL ρ (xs'.map (ev t)) (xs.map a.eval)
  | [], xs', h, _ => by simp only [compAs, Option.some.injEq] at h; subst h; exact IsL.nil ρ
  | x :: xs, xs', h, hr => by
    simp only [compAs] at h
    split at h
    · rename_i y l hy hl
      cases h
      exact IsL.cons (compA_is hy fun d hd => hr d (by simp [hd])) (compAs_is hl fun d hd => hr d (by
        simp only [List.flatMap_cons, List.mem_append]; exact .inr hd))
    · cases h

theorem sizeOf'_run {P : Program} {t : TypeId} {s : Nat} (h : sizeOf' P t = some s) (w : World) : (sizeOf t).run P w = .ok s w := by
  simp only [sizeOf', Option.map_eq_some_iff] at h
  obtain ⟨i, hi, rfl⟩ := h
  simp [sizeOf, typeInfo, hi]
theorem isAgg'_run {P : Program} {t : TypeId} {b : Bool} (h : isAgg' P t = some b) (w : World) : (isAgg t).run P w = .ok b w := by
  simp only [isAgg', Option.map_eq_some_iff] at h
  obtain ⟨d, hd, rfl⟩ := h
  simp only [isAgg, Sem.run_bind, run_underlying hd, Result.andThen_ok]
  cases d <;> rfl
theorem zeroOf_run {P : Program} {t : TypeId} {z : List AV} (h : zeroOf P t = some z) : ∃ i v, P.info? t = some i ∧ i.zero = some v ∧ v.cells.size = i.size ∧ (∀ w, (zeroValue t).run P w = .ok v w) ∧ ∀ ρ, IsL ρ z v.cells.toList := by
  simp only [zeroOf] at h
  split at h
  · rename_i i hi
    split at h
    · rename_i v hv
      split at h
      · rename_i hs
        exact ⟨i, v, hi, hv, hs, fun w => by simp [zeroValue, typeInfo, hi, hv], fun ρ => compVs_is ρ h⟩
      · cases h
    · cases h
  · cases h

def in64 (n : Int) : Prop := -9223372036854775808 ≤ n ∧ n ≤ 9223372036854775807
theorem wrap_in {n : Int} (h : in64 n) : IntKind.i64.wrap n = n := IntWalk.i64_in n h

def kInt (k : IntKind) (n : Int) (K : AV → Prop) : Prop := match k with
  | .i64 => in64 n ∧ K (.int .i64 n)
  | k => K (.int k (k.wrap n))
theorem kInt_spec {k : IntKind} {n : Int} {K : AV → Prop} (h : kInt k n K) : K (.int k (k.wrap n)) := by
  cases k <;> simp only [kInt] at h <;> first | exact h | (rw [wrap_in h.1]; exact h.2)

def bitv (op : BinOp) (k : IntKind) (x y : Int) : Int :=
  let a := BitVec.ofInt k.bits x
  let b := BitVec.ofInt k.bits y
  match op with
  | .and => k.wrap (a &&& b).toNat
  | .or => k.wrap (a ||| b).toNat
  | .xor => k.wrap (a ^^^ b).toNat
  | .andNot => k.wrap (a &&& ~~~b).toNat
  | _ => 0

def xint (op : BinOp) (k : IntKind) (a b : Int) (K : AV → Prop) : Prop := match op with
  | .add => kInt k (a + b) K
  | .sub => kInt k (a - b) K
  | .mul => kInt k (a * b) K
  | .quo => b ≠ 0 ∧ kInt k (a.tdiv b) K
  | .rem => b ≠ 0 ∧ K (.int k (a.tmod b))
  | .and => K (.int k (bitv .and k a b))
  | .or => K (.int k (bitv .or k a b))
  | .xor => K (.int k (bitv .xor k a b))
  | .andNot => K (.int k (bitv .andNot k a b))
  | .eql => K (.bool (a == b))
  | .neq => K (.bool (a != b))
  | .lss => K (.bool (decide (a < b)))
  | .leq => K (.bool (decide (a ≤ b)))
  | .gtr => K (.bool (decide (a > b)))
  | .geq => K (.bool (decide (a ≥ b)))
  | .shl | .shr => False

def xbin (op : BinOp) (x y : AV) (K : AV → Prop) : Prop := match x, y with
  | .int k a, .int k' b => match op with
    | .shl => 0 ≤ b ∧ kInt k (a * 2 ^ (min b.toNat k.bits)) K
    | .shr => 0 ≤ b ∧ K (.int k (a.fdiv (2 ^ (min b.toNat k.bits))))
    | op => k = k' ∧ xint op k a b K
  | .str a, .str b => match op with
    | .add => a.size + b.size ≤ 9223372036854775807 ∧ K (.str (a ++ b))
    | .eql => K (.bool (a.toList == b.toList))
    | .neq => K (.bool (!(a.toList == b.toList)))
    | _ => False
  | _, _ => False

def cutA (cs : List AV) (off sz : Nat) : List AV := (cs.drop off).take sz
def putA (z : List AV) (off : Nat) (cs : List AV) : List AV := z.take off ++ cs ++ z.drop (off + cs.length)
def fillA (z : List AV) : List (Nat × Nat × AV) → Option (List AV)
  | [] => some z
  | (off, s, v) :: r => if v.storable = true ∧ v.cells.length = s ∧ off + s ≤ z.length then fillA (putA z off v.cells) r else none

def bnds (len cap : Nat) (lo hi mx : Option AV) (K : Nat → Nat → Nat → Prop) : Prop :=
  match mx with
  | none =>
    match hi with
    | none => match lo with
      | none => K 0 len cap
      | some (.int _ l) => 0 ≤ l ∧ l ≤ len ∧ K l.toNat len cap
      | _ => False
    | some (.int _ h) => 0 ≤ h ∧ h ≤ cap ∧ match lo with
      | none => K 0 h.toNat cap
      | some (.int _ l) => 0 ≤ l ∧ l ≤ h ∧ K l.toNat h.toNat cap
      | _ => False
    | _ => False
  | some (.int _ m) => 0 ≤ m ∧ m ≤ cap ∧
    match hi with
    | some (.int _ h) => 0 ≤ h ∧ h ≤ m ∧ match lo with
      | none => K 0 h.toNat m.toNat
      | some (.int _ l) => 0 ≤ l ∧ l ≤ h ∧ K l.toNat h.toNat m.toNat
      | _ => False
    | _ => False
  | _ => False

def FE (neg : Bool) (v u : AV) (K : AV → Prop) : Prop := match v, u with
  | .agg [.int .i64 a, .int .i64 b], .agg [.int .i64 c, .int .i64 d] => K (.bool (if neg then !(decide (a = c) && decide (b = d)) else (decide (a = c) && decide (b = d))))
  | _, _ => False
def xp (o : O) (t : List AV) (K : AV → Prop) : Prop := match o with
  | .mv x => K (ev t x)
  | .pick c a b => match ev t c with
    | .bool p => (p = true → K (ev t a)) ∧ (p = false → K (ev t b))
    | _ => False
  | .bin op x y => xbin op (ev t x) (ev t y) K
  | .beq neg x y => match ev t x, ev t y with
    | .bool p, .bool q => K (.bool (if neg then p != q else p == q))
    | _, _ => False
  | .feq neg x y => FE neg (ev t x) (ev t y) K
  | .nileq neg x _ => match ev t x with
    | .nilif => K (.bool (!neg))
    | .iface => K (.bool neg)
    | _ => False
  | .nilseq neg x => match ev t x with
    | .nilsl => K (.bool (!neg))
    | .sl _ _ _ _ => K (.bool neg)
    | .so _ _ => K (.bool neg)
    | .sx _ _ _ => K (.bool neg)
    | _ => False
  | .un op x => match op, ev t x with
    | .neg, .int k n => kInt k (-n) K
    | .not, .bool b => K (.bool (!b))
    | _, _ => False
  | .build z ps => match fillA z (ps.map fun p => (p.1, p.2.1, ev t p.2.2)) with
    | some cs => K (.agg cs)
    | none => False
  | .nck x => match ev t x with
    | .ptr i o => K (.ptr i o)
    | .fn f cs => K (.fn f cs)
    | _ => False
  | .cvi k x => match ev t x with
    | .int _ n => kInt k n K
    | _ => False
  | .cvs x => match ev t x with
    | .str s => K (.str s)
    | _ => False
  | .mkf f cs => K (.fn f (cs.map (ev t)))
  | .slc es x lo hi m => match ev t x with
    | .sl i o n c => bnds n c (lo.map (ev t)) (hi.map (ev t)) (m.map (ev t)) fun l h m => K (.sl i (if m = l then o else o + l * es) (h - l) (m - l))
    | .so i n => match lo.map (ev t), hi.map (ev t), m.map (ev t) with
      | none, none, none => K (.so i n)
      | some (.int _ l), none, none => 0 ≤ l ∧ l ≤ n ∧ K (.sx i (l.toNat * es) (n - l.toNat))
      | none, some (.int _ h), none => 0 ≤ h ∧ h ≤ n ∧ K (.so i h.toNat)
      | some (.int _ l), some (.int _ h), none => 0 ≤ l ∧ l ≤ h ∧ h ≤ n ∧ K (.sx i (l.toNat * es) (h.toNat - l.toNat))
      | _, _, _ => False
    | .sx i o n => match lo.map (ev t), hi.map (ev t), m.map (ev t) with
      | some (.int _ l), none, none => 0 ≤ l ∧ l ≤ n ∧ K (.sx i (o + l.toNat * es) (n - l.toNat))
      | none, some (.int _ h), none => 0 ≤ h ∧ h ≤ n ∧ K (.sx i o h.toNat)
      | _, _, _ => False
    | .nilsl => match lo.map (ev t), hi.map (ev t), m.map (ev t) with
      | none, none, none => K .nilsl
      | some (.int _ 0), none, none => K .nilsl
      | none, some (.int _ 0), none => K .nilsl
      | some (.int _ 0), some (.int _ 0), some (.int _ 0) => K .nilsl
      | none, some (.int _ 0), some (.int _ 0) => K .nilsl
      | _, _, _ => False
    | _ => False
  | .sls x lo hi => match ev t x with
    | .str s => bnds s.size s.size (lo.map (ev t)) (hi.map (ev t)) none fun l h _ => K (.str (s.extract l h))
    | _ => False
  | .fa off x => match ev t x with
    | .ptr i o => K (.ptr i (o + off))
    | _ => False
  | .fld sz off x => match ev t x with
    | .agg cs => K (.agg (cutA cs off sz))
    | _ => False
  | .fld1 off x => match ev t x with
    | .agg cs => ∃ c, cs[off]? = some c ∧ K c
    | _ => False
  | .ia es x i => match ev t x, ev t i with
    | .sl id o n _, .int _ j => 0 ≤ j ∧ j < n ∧ K (.ptr id (o + j.toNat * es))
    | .so id n, .int _ j => 0 ≤ j ∧ j < n ∧ K (.ptr id (j.toNat * es))
    | .sx id o n, .int _ j => 0 ≤ j ∧ j < n ∧ K (.ptr id (o + j.toNat * es))
    | _, _ => False
  | .ixs x i => match ev t x, ev t i with
    | .str s, .int _ j => ∃ c, 0 ≤ j ∧ s.data[j.toNat]? = some c ∧ K (.int .u8 c.toNat)
    | _, _ => False
  | .ext x i => match ev t x with
    | .tup vs => ∃ c, vs[i]? = some c ∧ K c
    | _ => False
  | .len x => match ev t x with
    | .sl _ _ n _ => K (.int .i64 n)
    | .so _ n => K (.int .i64 n)
    | .sx _ _ n => K (.int .i64 n)
    | .nilsl => K (.int .i64 0)
    | .sl0 => K (.int .i64 0)
    | _ => False
  | .lens x => match ev t x with
    | .str s => K (.int .i64 s.size)
    | _ => False
  | .cap x => match ev t x with
    | .sl _ _ _ c => K (.int .i64 c)
    | .nilsl => K (.int .i64 0)
    | _ => False
  | .mx xs => match xs with
    | [x, y] => match ev t x, ev t y with
      | .int k a, .int _ b => K (.int k (if b > a then b else a))
      | _, _ => False
    | _ => False
  | .mn xs => match xs with
    | [x, y] => match ev t x, ev t y with
      | .int k a, .int _ b => K (.int k (if b < a then b else a))
      | _, _ => False
    | _ => False
  | _ => False

def PV (P : Program) (o : Oper) (o' : O) (t : List AV) (v : AV) : Prop :=
  ∀ ρ a, Rel ρ o'.reads t a → ∃ rv, Is ρ v rv ∧ ∀ w, (execOp a.eval o).run P w = .ok (.value rv) w

section
variable {P : Program} {o : Oper} {t : List AV} {K : AV → Prop}

theorem is_int {ρ : Rho} {k : IntKind} {n : Int} : Is ρ (.int k n) (.int k n) := by simp only [Is]
theorem is_bool {ρ : Rho} {b : Bool} : Is ρ (.bool b) (.bool b) := by simp only [Is]
theorem is_str {ρ : Rho} {b : ByteArray} : Is ρ (.str b) (.string b) := by simp only [Is]
theorem Rel.arg {ρ : Rho} {o' : O} {x : A} {t : List AV} {a : Act} (h : Rel ρ o'.reads t a) (hx : x ∈ o'.args) : Rel ρ x.reads t a :=
  fun d hd => h d (by simp only [O.reads, List.mem_flatMap]; exact ⟨x, hx, hd⟩)
theorem Rel.args {ρ : Rho} {o' : O} {t : List AV} {a : Act} (h : Rel ρ o'.reads t a) {xs : List A} (hx : ∀ x ∈ xs, x ∈ o'.args) : Rel ρ (xs.flatMap A.reads) t a :=
  fun d hd => by
    simp only [List.mem_flatMap] at hd
    obtain ⟨x, h1, h2⟩ := hd
    exact h.arg (hx x h1) d h2

theorem x_mv {x : Operand} {x' : A} (ho : o.op = .move x ∨ o.op = .assign x) (hx : compA x = some x') (h : xp (.mv x') t K) : ∃ v, K v ∧ PV P o (.mv x') t v := by
  refine ⟨_, h, fun ρ a hr => ⟨a.eval x, compA_is hx (hr.arg (by simp [O.args])), fun w => ?_⟩⟩
  rcases ho with ho | ho <;> simp [execOp, ho]

theorem x_pick {c x y : Operand} {c' x' y' : A} (ho : o.op = .pick c x y) (hc : compA c = some c') (hx : compA x = some x') (hy : compA y = some y') (h : xp (.pick c' x' y') t K) :
    ∃ v, K v ∧ PV P o (.pick c' x' y') t v := by
  simp only [xp] at h
  split at h
  · rename_i p hp
    cases p with
    | true =>
      refine ⟨_, h.1 rfl, fun ρ a hr => ⟨a.eval x, compA_is hx (hr.arg (by simp [O.args])), fun w => ?_⟩⟩
      have := compA_is hc (hr.arg (x := c') (by simp [O.args]))
      rw [hp] at this; simp only [Is] at this
      simp [execOp, ho, this, asBool]
    | false =>
      refine ⟨_, h.2 rfl, fun ρ a hr => ⟨a.eval y, compA_is hy (hr.arg (by simp [O.args])), fun w => ?_⟩⟩
      have := compA_is hc (hr.arg (x := c') (by simp [O.args]))
      rw [hp] at this; simp only [Is] at this
      simp [execOp, ho, this, asBool]
  · exact h.elim

theorem xint_run {op : BinOp} {k : IntKind} {x y : Int} (h : xint op k x y K) (T : TypeId) :
    ∃ v, K v ∧ ∃ rv, (∀ ρ, Is ρ v rv) ∧ ∀ w, (binOp op T (.int k x) (.int k y)).run P w = .ok rv w := by
  cases op <;> simp only [xint] at h
  case add => exact ⟨_, kInt_spec h, _, fun ρ => is_int, fun w => by simp [binOp, Op.intArith]⟩
  case sub => exact ⟨_, kInt_spec h, _, fun ρ => is_int, fun w => by simp [binOp, Op.intArith]⟩
  case mul => exact ⟨_, kInt_spec h, _, fun ρ => is_int, fun w => by simp [binOp, Op.intArith]⟩
  case quo => exact ⟨_, kInt_spec h.2, _, fun ρ => is_int, fun w => by simp [binOp, Op.intDiv, h.1]⟩
  case rem => exact ⟨_, h.2, _, fun ρ => is_int, fun w => by simp [binOp, Op.intDiv, h.1]⟩
  case and => exact ⟨_, h, _, fun ρ => is_int, fun w => by cases k <;> rfl⟩
  case or => exact ⟨_, h, _, fun ρ => is_int, fun w => by cases k <;> rfl⟩
  case xor => exact ⟨_, h, _, fun ρ => is_int, fun w => by cases k <;> rfl⟩
  case andNot => exact ⟨_, h, _, fun ρ => is_int, fun w => by cases k <;> rfl⟩
  case eql => exact ⟨_, h, _, fun ρ => is_bool, fun w => by simp [binOp, Op.intCmp]⟩
  case neq => exact ⟨_, h, _, fun ρ => is_bool, fun w => by simp [binOp, Op.intCmp]⟩
  case lss => exact ⟨_, h, _, fun ρ => is_bool, fun w => by simp [binOp, Op.intCmp]⟩
  case leq => exact ⟨_, h, _, fun ρ => is_bool, fun w => by simp [binOp, Op.intCmp]⟩
  case gtr => exact ⟨_, h, _, fun ρ => is_bool, fun w => by simp [binOp, Op.intCmp]⟩
  case geq => exact ⟨_, h, _, fun ρ => is_bool, fun w => by simp [binOp, Op.intCmp]⟩

theorem x_bin {op : BinOp} {T T' : TypeId} {x y : Operand} {x' y' : A} (ho : o.op = .binOp op T x y T') (hx : compA x = some x') (hy : compA y = some y') (h : xp (.bin op x' y') t K) :
    ∃ v, K v ∧ PV P o (.bin op x' y') t v := by
  simp only [xp, xbin] at h
  split at h
  · rename_i k a k' b ha hb
    have key : ∃ v, K v ∧ ∃ rv, (∀ ρ, Is ρ v rv) ∧ ∀ w, (binOp op T (.int k a) (.int k' b)).run P w = .ok rv w := by
      split at h
      · exact ⟨_, kInt_spec h.2, _, fun ρ => is_int, fun w => by simp [binOp, Op.shift, Int.not_lt.2 h.1]⟩
      · exact ⟨_, h.2, _, fun ρ => is_int, fun w => by simp [binOp, Op.shift, Int.not_lt.2 h.1]⟩
      · obtain ⟨rfl, h⟩ := h
        exact xint_run h T
    obtain ⟨v, hv, rv, hi, hr⟩ := key
    refine ⟨v, hv, fun ρ A hR => ⟨rv, hi ρ, fun w => ?_⟩⟩
    have e1 := compA_is hx (hR.arg (x := x') (by simp [O.args]))
    have e2 := compA_is hy (hR.arg (x := y') (by simp [O.args]))
    rw [ha] at e1; rw [hb] at e2; simp only [Is] at e1 e2
    have hg : (eqGuard op T x y (.int k a) (.int k' b)).run P w = .ok () w := by
      unfold eqGuard; cases op <;> simp
    simp [execOp, ho, e1, e2, hg, hr]
  · rename_i a b ha hb
    have key : ∃ v, K v ∧ ∃ rv, (∀ ρ, Is ρ v rv) ∧ ∀ w, (binOp op T (.string a) (.string b)).run P w = .ok rv w := by
      split at h
      · refine ⟨_, h.2, _, fun ρ => is_str, fun w => ?_⟩
        have : ¬ ((a.size + b.size : Nat) : Int) > IntKind.i64.max := by simp [IntKind.max, IntKind.signed, IntKind.bits]; omega
        simp [binOp, Op.stringOp, this]
        omega
      · exact ⟨_, h, _, fun ρ => is_bool, fun w => by simp [binOp, Op.stringOp]⟩
      · exact ⟨_, h, _, fun ρ => is_bool, fun w => by simp [binOp, Op.stringOp]⟩
      · exact h.elim
    obtain ⟨v, hv, rv, hi, hr⟩ := key
    refine ⟨v, hv, fun ρ A hR => ⟨rv, hi ρ, fun w => ?_⟩⟩
    have e1 := compA_is hx (hR.arg (x := x') (by simp [O.args]))
    have e2 := compA_is hy (hR.arg (x := y') (by simp [O.args]))
    rw [ha] at e1; rw [hb] at e2; simp only [Is] at e1 e2
    have hg : (eqGuard op T x y (.string a) (.string b)).run P w = .ok () w := by
      unfold eqGuard; cases op <;> simp
    simp [execOp, ho, e1, e2, hg, hr]
  · exact h.elim

theorem x_un {op : UnOp} {T : TypeId} {x : Operand} {x' : A} (ho : o.op = .unOp op T x) (hx : compA x = some x') (h : xp (.un op x') t K) :
    ∃ v, K v ∧ PV P o (.un op x') t v := by
  simp only [xp] at h
  split at h
  · rename_i k n hn
    refine ⟨_, kInt_spec h, fun ρ A hR => ⟨_, is_int, fun w => ?_⟩⟩
    have e1 := compA_is hx (hR.arg (x := x') (by simp [O.args]))
    rw [hn] at e1; simp only [Is] at e1
    simp [execOp, ho, e1, Op.unary, Op.intArith]
  · rename_i b hb
    refine ⟨_, h, fun ρ A hR => ⟨_, is_bool, fun w => ?_⟩⟩
    have e1 := compA_is hx (hR.arg (x := x') (by simp [O.args]))
    rw [hb] at e1; simp only [Is] at e1
    simp [execOp, ho, e1, Op.unary]
  · exact h.elim
theorem run_equal_bool {T : TypeId} (hT : P.underlying T = some .bool) (p q : Bool) (w : World) : (Op.equal T (.bool p) (.bool q)).run P w = .ok (p == q) w := by
  have : ∀ d, (Op.equalIn (d + 1) T (.bool p) (.bool q)).run P w = .ok (p == q) w := fun d => by simp [Op.equalIn, run_underlying hT]
  exact this 9999
theorem run_equal_nil {T : TypeId} {ms} (hT : P.underlying T = some (.interface ms)) (w : World) : (Op.equal T .nilIface .nilIface).run P w = .ok true w := by
  have : ∀ d, (Op.equalIn (d + 1) T .nilIface .nilIface).run P w = .ok true w := fun d => by simp [Op.equalIn, run_underlying hT]
  exact this 9999
theorem run_equal_iface {T : TypeId} {ms} (hT : P.underlying T = some (.interface ms)) (t : TypeId) (u : Value) (w : World) : (Op.equal T (.iface t u) .nilIface).run P w = .ok false w := by
  have : ∀ d, (Op.equalIn (d + 1) T (.iface t u) .nilIface).run P w = .ok false w := fun d => by simp [Op.equalIn, run_underlying hT]
  exact this 9999
theorem x_beq {neg : Bool} {T T' : TypeId} {x y : Operand} {x' y' : A} (ho : o.op = .binOp (if neg then .neq else .eql) T x y T') (hT : P.underlying T = some .bool) (hx : compA x = some x') (hy : compA y = some y') (h : xp (.beq neg x' y') t K) :
    ∃ v, K v ∧ PV P o (.beq neg x' y') t v := by
  simp only [xp] at h
  split at h
  · rename_i p q hp hq
    refine ⟨_, h, fun ρ A hR => ⟨_, is_bool, fun w => ?_⟩⟩
    have e1 := compA_is hx (hR.arg (x := x') (by simp [O.args]))
    have e2 := compA_is hy (hR.arg (x := y') (by simp [O.args]))
    rw [hp] at e1; rw [hq] at e2; simp only [Is] at e1 e2
    have hg : ∀ op, (eqGuard op T x y (.bool p) (.bool q)).run P w = .ok () w := by
      intro op; unfold eqGuard; cases op <;> simp
    cases neg
    · simp only [execOp, ho, e1, e2, Bool.false_eq_true, if_true, if_false, Sem.run_bind, hg, binOp, run_equal_bool hT, Result.andThen_ok, Sem.run_pure]
      all_goals first | rfl | (cases p <;> cases q <;> rfl)
    · simp only [execOp, ho, e1, e2, Bool.false_eq_true, if_true, if_false, Sem.run_bind, hg, binOp, run_equal_bool hT, Result.andThen_ok, Sem.run_pure]
      all_goals first | rfl | (cases p <;> cases q <;> rfl)
  · exact h.elim
theorem FE_elim {neg : Bool} {v u : AV} {K : AV → Prop} (h : FE neg v u K) : ∃ a b c d : Int, v = .agg [.int .i64 a, .int .i64 b] ∧ u = .agg [.int .i64 c, .int .i64 d] ∧ K (.bool (if neg then !(decide (a = c) && decide (b = d)) else (decide (a = c) && decide (b = d)))) := by
  unfold FE at h
  split at h
  · exact ⟨_, _, _, _, rfl, rfl, h⟩
  · exact h.elim
theorem run_equal_pair {T : TypeId} {fs : Array Field} (hT : P.underlying T = some (.struct fs)) (hp : isPair P T fs = true) (a b c d : Int) (w : World) :
    (Op.equal T (.agg #[.int .i64 a, .int .i64 b]) (.agg #[.int .i64 c, .int .i64 d])).run P w = .ok (decide (a = c) && decide (b = d)) w := by
  unfold isPair at hp
  split at hp
  · rename_i f g hfs
    simp only [Bool.and_eq_true, Bool.not_eq_true', bne_iff_ne, beq_iff_eq] at hp
    obtain ⟨⟨⟨⟨⟨⟨⟨p1, p2⟩, p3⟩, p4⟩, p5⟩, p6⟩, p7⟩, p8⟩ := hp
    have p5' : P.underlying f.type = some (.int .i64) := by
      revert p5; cases P.underlying f.type with
      | none => simp
      | some x => cases x <;> try simp
                  rename_i k; cases k <;> simp
    have p6' : P.underlying g.type = some (.int .i64) := by
      revert p6; cases P.underlying g.type with
      | none => simp
      | some x => cases x <;> try simp
                  rename_i k; cases k <;> simp
    have e : fs = #[f, g] := Array.ext' hfs
    subst e
    have hf : isAgg' P f.type = some false := by simp [isAgg', p5']
    have hg : isAgg' P g.type = some false := by simp [isAgg', p6']
    have ki : ∀ n {T' : TypeId} (_ : P.underlying T' = some (.int .i64)) (a b : Int), (Op.equalIn (n + 1) T' (.int .i64 a) (.int .i64 b)).run P w = .ok (a == b) w := fun n T' h a b => by
      simp [Op.equalIn, run_underlying h]
    have pf : ∀ (x y : Int), (part f.type #[.int .i64 x, .int .i64 y] f.offset).run P w = .ok (.int .i64 x) w := fun x y => by simp [part, isAgg'_run hf, p3]
    have pg : ∀ (x y : Int), (part g.type #[.int .i64 x, .int .i64 y] g.offset).run P w = .ok (.int .i64 y) w := fun x y => by simp [part, isAgg'_run hg, p4]
    have key : ∀ n, (Op.equalIn (n + 1 + 1) T (.agg #[.int .i64 a, .int .i64 b]) (.agg #[.int .i64 c, .int .i64 d])).run P w = .ok (decide (a = c) && decide (b = d)) w := fun n => by
      rw [Op.equalIn]
      simp only [Sem.run_bind, run_underlying hT, Result.andThen_ok, run_program, p7, Bool.false_eq_true, if_false]
      by_cases h1 : a = c <;> by_cases h2 : b = d <;> simp [p1, p2, pf, pg, ki _ p5', ki _ p6', h1, h2]
    exact key 9998
  · cases hp
theorem x_feq {neg : Bool} {T T' : TypeId} {fs : Array Field} {x y : Operand} {x' y' : A} (ho : o.op = .binOp (if neg then .neq else .eql) T x y T') (hT : P.underlying T = some (.struct fs)) (hp : isPair P T fs = true) (hx : compA x = some x') (hy : compA y = some y') (h : xp (.feq neg x' y') t K) :
    ∃ v, K v ∧ PV P o (.feq neg x' y') t v := by
  simp only [xp] at h
  obtain ⟨a, b, c, d, e1, e2, h⟩ := FE_elim h
  refine ⟨_, h, fun ρ A hR => ⟨_, is_bool, fun w => ?_⟩⟩
  have i1 := compA_is hx (hR.arg (x := x') (by simp [O.args]))
  have i2 := compA_is hy (hR.arg (x := y') (by simp [O.args]))
  rw [e1] at i1; rw [e2] at i2
  simp only [Is, IsL] at i1 i2
  obtain ⟨_, i1, u1, _, rfl, rfl, u2, _, rfl, rfl, rfl⟩ := i1
  obtain ⟨_, i2, u3, _, rfl, rfl, u4, _, rfl, rfl, rfl⟩ := i2
  have hg8 : P.eqGuardType P.depth T = false := by
    unfold isPair at hp
    split at hp
    · simp only [Bool.and_eq_true, Bool.not_eq_true'] at hp; exact hp.2
    · cases hp
  have hg : ∀ op, (eqGuard op T x y (.agg #[.int .i64 a, .int .i64 b]) (.agg #[.int .i64 c, .int .i64 d])).run P w = .ok () w := by
    intro op; unfold eqGuard; cases op <;> simp [hg8]
  cases neg
  · simp only [execOp, ho, i1, i2, Bool.false_eq_true, if_true, if_false, Sem.run_bind, hg, binOp, run_equal_pair hT hp, Result.andThen_ok, Sem.run_pure]
  · simp only [execOp, ho, i1, i2, Bool.false_eq_true, if_true, if_false, Sem.run_bind, hg, binOp, run_equal_pair hT hp, Result.andThen_ok, Sem.run_pure]
theorem x_nileq {neg : Bool} {T T' : TypeId} {ms} {x y : Operand} {x' : A} (ho : o.op = .binOp (if neg then .neq else .eql) T x y T') (hT : P.underlying T = some (.interface ms)) (hx : compA x = some x') (hy : compA y = some (.c .nilif)) (h : xp (.nileq neg x' (.c .nilif)) t K) :
    ∃ v, K v ∧ PV P o (.nileq neg x' (.c .nilif)) t v := by
  have hyc : y = .const .nilIface := by
    cases y with
    | tmp n => simp [compA] at hy
    | const v =>
      simp only [compA, Option.map_eq_some_iff] at hy
      obtain ⟨u, hu, he⟩ := hy
      cases he
      unfold compV at hu
      split at hu <;> first | rfl | (cases hu)
    | global g => simp [compA] at hy
    | func f => simp [compA] at hy
  subst hyc
  simp only [xp] at h
  split at h
  · rename_i hp
    refine ⟨_, h, fun ρ A hR => ⟨_, is_bool, fun w => ?_⟩⟩
    have e1 := compA_is hx (hR.arg (x := x') (by simp [O.args]))
    rw [hp] at e1; simp only [Is] at e1
    have hg : ∀ op, (eqGuard op T x (.const .nilIface) .nilIface .nilIface).run P w = .ok () w := by
      intro op; unfold eqGuard; cases op <;> simp
    cases neg
    · have e2 : A.eval (.const .nilIface) = .nilIface := rfl
      simp only [execOp, ho, e1, e2, Bool.false_eq_true, if_true, if_false, Sem.run_bind, hg, binOp, run_equal_nil hT, run_equal_iface hT, Result.andThen_ok, Sem.run_pure]
      all_goals rfl
    · have e2 : A.eval (.const .nilIface) = .nilIface := rfl
      simp only [execOp, ho, e1, e2, Bool.false_eq_true, if_true, if_false, Sem.run_bind, hg, binOp, run_equal_nil hT, run_equal_iface hT, Result.andThen_ok, Sem.run_pure]
      all_goals rfl
  · rename_i hp
    refine ⟨_, h, fun ρ A hR => ⟨_, is_bool, fun w => ?_⟩⟩
    have e1 := compA_is hx (hR.arg (x := x') (by simp [O.args]))
    rw [hp] at e1; simp only [Is] at e1
    obtain ⟨tt, u, e1⟩ := e1
    have hg : ∀ op, (eqGuard op T x (.const .nilIface) (.iface tt u) .nilIface).run P w = .ok () w := by
      intro op; unfold eqGuard; cases op <;> simp
    cases neg
    · have e2 : A.eval (.const .nilIface) = .nilIface := rfl
      simp only [execOp, ho, e1, e2, Bool.false_eq_true, if_true, if_false, Sem.run_bind, hg, binOp, run_equal_nil hT, run_equal_iface hT, Result.andThen_ok, Sem.run_pure]
      all_goals rfl
    · have e2 : A.eval (.const .nilIface) = .nilIface := rfl
      simp only [execOp, ho, e1, e2, Bool.false_eq_true, if_true, if_false, Sem.run_bind, hg, binOp, run_equal_nil hT, run_equal_iface hT, Result.andThen_ok, Sem.run_pure]
      all_goals rfl
  · exact h.elim
theorem run_equal_slnil {T e : TypeId} (hT : P.underlying T = some (.slice e)) (b : Option Addr) (n c : Nat) (w : World) : (Op.equal T (.slice b n c) (.slice none 0 0)).run P w = .ok b.isNone w := by
  have : ∀ d, (Op.equalIn (d + 1) T (.slice b n c) (.slice none 0 0)).run P w = .ok b.isNone w := fun d => by
    cases b <;> simp [Op.equalIn, run_underlying hT]
  exact this 9999
theorem x_nilseq {neg : Bool} {T T' e : TypeId} {x y : Operand} {x' : A} (ho : o.op = .binOp (if neg then .neq else .eql) T x y T') (hT : P.underlying T = some (.slice e)) (hx : compA x = some x') (hy : compA y = some (.c .nilsl)) (h : xp (.nilseq neg x') t K) :
    ∃ v, K v ∧ PV P o (.nilseq neg x') t v := by
  have hyc : y = .const (.slice none 0 0) := by
    cases y with
    | tmp n => simp [compA] at hy
    | const v =>
      simp only [compA, Option.map_eq_some_iff] at hy
      obtain ⟨u, hu, he⟩ := hy
      cases he
      unfold compV at hu
      split at hu <;> first | rfl | (cases hu)
    | global g => simp [compA] at hy
    | func f => simp [compA] at hy
  subst hyc
  have e2 : ∀ A : Act, A.eval (.const (.slice none 0 0)) = .slice none 0 0 := fun _ => rfl
  have fin : ∀ (b : Option Addr) (n c : Nat) (v : Bool), v = (if neg then !b.isNone else b.isNone) → K (.bool v) → (∀ ρ A, Rel ρ (O.nilseq neg x').reads t A → ∃ n c, ∃ b' : Option Addr, b'.isNone = b.isNone ∧ A.eval x = .slice b' n c) → ∃ v, K v ∧ PV P o (.nilseq neg x') t v := by
    intro b n c v hv hk hA
    refine ⟨_, hk, fun ρ A hR => ⟨_, is_bool, fun w => ?_⟩⟩
    obtain ⟨n', c', b', hb, e1⟩ := hA ρ A hR
    have hg : ∀ op, (eqGuard op T x (.const (.slice none 0 0)) (.slice b' n' c') (.slice none 0 0)).run P w = .ok () w := by
      intro op; unfold eqGuard; cases op <;> simp
    subst hv
    cases neg
    · simp only [execOp, ho, e1, e2, Bool.false_eq_true, if_false, Sem.run_bind, hg, binOp, run_equal_slnil hT, Result.andThen_ok, Sem.run_pure, hb]
    · simp only [execOp, ho, e1, e2, if_true, Sem.run_bind, hg, binOp, run_equal_slnil hT, Result.andThen_ok, Sem.run_pure, hb]
  simp only [xp] at h
  split at h
  · rename_i hp
    refine fin none 0 0 _ (by cases neg <;> rfl) h fun ρ A hR => ?_
    have e1 := compA_is hx (hR.arg (x := x') (by simp [O.args]))
    rw [hp] at e1; simp only [Is] at e1
    exact ⟨0, 0, none, rfl, e1⟩
  · rename_i hp
    refine fin (some default) 0 0 _ (by cases neg <;> rfl) h fun ρ A hR => ?_
    have e1 := compA_is hx (hR.arg (x := x') (by simp [O.args]))
    rw [hp] at e1; simp only [Is] at e1
    obtain ⟨r, _, e1⟩ := e1
    refine ⟨_, _, _, ?_, e1⟩
    rfl
  · rename_i hp
    refine fin (some default) 0 0 _ (by cases neg <;> rfl) h fun ρ A hR => ?_
    have e1 := compA_is hx (hR.arg (x := x') (by simp [O.args]))
    rw [hp] at e1; simp only [Is] at e1
    obtain ⟨r, _, _, _, e1⟩ := e1
    refine ⟨_, _, _, ?_, e1⟩
    rfl
  · rename_i hp
    refine fin (some default) 0 0 _ (by cases neg <;> rfl) h fun ρ A hR => ?_
    have e1 := compA_is hx (hR.arg (x := x') (by simp [O.args]))
    rw [hp] at e1; simp only [Is] at e1
    obtain ⟨r, a, c, _, e1, _⟩ := e1
    refine ⟨_, _, _, ?_, e1⟩
    rfl
  · exact h.elim
theorem x_nck {x : Operand} {x' : A} (ho : o.op = .nilCheck x) (hx : compA x = some x') (h : xp (.nck x') t K) :
    ∃ v, K v ∧ PV P o (.nck x') t v := by
  simp only [xp] at h
  split at h
  · rename_i i off hp
    refine ⟨_, h, fun ρ A hR => ?_⟩
    have e1 := compA_is hx (hR.arg (x := x') (by simp [O.args]))
    rw [hp] at e1
    refine ⟨_, e1, fun w => ?_⟩
    simp only [Is] at e1
    obtain ⟨r, _, e1⟩ := e1
    simp [execOp, ho, e1]
  · rename_i f cs hp
    refine ⟨_, h, fun ρ A hR => ?_⟩
    have e1 := compA_is hx (hR.arg (x := x') (by simp [O.args]))
    rw [hp] at e1
    refine ⟨_, e1, fun w => ?_⟩
    simp only [Is] at e1
    obtain ⟨r, e1, _⟩ := e1
    simp [execOp, ho, e1]
  · exact h.elim
theorem x_cvi {S T : TypeId} {k0 k : IntKind} {x : Operand} {x' : A} (ho : o.op = .convert S T x) (hS : P.underlying S = some (.int k0)) (hT : P.underlying T = some (.int k)) (hx : compA x = some x') (h : xp (.cvi k x') t K) :
    ∃ v, K v ∧ PV P o (.cvi k x') t v := by
  simp only [xp] at h
  split at h
  · rename_i k1 n hp
    refine ⟨_, kInt_spec h, fun ρ A hR => ⟨_, is_int, fun w => ?_⟩⟩
    have e1 := compA_is hx (hR.arg (x := x') (by simp [O.args]))
    rw [hp] at e1; simp only [Is] at e1
    simp [execOp, ho, e1, convert, run_underlying hS, run_underlying hT, Conv.intToInt]
  · exact h.elim
theorem x_cvs {S T : TypeId} {x : Operand} {x' : A} (ho : o.op = .convert S T x) (hS : P.underlying S = some .string) (hT : P.underlying T = some .string) (hx : compA x = some x') (h : xp (.cvs x') t K) :
    ∃ v, K v ∧ PV P o (.cvs x') t v := by
  simp only [xp] at h
  split at h
  · rename_i s hp
    refine ⟨_, h, fun ρ A hR => ⟨_, is_str, fun w => ?_⟩⟩
    have e1 := compA_is hx (hR.arg (x := x') (by simp [O.args]))
    rw [hp] at e1; simp only [Is] at e1
    simp [execOp, ho, e1, convert, run_underlying hS, run_underlying hT]
  · exact h.elim
theorem x_mkf {f : Nat} {first cs : Array Operand} {cs' : List A} (ho : o.op = .makeFunc (.func f) first cs) (hf : first.size = 0) (hx : compAs cs.toList = some cs') (h : xp (.mkf f cs') t K) :
    ∃ v, K v ∧ PV P o (.mkf f cs') t v := by
  simp only [xp] at h
  refine ⟨_, h, fun ρ A hR => ⟨.func (.func f) #[] (cs.map A.eval), ?_, fun w => ?_⟩⟩
  · simp only [Is]
    exact ⟨cs.toList.map A.eval, by rw [show (List.map A.eval cs.toList).toArray = cs.map A.eval from Array.ext' (by simp)], compAs_is hx (hR.args (by simp [O.args]))⟩
  · have : first = #[] := by simpa using hf
    subst this
    simp [execOp, ho, Instr.makeFunc]
end
section
variable {P : Program} {o : Oper} {t : List AV} {K : AV → Prop}

theorem add_none (b s n : Nat) : (⟨b, s, none⟩ : Addr).add n = ⟨b, s + n, none⟩ := by unfold Addr.add; split <;> simp_all

theorem x_fa {T : TypeId} {fs : Array Field} {x : Operand} {x' : A} {i : Nat} {f : Field} {s : Nat} (ho : o.op = .fieldAddr T x i) (hT : P.underlying T = some (.struct fs)) (hf : fs[i]? = some f)
    (hs : sizeOf' P f.type = some s) (hs0 : s ≠ 0) (hx : compA x = some x') (h : xp (.fa f.offset x') t K) : ∃ v, K v ∧ PV P o (.fa f.offset x') t v := by
  simp only [xp] at h
  split at h
  · rename_i id off hp
    refine ⟨_, h, fun ρ A hR => ?_⟩
    have e1 := compA_is hx (hR.arg (x := x') (by simp [O.args]))
    rw [hp] at e1
    simp only [Is] at e1
    obtain ⟨r, hr, e1⟩ := e1
    refine ⟨.pointer (some ⟨r.b, r.s + (off + f.offset), none⟩), by simp only [Is]; exact ⟨r, hr, rfl⟩, fun w => ?_⟩
    simp [execOp, ho, e1, Instr.fieldAt, run_underlying hT, hf, Instr.sureAddr, fieldPlace, sizeOf'_run hs, hs0, add_none, Nat.add_assoc]
  · exact h.elim
theorem extract_is {ρ : Rho} {cs : List AV} {vs : List Value} (h : IsL ρ cs vs) (off sz : Nat) : Is ρ (.agg (cutA cs off sz)) (.agg (vs.toArray.extract off (off + sz))) := by
  simp only [Is]
  refine ⟨(vs.drop off).take sz, ?_, (h.drop off).take sz⟩
  simp [cutA, List.extract_eq_drop_take']
theorem x_fld {T : TypeId} {fs : Array Field} {x : Operand} {x' : A} {i : Nat} {f : Field} {s : Nat} (ho : o.op = .field T x i) (hT : P.underlying T = some (.struct fs)) (hf : fs[i]? = some f)
    (ha : isAgg' P f.type = some true) (hs : sizeOf' P f.type = some s) (hx : compA x = some x') (h : xp (.fld s f.offset x') t K) : ∃ v, K v ∧ PV P o (.fld s f.offset x') t v := by
  simp only [xp] at h
  split at h
  · rename_i cs hp
    refine ⟨_, h, fun ρ A hR => ?_⟩
    have e1 := compA_is hx (hR.arg (x := x') (by simp [O.args]))
    rw [hp] at e1
    simp only [Is] at e1
    obtain ⟨vs, e1, hl⟩ := e1
    refine ⟨_, extract_is hl f.offset s, fun w => ?_⟩
    simp [execOp, ho, e1, Instr.field, run_underlying hT, hf, asAgg, part, isAgg'_run ha, sizeOf'_run hs]
  · exact h.elim
theorem x_fld1 {T : TypeId} {fs : Array Field} {x : Operand} {x' : A} {i : Nat} {f : Field} (ho : o.op = .field T x i) (hT : P.underlying T = some (.struct fs)) (hf : fs[i]? = some f)
    (ha : isAgg' P f.type = some false) (hx : compA x = some x') (h : xp (.fld1 f.offset x') t K) : ∃ v, K v ∧ PV P o (.fld1 f.offset x') t v := by
  simp only [xp] at h
  split at h
  · rename_i cs hp
    obtain ⟨c, hc, h⟩ := h
    refine ⟨_, h, fun ρ A hR => ?_⟩
    have e1 := compA_is hx (hR.arg (x := x') (by simp [O.args]))
    rw [hp] at e1
    simp only [Is] at e1
    obtain ⟨vs, e1, hl⟩ := e1
    obtain ⟨u, hu, hi⟩ := hl.get _ c hc
    refine ⟨u, hi, fun w => ?_⟩
    simp [execOp, ho, e1, Instr.field, run_underlying hT, hf, asAgg, part, isAgg'_run ha, hu]
  · exact h.elim
theorem x_ext {x : Operand} {x' : A} {i : Nat} (ho : o.op = .extract x i) (hx : compA x = some x') (h : xp (.ext x' i) t K) : ∃ v, K v ∧ PV P o (.ext x' i) t v := by
  simp only [xp] at h
  split at h
  · rename_i cs hp
    obtain ⟨c, hc, h⟩ := h
    refine ⟨_, h, fun ρ A hR => ?_⟩
    have e1 := compA_is hx (hR.arg (x := x') (by simp [O.args]))
    rw [hp] at e1
    simp only [Is] at e1
    obtain ⟨vs, e1, hl⟩ := e1
    obtain ⟨u, hu, hi⟩ := hl.get _ c hc
    refine ⟨u, hi, fun w => ?_⟩
    simp [execOp, ho, e1, Instr.extract, hu]
  · exact h.elim
theorem x_ia {T e : TypeId} {x i : Operand} {x' i' : A} {s : Nat} (ho : o.op = .indexAddr T x i) (hT : P.underlying T = some (.slice e)) (hs : sizeOf' P e = some s)
    (hx : compA x = some x') (hi : compA i = some i') (h : xp (.ia s x' i') t K) : ∃ v, K v ∧ PV P o (.ia s x' i') t v := by
  simp only [xp] at h
  split at h
  · rename_i id off n c k j hp hq
    obtain ⟨h0, h1, h⟩ := h
    refine ⟨_, h, fun ρ A hR => ?_⟩
    have e1 := compA_is hx (hR.arg (x := x') (by simp [O.args]))
    have e2 := compA_is hi (hR.arg (x := i') (by simp [O.args]))
    rw [hp] at e1; rw [hq] at e2
    simp only [Is] at e1 e2
    obtain ⟨r, hr, e1⟩ := e1
    refine ⟨.pointer (some ⟨r.b, r.s + (off + j.toNat * s), none⟩), by simp only [Is]; exact ⟨r, hr, rfl⟩, fun w => ?_⟩
    simp [execOp, ho, e1, e2, Instr.indexAt, asIntOf, run_underlying hT, h0, h1, sizeOf'_run hs, add_none, Nat.add_assoc]
  · rename_i id n k j hp hq
    obtain ⟨h0, h1, h⟩ := h
    refine ⟨_, h, fun ρ A hR => ?_⟩
    have e1 := compA_is hx (hR.arg (x := x') (by simp [O.args]))
    have e2 := compA_is hi (hR.arg (x := i') (by simp [O.args]))
    rw [hp] at e1; rw [hq] at e2
    simp only [Is] at e1 e2
    obtain ⟨r, hr, hs0, hc, e1⟩ := e1
    refine ⟨.pointer (some ⟨r.b, r.s + (j.toNat * s), none⟩), by simp only [Is]; exact ⟨r, hr, rfl⟩, fun w => ?_⟩
    simp [execOp, ho, e1, e2, Instr.indexAt, asIntOf, run_underlying hT, h0, h1, sizeOf'_run hs, add_none, hs0]
  · rename_i id off n k j hp hq
    obtain ⟨h0, h1, h⟩ := h
    refine ⟨_, h, fun ρ A hR => ?_⟩
    have e1 := compA_is hx (hR.arg (x := x') (by simp [O.args]))
    have e2 := compA_is hi (hR.arg (x := i') (by simp [O.args]))
    rw [hp] at e1; rw [hq] at e2
    simp only [Is] at e1 e2
    obtain ⟨r, a, c, hr, e1, hc, ha⟩ := e1
    have ha := ha (by omega)
    subst ha
    refine ⟨.pointer (some ⟨r.b, r.s + (off + j.toNat * s), none⟩), by simp only [Is]; exact ⟨r, hr, rfl⟩, fun w => ?_⟩
    simp [execOp, ho, e1, e2, Instr.indexAt, asIntOf, run_underlying hT, h0, h1, sizeOf'_run hs, add_none, Nat.add_assoc]
  · exact h.elim
theorem x_ixs {T : TypeId} {x i : Operand} {x' i' : A} (ho : o.op = .index T x i) (hT : P.underlying T = some .string)
    (hx : compA x = some x') (hi : compA i = some i') (h : xp (.ixs x' i') t K) : ∃ v, K v ∧ PV P o (.ixs x' i') t v := by
  simp only [xp] at h
  split at h
  · rename_i s k j hp hq
    obtain ⟨c, h0, h1, h⟩ := h
    refine ⟨_, h, fun ρ A hR => ⟨_, is_int, fun w => ?_⟩⟩
    have e1 := compA_is hx (hR.arg (x := x') (by simp [O.args]))
    have e2 := compA_is hi (hR.arg (x := i') (by simp [O.args]))
    rw [hp] at e1; rw [hq] at e2
    simp only [Is] at e1 e2
    have h1' : s[j.toNat]? = some c := by
      obtain ⟨hlt, he⟩ := Array.getElem?_eq_some_iff.1 h1
      rw [getElem?_pos s j.toNat hlt]; exact congrArg some he
    simp [execOp, ho, e1, e2, Instr.index, asIntOf, run_underlying hT, h0, h1']
  · exact h.elim
theorem x_len {ar : Array Operand} {ats : Array TypeId} {T e : TypeId} {x : Operand} {x' : A} (ho : o.op = .call { callee := .builtin .len, args := ar, argTypes := ats }) (har : ar.toList = [x]) (hat : ats.toList = [T])
    (hT : P.underlying T = some (.slice e)) (hx : compA x = some x') (h : xp (.len x') t K) : ∃ v, K v ∧ PV P o (.len x') t v := by
  have har' : ar = #[x] := Array.ext' har
  have hat' : ats = #[T] := Array.ext' hat
  subst har'; subst hat'
  simp only [xp] at h
  split at h
  · rename_i id off n c hp
    refine ⟨_, h, fun ρ A hR => ⟨_, is_int, fun w => ?_⟩⟩
    have e1 := compA_is hx (hR.arg (x := x') (by simp [O.args]))
    rw [hp] at e1; simp only [Is] at e1
    obtain ⟨r, hr, e1⟩ := e1
    simp [execOp, ho, resolve, e1, invoke, builtin, Builtin.len_, run_underlying hT, goInt]
  · rename_i id n hp
    refine ⟨_, h, fun ρ A hR => ⟨_, is_int, fun w => ?_⟩⟩
    have e1 := compA_is hx (hR.arg (x := x') (by simp [O.args]))
    rw [hp] at e1; simp only [Is] at e1
    obtain ⟨r, hr, _, _, e1⟩ := e1
    simp [execOp, ho, resolve, e1, invoke, builtin, Builtin.len_, run_underlying hT, goInt]
  · rename_i id off n hp
    refine ⟨_, h, fun ρ A hR => ⟨_, is_int, fun w => ?_⟩⟩
    have e1 := compA_is hx (hR.arg (x := x') (by simp [O.args]))
    rw [hp] at e1; simp only [Is] at e1
    obtain ⟨r, a, c, hr, e1, _⟩ := e1
    simp [execOp, ho, resolve, e1, invoke, builtin, Builtin.len_, run_underlying hT, goInt]
  · rename_i hp
    refine ⟨_, h, fun ρ A hR => ⟨_, is_int, fun w => ?_⟩⟩
    have e1 := compA_is hx (hR.arg (x := x') (by simp [O.args]))
    rw [hp] at e1; simp only [Is] at e1
    simp [execOp, ho, resolve, e1, invoke, builtin, Builtin.len_, run_underlying hT, goInt]
  · rename_i hp
    refine ⟨_, h, fun ρ A hR => ⟨_, is_int, fun w => ?_⟩⟩
    have e1 := compA_is hx (hR.arg (x := x') (by simp [O.args]))
    rw [hp] at e1; simp only [Is] at e1
    obtain ⟨a, e1⟩ := e1
    simp [execOp, ho, resolve, e1, invoke, builtin, Builtin.len_, run_underlying hT, goInt]
  · exact h.elim
theorem x_lens {ar : Array Operand} {ats : Array TypeId} {T : TypeId} {x : Operand} {x' : A} (ho : o.op = .call { callee := .builtin .len, args := ar, argTypes := ats }) (har : ar.toList = [x]) (hat : ats.toList = [T])
    (hT : P.underlying T = some .string) (hx : compA x = some x') (h : xp (.lens x') t K) : ∃ v, K v ∧ PV P o (.lens x') t v := by
  have har' : ar = #[x] := Array.ext' har
  have hat' : ats = #[T] := Array.ext' hat
  subst har'; subst hat'
  simp only [xp] at h
  split at h
  · rename_i s hp
    refine ⟨_, h, fun ρ A hR => ⟨_, is_int, fun w => ?_⟩⟩
    have e1 := compA_is hx (hR.arg (x := x') (by simp [O.args]))
    rw [hp] at e1; simp only [Is] at e1
    simp [execOp, ho, resolve, e1, invoke, builtin, Builtin.len_, run_underlying hT, goInt]
  · exact h.elim
theorem x_cap {ar : Array Operand} {ats : Array TypeId} {T e : TypeId} {x : Operand} {x' : A} (ho : o.op = .call { callee := .builtin .cap, args := ar, argTypes := ats }) (har : ar.toList = [x]) (hat : ats.toList = [T])
    (hT : P.underlying T = some (.slice e)) (hx : compA x = some x') (h : xp (.cap x') t K) : ∃ v, K v ∧ PV P o (.cap x') t v := by
  have har' : ar = #[x] := Array.ext' har
  have hat' : ats = #[T] := Array.ext' hat
  subst har'; subst hat'
  simp only [xp] at h
  split at h
  · rename_i id off n c hp
    refine ⟨_, h, fun ρ A hR => ⟨_, is_int, fun w => ?_⟩⟩
    have e1 := compA_is hx (hR.arg (x := x') (by simp [O.args]))
    rw [hp] at e1; simp only [Is] at e1
    obtain ⟨r, hr, e1⟩ := e1
    simp [execOp, ho, resolve, e1, invoke, builtin, Builtin.cap_, run_underlying hT, goInt]
  · rename_i hp
    refine ⟨_, h, fun ρ A hR => ⟨_, is_int, fun w => ?_⟩⟩
    have e1 := compA_is hx (hR.arg (x := x') (by simp [O.args]))
    rw [hp] at e1; simp only [Is] at e1
    simp [execOp, ho, resolve, e1, invoke, builtin, Builtin.cap_, run_underlying hT, goInt]
  · exact h.elim
theorem compAs_len : ∀ {xs : List Operand} {xs' : List A}, compAs xs = some xs' → xs.length = xs'.length
  | [], xs', h => by simp only [compAs, Option.some.injEq] at h; subst h; rfl
  | x :: xs, xs', h => by
    simp only [compAs] at h
    split at h
    · rename_i y l hy hl; cases h; simp [compAs_len hl]
    · cases h
theorem compAs_two {xs : List Operand} {x y : A} (h : compAs xs = some [x, y]) : ∃ x0 y0, xs = [x0, y0] ∧ compA x0 = some x ∧ compA y0 = some y := by
  match xs, h with
  | [], h => simp [compAs] at h
  | [a], h =>
    simp only [compAs] at h
    split at h <;> simp_all
  | [a, b], h =>
    simp only [compAs] at h
    split at h
    · rename_i y l hy hl
      split at hl
      · rename_i z m hz hm
        cases hl; cases h
        exact ⟨a, b, rfl, hy, hz⟩
      · cases hl
    · cases h
  | a :: b :: c :: r, h => have := compAs_len h; simp at this
theorem x_mx {ar : Array Operand} {ats : Array TypeId} {xs : List A} (ho : o.op = .call { callee := .builtin .max, args := ar, argTypes := ats }) (hx : compAs ar.toList = some xs) (h : xp (.mx xs) t K) : ∃ v, K v ∧ PV P o (.mx xs) t v := by
  simp only [xp] at h
  split at h
  · rename_i x y
    obtain ⟨x0, y0, hl, h1, h2⟩ := compAs_two hx
    have har' : ar = #[x0, y0] := Array.ext' hl
    subst har'
    split at h
    · rename_i k a k' b hp hq
      refine ⟨_, h, fun ρ A hR => ⟨_, is_int, fun w => ?_⟩⟩
      have e1 := compA_is h1 (hR.arg (x := x) (by simp [O.args]))
      have e2 := compA_is h2 (hR.arg (x := y) (by simp [O.args]))
      rw [hp] at e1; rw [hq] at e2; simp only [Is] at e1 e2
      simp [execOp, ho, resolve, e1, e2, invoke, builtin, Builtin.max_, Builtin.max2]
    · exact h.elim
  · exact h.elim
theorem x_mn {ar : Array Operand} {ats : Array TypeId} {xs : List A} (ho : o.op = .call { callee := .builtin .min, args := ar, argTypes := ats }) (hx : compAs ar.toList = some xs) (h : xp (.mn xs) t K) : ∃ v, K v ∧ PV P o (.mn xs) t v := by
  simp only [xp] at h
  split at h
  · rename_i x y
    obtain ⟨x0, y0, hl, h1, h2⟩ := compAs_two hx
    have har' : ar = #[x0, y0] := Array.ext' hl
    subst har'
    split at h
    · rename_i k a k' b hp hq
      refine ⟨_, h, fun ρ A hR => ⟨_, is_int, fun w => ?_⟩⟩
      have e1 := compA_is h1 (hR.arg (x := x) (by simp [O.args]))
      have e2 := compA_is h2 (hR.arg (x := y) (by simp [O.args]))
      rw [hp] at e1; rw [hq] at e2; simp only [Is] at e1 e2
      simp [execOp, ho, resolve, e1, e2, invoke, builtin, Builtin.min_, Builtin.min2]
    · exact h.elim
  · exact h.elim
theorem IsO {ρ : Rho} {t : List AV} {a : Act} {x : Option Operand} {x' : Option A} (h : compOA x = some x') (hr : ∀ y, x' = some y → Rel ρ y.reads t a) :
    (x = none ∧ x' = none) ∨ ∃ x0 y, x = some x0 ∧ x' = some y ∧ Is ρ (ev t y) (a.eval x0) := by
  cases x with
  | none => simp only [compOA, Option.some.injEq] at h; exact .inl ⟨rfl, h.symm⟩
  | some x0 =>
    simp only [compOA, Option.map_eq_some_iff] at h
    obtain ⟨y, hy, rfl⟩ := h
    exact .inr ⟨x0, y, rfl, rfl, compA_is hy (hr y rfl)⟩
theorem bound_run {k : IntKind} {i : Int} {y : Nat} {code : BoundsCode} (h0 : 0 ≤ i) (h1 : i ≤ y) (w : World) : (Instr.sliceBound (.int k i) y code).run P w = .ok i.toNat w := by
  simp [Instr.sliceBound, asIntOf, h0, h1]
def RelO (ρ : Rho) (x : Option AV) (r : Option Value) : Prop := match x, r with
  | none, none => True
  | some x, some r => Is ρ x r
  | _, _ => False
theorem RelO.none_ {ρ : Rho} {r : Option Value} (h : RelO ρ none r) : r = none := by cases r <;> simp [RelO] at h ⊢
theorem RelO.int {ρ : Rho} {k : IntKind} {n : Int} {r : Option Value} (h : RelO ρ (some (.int k n)) r) : r = some (.int k n) := by
  cases r <;> simp only [RelO, Is] at h
  · exact congrArg some h
theorem RelO.of {ρ : Rho} {t : List AV} {a : Act} {x : Option Operand} {x' : Option A} (h : compOA x = some x') (hr : ∀ y, x' = some y → Rel ρ y.reads t a) :
    RelO ρ (x'.map (ev t)) (x.map a.eval) := by
  rcases IsO h hr with ⟨rfl, rfl⟩ | ⟨x0, y, rfl, rfl, hi⟩
  · simp [RelO]
  · simpa [RelO] using hi
theorem bound_run2 {P : Program} {k : IntKind} {i y : Int} {code : BoundsCode} (h0 : 0 ≤ i) (h1 : i ≤ y) (w : World) : (Instr.sliceBound (.int k i) y.toNat code).run P w = .ok i.toNat w :=
  bound_run h0 (by omega) w
theorem bnds_run {P : Program} {len cap : Nat} {lo hi mx : Option AV} {K : Nat → Nat → Nat → Prop} {b : Bool} (h : bnds len cap lo hi mx K) :
    ∃ l h m, K l h m ∧ ∀ (ρ : Rho) (rlo rhi rmx : Option Value) (w : World), RelO ρ lo rlo → RelO ρ hi rhi → RelO ρ mx rmx → (Instr.sliceBounds b len cap rlo rhi rmx).run P w = .ok (l, h, m) w := by
  unfold bnds at h
  split at h
  · split at h
    · split at h
      · refine ⟨_, _, _, h, fun ρ rlo rhi rmx w h1 h2 h3 => ?_⟩
        rw [h1.none_, h2.none_, h3.none_]; simp [Instr.sliceBounds]
      · obtain ⟨g0, g1, h⟩ := h
        refine ⟨_, _, _, h, fun ρ rlo rhi rmx w h1 h2 h3 => ?_⟩
        rw [h1.int, h2.none_, h3.none_]; simp [Instr.sliceBounds, bound_run g0 g1]
      · exact h.elim
    · obtain ⟨g0, g1, h⟩ := h
      split at h
      · refine ⟨_, _, _, h, fun ρ rlo rhi rmx w h1 h2 h3 => ?_⟩
        rw [h1.none_, h2.int, h3.none_]; simp [Instr.sliceBounds, bound_run g0 g1]
      · obtain ⟨f0, f1, h⟩ := h
        refine ⟨_, _, _, h, fun ρ rlo rhi rmx w h1 h2 h3 => ?_⟩
        rw [h1.int, h2.int, h3.none_]; simp [Instr.sliceBounds, bound_run g0 g1, bound_run2 f0 f1]
      · exact h.elim
    · exact h.elim
  · obtain ⟨g0, g1, h⟩ := h
    split at h
    · obtain ⟨f0, f1, h⟩ := h
      split at h
      · refine ⟨_, _, _, h, fun ρ rlo rhi rmx w h1 h2 h3 => ?_⟩
        rw [h1.none_, h2.int, h3.int]; simp [Instr.sliceBounds, bound_run g0 g1, bound_run2 f0 f1]
      · obtain ⟨e0, e1, h⟩ := h
        refine ⟨_, _, _, h, fun ρ rlo rhi rmx w h1 h2 h3 => ?_⟩
        rw [h1.int, h2.int, h3.int]; simp [Instr.sliceBounds, bound_run g0 g1, bound_run2 f0 f1, bound_run2 e0 e1]
      · exact h.elim
    · exact h.elim
  · exact h.elim
theorem x_sls {T : TypeId} {x : Operand} {lo hi : Option Operand} {x' : A} {lo' hi' : Option A} (ho : o.op = .slice T x lo hi none) (hT : P.underlying T = some .string)
    (hx : compA x = some x') (hl : compOA lo = some lo') (hh : compOA hi = some hi') (h : xp (.sls x' lo' hi') t K) : ∃ v, K v ∧ PV P o (.sls x' lo' hi') t v := by
  simp only [xp] at h
  split at h
  · rename_i s hp
    obtain ⟨l, h', m, hK, hrun⟩ := bnds_run (P := P) (b := false) h
    refine ⟨_, hK, fun ρ A hR => ⟨_, is_str, fun w => ?_⟩⟩
    have e1 := compA_is hx (hR.arg (x := x') (by simp [O.args]))
    rw [hp] at e1; simp only [Is] at e1
    have r1 := RelO.of (ρ := ρ) (t := t) (a := A) hl (fun y hy => hR.arg (by simp [O.args, hy]))
    have r2 := RelO.of (ρ := ρ) (t := t) (a := A) hh (fun y hy => hR.arg (by simp [O.args, hy]))
    have := hrun ρ _ _ none w r1 r2 (by simp [RelO])
    simp [execOp, ho, e1, Instr.sliceAt, Instr.slice, run_underlying hT, this]
  · exact h.elim
theorem x_slc {T e : TypeId} {x : Operand} {lo hi mx : Option Operand} {x' : A} {lo' hi' mx' : Option A} {s : Nat} (ho : o.op = .slice T x lo hi mx) (hT : P.underlying T = some (.slice e))
    (hs : sizeOf' P e = some s) (hx : compA x = some x') (hl : compOA lo = some lo') (hh : compOA hi = some hi') (hm : compOA mx = some mx') (h : xp (.slc s x' lo' hi' mx') t K) :
    ∃ v, K v ∧ PV P o (.slc s x' lo' hi' mx') t v := by
  simp only [xp] at h
  have R : ∀ ρ A, Rel ρ (O.slc s x' lo' hi' mx').reads t A → RelO ρ (lo'.map (ev t)) (lo.map A.eval) ∧ RelO ρ (hi'.map (ev t)) (hi.map A.eval) ∧ RelO ρ (mx'.map (ev t)) (mx.map A.eval) :=
    fun ρ A hR => ⟨RelO.of (ρ := ρ) (t := t) (a := A) hl (fun y hy => hR.arg (by simp [O.args, hy])), RelO.of (ρ := ρ) (t := t) (a := A) hh (fun y hy => hR.arg (by simp [O.args, hy])),
      RelO.of (ρ := ρ) (t := t) (a := A) hm (fun y hy => hR.arg (by simp [O.args, hy]))⟩
  split at h
  · rename_i id off n c hp
    obtain ⟨l, h', m, hK, hrun⟩ := bnds_run (P := P) (b := true) h
    refine ⟨_, hK, fun ρ A hR => ?_⟩
    have e1 := compA_is hx (hR.arg (x := x') (by simp [O.args]))
    rw [hp] at e1; simp only [Is] at e1
    obtain ⟨r, hr, e1⟩ := e1
    obtain ⟨r1, r2, r3⟩ := R ρ A hR
    refine ⟨.slice (some ⟨r.b, r.s + (if m = l then off else off + l * s), none⟩) (h' - l) (m - l), by simp only [Is]; exact ⟨r, hr, rfl⟩, fun w => ?_⟩
    have := hrun ρ _ _ _ w r1 r2 r3
    simp only [execOp, ho, e1, Instr.sliceAt, Sem.run_bind, run_underlying hT, Result.andThen_ok, Instr.slice, this, sizeOf'_run hs, Sem.run_pure]
    split <;> simp [add_none, Nat.add_assoc]
  · rename_i id n hp
    split at h
    · rename_i q1 q2 q3
      refine ⟨_, h, fun ρ A hR => ?_⟩
      have e1 := compA_is hx (hR.arg (x := x') (by simp [O.args]))
      rw [hp] at e1
      obtain ⟨r1, r2, r3⟩ := R ρ A hR
      rw [q1] at r1; rw [q2] at r2; rw [q3] at r3
      refine ⟨_, e1, fun w => ?_⟩
      simp only [Is] at e1
      obtain ⟨r, hr, hs0, hc, e1⟩ := e1
      simp only [execOp, ho, e1, r1.none_, r2.none_, r3.none_, Instr.sliceAt, Sem.run_bind, run_underlying hT, Result.andThen_ok, Instr.slice, Instr.sliceBounds, sizeOf'_run hs, Sem.run_pure]
      split <;> simp [add_none]
    · rename_i k l q1 q2 q3
      obtain ⟨g0, g1, h⟩ := h
      refine ⟨_, h, fun ρ A hR => ?_⟩
      have e1 := compA_is hx (hR.arg (x := x') (by simp [O.args]))
      rw [hp] at e1
      obtain ⟨r1, r2, r3⟩ := R ρ A hR
      rw [q1] at r1; rw [q2] at r2; rw [q3] at r3
      simp only [Is] at e1
      obtain ⟨r, hr, hs0, hc, e1⟩ := e1
      refine ⟨.slice (some ⟨r.b, (if r.c = l.toNat then 0 else l.toNat * s), none⟩) (n - l.toNat) (r.c - l.toNat), by simp only [Is]; exact ⟨r, _, _, hr, rfl, by omega, fun hn => by rw [hs0, if_neg (by omega), Nat.zero_add]⟩, fun w => ?_⟩
      simp only [execOp, ho, e1, r1.int, r2.none_, r3.none_, Instr.sliceAt, Sem.run_bind, run_underlying hT, Result.andThen_ok, Instr.slice, Instr.sliceBounds, sizeOf'_run hs, Sem.run_pure, bound_run g0 g1]
      split <;> simp [add_none]
    · rename_i k j q1 q2 q3
      obtain ⟨g0, g1, h⟩ := h
      refine ⟨_, h, fun ρ A hR => ?_⟩
      have e1 := compA_is hx (hR.arg (x := x') (by simp [O.args]))
      rw [hp] at e1
      obtain ⟨r1, r2, r3⟩ := R ρ A hR
      rw [q1] at r1; rw [q2] at r2; rw [q3] at r3
      simp only [Is] at e1
      obtain ⟨r, hr, hs0, hc, e1⟩ := e1
      refine ⟨.slice (some ⟨r.b, 0, none⟩) j.toNat r.c, by simp only [Is]; exact ⟨r, hr, hs0, by omega, rfl⟩, fun w => ?_⟩
      have hb : j ≤ ((r.c : Nat) : Int) := by omega
      simp only [execOp, ho, e1, r1.none_, r2.int, r3.none_, Instr.sliceAt, Sem.run_bind, run_underlying hT, Result.andThen_ok, Instr.slice, Instr.sliceBounds, sizeOf'_run hs, Sem.run_pure, bound_run g0 hb]
      split <;> simp [add_none]
    · rename_i k l k' j q1 q2 q3
      obtain ⟨g0, g1, g2, h⟩ := h
      refine ⟨_, h, fun ρ A hR => ?_⟩
      have e1 := compA_is hx (hR.arg (x := x') (by simp [O.args]))
      rw [hp] at e1
      obtain ⟨r1, r2, r3⟩ := R ρ A hR
      rw [q1] at r1; rw [q2] at r2; rw [q3] at r3
      simp only [Is] at e1
      obtain ⟨r, hr, hs0, hc, e1⟩ := e1
      refine ⟨.slice (some ⟨r.b, (if r.c = l.toNat then 0 else l.toNat * s), none⟩) (j.toNat - l.toNat) (r.c - l.toNat), by simp only [Is]; exact ⟨r, _, _, hr, rfl, by omega, fun hn => by rw [hs0, if_neg (by omega), Nat.zero_add]⟩, fun w => ?_⟩
      have hb : j ≤ ((r.c : Nat) : Int) := by omega
      have hg0 : 0 ≤ j := by omega
      simp only [execOp, ho, e1, r1.int, r2.int, r3.none_, Instr.sliceAt, Sem.run_bind, run_underlying hT, Result.andThen_ok, Instr.slice, Instr.sliceBounds, sizeOf'_run hs, Sem.run_pure, bound_run hg0 hb, bound_run2 g0 g1]
      split <;> simp [add_none]
    · exact h.elim
  · rename_i id off n hp
    split at h
    · rename_i k l q1 q2 q3
      obtain ⟨g0, g1, h⟩ := h
      refine ⟨_, h, fun ρ A hR => ?_⟩
      have e1 := compA_is hx (hR.arg (x := x') (by simp [O.args]))
      rw [hp] at e1
      obtain ⟨r1, r2, r3⟩ := R ρ A hR
      rw [q1] at r1; rw [q2] at r2; rw [q3] at r3
      simp only [Is] at e1
      obtain ⟨r, a, c, hr, e1, hc, ha⟩ := e1
      refine ⟨.slice (some (if c = l.toNat then a else a.add (l.toNat * s))) (n - l.toNat) (c - l.toNat), by simp only [Is]; exact ⟨r, _, _, hr, rfl, by omega, fun hn => by rw [if_neg (by omega), ha (by omega), add_none, Nat.add_assoc]⟩, fun w => ?_⟩
      simp only [execOp, ho, e1, r1.int, r2.none_, r3.none_, Instr.sliceAt, Sem.run_bind, run_underlying hT, Result.andThen_ok, Instr.slice, Instr.sliceBounds, sizeOf'_run hs, Sem.run_pure, bound_run g0 g1]
      split <;> simp
    · rename_i k j q1 q2 q3
      obtain ⟨g0, g1, h⟩ := h
      refine ⟨_, h, fun ρ A hR => ?_⟩
      have e1 := compA_is hx (hR.arg (x := x') (by simp [O.args]))
      rw [hp] at e1
      obtain ⟨r1, r2, r3⟩ := R ρ A hR
      rw [q1] at r1; rw [q2] at r2; rw [q3] at r3
      simp only [Is] at e1
      obtain ⟨r, a, c, hr, e1, hc, ha⟩ := e1
      refine ⟨.slice (some a) j.toNat c, by simp only [Is]; exact ⟨r, _, _, hr, rfl, by omega, fun hn => ha (by omega)⟩, fun w => ?_⟩
      have hb : j ≤ ((c : Nat) : Int) := by omega
      simp only [execOp, ho, e1, r1.none_, r2.int, r3.none_, Instr.sliceAt, Sem.run_bind, run_underlying hT, Result.andThen_ok, Instr.slice, Instr.sliceBounds, sizeOf'_run hs, Sem.run_pure, bound_run g0 hb]
      have hz : a.add 0 = a := by simp [Addr.add]
      split <;> simp [hz]
    · exact h.elim
  · rename_i hp
    have z : ∀ (k : IntKind) code w, (Instr.sliceBound (.int k 0) 0 code).run P w = .ok 0 w := fun k code w => bound_run (i := 0) (y := 0) (Int.le_refl 0) (Int.le_refl 0) w
    have fin : ∀ {v1 v2 v3 : Option AV}, K .nilsl → (∀ (ρ : Rho) (rlo rhi rmx : Option Value) (w : World), RelO ρ v1 rlo → RelO ρ v2 rhi → RelO ρ v3 rmx → (Instr.sliceBounds true 0 0 rlo rhi rmx).run P w = .ok (0, 0, 0) w) →
        lo'.map (ev t) = v1 → hi'.map (ev t) = v2 → mx'.map (ev t) = v3 → ∃ v, K v ∧ PV P o (.slc s x' lo' hi' mx') t v := by
      intro v1 v2 v3 hK hz q1 q2 q3
      refine ⟨_, hK, fun ρ A hR => ⟨.slice none 0 0, by simp only [Is], fun w => ?_⟩⟩
      have e1 := compA_is hx (hR.arg (x := x') (by simp [O.args]))
      rw [hp] at e1; simp only [Is] at e1
      obtain ⟨r1, r2, r3⟩ := R ρ A hR
      rw [q1] at r1; rw [q2] at r2; rw [q3] at r3
      simp [execOp, ho, e1, Instr.sliceAt, run_underlying hT, Instr.slice, hz ρ _ _ _ w r1 r2 r3, sizeOf'_run hs]
    split at h
    · rename_i q1 q2 q3; exact fin h (fun ρ _ _ _ w r1 r2 r3 => by rw [r1.none_, r2.none_, r3.none_]; simp [Instr.sliceBounds]) q1 q2 q3
    · rename_i q1 q2 q3; exact fin h (fun ρ _ _ _ w r1 r2 r3 => by rw [r1.int, r2.none_, r3.none_]; simp [Instr.sliceBounds, z]) q1 q2 q3
    · rename_i q1 q2 q3; exact fin h (fun ρ _ _ _ w r1 r2 r3 => by rw [r1.none_, r2.int, r3.none_]; simp [Instr.sliceBounds, z]) q1 q2 q3
    · rename_i q1 q2 q3; exact fin h (fun ρ _ _ _ w r1 r2 r3 => by rw [r1.int, r2.int, r3.int]; simp [Instr.sliceBounds, z]) q1 q2 q3
    · rename_i q1 q2 q3; exact fin h (fun ρ _ _ _ w r1 r2 r3 => by rw [r1.none_, r2.int, r3.int]; simp [Instr.sliceBounds, z]) q1 q2 q3
    · exact h.elim
  · exact h.elim
end

def ACalls (P : Program) (W : Nat → Prop) (f : Nat) (args : List AV) (h : AH) (n : Nat) (v : AV) (h' : AH) (n' : Nat) : Prop :=
  n ≤ n' ∧ ∀ (ρ : Rho) (w : World) (vs : List Value), Sim ρ h w → IsL ρ args vs → (∀ i, n ≤ i → i < n' → ρ i = none) →
    Calls P f vs.toArray w fun e w' => ∃ rv ρ', e = .returned rv ∧ Is ρ' v rv ∧ Sim ρ' h' w' ∧ Cx ⟨ρ, w, W, n, n'⟩ ρ' w'

def RO (P : Program) (W : Nat → Prop) (o : Oper) (ds : List Nat) (t : List AV) (h : AH) (n : Nat) (v : AV) (h' : AH) (n' : Nat) : Prop :=
  n ≤ n' ∧ ∀ (ρ : Rho) (a : Act) (w : World) (Kr : Act → World → Prop) (Qr : Exit → Act → World → Prop), Rel ρ ds t a → Sim ρ h w → (∀ i, n ≤ i → i < n' → ρ i = none) →
    (∀ rv ρ' w', Is ρ' v rv → Sim ρ' h' w' → Cx ⟨ρ, w, W, n, n'⟩ ρ' w' → Kr (a.put o.dst rv) w') → o.wp P a w Kr Qr

section
variable {P : Program} {o : Oper} {t : List AV}

theorem wp_value {a : Act} {w w' : World} {rv : Value} {Kr : Act → World → Prop} {Qr : Exit → Act → World → Prop} (hr : (execOp a.eval o).run P w = .ok (.value rv) w') (h : Kr (a.put o.dst rv) w') : o.wp P a w Kr Qr := by
  unfold Oper.wp; rw [hr]; exact h
theorem wp_skip' {a : Act} {w w' : World} {Kr : Act → World → Prop} {Qr : Exit → Act → World → Prop} (hr : (execOp a.eval o).run P w = .ok .skip w') (h : Kr (a.put o.dst undef) w') : o.wp P a w Kr Qr := by
  unfold Oper.wp; rw [hr]; exact h
theorem wp_enter {a : Act} {w w' : World} {f : Nat} {args : Array Value} {Kr : Act → World → Prop} {Qr : Exit → Act → World → Prop} (hr : (execOp a.eval o).run P w = .ok (.enter f args) w')
    (h : Calls P f args w' fun e w'' => ∃ rv, e = .returned rv ∧ Kr (a.put o.dst rv) w'') : o.wp P a w Kr Qr := by
  unfold Oper.wp; rw [hr]
  refine Calls.mono h fun e w'' he => ?_
  obtain ⟨rv, rfl, hk⟩ := he
  exact hk

theorem RO.of_PV {o' : O} {v : AV} (h : PV P o o' t v) (n : Nat) : RO P none' o o'.reads t emp n v emp n :=
  ⟨Nat.le_refl _, fun ρ a w Kr Qr hr hs hf hk => by
    obtain ⟨rv, hi, hrun⟩ := h ρ a hr
    exact wp_value (hrun w) (hk rv ρ w hi (Sim.emp _ _) (Cx.refl ρ w _ _ _ hf))⟩

theorem mix_same (n : Nat) (g new : AH) : mix n n g new = g := by
  funext i; simp only [mix]; split
  · omega
  · rfl
theorem mix_upd (n : Nat) (g : AH) (b : Option Blk) : mix n (n + 1) g (upd emp n b) = upd g n b := by
  funext i; simp only [mix, upd]
  by_cases h : i = n
  · subst h; simp
  · rw [if_neg (by omega), if_neg h]

theorem RO.lift {ds : List Nat} {n n' : Nat} {v : AV} {new : AH} (h : RO P none' o ds t emp n v new n') (g : AH) : RO P none' o ds t g n v (mix n n' g new) n' :=
  ⟨h.1, fun ρ a w Kr Qr hr hs hf hk => h.2 ρ a w Kr Qr hr (Sim.emp _ _) hf fun rv ρ' w' hi hs' hc => hk rv ρ' w' hi (hs.mix hc hf hs') hc⟩

theorem RO.maker {ds : List Nat} {ty : Nat} {z : List AV} {v : AV} {rv : Nat → Value} (n : Nat)
    (hv : ∀ (ρ : Rho) b, ρ n = some ⟨b, 0, 0⟩ → Is ρ v (rv b))
    (h : ∀ ρ a, Rel ρ ds t a → ∃ rc : List Value, IsL ρ z rc ∧ ∀ w, (execOp a.eval o).run P w = .ok (.value (rv w.heap.size)) (w.alloc (.cells rc.toArray ty))) :
    RO P none' o ds t emp n v (upd emp n (some ⟨ty, z, true, 0⟩)) (n + 1) :=
  ⟨Nat.le_succ n, fun ρ a w Kr Qr hr hs hf hk => by
    obtain ⟨rc, hz, hrun⟩ := h ρ a hr
    let ρ' : Rho := fun i => if i = n then some ⟨w.heap.size, 0, 0⟩ else ρ i
    have e : Ext ρ ρ' := fun i r hi => by
      by_cases hn : i = n
      · subst hn; rw [hf i (Nat.le_refl _) (Nat.lt_succ_self _)] at hi; cases hi
      · simp [ρ', hn, hi]
    have hn : ρ' n = some ⟨w.heap.size, 0, 0⟩ := by simp [ρ']
    have hb : (w.alloc (.cells rc.toArray ty)).heap[w.heap.size]? = some (.cells rc.toArray ty (0, 0)) := heap_alloc_new w _
    refine wp_value (hrun w) (hk _ ρ' _ (hv ρ' _ hn) ⟨fun i b hi => ?_, fun i j bi bj ri rj hi hj hij => ?_⟩ ⟨rfl, rfl, rfl, by simp, fun b hb' _ => heap_alloc_old w _ b hb', fun i hi => ?_, fun i hi => ?_, fun i r h1 h2 h3 => ?_, dle_refl _⟩)
    · simp only [upd] at hi
      split at hi
      · rename_i hin
        subst hin
        cases hi
        refine ⟨_, hn, fun k c hk' => ?_, fun _ => ⟨rfl, _, hb, by simp [hz.length], fun _ => by simp [hz.length], fun h => absurd rfl h⟩, fun h => by cases h⟩
        obtain ⟨u, hu, hi⟩ := hz.get k c hk'
        exact ⟨u, by rw [cell_of_row _ _ _ _ _ _ hb]; simpa using hu, hi.mono e⟩
      · simp [L.emp] at hi
    · simp only [upd] at hi hj
      split at hi
      · split at hj
        · omega
        · simp [L.emp] at hj
      · simp [L.emp] at hi
    · simp only at hi; simp [ρ', Nat.ne_of_lt hi]
    · simp only at hi
      have : i ≠ n := by omega
      simp [ρ', this]
    · simp only at h1 h2
      obtain rfl : i = n := by omega
      rw [hn] at h3; cases h3
      exact .inl (Nat.le_refl _)⟩

theorem o_alloc {ty : Nat} {z : List AV} (ho : o.op = .alloc ty) (hz : zeroOf P ty = some z) (n : Nat) :
    RO P none' o (O.alloc ty z).reads t emp n (.ptr n 0) (upd emp n (some ⟨ty, z, true, 0⟩)) (n + 1) := by
  obtain ⟨i, v, hi, hiz, hs, hrun, his⟩ := zeroOf_run hz
  refine RO.maker (rv := fun b => .pointer (some ⟨b, 0, none⟩)) n (fun ρ b hb => by simp only [Is]; exact ⟨_, hb, rfl⟩) fun ρ a _ => ⟨v.cells.toList, his ρ, fun w => ?_⟩
  simp [execOp, ho, Instr.alloc, hrun, newVar, newRow]
theorem o_box {ty : Nat} {x : Operand} {x' : A} (ho : o.op = .box ty x) (hx : compA x = some x') (hst : (ev t x').storable = true) (n : Nat) :
    RO P none' o (O.box ty x').reads t emp n (.ptr n 0) (upd emp n (some ⟨ty, (ev t x').cells, true, 0⟩)) (n + 1) := by
  refine RO.maker (rv := fun b => .pointer (some ⟨b, 0, none⟩)) n (fun ρ b hb => by simp only [Is]; exact ⟨_, hb, rfl⟩) fun ρ a hR => ?_
  have e1 := compA_is hx (hR.arg (x := x') (by simp [O.args]))
  refine ⟨(a.eval x).cells.toList, (e1.storable hst).1, fun w => ?_⟩
  simp [execOp, ho, Instr.box, newVar, newRow]

def repA (n : Nat) (z : List AV) : List AV := (List.replicate n z).flatten
theorem repA_is {ρ : Rho} {z : List AV} {vs : List Value} (h : IsL ρ z vs) : ∀ n, IsL ρ (repA n z) (List.replicate n vs).flatten
  | 0 => by simp [repA, IsL.nil]
  | n + 1 => by
    have ih := repA_is h n
    simp only [repA, List.replicate_succ, List.flatten_cons] at ih ⊢
    exact h.append ih
theorem rep_range (vs : Array Value) : ∀ n, ((List.range (n * vs.size)).map (vs[· % vs.size]!)) = (List.replicate n vs.toList).flatten
  | 0 => by simp
  | n + 1 => by
    have ih := rep_range vs n
    rw [Nat.succ_mul, Nat.add_comm, List.range_add, List.map_append, List.map_map, List.replicate_succ, List.flatten_cons, ← ih]
    congr 1
    · apply List.ext_getElem?
      intro i
      by_cases hi : i < vs.size
      · simp [hi, Nat.mod_eq_of_lt]
      · simp [hi]
    · apply List.map_congr_left
      intro i _
      simp
theorem o_mks {T e : TypeId} {i : TypeInfo} {z : List AV} {l c : Operand} {l' c' : A} (ho : o.op = .makeSlice T l c) (hT : P.underlying T = some (.slice e)) (hi : P.info? e = some i) (hz : zeroOf P e = some z)
    (hs0 : i.size ≠ 0) (hby : i.bytes ≤ 4096) (hl : compA l = some l') (hc : compA c = some c') {k k' : IntKind} {m p : Int} (el : ev t l' = .int k m) (ec : ev t c' = .int k' p)
    (h0 : 0 ≤ m) (h1 : m ≤ p) (h2 : p ≤ 4294967296) (n : Nat) :
    RO P none' o (O.mks e i.size z l' c').reads t emp n (.sl n 0 m.toNat p.toNat) (upd emp n (some ⟨e, repA p.toNat z, true, 0⟩)) (n + 1) := by
  obtain ⟨i', v, hi', hiz, hs, hrun, his⟩ := zeroOf_run hz
  rw [hi] at hi'; cases hi'
  refine RO.maker (rv := fun b => .slice (some ⟨b, 0, none⟩) m.toNat p.toNat) n (fun ρ b hb => by simp only [Is]; exact ⟨_, hb, rfl⟩) fun ρ a hR => ?_
  have e1 := compA_is hl (hR.arg (x := l') (by simp [O.args]))
  have e2 := compA_is hc (hR.arg (x := c') (by simp [O.args]))
  rw [el] at e1; rw [ec] at e2; simp only [Is] at e1 e2
  refine ⟨(List.replicate p.toNat v.cells.toList).flatten, repA_is (his ρ) _, fun w => ?_⟩
  have hb : (i.bytes : Int) * p ≤ 281474976710656 := by
    have h3 : (i.bytes : Int) * p ≤ 4096 * p := Int.mul_le_mul_of_nonneg_right (by omega) (by omega)
    omega
  have hr := run_make (P := P) w T e i v hT hi hiz k k' m p h0 h1 hb (by omega)
  have hm : madeCells v.cells (p.toNat * i.size) = (List.replicate p.toNat v.cells.toList).flatten.toArray := by
    rw [← hs, ← rep_range]
    apply Array.ext'
    simp [madeCells]
  rw [hm] at hr
  simp [execOp, ho, e1, e2, hr]

theorem foldl_put (l : List Value) : ∀ (k off : Nat) (cs : Array Value), off + k + l.length ≤ cs.size →
    ((l.zipIdx k).foldl (fun (cs : Array Value) (x : Value × Nat) => cs.setIfInBounds (off + x.2) x.1) cs).toList = cs.toList.take (off + k) ++ l ++ cs.toList.drop (off + k + l.length) := by
  induction l with
  | nil => intro k off cs h; simp
  | cons v l ih =>
    intro k off cs h
    simp only [List.length_cons] at h
    simp only [List.zipIdx_cons, List.foldl_cons]
    rw [ih (k + 1) off _ (by simp; omega)]
    simp only [Array.toList_setIfInBounds, List.length_cons]
    have h1 : off + k < cs.toList.length := by simp; omega
    rw [show off + (k + 1) = off + k + 1 by omega, List.take_succ_eq_append_getElem (by simp; omega), List.take_set_of_le (by omega), List.drop_set_of_lt (by omega)]
    simp
    congr 1
    omega

def PartsRel (ρ : Rho) (place : Nat → Option (Nat × Nat)) : List (Nat × Value) → List (Nat × Nat × AV) → Prop
  | [], [] => True
  | (i, v) :: r, (off, s, a) :: q => place i = some (off, s) ∧ Is ρ a v ∧ PartsRel ρ place r q
  | _, _ => False
theorem putA_is {ρ : Rho} {z cs : List AV} {rz rv : List Value} (hz : IsL ρ z rz) (hc : IsL ρ cs rv) (off : Nat) : IsL ρ (putA z off cs) (rz.take off ++ rv ++ rz.drop (off + rv.length)) := by
  rw [hc.length]
  exact ((hz.take off).append hc).append (hz.drop _)
theorem putA_length {z cs : List AV} {off : Nat} (h : off + cs.length ≤ z.length) : (putA z off cs).length = z.length := by simp [putA]; omega
theorem fill_is {ρ : Rho} {place : Nat → Option (Nat × Nat)} : ∀ {ps : List (Nat × Value)} {qs : List (Nat × Nat × AV)} {z z' : List AV} {c : Array Value}, PartsRel ρ place ps qs → IsL ρ z c.toList →
    fillA z qs = some z' → ∃ c', Instr.fill place c ps = some c' ∧ IsL ρ z' c'.toList
  | [], [], z, z', c, _, hz, h => by simp only [fillA, Option.some.injEq] at h; subst h; exact ⟨c, rfl, hz⟩
  | (i, v) :: r, (off, s, a) :: q, z, z', c, hp, hz, h => by
    obtain ⟨h1, h2, h3⟩ := hp
    simp only [fillA] at h
    split at h
    · rename_i hc
      obtain ⟨hst, hl, hfit⟩ := hc
      have h4 := (h2.storable hst).1
      have hvs : v.cells.size = s := by have := h4.length; simp at this; omega
      have hcs : c.size = z.length := by simpa using hz.length
      have hput := putA_is hz h4 off
      have hf := foldl_put v.cells.toList 0 off c (by simp; omega)
      have hfit' : ¬ (off + v.cells.size > c.size) := by omega
      obtain ⟨c', h5, h6⟩ := fill_is (c := v.cells.zipIdx.foldl (fun cs (x : Value × Nat) => cs.setIfInBounds (off + x.2) x.1) c) h3 (by
        rw [← Array.foldl_toList, Array.toList_zipIdx, hf]; simpa using hput) h
      refine ⟨c', ?_, h6⟩
      simp only [Instr.fill, h1]
      rw [if_neg (by simp [hvs]; omega)]
      exact h5
    · cases h
  | [], _ :: _, _, _, _, hp, _, _ => by simp [PartsRel] at hp
  | _ :: _, [], _, _, _, hp, _, _ => by simp [PartsRel] at hp

theorem compParts_rel {ρ : Rho} {a : Act} {pl : Array (Nat × Nat)} : ∀ {ps : List (Nat × Operand)} {l : List (Nat × Nat × A)}, compParts pl ps = some l → Rel ρ ((l.map (·.2.2)).flatMap A.reads) t a →
    PartsRel ρ (pl[·]?) (ps.map fun p => (p.1, a.eval p.2)) (l.map fun p => (p.1, p.2.1, ev t p.2.2))
  | [], l, h, _ => by simp only [compParts, Option.some.injEq] at h; subst h; simp [PartsRel]
  | (i, x) :: r, l, h, hr => by
    simp only [compParts] at h
    split at h
    · rename_i q y m h1 h2 h3
      cases h
      simp only [List.map_cons, PartsRel]
      exact ⟨h1, compA_is h2 fun d hd => hr d (by simp [hd]), compParts_rel h3 fun d hd => hr d (by
        simp only [List.map_cons, List.flatMap_cons, List.mem_append]; exact .inr hd)⟩
    · cases h
theorem x_build {T : TypeId} {ps : Array (Nat × Operand)} {fs : Array Field} {z : List AV} {pl : List (Nat × Nat)} {l : List (Nat × Nat × A)} {K : AV → Prop} (ho : o.op = .build T ps) (hT : P.underlying T = some (.struct fs)) (hz : zeroOf P T = some z)
    (hpl : placesOf P fs = some pl) (hl : compParts pl.toArray ps.toList = some l) (h : xp (.build z l) t K) : ∃ v, K v ∧ PV P o (.build z l) t v := by
  simp only [xp] at h
  split at h
  · rename_i cs hcs
    obtain ⟨i, v, hi, hiz, hs, hrun, his⟩ := zeroOf_run hz
    refine ⟨_, h, fun ρ a hR => ?_⟩
    have hp := compParts_rel hl (hR.args (xs := l.map (·.2.2)) (by simp [O.args]))
    obtain ⟨c', hf, hc'⟩ := fill_is hp (his ρ) hcs
    refine ⟨.agg c', by simp only [Is]; exact ⟨c'.toList, by simp, hc'⟩, fun w => ?_⟩
    have hb : P.built T (ps.toList.map fun p => (p.1, a.eval p.2)) = some c' := by
      unfold placesOf at hpl
      simp only [Program.built, hi, hT, hiz, hpl]
      exact hf
    have := run_build (P := P) w T (ps.map fun p => (p.1, a.eval p.2)) c' (by simpa using hb)
    simp [execOp, ho, this]
  · exact h.elim
end
section
variable {P : Program} {o : Oper} {t : List AV}

def elemsOf (es : Nat) (ps : List (Nat × AV)) : List (Nat × Nat × AV) := ps.map fun p => (p.1 * es, es, p.2)
theorem compElems_rel {ρ : Rho} {a : Act} {es : Nat} : ∀ {ps : List (Nat × Operand)} {l : List (Nat × A)}, compElems ps = some l → Rel ρ ((l.map (·.2)).flatMap A.reads) t a →
    PartsRel ρ (fun i => some (i * es, es)) (ps.map fun p => (p.1, a.eval p.2)) (elemsOf es (l.map fun p => (p.1, ev t p.2)))
  | [], l, h, _ => by simp only [compElems, Option.some.injEq] at h; subst h; simp [PartsRel, elemsOf]
  | (i, x) :: r, l, h, hr => by
    simp only [compElems] at h
    split at h
    · rename_i y m h2 h3
      cases h
      have ih := compElems_rel (es := es) h3 (fun d hd => hr d (by simp only [List.map_cons, List.flatMap_cons, List.mem_append]; exact .inr hd))
      simp only [elemsOf, List.map_cons, PartsRel] at ih ⊢
      exact ⟨trivial, compA_is h2 fun d hd => hr d (by simp [hd]), ih⟩
    · cases h
theorem o_lit {T e : TypeId} {i : TypeInfo} {z : List AV} {len : Nat} {ps : Array (Nat × Operand)} {l : List (Nat × A)} (ho : o.op = .buildSlice T len ps) (hT : P.underlying T = some (.slice e)) (hi : P.info? e = some i) (hz : zeroOf P e = some z)
    (hs0 : i.size ≠ 0) (hsm : len * i.size ≤ 65536) (hl : compElems ps.toList = some l) {cs : List AV} (hf : fillA (repA len z) (elemsOf i.size (l.map fun p => (p.1, ev t p.2))) = some cs) (n : Nat) :
    RO P none' o (O.lit e i.size len z l).reads t emp n (.sl n 0 len len) (upd emp n (some ⟨e, cs, true, 0⟩)) (n + 1) := by
  obtain ⟨i', v, hi', hiz, hs, hrun, his⟩ := zeroOf_run hz
  rw [hi] at hi'; cases hi'
  refine RO.maker (rv := fun b => .slice (some ⟨b, 0, none⟩) len len) n (fun ρ b hb => by simp only [Is]; exact ⟨_, hb, rfl⟩) fun ρ a hR => ?_
  have hp := compElems_rel (es := i.size) hl (hR.args (xs := l.map (·.2)) (by simp [O.args]))
  obtain ⟨c', h1, h2⟩ := fill_is (c := ((List.replicate len v.cells.toList).flatten.toArray)) hp (by simpa using repA_is (his ρ) len) hf
  refine ⟨c'.toList, h2, fun w => ?_⟩
  by_cases h0 : len * i.size = 0
  · have hlen : len = 0 := by
      rcases Nat.mul_eq_zero.1 h0 with h | h
      · exact h
      · exact absurd h hs0
    subst hlen
    simp at h1
    simp [execOp, ho, Instr.buildSlice, run_underlying hT, sizeOf, typeInfo, hi, newRow, Array.range_zero', h1]
  · have hr := run_buildSlice (P := P) w T e len (ps.map fun p => (p.1, a.eval p.2)) c' i v hT hi hiz (by omega) h0 (by
      rw [← hs]
      have : ((Array.range (len * v.cells.size)).map (v.cells[· % v.cells.size]!)) = (List.replicate len v.cells.toList).flatten.toArray := by
        rw [← rep_range]; apply Array.ext'; simp
      rw [this, hs]
      simpa using h1)
    simp [execOp, ho, hr]

theorem o_ld1 {T : TypeId} {x : Operand} {x' : A} (ho : o.op = .load T x) (hx : compA x = some x') (ha : isAgg' P T = some false) {i off : Nat} (hp : ev t x' = .ptr i off) {h : AH} {b : Blk} (hb : h i = some b) {c : AV} (hc : b.cells[off]? = some c) (n : Nat) :
    RO P none' o (O.ld1 x').reads t h n c h n :=
  ⟨Nat.le_refl _, fun ρ a w Kr Qr hr hs hf hk => by
    have e1 := compA_is hx (hr.arg (x := x') (by simp [O.args]))
    rw [hp] at e1; simp only [Is] at e1
    obtain ⟨r, hr', e1⟩ := e1
    obtain ⟨r', h1, h2⟩ := hs.lies i b hb
    rw [hr'] at h1; cases h1
    obtain ⟨v, h3, h4⟩ := h2.cells off c hc
    refine wp_value (w' := w) (rv := v) ?_ (hk v ρ w h4 hs (Cx.refl ρ w _ _ _ hf))
    simp [execOp, ho, e1, Instr.loadAt, Instr.sureAddr, loadVar, isAgg'_run ha, h3]⟩
theorem o_ld {T : TypeId} {x : Operand} {x' : A} {s : Nat} (ho : o.op = .load T x) (hx : compA x = some x') (ha : isAgg' P T = some true) (hsz : sizeOf' P T = some s) {i off : Nat} (hp : ev t x' = .ptr i off) {h : AH} {b : Blk} (hb : h i = some b)
    (hl : off + s ≤ b.cells.length) (n : Nat) :
    RO P none' o (O.ld s x').reads t h n (.agg (cutA b.cells off s)) h n :=
  ⟨Nat.le_refl _, fun ρ a w Kr Qr hr hs hf hk => by
    have e1 := compA_is hx (hr.arg (x := x') (by simp [O.args]))
    rw [hp] at e1; simp only [Is] at e1
    obtain ⟨r, hr', e1⟩ := e1
    obtain ⟨r', h1, h2⟩ := hs.lies i b hb
    rw [hr'] at h1; cases h1
    have hall : ∀ m, m ≤ s → ∃ vs : List Value, vs.length = m ∧ IsL ρ (cutA b.cells off m) vs ∧ ∀ j v, vs[j]? = some v → w.cell? ((⟨r.b, r.s + off, none⟩ : Addr).add j) = some v := by
      intro m hm
      induction m with
      | zero => exact ⟨[], rfl, by simp [cutA, IsL.nil], fun j v h => by simp at h⟩
      | succ m ih =>
        obtain ⟨vs, g1, g2, g3⟩ := ih (by omega)
        have hlt : off + m < b.cells.length := by omega
        obtain ⟨v, h3, h4⟩ := h2.cells (off + m) b.cells[off + m] (by simp [hlt])
        refine ⟨vs ++ [v], by simp [g1], ?_, fun j u hj => ?_⟩
        · have : cutA b.cells off (m + 1) = cutA b.cells off m ++ [b.cells[off + m]] := by
            simp only [cutA]
            rw [List.take_succ_eq_append_getElem (by simp; omega)]
            simp
          rw [this]
          exact g2.append (IsL.cons h4 (IsL.nil ρ))
        · rw [List.getElem?_append] at hj
          split at hj
          · exact g3 j u hj
          · rename_i hjl
            have : j = m := by
              have := List.getElem?_eq_some_iff.1 hj
              obtain ⟨h5, _⟩ := this
              simp at h5; omega
            subst this
            simp [g1] at hj
            subst hj
            rw [add_none, Nat.add_assoc]; exact h3
    obtain ⟨vs, g1, g2, g3⟩ := hall s (Nat.le_refl _)
    have hrun := run_loadCells_list (P := P) w ⟨r.b, r.s + off, none⟩ vs g3
    rw [g1] at hrun
    refine wp_value (w' := w) (rv := .agg vs.toArray) ?_ (hk _ ρ w (by simp only [Is]; exact ⟨vs, rfl, g2⟩) hs (Cx.refl ρ w _ _ _ hf))
    simp [execOp, ho, e1, Instr.loadAt, Instr.sureAddr, loadVar, isAgg'_run ha, sizeOf'_run hsz, hrun]⟩

theorem Sim.write {ρ : Rho} {h : AH} {w : World} (s : Sim ρ h w) {i : Nat} {b b' : Blk} {r : Ref} {cs cs' : Array Value} (hb : h i = some b) (hw : b.wr = true) (hr : ρ i = some r)
    (hcs : w.heap[r.b]? = some (.cells cs b.ty (0, 0))) (h1 : b'.wr = true) (h2 : b'.ty = b.ty) (h3 : b'.op = b.op) (hs : cs'.size = cs.size) (hlen : b'.cells.length ≤ cs.size) (hcl : b.op = 0 → b'.cells.length = cs.size)
    (hc : ∀ (k : Nat) (c : AV), b'.cells[k]? = some c → ∃ v, cs'[k]? = some v ∧ Is ρ c v) : Sim ρ (upd h i (some b')) (w.setRow r.b cs') := by
  obtain ⟨r', hr', hat⟩ := s.lies i b hb
  rw [hr] at hr'; cases hr'
  obtain ⟨hs0, cs0, hcs0, g1, g2, g3⟩ := hat.own hw
  rw [hcs] at hcs0; cases hcs0
  have hrow := setRow_heap w r.b cs cs' b.ty (0, 0) hcs
  refine ⟨fun j bj hj => ?_, fun j k bj bk rj rk hj hk hjk hwr hne hrj hrk => ?_⟩
  · simp only [upd] at hj
    split at hj
    · rename_i hji
      subst hji; cases hj
      refine ⟨r, hr, fun k c hk => ?_, fun _ => ⟨hs0, cs', by rw [hrow, h2], by omega, fun h0 => by rw [hs]; exact (hcl (h3 ▸ h0)).symm, fun h0 => by rw [hs, h3]; exact g3 (h3 ▸ h0)⟩, fun h => by rw [h1] at h; cases h⟩
      obtain ⟨v, hv, hi⟩ := hc k c hk
      exact ⟨v, by rw [hs0, Nat.zero_add, cell_of_row _ _ _ _ _ _ hrow]; exact hv, hi⟩
    · rename_i hji
      obtain ⟨rj, hrj, hatj⟩ := s.lies j bj hj
      refine ⟨rj, hrj, ?_⟩
      by_cases hne : bj.wr = true ∨ bj.cells ≠ []
      · have hnb := s.inj i j b bj r rj hb hj (Ne.symm hji) hw hne hr hrj
        exact hatj.keep (Ext.refl ρ) (setRow_other w r.b rj.b cs' (Ne.symm hnb))
      · refine ⟨fun k c hk => ?_, fun hb' => absurd (Or.inl hb') hne, fun _ _ hc => absurd (Or.inr hc) hne⟩
        have : bj.cells = [] := by simpa using fun hc => hne (.inr hc)
        simp [this] at hk
  · have old : ∀ m bm, upd h i (some b') m = some bm → ∃ bm', h m = some bm' ∧ (bm.wr = true → bm'.wr = true) ∧ ((bm.wr = true ∨ bm.cells ≠ []) → (bm'.wr = true ∨ bm'.cells ≠ [])) := fun m bm hm => by
      simp only [upd] at hm
      split at hm
      · rename_i hmi; subst hmi; exact ⟨b, hb, fun _ => hw, fun _ => .inl hw⟩
      · exact ⟨bm, hm, id, id⟩
    obtain ⟨bj', hj', wj, _⟩ := old j bj hj
    obtain ⟨bk', hk', _, nk⟩ := old k bk hk
    exact s.inj j k bj' bk' rj rk hj' hk' hjk (wj hwr) (nk hne) hrj hrk

theorem Cx.write {ρ : Rho} {w : World} {i n : Nat} {r : Ref} {cs : Array Value} (hi : i < n) (hr : ρ i = some r) (n' : Nat) (hf : ∀ i, n ≤ i → i < n' → ρ i = none) : Cx ⟨ρ, w, (· = i), n, n'⟩ ρ (w.setRow r.b cs) :=
  ⟨rfl, rfl, rfl, by simp [World.setRow], fun b hb hh => setRow_other w r.b b cs (Ne.symm (hh i r hi rfl hr)), fun _ _ => rfl, fun _ _ => rfl, fun j rj h1 h2 h3 => (by rw [hf j h1 h2] at h3; cases h3), dle_refl _⟩

theorem put_get {α : Type} {z cs : List α} {off : Nat} (hfit : off + cs.length ≤ z.length) (k : Nat) :
    (z.take off ++ cs ++ z.drop (off + cs.length))[k]? = if k < off then z[k]? else if k < off + cs.length then cs[k - off]? else z[k]? := by
  rw [List.append_assoc, List.getElem?_append]
  simp only [List.length_take]
  split
  · rename_i h1
    rw [if_pos (by omega), List.getElem?_take, if_pos (by omega)]
  · rename_i h1
    rw [if_neg (by omega), List.getElem?_append]
    rw [show min off z.length = off by omega]
    split
    · rename_i h2
      rw [if_pos (by omega)]
    · rename_i h2
      rw [if_neg (by omega), List.getElem?_drop]
      rw [show off + cs.length + (k - off - cs.length) = k by omega]
def Pre (ρ : Rho) (z : List AV) (rz : List Value) : Prop := ∀ (k : Nat) (c : AV), z[k]? = some c → ∃ v, rz[k]? = some v ∧ Is ρ c v
theorem Pre.put {ρ : Rho} {z cs : List AV} {rz rv : List Value} {off : Nat} (hz : Pre ρ z rz) (hc : IsL ρ cs rv) (hfit : off + cs.length ≤ z.length) (hl : z.length ≤ rz.length) :
    Pre ρ (putA z off cs) (rz.take off ++ rv ++ rz.drop (off + rv.length)) := by
  intro k c hk
  have hcl := hc.length
  rw [putA, put_get hfit] at hk
  rw [put_get (by omega)]
  split at hk
  · rename_i h; rw [if_pos h]; exact hz k c hk
  · rename_i h
    rw [if_neg h]
    split at hk
    · rename_i h2; rw [if_pos (by omega)]; exact hc.get _ c hk
    · rename_i h2; rw [if_neg (by omega)]; exact hz k c hk

theorem o_st {T : TypeId} {x y : Operand} {x' y' : A} {s : Nat} (ho : o.op = .store T x y) (hx : compA x = some x') (hy : compA y = some y') (hsz : sizeOf' P T = some s) {i off : Nat} (hp : ev t x' = .ptr i off) {h : AH} {b : Blk}
    (hb : h i = some b) (hw : b.wr = true) (hst : (ev t y').storable = true) (hsl : (ev t y').cells.length = s) (hfit : off + s ≤ b.cells.length) {n : Nat} (hin : i < n) :
    RO P (· = i) o (O.st s x' y').reads t h n .any (upd h i (some { b with cells := putA b.cells off (ev t y').cells })) n :=
  ⟨Nat.le_refl _, fun ρ a w Kr Qr hr hs hf hk => by
    have e1 := compA_is hx (hr.arg (x := x') (by simp [O.args]))
    have e2 := compA_is hy (hr.arg (x := y') (by simp [O.args]))
    rw [hp] at e1; simp only [Is] at e1
    obtain ⟨r, hr', e1⟩ := e1
    obtain ⟨r', h1, h2⟩ := hs.lies i b hb
    rw [hr'] at h1; cases h1
    obtain ⟨hs0, cs, hcs, g1, g2, g3⟩ := h2.own hw
    obtain ⟨hst1, hst2⟩ := e2.storable hst
    have hvl : (a.eval y).cells.size = s := by have := hst1.length; simp at this; omega
    have hrun := run_storeCells_at P r.b off b.ty (a.eval y).cells.toList 0 cs w hcs (by simp; omega) hst2
    simp only [Nat.add_zero] at hrun
    refine wp_skip' (w' := w.setRow r.b (cs.toList.take off ++ (a.eval y).cells.toList ++ cs.toList.drop (off + (a.eval y).cells.toList.length)).toArray) ?_ (hk undef ρ _ (by simp only [Is]) (hs.write (b' := { b with cells := putA b.cells off (ev t y').cells }) hb hw hr' hcs hw rfl rfl ?_ ?_ ?_ ?_) (Cx.write hin hr' _ hf))
    · have hst' : (Instr.storeAt T (a.eval x) (a.eval y)).run P w = .ok () (w.setRow r.b (cs.toList.take off ++ (a.eval y).cells.toList ++ cs.toList.drop (off + (a.eval y).cells.toList.length)).toArray) := by
        rw [e1, ← hrun, hs0, Nat.zero_add]
        simp [Instr.storeAt, Instr.sureAddr, storeVar, sizeOf'_run hsz, hvl]
      simp only [execOp, ho, Sem.run_bind, hst', Result.andThen_ok, Sem.run_pure]
    · simp; omega
    · simp only; rw [putA_length (by omega)]; exact g1
    · intro h0; simp only; rw [putA_length (by omega)]; exact (g2 h0).symm
    · have hz : Pre ρ b.cells cs.toList := fun k c hk' => by
        obtain ⟨v, hv, hi⟩ := h2.cells k c hk'
        rw [hs0, Nat.zero_add, cell_of_row _ _ _ _ _ _ hcs] at hv
        exact ⟨v, by simpa using hv, hi⟩
      have := hz.put hst1 (off := off) (by omega) (by simpa using g1)
      intro k c hk'
      obtain ⟨v, hv, hi⟩ := this k c hk'
      exact ⟨v, by simpa using hv, hi⟩⟩
end

theorem read_cells {ρ : Rho} {w : World} {r : Ref} {b : Blk} (h : BlkAt ρ w r b) (off : Nat) : ∀ m, off + m ≤ b.cells.length →
    ∃ vs : List Value, vs.length = m ∧ IsL ρ (cutA b.cells off m) vs ∧ ∀ j v, vs[j]? = some v → w.cell? ((⟨r.b, r.s + off, none⟩ : Addr).add j) = some v := by
  intro m hm
  induction m with
  | zero => exact ⟨[], rfl, by simp [cutA, IsL.nil], fun j v h => by simp at h⟩
  | succ m ih =>
    obtain ⟨vs, g1, g2, g3⟩ := ih (by omega)
    have hlt : off + m < b.cells.length := by omega
    obtain ⟨v, h3, h4⟩ := h.cells (off + m) b.cells[off + m] (by simp [hlt])
    refine ⟨vs ++ [v], by simp [g1], ?_, fun j u hj => ?_⟩
    · have : cutA b.cells off (m + 1) = cutA b.cells off m ++ [b.cells[off + m]] := by
        simp only [cutA]
        rw [List.take_succ_eq_append_getElem (by simp; omega)]
        simp
      rw [this]
      exact g2.append (IsL.cons h4 (IsL.nil ρ))
    · rw [List.getElem?_append] at hj
      split at hj
      · exact g3 j u hj
      · rename_i hjl
        have : j = m := by
          have := List.getElem?_eq_some_iff.1 hj
          obtain ⟨h5, _⟩ := this
          simp at h5; omega
        subst this
        simp [g1] at hj
        subst hj
        rw [add_none, Nat.add_assoc]; exact h3

def Src (h : AH) (es : Nat) (x : AV) (m : Nat) (xs : List AV) : Prop := match x with
  | .sl j o k _ => k = m ∧ ∃ b, h j = some b ∧ o + m * es ≤ b.cells.length ∧ xs = cutA b.cells o (m * es)
  | .so j k => k = m ∧ ∃ b, h j = some b ∧ m * es ≤ b.cells.length ∧ xs = cutA b.cells 0 (m * es)
  | .sx j o k => k = m ∧ ∃ b, h j = some b ∧ o + m * es ≤ b.cells.length ∧ xs = cutA b.cells o (m * es)
  | .nilsl => m = 0 ∧ xs = []
  | .sl0 => m = 0 ∧ xs = []
  | _ => False
theorem Src.real {ρ : Rho} {h : AH} {w : World} {es m : Nat} {x : AV} {xs : List AV} {rx : Value} (hs : Src h es x m xs) (s : Sim ρ h w) (hi : Is ρ x rx) :
    (∃ a c news, rx = .slice (some a) m c ∧ List.length news = m * es ∧ IsL ρ xs news ∧ ∀ (j : Nat) (u : Value), news[j]? = some u → w.cell? (a.add j) = some u) ∨ (rx = .slice none 0 0 ∧ m = 0 ∧ xs = []) := by
  unfold Src at hs
  split at hs
  · obtain ⟨rfl, b, hb, hl, rfl⟩ := hs
    simp only [Is] at hi
    obtain ⟨r, hr, rfl⟩ := hi
    obtain ⟨r', hr', hat⟩ := s.lies _ b hb
    rw [hr] at hr'; cases hr'
    obtain ⟨vs, g1, g2, g3⟩ := read_cells hat _ _ hl
    exact .inl ⟨_, _, vs, rfl, g1, g2, g3⟩
  · obtain ⟨rfl, b, hb, hl, rfl⟩ := hs
    simp only [Is] at hi
    obtain ⟨r, hr, hs0, hc, rfl⟩ := hi
    obtain ⟨r', hr', hat⟩ := s.lies _ b hb
    rw [hr] at hr'; cases hr'
    obtain ⟨vs, g1, g2, g3⟩ := read_cells hat 0 (_ * es) (by rw [Nat.zero_add]; exact hl)
    exact .inl ⟨_, _, vs, rfl, g1, g2, by simpa [hs0] using g3⟩
  · obtain ⟨rfl, b, hb, hl, rfl⟩ := hs
    simp only [Is] at hi
    obtain ⟨r, a, c, hr, rfl, hc, ha⟩ := hi
    rename_i j o k
    by_cases h0 : k = 0
    · subst h0
      exact .inl ⟨a, c, [], rfl, by simp, by simp [cutA, IsL.nil], fun j u h => by simp at h⟩
    · have ha := ha h0
      subst ha
      obtain ⟨r', hr', hat⟩ := s.lies _ b hb
      rw [hr] at hr'; cases hr'
      obtain ⟨vs, g1, g2, g3⟩ := read_cells hat _ _ hl
      exact .inl ⟨_, _, vs, rfl, g1, g2, g3⟩
  · obtain ⟨rfl, rfl⟩ := hs
    simp only [Is] at hi
    exact .inr ⟨hi, rfl, rfl⟩
  · obtain ⟨rfl, rfl⟩ := hs
    simp only [Is] at hi
    obtain ⟨a, rfl⟩ := hi
    cases a with
    | none => exact .inr ⟨rfl, rfl, rfl⟩
    | some a => exact .inl ⟨a, 0, [], rfl, by simp, IsL.nil ρ, fun j u h => by simp at h⟩
  · exact hs.elim

inductive App (h : AH) (n ty es : Nat) : AV → AV → AV → AH → Nat → (Nat → Prop) → Prop
  | open_ {i m0 m : Nat} {b : Blk} {x : AV} {xs : List AV} (hb : h i = some b) (hw : b.wr = true) (ho : b.op = es) (ht : b.ty = ty) (hl : b.cells.length = m0 * es) (hx : Src h es x m xs) (h1 : xs.all AV.one = true) (hm : m0 + m ≤ 1073741824) (hi : i < n) :
      App h n ty es (.so i m0) x (.so n (m0 + m)) (upd (upd h i none) n (some ⟨ty, b.cells ++ xs, true, es⟩)) (n + 1) (· = i)
  | nil {m : Nat} {x : AV} {xs : List AV} (hx : Src h es x m xs) (h1 : xs.all AV.one = true) (h0 : m ≠ 0) (hm : m ≤ 1073741824) :
      App h n ty es .nilsl x (.so n m) (upd h n (some ⟨ty, xs, true, es⟩)) (n + 1) none'
  | nil0 {x : AV} (hx : Src h es x 0 []) : App h n ty es .nilsl x .nilsl h n none'
  | grow {i o m0 c m : Nat} {x : AV} {os xs : List AV} (hos : Src h es (.sl i o m0 c) m0 os) (hx : Src h es x m xs) (h1 : xs.all AV.one = true) (h0 : m ≠ 0) (hc : c < m0 + m) (hm : m0 + m ≤ 1073741824) :
      App h n ty es (.sl i o m0 c) x (.so n (m0 + m)) (upd h n (some ⟨ty, os ++ xs, true, es⟩)) (n + 1) none'
  | same {i o m0 c : Nat} {x : AV} (hx : Src h es x 0 []) (hc : m0 ≤ c) : App h n ty es (.sl i o m0 c) x (.sl i o m0 c) h n none'

theorem Cx.weaken {ρ ρ0 : Rho} {w w0 : World} {W W' : Nat → Prop} {n n' : Nat} (c : Cx ⟨ρ0, w0, W, n, n'⟩ ρ w) (h : ∀ i, W i → W' i) : Cx ⟨ρ0, w0, W', n, n'⟩ ρ w :=
  ⟨c.os, c.tape, c.output, c.size, fun b hb hh => c.blk b hb fun i r hi hw hr => hh i r hi (h i hw) hr, c.old, c.far, fun i r h1 h2 h3 => (c.own i r h1 h2 h3).imp id fun ⟨j, rj, g1, g2, g3⟩ => ⟨j, rj, g1, h j g2, g3⟩, c.drawn⟩

def Rho.put (ρ : Rho) (n : Nat) (r : Ref) : Rho := fun i => if i = n then some r else ρ i
theorem Rho.put_same (ρ : Rho) (n : Nat) (r : Ref) : ρ.put n r n = some r := by simp [Rho.put]
theorem Rho.put_other (ρ : Rho) {n i : Nat} (r : Ref) (h : i ≠ n) : ρ.put n r i = ρ i := by simp [Rho.put, h]
theorem Rho.put_ext {ρ : Rho} {n : Nat} (r : Ref) (h : ρ n = none) : Ext ρ (ρ.put n r) := fun i r' hi => by
  by_cases hn : i = n
  · subst hn; rw [h] at hi; cases hi
  · rw [Rho.put_other _ _ hn]; exact hi

theorem fresh {ρ : Rho} {h : AH} {w w' : World} (s : Sim ρ h w) {n ty es c : Nat} {cells : List AV} {cs : Array Value} (hn : ρ n = none) (hh : w'.heap = w.heap.push (.cells cs ty (0, 0)))
    (ho : w'.os = w.os) (ht : w'.tape = w.tape) (hu : w'.output = w.output) (hd : w.drawn ≤ w'.drawn) (hp : Pre ρ cells cs.toList) (hl : cells.length ≤ cs.size) (he : es ≠ 0) (hs : cs.size = c * es) (hc : c ≤ maxLen) :
    Sim (ρ.put n ⟨w.heap.size, 0, c⟩) (upd h n (some ⟨ty, cells, true, es⟩)) w' ∧ Cx ⟨ρ, w, none', n, n + 1⟩ (ρ.put n ⟨w.heap.size, 0, c⟩) w' := by
  have hb : w'.heap[w.heap.size]? = some (.cells cs ty (0, 0)) := by rw [hh]; simp
  have hsame := Rho.put_same ρ n ⟨w.heap.size, 0, c⟩
  have cx : Cx ⟨ρ, w, none', n, n + 1⟩ (ρ.put n ⟨w.heap.size, 0, c⟩) w' := by
    refine ⟨ho, ht, hu, by rw [hh]; simp, fun b hb' _ => by rw [hh]; exact Array.getElem?_push_lt hb' |>.trans (by simp [hb']), fun i hi => Rho.put_other _ _ (Nat.ne_of_lt hi), fun i hi => Rho.put_other _ _ (by simp only at hi; omega), fun i r h1 h2 h3 => ?_, dle_of hd⟩
    simp only at h1 h2
    obtain rfl : i = n := by omega
    rw [hsame] at h3; cases h3
    exact .inl (Nat.le_refl _)
  refine ⟨?_, cx⟩
  have hf : ∀ i, n ≤ i → i < n + 1 → ρ i = none := fun i h1 h2 => by
    have : i = n := by omega
    rw [this]; exact hn
  rw [← mix_upd]
  refine s.mix cx hf ⟨fun i b hi => ?_, fun i j bi bj ri rj hi hj hij => ?_⟩
  · simp only [upd] at hi
    split at hi
    · rename_i hin
      subst hin; cases hi
      refine ⟨_, hsame, fun k c' hk => ?_, fun _ => ⟨rfl, cs, hb, hl, fun h => absurd h he, fun _ => ⟨hs, hc⟩⟩, fun h => by cases h⟩
      obtain ⟨v, hv, hi⟩ := hp k c' hk
      exact ⟨v, by rw [cell_of_row _ _ _ _ _ _ hb]; simpa using hv, hi.mono (Rho.put_ext _ hn)⟩
    · simp [L.emp] at hi
  · simp only [upd] at hi hj
    split at hi
    · split at hj
      · omega
      · simp [L.emp] at hj
    · simp [L.emp] at hi

theorem Sim.rename {ρ : Rho} {h : AH} {w : World} {i n : Nat} {b : Blk} {r : Ref} (s : Sim ρ (upd h i (some b)) w) (hr : ρ i = some r) (hn : ρ n = none) (hw : b.wr = true) :
    Sim (ρ.put n r) (upd (upd h i none) n (some b)) w := by
  have e := Rho.put_ext (ρ := ρ) (n := n) r hn
  have hin : i ≠ n := fun h => by rw [h, hn] at hr; cases hr
  have old : ∀ j bj, upd (upd h i none) n (some b) j = some bj → j ≠ n → upd h i (some b) j = some bj ∧ j ≠ i := fun j bj hj hjn => by
    simp only [upd, if_neg hjn] at hj ⊢
    by_cases hji : j = i
    · simp [hji] at hj
    · simp only [if_neg hji] at hj ⊢; exact ⟨hj, hji⟩
  have hb : upd h i (some b) i = some b := upd_same _ _ _
  have ne : ∀ j rj, j ≠ n → (ρ.put n r) j = some rj → ρ j = some rj := fun j rj hj h => by rw [Rho.put_other _ _ hj] at h; exact h
  refine ⟨fun j bj hj => ?_, fun j k bj bk rj rk hj hk hjk hwr hne hrj hrk => ?_⟩
  · by_cases hjn : j = n
    · subst hjn
      rw [upd_same] at hj; cases hj
      obtain ⟨r', hr', hat⟩ := s.lies i b hb
      rw [hr] at hr'; cases hr'
      exact ⟨r, Rho.put_same _ _ _, hat.keep e rfl⟩
    · obtain ⟨r', hr', hat⟩ := s.lies j bj (old j bj hj hjn).1
      exact ⟨r', e _ _ hr', hat.keep e rfl⟩
  · by_cases hjn : j = n
    · subst hjn
      rw [upd_same] at hj; cases hj
      rw [Rho.put_same] at hrj; cases hrj
      obtain ⟨h1, h2⟩ := old k bk hk (Ne.symm hjk)
      exact s.inj i k b bk r rk hb h1 (Ne.symm h2) hw hne hr (ne k rk (Ne.symm hjk) hrk)
    · obtain ⟨h1, h2⟩ := old j bj hj hjn
      by_cases hkn : k = n
      · subst hkn
        rw [upd_same] at hk; cases hk
        rw [Rho.put_same] at hrk; cases hrk
        exact s.inj j i bj b rj r h1 hb h2 hwr (.inl hw) (ne j rj hjn hrj) hr
      · obtain ⟨h3, h4⟩ := old k bk hk hkn
        exact s.inj j k bj bk rj rk h1 h3 hjk hwr hne (ne j rj hjn hrj) (ne k rk hkn hrk)

theorem zeroCells_size (z : Array Value) (n : Nat) : (Builtin.zeroCells z n).size = n * z.size := by simp [Builtin.zeroCells]

theorem Pre.of_IsL {ρ : Rho} {z : List AV} {rz more : List Value} (h : IsL ρ z rz) : Pre ρ z (rz ++ more) := fun k c hk => by
  obtain ⟨v, hv, hi⟩ := h.get k c hk
  refine ⟨v, ?_, hi⟩
  rw [List.getElem?_append_left (List.getElem?_eq_some_iff.1 hv).1]; exact hv

section
variable {P : Program} {o : Oper} {t : List AV}

theorem run_append_zeros {P : Program} (w : World) (t u ty e : TypeId) (i : TypeInfo) (z : Value) (ht : P.underlying t = some (.slice e)) (hu : P.underlying u = some (.int .i64)) (hi : P.info? e = some i) (hz : i.zero = some z)
    (m : Nat) (h0 : 0 < m) (hm : m ≤ 1073741824) (hs : i.size ≠ 0) (hby : i.bytes ≤ 4096) :
    (Builtin.append_ #[t, u] ty #[.slice none 0 0, .int .i64 m]).run P w =
      .ok (.slice (some ⟨w.heap.size, 0, none⟩) m (grownCap w m 0 e))
        (w.drew.alloc (.cells (Builtin.zeroCells z.cells m ++ Builtin.zeroCells z.cells (grownCap w m 0 e - m)) e)) := by
  have hn : m ≠ 0 := by omega
  have h2 : m * i.size ≠ 0 := Nat.mul_ne_zero hn hs
  have hbb := Nat.mul_le_mul hm hby
  have h3 : (m : Int) * (i.bytes : Int) ≤ 4398046511104 := by
    have h : ((m * i.bytes : Nat) : Int) ≤ 4398046511104 := by omega
    simpa using h
  have hb : m * i.bytes ≤ 281474976710656 := by omega
  have h48' : ¬ (281474976710656 < Builtin.nextslicecap m 0 * i.bytes) := by rw [nextslicecap_zero h0]; omega
  have h63' : ¬ (9223372036854775807 < (m : Int)) := by omega
  have hw : IntKind.i64.wrap (m : Int) = m := by simp [IntKind.wrap, IntKind.bits, IntKind.signed]; omega
  have hneg : ¬ ((m : Int) < 0) := by omega
  have h48 : ¬ (281474976710656 < (m : Int) * (i.bytes : Int)) := by omega
  have hmx : max (m : Int) 0 = m := by omega
  simp [Builtin.append_, run_underlying ht, run_underlying hu, sizeOf, typeInfo, zeroValue, hi, hz, Builtin.lenOf, Builtin.firstCells, hn, h63', h48', Question.forced, newRow, grownCap, asInt, asIntOf, hw, hneg, h48, hmx]
  intro h; exact absurd h h2
theorem o_appz {P : Program} {o : Oper} {t : List AV} {ar : Array Operand} {ats : Array TypeId} {x y : Operand} {x' y' : A} {T T' e : TypeId} {i : TypeInfo} {z : List AV} (ho : o.op = .call { callee := .builtin .append, args := ar, argTypes := ats })
    (har : ar.toList = [x, y]) (hat : ats.toList = [T, T']) (hT : P.underlying T = some (.slice e)) (hT' : P.underlying T' = some (.int .i64)) (hi : P.info? e = some i) (hz : zeroOf P e = some z) (hs0 : i.size ≠ 0) (hby : i.bytes ≤ 4096)
    (hx : compA x = some x') (hy : compA y = some y') {m : Int} (ex : ev t x' = .nilsl) (ey : ev t y' = .int .i64 m) (h0 : 0 < m) (hm : m ≤ 1073741824) (n : Nat) :
    RO P none' o (O.appz e i.size x' y').reads t emp n (.so n m.toNat) (upd emp n (some ⟨e, [], true, i.size⟩)) (n + 1) := by
  have har' : ar = #[x, y] := Array.ext' har
  have hat' : ats = #[T, T'] := Array.ext' hat
  subst har'; subst hat'
  obtain ⟨i', zv, hi', hiz, hs, hrun, his⟩ := zeroOf_run hz
  rw [hi] at hi'; cases hi'
  refine ⟨by omega, fun ρ a w Kr Qr hr hsim hf hk => ?_⟩
  have e1 := compA_is hx (hr.arg (x := x') (by simp [O.args]))
  have e2 := compA_is hy (hr.arg (x := y') (by simp [O.args]))
  rw [ex] at e1; rw [ey] at e2
  simp only [Is] at e1 e2
  obtain ⟨k, rfl⟩ : ∃ k : Nat, m = k := ⟨m.toNat, by omega⟩
  have hn : ρ n = none := hf n (Nat.le_refl _) (Nat.lt_succ_self _)
  have hgr := run_append_zeros (P := P) w T T' o.type e i zv hT hT' hi hiz k (by omega) (by omega) hs0 hby
  have hge := grownCap_ge w k 0 e
  obtain ⟨q1, q2⟩ := fresh (ty := e) (es := i.size) (c := grownCap w k 0 e) (cells := []) (cs := Builtin.zeroCells zv.cells k ++ Builtin.zeroCells zv.cells (grownCap w k 0 e - k))
    (w' := w.drew.alloc (.cells (Builtin.zeroCells zv.cells k ++ Builtin.zeroCells zv.cells (grownCap w k 0 e - k)) e)) hsim hn rfl rfl rfl rfl (Nat.le_succ _)
    (fun k c hk => by simp at hk) (by simp) hs0 (by
      simp only [Array.size_append, zeroCells_size, hs, ← Nat.add_mul]
      congr 1; omega) (grownCap_le_maxLen w _ _ e (by unfold maxLen; omega))
  rw [← e1, ← e2] at hgr
  have fin : ∀ rv ρ' w', (Builtin.append_ #[T, T'] o.type #[a.eval x, a.eval y]).run P w = .ok rv w' → Is ρ' (.so n (k : Int).toNat) rv → Sim ρ' (upd emp n (some ⟨e, [], true, i.size⟩)) w' → Cx ⟨ρ, w, none', n, n + 1⟩ ρ' w' → o.wp P a w Kr Qr := fun rv ρ' w' hR h1 h2 h3 =>
    wp_value (by simp [execOp, ho, resolve, invoke, builtin, hR]) (hk rv ρ' w' h1 h2 h3)
  exact fin _ _ _ hgr (by simp only [Is]; exact ⟨_, Rho.put_same _ _ _, rfl, by simpa using hge, rfl⟩) q1 q2
theorem zeroCells_list {zv : Array Value} {u : Value} (h : zv.toList = [u]) (m : Nat) : (Builtin.zeroCells zv m).toList = (List.replicate m [u]).flatten := by
  have h0 : zv = #[u] := Array.ext' h
  subst h0
  have e : (List.replicate m [u]).flatten = List.replicate m u := by
    induction m with
    | zero => rfl
    | succ m ih => rw [List.replicate_succ, List.flatten_cons, ih, List.replicate_succ]; rfl
  rw [e]
  refine List.ext_getElem (by simp [Builtin.zeroCells]) fun k h1 h2 => ?_
  simp [Builtin.zeroCells, Nat.mod_one]
theorem o_clr {P : Program} {o : Oper} {t : List AV} {ar : Array Operand} {ats : Array TypeId} {x : Operand} {x' : A} {T e : TypeId} {zc : AV} (ho : o.op = .call { callee := .builtin .clear, args := ar, argTypes := ats })
    (har : ar.toList = [x]) (hat : ats.toList = [T]) (hT : P.underlying T = some (.slice e)) (hz : zeroOf P e = some [zc]) (hzo : zc.one = true)
    (hx : compA x = some x') {i off m : Nat} (ex : ev t x' = .sx i off m) (h0 : 0 < m) {h : AH} {b : Blk}
    (hb : h i = some b) (hw : b.wr = true) (hfit : off + m ≤ b.cells.length) {n : Nat} (hin : i < n) :
    RO P (· = i) o (O.clr [zc] x').reads t h n .any (upd h i (some { b with cells := putA b.cells off (repA m [zc]) })) n := by
  have har' : ar = #[x] := Array.ext' har
  have hat' : ats = #[T] := Array.ext' hat
  subst har'; subst hat'
  obtain ⟨inf, zv, hi', hiz, hs, hrun, his⟩ := zeroOf_run hz
  refine ⟨Nat.le_refl _, fun ρ a w Kr Qr hr hsim hf hk => ?_⟩
  have e1 := compA_is hx (hr.arg (x := x') (by simp [O.args]))
  rw [ex] at e1
  simp only [Is] at e1
  obtain ⟨r, ad, c, hr', e1, hmc, hadr⟩ := e1
  have hadr := hadr (by omega)
  subst hadr
  obtain ⟨r', h1, h2⟩ := hsim.lies i b hb
  rw [hr'] at h1; cases h1
  obtain ⟨hs0, cs, hcs, g1, g2, g3⟩ := h2.own hw
  obtain ⟨u, hu⟩ : ∃ u, zv.cells.toList = [u] := by
    have := (his ρ).length
    match hq : zv.cells.toList, this with
    | [u], _ => exact ⟨u, rfl⟩
  have hrep := repA_is (his ρ) m
  rw [hu] at hrep
  obtain ⟨zl, hzl⟩ : ∃ zl, zl = (Builtin.zeroCells zv.cells m).toList := ⟨_, rfl⟩
  have hzl' := hzl
  rw [zeroCells_list hu] at hzl'
  rw [← hzl'] at hrep
  have hral : (repA m [zc]).length = m := by simp [repA]
  have hlen : zl.length = m := by rw [hrep.length, hral]
  have hall : ∀ v ∈ zl, v.oneCell' = true := by
    refine hrep.all_one ?_
    simp only [repA, List.all_eq_true, List.mem_flatten]
    rintro v ⟨l, hl, hv⟩
    rw [(List.mem_replicate.1 hl).2, List.mem_singleton] at hv
    rw [hv]; exact hzo
  have hst := run_storeCells_at P r.b off b.ty zl 0 cs w hcs (by rw [hlen]; omega) hall
  simp only [Nat.add_zero] at hst
  refine wp_value (w' := w.setRow r.b (cs.toList.take off ++ zl ++ cs.toList.drop (off + zl.length)).toArray) ?_ (hk (.tuple #[]) ρ _ (by simp only [Is]) (hsim.write (b' := { b with cells := putA b.cells off (repA m [zc]) }) hb hw hr' hcs hw rfl rfl ?_ ?_ ?_ ?_) (Cx.write hin hr' _ hf))
  · have hcl : (Builtin.clear_ #[T] o.type #[a.eval x]).run P w = .ok (.tuple #[]) (w.setRow r.b (cs.toList.take off ++ zl ++ cs.toList.drop (off + zl.length)).toArray) := by
      obtain ⟨m', rfl⟩ : ∃ m', m = m' + 1 := ⟨m - 1, by omega⟩
      rw [e1, hs0, Nat.zero_add]
      simp [Builtin.clear_, run_underlying hT, hrun, ← hzl, hst]
    simp [execOp, ho, resolve, invoke, builtin, hcl]
  · simp only [List.size_toArray, List.length_append, List.length_take, List.length_drop, Array.length_toList]; omega
  · simp only; rw [putA_length (by omega)]; exact g1
  · intro q0; simp only; rw [putA_length (by omega)]; exact (g2 q0).symm
  · have hpz : Pre ρ b.cells cs.toList := fun k c hk' => by
      obtain ⟨v, hv, hi⟩ := h2.cells k c hk'
      rw [hs0, Nat.zero_add, cell_of_row _ _ _ _ _ _ hcs] at hv
      exact ⟨v, by simpa using hv, hi⟩
    have := hpz.put hrep (off := off) (by omega) (by simpa using g1)
    intro k c hk'
    obtain ⟨v, hv, hi⟩ := this k c hk'
    exact ⟨v, by simpa using hv, hi⟩
theorem app_none {T e ty : TypeId} {i : TypeInfo} (hT : P.underlying T = some (.slice e)) (hi : P.info? e = some i) (w : World) (base : Option Addr) (m c : Nat) (hm : m ≤ c) :
    (Builtin.append_ #[T, T] ty #[.slice base m c, .slice none 0 0]).run P w = .ok (.slice base m c) w := by
  cases base <;> simp [Builtin.append_, run_underlying hT, sizeOf, typeInfo, hi, Builtin.lenOf, Builtin.firstCells, hm, storeCells]

theorem o_app {ar : Array Operand} {ats : Array TypeId} {x y : Operand} {x' y' : A} {T e : TypeId} {i : TypeInfo} {z : List AV} (ho : o.op = .call { callee := .builtin .append, args := ar, argTypes := ats })
    (har : ar.toList = [x, y]) (hat : ats.toList = [T, T]) (hT : P.underlying T = some (.slice e)) (hi : P.info? e = some i) (hz : zeroOf P e = some z) (hs0 : i.size ≠ 0) (hby : i.bytes ≤ 4096)
    (hx : compA x = some x') (hy : compA y = some y') {h : AH} {n : Nat} {v : AV} {h' : AH} {n' : Nat} {W : Nat → Prop} (ha : App h n e i.size (ev t x') (ev t y') v h' n' W) :
    RO P W o (O.app e i.size i.bytes z x' y').reads t h n v h' n' := by
  have har' : ar = #[x, y] := Array.ext' har
  have hat' : ats = #[T, T] := Array.ext' hat
  subst har'; subst hat'
  obtain ⟨i', zv, hi', hiz, hs, hrun, his⟩ := zeroOf_run hz
  rw [hi] at hi'; cases hi'
  have bnd : ∀ m, m ≤ 1073741824 → m * i.bytes ≤ 140737488355328 := fun m hm => by
    have := Nat.mul_le_mul hm hby; omega
  refine ⟨(show ∀ {s x : AV}, App h n e i.size s x v h' n' W → n ≤ n' from fun ha => by cases ha <;> omega) ha, fun ρ a w Kr Qr hr hsim hf hk => ?_⟩
  have e1 := compA_is hx (hr.arg (x := x') (by simp [O.args]))
  have e2 := compA_is hy (hr.arg (x := y') (by simp [O.args]))
  have fin : ∀ rv ρ' w', (Builtin.append_ #[T, T] o.type #[a.eval x, a.eval y]).run P w = .ok rv w' → Is ρ' v rv → Sim ρ' h' w' → Cx ⟨ρ, w, W, n, n'⟩ ρ' w' → o.wp P a w Kr Qr := fun rv ρ' w' hR h1 h2 h3 =>
    wp_value (by simp [execOp, ho, resolve, invoke, builtin, hR]) (hk rv ρ' w' h1 h2 h3)
  generalize ev t x' = sx at ha e1
  generalize ev t y' = sy at ha e2
  generalize a.eval x = rx at e1 fin
  generalize a.eval y = ry at e2 fin
  cases ha with
  | @open_ id m0 m b _ xs hb hw hop hty hl hsrc hone hm hid =>
    simp only [Is] at e1
    obtain ⟨r, hrr, hrs, hrc, rfl⟩ := e1
    have hn : ρ n = none := hf n (Nat.le_refl _) (Nat.lt_succ_self _)
    obtain ⟨r', hr', hat⟩ := hsim.lies id b hb
    rw [hrr] at hr'; cases hr'
    obtain ⟨_, cs, hcs, g1, g2, g3⟩ := hat.own hw
    obtain ⟨g3, g4⟩ := g3 (by rw [hop]; exact hs0)
    rw [hop] at g3
    obtain ⟨olds, o1, o2, o3⟩ := read_cells hat 0 b.cells.length (by omega)
    have hcut : cutA b.cells 0 b.cells.length = b.cells := by simp [cutA]
    rw [hcut] at o2
    simp only [hrs] at o3
    have renamed : ∀ (cs' : Array Value), cs'.size = cs.size → (b.cells ++ xs).length ≤ cs.size → Pre ρ (b.cells ++ xs) cs'.toList → m0 + m ≤ r.c →
        Sim (ρ.put n r) (upd (upd h id none) n (some ⟨e, b.cells ++ xs, true, i.size⟩)) (w.setRow r.b cs') ∧ Cx ⟨ρ, w, (· = id), n, n + 1⟩ (ρ.put n r) (w.setRow r.b cs') ∧ Is (ρ.put n r) (.so n (m0 + m)) (.slice (some ⟨r.b, 0, none⟩) (m0 + m) r.c) := fun cs' hsz hlen hpre hroom => by
      have hsim2 := hsim.write (b' := ⟨e, b.cells ++ xs, true, i.size⟩) (cs' := cs') hb hw hrr hcs rfl hty.symm hop.symm hsz hlen (fun h0 => absurd (hop ▸ h0) hs0) (fun k c hk => by
        obtain ⟨v, hv, hi⟩ := hpre k c hk; exact ⟨v, by simpa using hv, hi⟩)
      refine ⟨hsim2.rename hrr hn rfl, ?_, by simp only [Is]; exact ⟨r, Rho.put_same _ _ _, hrs, hroom, rfl⟩⟩
      refine ⟨rfl, rfl, rfl, by simp [World.setRow], fun b' hb' hh => setRow_other w r.b b' cs' (Ne.symm (hh id r hid rfl hrr)), fun j hj => Rho.put_other _ _ (Nat.ne_of_lt hj), fun j hj => Rho.put_other _ _ (by simp only at hj; omega), fun j rj h1 h2 h3 => ?_, dle_refl _⟩
      simp only at h1 h2
      obtain rfl : j = n := by omega
      rw [Rho.put_same] at h3; cases h3
      exact .inr ⟨id, r, hid, rfl, hrr, rfl⟩
    have hxl : xs.length = m * i.size := by
      rcases hsrc.real hsim e2 with ⟨_, _, news, _, n1, n2, _⟩ | ⟨_, rfl, rfl⟩
      · rw [← n1, n2.length]
      · simp
    have hbx : (b.cells ++ xs).length = (m0 + m) * i.size := by simp [hl, hxl, Nat.add_mul]
    by_cases hroom : m0 + m ≤ r.c
    · have hlen : (b.cells ++ xs).length ≤ cs.size := by rw [hbx, g3]; exact Nat.mul_le_mul_right _ hroom
      rcases hsrc.real hsim e2 with ⟨ad, cc, news, rfl, n1, n2, n3⟩ | ⟨rfl, rfl, rfl⟩
      · have hrow := run_append_room (P := P) w T o.type e i hT hi r.b m0 r.c cs (by rw [← hty]; exact hcs) ad m cc news n1 n3 (n2.all_one hone) hroom (by rw [n1, ← Nat.add_mul, g3]; exact Nat.mul_le_mul_right _ hroom)
        obtain ⟨q1, q2, q3⟩ := renamed (cs.toList.take (m0 * i.size) ++ news ++ cs.toList.drop (m0 * i.size + news.length)).toArray (by
          simp only [List.size_toArray, List.length_append, List.length_take, List.length_drop, Array.length_toList, n1]
          rw [← hxl, ← hl]; simp at hlen; omega) hlen (by
          have hp : Pre ρ b.cells cs.toList := fun k c hk => by
            obtain ⟨v, hv, hi⟩ := hat.cells k c hk
            rw [hrs, Nat.zero_add, cell_of_row _ _ _ _ _ _ hcs] at hv
            exact ⟨v, by simpa using hv, hi⟩
          intro k c hk
          show ∃ v, (cs.toList.take (m0 * i.size) ++ news ++ cs.toList.drop (m0 * i.size + news.length))[k]? = some v ∧ Is ρ c v
          rw [← hl]
          simp at hlen
          rw [put_get (by simp [n1]; omega)]
          rw [List.getElem?_append] at hk
          split at hk
          · rename_i h; rw [if_pos h]; exact hp k c hk
          · rename_i h
            rw [if_neg h]
            obtain ⟨v, hv, hi⟩ := n2.get _ c hk
            have := (List.getElem?_eq_some_iff.1 hv).1
            rw [if_pos (by omega)]
            exact ⟨v, hv, hi⟩) hroom
        exact fin _ _ _ hrow q3 q1 q2
      · have hsame : w.setRow r.b cs = w := by
          have hh : (w.setRow r.b cs).heap = w.heap := Array.ext_getElem? fun j => by
            by_cases hj : j = r.b
            · subst hj; rw [setRow_heap w _ cs cs _ _ hcs, hcs]
            · exact setRow_other w r.b j cs hj
          cases w
          simp only [World.setRow] at hh ⊢
          rw [hh]
        obtain ⟨q1, q2, q3⟩ := renamed cs rfl hlen (fun k c hk => by
          simp at hk
          obtain ⟨v, hv, hi⟩ := hat.cells k c hk
          rw [hrs, Nat.zero_add, cell_of_row _ _ _ _ _ _ hcs] at hv
          exact ⟨v, by simpa using hv, hi⟩) hroom
        rw [hsame] at q1 q2
        exact fin _ _ _ (app_none hT hi w _ m0 r.c (by omega)) q3 q1 q2
    · rcases hsrc.real hsim e2 with ⟨ad, cc, news, rfl, n1, n2, n3⟩ | ⟨rfl, rfl, rfl⟩
      · have hgr := run_append_grow (P := P) w T o.type e i zv hT hi hiz ⟨r.b, 0, none⟩ m0 r.c olds (by rw [o1, hl]) o3 ad m cc news n1 n3 (by omega) (by omega) (growslice_fits (by omega) (bnd _ hm))
        have hge := grownCap_ge w (m0 + m) r.c e
        obtain ⟨q1, q2⟩ := fresh (ty := e) (es := i.size) (c := grownCap w (m0 + m) r.c e) (cells := b.cells ++ xs) (cs := olds.toArray ++ news.toArray ++ Builtin.zeroCells zv.cells (grownCap w (m0 + m) r.c e - (m0 + m)))
          (w' := w.drew.alloc (.cells (olds.toArray ++ news.toArray ++ Builtin.zeroCells zv.cells (grownCap w (m0 + m) r.c e - (m0 + m))) e)) hsim hn rfl rfl rfl rfl (Nat.le_succ _)
          (by simpa using Pre.of_IsL (o2.append n2)) (by simp [o1, n1, hxl]) hs0 (by
            simp only [Array.size_append, List.size_toArray, zeroCells_size, hs, o1, n1, hl, ← Nat.add_mul]
            congr 1; omega) (grownCap_le_maxLen w _ _ e (by unfold maxLen; omega))
        refine fin _ _ _ hgr (by simp only [Is]; exact ⟨_, Rho.put_same _ _ _, rfl, hge, rfl⟩) (q1.less fun j bj hj => ?_) (q2.weaken fun _ h => h.elim)
        simp only [upd] at hj ⊢
        split at hj
        · rename_i h; rw [if_pos h]; exact hj
        · rename_i h
          rw [if_neg h]
          split at hj
          · cases hj
          · exact hj
      · omega
  | @nil m _ xs hsrc hone h0 hm =>
    simp only [Is] at e1
    subst e1
    have hn : ρ n = none := hf n (Nat.le_refl _) (Nat.lt_succ_self _)
    rcases hsrc.real hsim e2 with ⟨ad, cc, news, rfl, n1, n2, n3⟩ | ⟨_, rfl, _⟩
    · have hb := bnd _ hm
      have hgr := run_append_nil (P := P) w T o.type e i zv hT hi hiz ad m cc news n1 n3 (by omega) (by omega) (by omega)
      have hge := grownCap_ge w m 0 e
      obtain ⟨q1, q2⟩ := fresh (ty := e) (es := i.size) (c := grownCap w m 0 e) (cells := xs) (cs := news.toArray ++ Builtin.zeroCells zv.cells (grownCap w m 0 e - m))
        (w' := w.drew.alloc (.cells (news.toArray ++ Builtin.zeroCells zv.cells (grownCap w m 0 e - m)) e)) hsim hn rfl rfl rfl rfl (Nat.le_succ _)
        (by simpa using Pre.of_IsL n2) (by simp [n2.length]) hs0 (by
          simp only [Array.size_append, List.size_toArray, zeroCells_size, hs, n1, ← Nat.add_mul]
          congr 1; omega) (grownCap_le_maxLen w _ _ e (by unfold maxLen; omega))
      exact fin _ _ _ hgr (by simp only [Is]; exact ⟨_, Rho.put_same _ _ _, rfl, hge, rfl⟩) q1 q2
    · exact absurd rfl h0
  | nil0 hsrc =>
    simp only [Is] at e1
    subst e1
    have hcx := Cx.refl ρ w none' n n hf
    rcases hsrc.real hsim e2 with ⟨ad, cc, news, rfl, n1, n2, n3⟩ | ⟨rfl, _, _⟩
    · refine fin (.slice none 0 0) ρ w ?_ (by simp only [Is]) hsim hcx
      simp [Builtin.append_, run_underlying hT, sizeOf, typeInfo, hi, Builtin.lenOf, Builtin.firstCells, loadCells, loadCellsFrom]
    · exact fin (.slice none 0 0) ρ w (app_none hT hi w _ 0 0 (Nat.le_refl _)) (by simp only [Is]) hsim hcx
  | @grow id off m0 c m _ os xs hos hsrc hone h0 hc hm =>
    have hn : ρ n = none := hf n (Nat.le_refl _) (Nat.lt_succ_self _)
    rcases hos.real hsim e1 with ⟨ad0, c0, olds, rfl, o1, o2, o3⟩ | ⟨rfl, rfl, rfl⟩
    · have hc0 : c0 = c := by
        simp only [Is] at e1
        obtain ⟨r, _, e1⟩ := e1
        cases e1; rfl
      subst hc0
      rcases hsrc.real hsim e2 with ⟨ad, cc, news, rfl, n1, n2, n3⟩ | ⟨rfl, rfl, rfl⟩
      · have hgr := run_append_grow (P := P) w T o.type e i zv hT hi hiz ad0 m0 c0 olds o1 o3 ad m cc news n1 n3 hc (by omega) (growslice_fits (by omega) (bnd _ hm))
        have hge := grownCap_ge w (m0 + m) c0 e
        obtain ⟨q1, q2⟩ := fresh (ty := e) (es := i.size) (c := grownCap w (m0 + m) c0 e) (cells := os ++ xs) (cs := olds.toArray ++ news.toArray ++ Builtin.zeroCells zv.cells (grownCap w (m0 + m) c0 e - (m0 + m)))
          (w' := w.drew.alloc (.cells (olds.toArray ++ news.toArray ++ Builtin.zeroCells zv.cells (grownCap w (m0 + m) c0 e - (m0 + m))) e)) hsim hn rfl rfl rfl rfl (Nat.le_succ _)
          (by simpa using Pre.of_IsL (o2.append n2)) (by simp [o2.length, n2.length]) hs0 (by
            simp only [Array.size_append, List.size_toArray, zeroCells_size, hs, o1, n1, ← Nat.add_mul]
            congr 1; omega) (grownCap_le_maxLen w _ _ e (by unfold maxLen; omega))
        exact fin _ _ _ hgr (by simp only [Is]; exact ⟨_, Rho.put_same _ _ _, rfl, hge, rfl⟩) q1 q2
      · exact absurd rfl h0
    · simp only [Is] at e1
      obtain ⟨r, _, e1⟩ := e1
      cases e1
  | @same id off m0 c _ hsrc hc =>
    have hcx := Cx.refl ρ w none' n n hf
    have e1' := e1
    simp only [Is] at e1
    obtain ⟨r, hrr, rfl⟩ := e1
    rcases hsrc.real hsim e2 with ⟨ad, cc, news, rfl, n1, n2, n3⟩ | ⟨rfl, _, _⟩
    · refine fin _ ρ w ?_ e1' hsim hcx
      simp [Builtin.append_, run_underlying hT, sizeOf, typeInfo, hi, Builtin.lenOf, Builtin.firstCells, loadCells, loadCellsFrom, hc, storeCells]
    · exact fin _ ρ w (app_none hT hi w _ m0 c hc) e1' hsim hcx
end
theorem o_b2s {P : Program} {o : Oper} {t : List AV} {S D e : TypeId} {x : Operand} {x' : A} (ho : o.op = .convert S D x) (hS : P.underlying S = some (.slice e)) (he : P.underlying e = some (.int .u8)) (hD : P.underlying D = some .string) (hx : compA x = some x')
    {h : AH} {l : List UInt8} (hs : Src h 1 (ev t x') l.length (l.map fun c => .int .u8 (c.toNat : Int))) (h0 : 0 < l.length) (n : Nat) : RO P none' o (O.b2s x').reads t h n (.str ⟨l.toArray⟩) h n :=
  ⟨Nat.le_refl _, fun ρ a w Kr Qr hr hsim hf hk => by
    have e1 := compA_is hx (hr.arg (x := x') (by simp [O.args]))
    rcases hs.real hsim e1 with ⟨ad, c, news, e2, hl, hi, hc⟩ | ⟨_, h2, _⟩
    · refine wp_value (w' := w) (rv := .string ⟨l.toArray⟩) ?_ (hk _ ρ w (by simp only [Is]) hsim (Cx.refl ρ w _ _ _ hf))
      have := run_convert_bytes_back (P := P) w S D e ad c l hS he hD fun j hj => by
        obtain ⟨v, g1, g2⟩ := hi.get j (.int .u8 (l[j].toNat : Int)) (by simp [hj])
        simp only [Is] at g2
        subst g2
        exact hc j _ g1
      simp [execOp, ho, e2, this]
    · omega⟩

def okFn (P : Program) (f : Nat) : Bool := match P.funcs[f]? with
  | some fn => fn.body.isSome && !(fn.name == "runtime.NumGoroutine")
  | none => false

def BCalls (P : Program) (W : Nat → Prop) (f : Nat) (args : List AV) (h : AH) (n : Nat) (v : AV) (h' : AH) (n' : Nat) : Prop :=
  okFn P f = true ∧ ACalls P W f args h n v h' n'

def O.rh : O → Bool
  | .ld _ _ | .ld1 _ | .b2s _ | .call _ _ => true
  | _ => false
def O.mk : O → Bool
  | .alloc _ _ | .box _ _ | .mks _ _ _ _ _ | .lit _ _ _ _ _ | .appz _ _ _ _ | .call _ _ | .callq _ _ => true
  | _ => false
def O.wrs : O → Bool
  | .st _ _ _ | .app _ _ _ _ _ _ | .callw _ _ | .callp _ _ | .clr _ _ => true
  | _ => false
def O.adr : O → A
  | .st _ a _ | .ld1 a | .ld _ a => a
  | .callp _ (a :: _) => a
  | _ => .c .any
def O.isLd : O → Bool
  | .ld1 _ | .ld _ _ => true
  | _ => false
def O.one : O → Bool
  | .st _ _ _ | .callp _ _ => true
  | _ => false

def CallC (P : Program) (n0 : Nat) (W : Nat → Prop) (d : Bool) (g : Nat) (args : List AV) (h : AH) (n : Nat) (K : AV → AH → Nat → Prop) : Prop :=
  ∃ v h' n' W', BCalls P W' g args h n v h' n' ∧ (∀ i, i < n → W' i → n0 ≤ i ∨ W i) ∧ (d = true → W' = none' ∧ ∀ i, (i < n ∨ n' ≤ i) → h' i = h i) ∧ K v h' n'
def CallW (P : Program) (n0 : Nat) (W : Nat → Prop) (g : Nat) (args : List AV) (h : AH) (n : Nat) (K : AV → AH → Nat → Prop) : Prop :=
  ∃ v h' n' W', BCalls P W' g args h n v h' n' ∧ (∀ i, i < n → W' i → n0 ≤ i ∨ W i) ∧ (∀ i, n' ≤ i → h' i = h i) ∧ K v h' n'
def CallP (P : Program) (n0 : Nat) (W : Nat → Prop) (g : Nat) (args : List AV) (h : AH) (n : Nat) (K : AV → AH → Nat → Prop) : Prop :=
  ∃ v h' W' i k r b, args = .ptr i k :: r ∧ BCalls P W' g args h n v h' n ∧ (∀ j, W' j → j = i) ∧ h i = some b ∧ b.wr = true ∧ i < n ∧ (n0 ≤ i ∨ W i) ∧ (∀ j, j ≠ i → h' j = h j) ∧ K v h' n
def CallQ (P : Program) (g : Nat) (args : List AV) (h : AH) (n : Nat) (K : AV → AH → Nat → Prop) : Prop := ∃ v, BCalls P none' g args emp n v emp n ∧ K v h n
def AppC (n0 : Nat) (W : Nat → Prop) (ty es : Nat) (s x : AV) (h : AH) (n : Nat) (K : AV → AH → Nat → Prop) : Prop :=
  ∃ v h' n' W', App h n ty es s x v h' n' W' ∧ (∀ i, i < n → W' i → n0 ≤ i ∨ W i) ∧ K v h' n'

def xo (P : Program) (n0 : Nat) (W : Nat → Prop) (d : Bool) (o : O) (t : List AV) (h : AH) (n : Nat) (K : AV → AH → Nat → Prop) : Prop := match o with
  | .alloc ty z => K (.ptr n 0) (upd h n (some ⟨ty, z, true, 0⟩)) (n + 1)
  | .box ty x => (ev t x).storable = true ∧ K (.ptr n 0) (upd h n (some ⟨ty, (ev t x).cells, true, 0⟩)) (n + 1)
  | .mks ty _ z l c => match ev t l, ev t c with
    | .int _ m, .int _ p => 0 ≤ m ∧ m ≤ p ∧ p ≤ 4294967296 ∧ K (.sl n 0 m.toNat p.toNat) (upd h n (some ⟨ty, repA p.toNat z, true, 0⟩)) (n + 1)
    | _, _ => False
  | .lit ty es len z ps => match fillA (repA len z) (elemsOf es (ps.map fun p => (p.1, ev t p.2))) with
    | some cs => K (.sl n 0 len len) (upd h n (some ⟨ty, cs, true, 0⟩)) (n + 1)
    | none => False
  | .ld1 x => match ev t x with
    | .ptr i o => ∃ b c, h i = some b ∧ b.cells[o]? = some c ∧ K c h n
    | _ => False
  | .ld s x => match ev t x with
    | .ptr i o => ∃ b, h i = some b ∧ o + s ≤ b.cells.length ∧ K (.agg (cutA b.cells o s)) h n
    | _ => False
  | .st s x y => match ev t x with
    | .ptr i o => ∃ b, h i = some b ∧ b.wr = true ∧ (ev t y).storable = true ∧ (ev t y).cells.length = s ∧ o + s ≤ b.cells.length ∧ i < n ∧ (n0 ≤ i ∨ W i) ∧
        K .any (upd h i (some { b with cells := putA b.cells o (ev t y).cells })) n
    | _ => False
  | .app ty es _ _ s x => AppC n0 W ty es (ev t s) (ev t x) h n K
  | .appz ty es s x => match ev t s, ev t x with
    | .nilsl, .int .i64 m => 0 < m ∧ m ≤ 1073741824 ∧ K (.so n m.toNat) (upd h n (some ⟨ty, [], true, es⟩)) (n + 1)
    | _, _ => False
  | .clr z x => match ev t x with
    | .sx i o m => ∃ b, h i = some b ∧ b.wr = true ∧ 0 < m ∧ o + m ≤ b.cells.length ∧ i < n ∧ (n0 ≤ i ∨ W i) ∧ K .any (upd h i (some { b with cells := putA b.cells o (repA m z) })) n
    | _ => False
  | .call f xs => match ev t f with
    | .fn g cs => CallC P n0 W d g (xs.map (ev t) ++ cs) h n K
    | _ => False
  | .callw f xs => match ev t f with
    | .fn g cs => CallW P n0 W g (xs.map (ev t) ++ cs) h n K
    | _ => False
  | .callp f xs => match xs with
    | [] => False
    | a :: r => match ev t f with
      | .fn g cs => CallP P n0 W g (ev t a :: (r.map (ev t) ++ cs)) h n K
      | _ => False
  | .callq f xs => match ev t f with
    | .fn g cs => CallQ P g (xs.map (ev t) ++ cs) h n K
    | _ => False
  | .b2s x => ∃ l : List UInt8, 0 < l.length ∧ Src h 1 (ev t x) l.length (l.map fun c => .int .u8 (c.toNat : Int)) ∧ K (.str ⟨l.toArray⟩) h n
  | o => xp o t fun v => K v h n

inductive Stp (P : Program) (n0 : Nat) (W : Nat → Prop) (d : Bool) (op : Oper) (o : O) (t : List AV) (h : AH) (n : Nat) (v : AV) (h' : AH) (n' : Nat) : Prop
  | own (new : AH) (hr : RO P none' op o.reads t emp n v new n') (hh : h' = mix n n' h new) (hm : n' = n ∨ o.mk = true) (hw : o.wrs = false)
  | read (hr : RO P none' op o.reads t h n v h' n') (hl : ∀ i, (i < n ∨ n' ≤ i) → h' i = h i) (hm : n' = n ∨ o.mk = true) (hh : o.rh = true) (hw : o.wrs = false)
      (hb : o.isLd = true → ∃ i k b, ev t o.adr = .ptr i k ∧ h i = some b ∧ h' = h ∧ n' = n ∧ ∀ g : AH, g i = some b → RO P none' op o.reads t g n v g n)
  | write (W' : Nat → Prop) (hr : RO P W' op o.reads t h n v h' n') (hp : ∀ i, i < n → W' i → n0 ≤ i ∨ W i) (hf : ∀ i, n' ≤ i → h' i = h i) (hw : o.wrs = true)
      (hb : o.one = true → ∃ i k b, ev t o.adr = .ptr i k ∧ i < n ∧ h i = some b ∧ b.wr = true ∧ (∀ j, W' j → j = i) ∧ (∀ j, j ≠ i → h' j = h j) ∧ n' = n)
  | free (W' : Nat → Prop) (hr : RO P W' op o.reads t h n v h' n') (hp : ∀ i, i < n → W' i → n0 ≤ i ∨ W i) (hd : d = false) (hc : o.rh = true)

theorem Stp.ro {P : Program} {n0 : Nat} {W : Nat → Prop} {d : Bool} {op : Oper} {o : O} {t : List AV} {h : AH} {n : Nat} {v : AV} {h' : AH} {n' : Nat} (s : Stp P n0 W d op o t h n v h' n') :
    ∃ W', RO P W' op o.reads t h n v h' n' ∧ ∀ i, i < n → W' i → n0 ≤ i ∨ W i := by
  cases s with
  | own new hr hh hm => subst hh; exact ⟨none', hr.lift h, fun _ _ h => h.elim⟩
  | read hr hl hm hh => exact ⟨none', hr, fun _ _ h => h.elim⟩
  | write W' hr hp hf hw => exact ⟨W', hr, hp⟩
  | free W' hr hp hd _ => exact ⟨W', hr, hp⟩

theorem App.far {h : AH} {n ty es : Nat} {s x v : AV} {h' : AH} {n' : Nat} {W : Nat → Prop} (a : App h n ty es s x v h' n' W) : ∀ i, n' ≤ i → h' i = h i := by
  intro i hi
  cases a <;> first | rfl | (rw [upd_other (by omega)]; done) | (rw [upd_other (by omega), upd_other (by omega)])

def Info (o : O) (t : List AV) (h : AH) (n : Nat) (v : AV) (h' : AH) (n' : Nat) : Prop := match o with
  | .st _ a _ => n' = n ∧ ∃ i k, ev t a = .ptr i k ∧ ∀ j, j ≠ i → h' j = h j
  | .ld1 a => ∃ i k b, ev t a = .ptr i k ∧ h i = some b ∧ b.cells[k]? = some v
  | _ => True
theorem xo_info {P : Program} {n0 : Nat} {W : Nat → Prop} {d : Bool} {o : O} {t : List AV} {h : AH} {n : Nat} {K : AV → AH → Nat → Prop} (hx : xo P n0 W d o t h n K) : xo P n0 W d o t h n fun v h' n' => K v h' n' ∧ Info o t h n v h' n' := by
  cases o
  case st s a y =>
    simp only [xo] at hx ⊢
    generalize hp : ev t a = p at hx ⊢
    cases p <;> first | exact hx.elim | skip
    obtain ⟨b, h1, h2, h3, h4, h5, h6, h7, h8⟩ := hx
    exact ⟨b, h1, h2, h3, h4, h5, h6, h7, h8, rfl, _, _, hp, fun j hj => upd_other hj⟩
  case ld1 a =>
    simp only [xo] at hx ⊢
    generalize hp : ev t a = p at hx ⊢
    cases p <;> first | exact hx.elim | skip
    obtain ⟨b, c, h1, h2, h3⟩ := hx
    exact ⟨b, c, h1, h2, h3, _, _, b, hp, h1, h2⟩
  all_goals
    rw [show (fun v h' n' => K v h' n' ∧ Info _ t h n v h' n') = K from by funext v h' n'; simp only [Info, and_true]]
    exact hx
section
variable {P : Program} {op : Oper} {t : List AV}

theorem RO.of_call {o' : O} {W : Nat → Prop} {g : Nat} {args : List AV} {h : AH} {n : Nat} {v : AV} {h' : AH} {n' : Nat} (hc : BCalls P W g args h n v h' n')
    (hr : ∀ ρ a, Rel ρ o'.reads t a → ∃ vs, IsL ρ args vs ∧ ∀ w, (execOp a.eval op).run P w = .ok (.enter g vs.toArray) w) : RO P W op o'.reads t h n v h' n' :=
  ⟨hc.2.1, fun ρ a w Kr Qr hR hs hf hk => by
    obtain ⟨vs, hvs, hrun⟩ := hr ρ a hR
    refine wp_enter (hrun w) ((hc.2.2 ρ w vs hs hvs hf).mono fun e w' he => ?_)
    obtain ⟨rv, ρ', rfl, h1, h2, h3⟩ := he
    exact ⟨rv, rfl, hk rv ρ' w' h1 h2 h3⟩⟩

theorem callFunc_run {g : Nat} (hok : okFn P g = true) (args : Array Value) (w : World) : (callFunc g args).run P w = .ok (.enter g args) w := by
  unfold okFn at hok
  split at hok
  · rename_i fn hfn
    simp only [Bool.and_eq_true, Bool.not_eq_true'] at hok
    obtain ⟨h1, h2⟩ := hok
    have h3 : fn.body.isNone = false := by cases hb : fn.body <;> simp_all
    simp only [callFunc, Sem.run_bind, run_program, Result.andThen_ok, hfn, h2, h3, Bool.false_eq_true, if_false, Sem.run_pure]
  · cases hok

theorem compO1_call {o : Op} {f : A} {xs : List A} (h : compO1 P o = some (.call f xs)) : ∃ F ar ats, o = .call { callee := .value F, args := ar, argTypes := ats } ∧ compA F = some f ∧ compAs ar.toList = some xs := by
  cases o
  case call c =>
    obtain ⟨ca, ar, ats⟩ := c
    cases ca
    case value F =>
      simp only [compO1] at h
      split at h
      · rename_i h1 h2; cases h; exact ⟨F, ar, ats, rfl, h1, h2⟩
      · cases h
    case builtin b =>
      exfalso
      cases b <;> simp only [compO1, Option.map_eq_some_iff] at h <;> (repeat' split at h) <;> first | (cases h; done) | (obtain ⟨_, _, h⟩ := h; cases h; done) | simp at h
    all_goals (simp [compO1] at h; done)
  all_goals
    exfalso
    simp only [compO1, Option.map_eq_some_iff] at h
    try (repeat' split at h)
    all_goals first | (cases h; done) | (obtain ⟨_, _, h⟩ := h; cases h; done) | simp_all
theorem call_run {ρ : Rho} {a : Act} {f : Operand} {ar : Array Operand} {ats : Array TypeId} {f' : A} {xs : List A} {g : Nat} {cs : List AV} (ho : op.op = .call { callee := .value f, args := ar, argTypes := ats })
    (hf : compA f = some f') (hx : compAs ar.toList = some xs) (hg : ev t f' = .fn g cs) (hok : okFn P g = true) (hR : Rel ρ (O.call f' xs).reads t a) :
    ∃ vs, IsL ρ (xs.map (ev t) ++ cs) vs ∧ ∀ w, (execOp a.eval op).run P w = .ok (.enter g vs.toArray) w := by
  have e1 := compA_is hf (hR.arg (x := f') (by simp [O.args]))
  have e2 := compAs_is hx (hR.args (xs := xs) (by intro x hx; simp [O.args, hx]))
  rw [hg] at e1; simp only [Is] at e1
  obtain ⟨us, e1, hu⟩ := e1
  refine ⟨_, e2.append hu, fun w => ?_⟩
  have hargs : #[] ++ ar.map a.eval ++ us.toArray = (List.map a.eval ar.toList ++ us).toArray := by
    apply Array.ext'; simp
  simp only [execOp, ho, Sem.run_bind, resolve, e1, Deferred.ofValue, Sem.run_pure, Result.andThen_ok, invoke, callFunc_run hok, hargs]

theorem Stp.pure {o' : O} {n0 : Nat} {W : Nat → Prop} {d : Bool} {v : AV} (h : PV P op o' t v) (g : AH) (n : Nat) (hw : o'.wrs = false) : Stp P n0 W d op o' t g n v g n :=
  .own emp (RO.of_PV h n) (mix_same n g emp).symm (.inl rfl) hw

theorem xo_stp {o' : O} {n0 : Nat} {W : Nat → Prop} {d : Bool} {h : AH} {n : Nat} {K : AV → AH → Nat → Prop} (hc : compO P op.op = some o') (hx : xo P n0 W d o' t h n K) :
    ∃ v h' n', K v h' n' ∧ Stp P n0 W d op o' t h n v h' n' := by
  have hc : compO1 P op.op = some o' := by
    unfold compO at hc
    split at hc
    · rename_i h1; rw [h1]; exact hc
    · cases hc; exact hx.elim
  have pureC : ∀ {o'' : O}, o''.wrs = false → (∃ v, K v h n ∧ PV P op o'' t v) → ∃ v h' n', K v h' n' ∧ Stp P n0 W d op o'' t h n v h' n' := fun hw ⟨v, hk, hp⟩ => ⟨v, h, n, hk, Stp.pure hp h n hw⟩
  have mk : ∀ {o'' : O} {v : AV} {b : Option Blk}, o''.mk = true → o''.wrs = false → K v (upd h n b) (n + 1) → RO P none' op o''.reads t emp n v (upd emp n b) (n + 1) → ∃ v h' n', K v h' n' ∧ Stp P n0 W d op o'' t h n v h' n' :=
    fun hm hw hk hr => ⟨_, _, _, hk, .own _ hr (mix_upd _ _ _).symm (.inr hm) hw⟩
  cases hop : op.op <;> rw [hop] at hc
  case move x =>
    simp only [compO1, Option.map_eq_some_iff] at hc
    obtain ⟨x', hx', rfl⟩ := hc
    exact pureC rfl (x_mv (.inl hop) hx' hx)
  case assign x =>
    simp only [compO1, Option.map_eq_some_iff] at hc
    obtain ⟨x', hx', rfl⟩ := hc
    exact pureC rfl (x_mv (.inr hop) hx' hx)
  case pick c a b =>
    simp only [compO1] at hc
    split at hc
    · rename_i h1 h2 h3; cases hc; exact pureC rfl (x_pick hop h1 h2 h3 hx)
    · cases hc
  case alloc ty =>
    simp only [compO1, Option.map_eq_some_iff] at hc
    obtain ⟨z, hz, rfl⟩ := hc
    exact mk rfl rfl hx (o_alloc hop hz n)
  case box ty x =>
    simp only [compO1, Option.map_eq_some_iff] at hc
    obtain ⟨x', hx', rfl⟩ := hc
    exact mk rfl rfl hx.2 (o_box hop hx' hx.1 n)
  case build ty ps =>
    simp only [compO1] at hc
    split at hc
    · rename_i hT hz
      split at hc
      · rename_i hpl
        split at hc
        · rename_i hl; cases hc; exact pureC rfl (x_build hop hT hz hpl hl hx)
        · cases hc
      · cases hc
    · cases hc
  case buildSlice ty len ps =>
    simp only [compO1] at hc
    split at hc
    · rename_i hT
      split at hc
      · rename_i hi hz hl
        split at hc
        · rename_i hh
          cases hc
          simp only [xo] at hx
          split at hx
          · rename_i hf; exact mk rfl rfl hx (o_lit hop hT hi hz hh.1 hh.2 hl hf n)
          · exact hx.elim
        · cases hc
      · cases hc
    · cases hc
  case load ty x =>
    simp only [compO1] at hc
    split at hc
    · rename_i hx' ha hs
      cases hc
      simp only [xo] at hx
      split at hx
      · rename_i hp
        obtain ⟨b, hb, hl, hk⟩ := hx
        exact ⟨_, _, _, hk, .read (o_ld hop hx' ha hs hp hb hl n) (fun _ _ => rfl) (.inl rfl) rfl rfl fun _ => ⟨_, _, _, hp, hb, rfl, rfl, fun g hg => o_ld hop hx' ha hs hp hg hl n⟩⟩
      · exact hx.elim
    · rename_i hx' ha hs
      cases hc
      simp only [xo] at hx
      split at hx
      · rename_i hp
        obtain ⟨b, c, hb, hl, hk⟩ := hx
        exact ⟨_, _, _, hk, .read (o_ld1 hop hx' ha hp hb hl n) (fun _ _ => rfl) (.inl rfl) rfl rfl fun _ => ⟨_, _, _, hp, hb, rfl, rfl, fun g hg => o_ld1 hop hx' ha hp hg hl n⟩⟩
      · exact hx.elim
    · cases hc
  case store ty a x =>
    simp only [compO1] at hc
    split at hc
    · rename_i ha hx' hs
      cases hc
      simp only [xo] at hx
      split at hx
      · rename_i hp
        obtain ⟨b, hb, hw, h1, h2, h3, h4, h5, hk⟩ := hx
        refine ⟨_, _, _, hk, .write _ (o_st hop ha hx' hs hp hb hw h1 h2 h3 h4) (fun i _ hi => hi ▸ h5) (fun j hj => upd_other (by omega)) rfl fun _ => ⟨_, _, _, hp, h4, hb, hw, fun _ h => h, fun j hj => upd_other hj, rfl⟩⟩
      · exact hx.elim
    · cases hc
  case nilCheck x =>
    simp only [compO1, Option.map_eq_some_iff] at hc
    obtain ⟨x', hx', rfl⟩ := hc
    exact pureC rfl (x_nck hop hx' hx)
  case binOp bop T x y T' =>
    simp only [compO1] at hc
    split at hc
    · rename_i h1 h2 h3; cases hc; exact pureC rfl (x_bin hop h1 h2 hx)
    · rename_i h1 h2 h3; cases hc; exact pureC rfl (x_bin hop h1 h2 hx)
    · rename_i h1 h2 h3
      split at hc
      · cases hc; exact pureC rfl (x_beq (neg := false) hop h3 h1 h2 hx)
      · cases hc; exact pureC rfl (x_beq (neg := true) hop h3 h1 h2 hx)
      · cases hc
    · rename_i h1 h2 h3
      split at hc
      · rename_i h4
        split at hc
        · cases hc; exact pureC rfl (x_feq (neg := false) hop h3 h4 h1 h2 hx)
        · cases hc; exact pureC rfl (x_feq (neg := true) hop h3 h4 h1 h2 hx)
        · cases hc
      · cases hc
    · rename_i h1 h2 h3
      split at hc
      · cases hc; exact pureC rfl (x_nileq (neg := false) hop h3 h1 h2 hx)
      · cases hc; exact pureC rfl (x_nileq (neg := true) hop h3 h1 h2 hx)
      · cases hc
    · rename_i h1 h2 h3
      split at hc
      · cases hc; exact pureC rfl (x_nilseq (neg := false) hop h3 h1 h2 hx)
      · cases hc; exact pureC rfl (x_nilseq (neg := true) hop h3 h1 h2 hx)
      · cases hc
    · cases hc
  case unOp uop T x =>
    simp only [compO1] at hc
    split at hc
    · cases hc
    · simp only [Option.map_eq_some_iff] at hc
      obtain ⟨x', hx', rfl⟩ := hc
      exact pureC rfl (x_un hop hx' hx)
  case convert s d' x =>
    simp only [compO1] at hc
    split at hc
    · rename_i h1 h2 h3; cases hc; exact pureC rfl (x_cvi hop h1 h2 h3 hx)
    · rename_i h1 h2 h3; cases hc; exact pureC rfl (x_cvs hop h1 h2 h3 hx)
    · rename_i h1 h2 h3
      split at hc
      · rename_i h4
        cases hc
        simp only [xo] at hx
        obtain ⟨l, h0, hsrc, hk⟩ := hx
        exact ⟨_, _, _, hk, .read (o_b2s hop h1 h4 h2 h3 hsrc h0 n) (fun _ _ => rfl) (.inl rfl) rfl rfl (fun h => by cases h)⟩
      · cases hc
    · cases hc
  case makeFunc fn first cs =>
    cases fn with
    | func f =>
      simp only [compO1] at hc
      split at hc
      · rename_i hf
        simp only [Option.map_eq_some_iff] at hc
        obtain ⟨x', hx', rfl⟩ := hc
        exact pureC rfl (x_mkf hop hf hx' hx)
      · cases hc
    | _ => simp [compO1] at hc
  case makeSlice T l c =>
    simp only [compO1] at hc
    split at hc
    · rename_i hT
      split at hc
      · rename_i hi hz hl hcc
        split at hc
        · rename_i hh
          cases hc
          simp only [xo] at hx
          split at hx
          · rename_i e1 e2
            obtain ⟨h0, h1, h2, hk⟩ := hx
            exact mk rfl rfl hk (o_mks hop hT hi hz hh.1 hh.2 hl hcc e1 e2 h0 h1 h2 n)
          · exact hx.elim
        · cases hc
      · cases hc
    · cases hc
  case slice T x lo hi m =>
    simp only [compO1] at hc
    split at hc
    · rename_i h1 h2 h3 h4 h5
      have hm : m = none := by
        cases m with
        | none => rfl
        | some y => simp [compOA] at h5
      subst hm
      cases hc; exact pureC rfl (x_sls hop h1 h2 h3 h4 hx)
    · rename_i h1 h2 h3 h4 h5
      split at hc
      · rename_i hs; cases hc; exact pureC rfl (x_slc hop h1 hs h2 h3 h4 h5 hx)
      · cases hc
    · cases hc
  case fieldAddr T x i =>
    simp only [compO1] at hc
    split at hc
    · rename_i h1 h2
      split at hc
      · rename_i hf
        split at hc
        · rename_i hs
          split at hc
          · cases hc
          · rename_i h0; cases hc; exact pureC rfl (x_fa hop h1 hf hs h0 h2 hx)
        · cases hc
      · cases hc
    · cases hc
  case field T x i =>
    simp only [compO1] at hc
    split at hc
    · rename_i h1 h2
      split at hc
      · rename_i hf
        split at hc
        · rename_i ha hs; cases hc; exact pureC rfl (x_fld hop h1 hf ha hs h2 hx)
        · rename_i ha hs; cases hc; exact pureC rfl (x_fld1 hop h1 hf ha h2 hx)
        · cases hc
      · cases hc
    · cases hc
  case indexAddr T x i =>
    simp only [compO1] at hc
    split at hc
    · rename_i h1 h2 h3
      split at hc
      · rename_i hs; cases hc; exact pureC rfl (x_ia hop h1 hs h2 h3 hx)
      · cases hc
    · cases hc
  case index T x i =>
    simp only [compO1] at hc
    split at hc
    · rename_i h1 h2 h3; cases hc; exact pureC rfl (x_ixs hop h1 h2 h3 hx)
    · cases hc
  case extract x i =>
    simp only [compO1, Option.map_eq_some_iff] at hc
    obtain ⟨x', hx', rfl⟩ := hc
    exact pureC rfl (x_ext hop hx' hx)
  case call c =>
    obtain ⟨callee, ar, ats⟩ := c
    cases callee with
    | value f =>
      simp only [compO1] at hc
      split at hc
      · rename_i hf hxs
        cases hc
        simp only [xo] at hx
        split at hx
        · rename_i hg
          obtain ⟨v, h', n', W', hcall, hp, hd, hk⟩ := hx
          have hro : RO P W' op (O.call _ _).reads t h n v h' n' := RO.of_call hcall fun ρ a hR => call_run hop hf hxs hg hcall.1 hR
          refine ⟨v, h', n', hk, ?_⟩
          cases hdd : d with
          | false => exact .free W' hro hp rfl rfl
          | true =>
            obtain ⟨rfl, hl⟩ := hd hdd
            exact .read hro hl (.inr rfl) rfl rfl (by intro h; cases h)
        · exact hx.elim
      · cases hc
    | invoke r m => simp [compO1] at hc
    | builtin b =>
      cases b <;> simp only [compO1] at hc <;> try (cases hc; done)
      case append =>
        split at hc
        · rename_i h1 h2
          split at hc
          · rename_i h3 h4 h5
            split at hc
            · rename_i h6 h7
              split at hc
              · rename_i hh
                split at hc
                · rename_i htt
                  cases hc
                  subst htt
                  simp only [xo] at hx
                  obtain ⟨v, h', n', W', ha, hp, hk⟩ := hx
                  exact ⟨v, h', n', hk, .write W' (o_app hop h1 h2 h5 h6 h7 hh.1 hh.2 h3 h4 ha) hp ha.far rfl (by intro h; cases h)⟩
                · split at hc
                  · rename_i h8
                    cases hc
                    simp only [xo] at hx
                    split at hx
                    · rename_i e1 e2
                      obtain ⟨q0, q1, hk⟩ := hx
                      exact mk rfl rfl hk (o_appz hop h1 h2 h5 h8 h6 h7 hh.1 hh.2 h3 h4 e1 e2 q0 q1 n)
                    · exact hx.elim
                  · cases hc
              · cases hc
            · cases hc
          · cases hc
        · cases hc
      case clear =>
        split at hc
        · rename_i h1 h2
          split at hc
          · rename_i h3 h4
            split at hc
            · rename_i h5
              split at hc
              · rename_i h6
                cases hc
                simp only [xo] at hx
                split at hx
                · rename_i hp
                  obtain ⟨b, hb, hw, q0, q1, q2, q3, hk⟩ := hx
                  exact ⟨_, _, _, hk, .write _ (o_clr hop h1 h2 h4 h5 h6 h3 hp q0 hb hw q1 q2) (fun i _ hi => hi ▸ q3) (fun j hj => upd_other (by omega)) rfl (by intro h; cases h)⟩
                · exact hx.elim
              · cases hc
            · cases hc
          · cases hc
        · cases hc
      case len =>
        split at hc
        · rename_i h1 h2
          split at hc
          · rename_i h3 h4; cases hc; exact pureC rfl (x_lens hop h1 h2 h4 h3 hx)
          · rename_i h3 h4; cases hc; exact pureC rfl (x_len hop h1 h2 h4 h3 hx)
          · cases hc
        · cases hc
      case cap =>
        split at hc
        · rename_i h1 h2
          split at hc
          · rename_i h3 h4; cases hc; exact pureC rfl (x_cap hop h1 h2 h4 h3 hx)
          · cases hc
        · cases hc
      case max =>
        simp only [Option.map_eq_some_iff] at hc
        obtain ⟨xs, hxs, rfl⟩ := hc
        exact pureC rfl (x_mx hop hxs hx)
      case min =>
        simp only [Option.map_eq_some_iff] at hc
        obtain ⟨xs, hxs, rfl⟩ := hc
        exact pureC rfl (x_mn hop hxs hx)
  all_goals (simp [compO1] at hc; done)
theorem xo_stp_w {f : A} {xs : List A} {n0 : Nat} {W : Nat → Prop} {d : Bool} {h : AH} {n : Nat} {K : AV → AH → Nat → Prop} (hc : compO P op.op = some (.call f xs)) (hx : xo P n0 W d (.callw f xs) t h n K) :
    ∃ v h' n', K v h' n' ∧ Stp P n0 W d op (.callw f xs) t h n v h' n' := by
  have hx' : xo P n0 W false (.call f xs) t h n (fun v h' n' => K v h' n' ∧ ∀ i, n' ≤ i → h' i = h i) := by
    simp only [xo] at hx ⊢
    generalize ev t f = p at hx ⊢
    cases p <;> first | exact hx.elim | skip
    obtain ⟨v, h', n', W', h1, h2, h3, h4⟩ := hx
    exact ⟨v, h', n', W', h1, h2, (fun h => by cases h), h4, h3⟩
  obtain ⟨v, h', n', ⟨hk, hf⟩, hst⟩ := xo_stp hc hx'
  obtain ⟨W', hro, hp⟩ := hst.ro
  exact ⟨v, h', n', hk, .write W' hro hp hf rfl (by intro h; cases h)⟩
theorem xo_stp_q {f : A} {xs : List A} {n0 : Nat} {W : Nat → Prop} {d : Bool} {h : AH} {n : Nat} {K : AV → AH → Nat → Prop} (hc : compO P op.op = some (.call f xs)) (hx : xo P n0 W d (.callq f xs) t h n K) :
    ∃ v h' n', K v h' n' ∧ Stp P n0 W d op (.callq f xs) t h n v h' n' := by
  simp only [xo] at hx
  generalize hg : ev t f = p at hx
  cases p <;> first | exact hx.elim | skip
  rename_i g cs
  obtain ⟨v, hb, hk⟩ := hx
  have hx' : ∃ F ar ats, op.op = .call { callee := .value F, args := ar, argTypes := ats } ∧ compA F = some f ∧ compAs ar.toList = some xs := by
    unfold compO at hc
    split at hc
    · rename_i e; cases hc; exact compO1_call e
    · cases hc
  obtain ⟨F, ar, ats, ho, hF, hA⟩ := hx'
  exact ⟨v, h, n, hk, .own emp (RO.of_call (o' := .callq f xs) hb fun ρ act hR => call_run ho hF hA hg hb.1 hR) (mix_same n h emp).symm (.inl rfl) rfl⟩
theorem xo_stp_p {f : A} {xs : List A} {n0 : Nat} {W : Nat → Prop} {d : Bool} {h : AH} {n : Nat} {K : AV → AH → Nat → Prop} (hc : compO P op.op = some (.call f xs)) (hx : xo P n0 W d (.callp f xs) t h n K) :
    ∃ v h' n', K v h' n' ∧ Stp P n0 W d op (.callp f xs) t h n v h' n' := by
  simp only [xo] at hx
  cases xs with
  | nil => exact hx.elim
  | cons a r =>
    simp only at hx
    generalize hg : ev t f = p at hx
    cases p <;> first | exact hx.elim | skip
    rename_i g cs
    obtain ⟨v, h', W', i, k, r', b, e, hb, h1, h2, h3, h4, h5, h6, hk⟩ := hx
    have hx' : ∃ F ar ats, op.op = .call { callee := .value F, args := ar, argTypes := ats } ∧ compA F = some f ∧ compAs ar.toList = some (a :: r) := by
      unfold compO at hc
      split at hc
      · rename_i y hy
        cases hc
        exact compO1_call hy
      · cases hc
    obtain ⟨F, ar, ats, c1, c2, c3⟩ := hx'
    have e1 : ev t a = .ptr i k := (List.cons.inj e).1
    refine ⟨v, h', n, hk, .write W' (RO.of_call hb fun ρ act hR => ?_) (fun j _ hj => h1 j hj ▸ h5) (fun j hj => h6 j (by omega)) rfl fun _ => ⟨i, k, b, e1, h4, h2, h3, h1, h6, rfl⟩⟩
    have := call_run (ρ := ρ) (a := act) (cs := cs) c1 c2 c3 hg hb.1 hR
    simpa using this
end
end Go.Proofs.YtkpibnhddhdooacDoor.L
