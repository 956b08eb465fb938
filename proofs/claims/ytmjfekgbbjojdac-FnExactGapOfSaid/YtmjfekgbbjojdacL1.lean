/- The plain part of a program logic of our own: abstract values, abstract heaps, and what it means that a world of the model is told by them. No program in sight. -/
import Derived.Orders
import Derived.Laws.AppendOwn
import Derived.Laws.IdiomCopy
import Derived.Laws.Entries
import Derived.KernelRfl
namespace Go.Proofs.Ytmjfekgbbjojdac.L
open Go

/-- Values told without addresses: 'i' are names of blocks. -/
inductive AV where
  | any
  | bool (b : Bool)
  | int (k : IntKind) (n : Int)
  | str (s : ByteArray)
  | ptr (i o : Nat)
  | nilptr
  | sl (i o n c : Nat)
  | so (i n : Nat)
  | sx (i o n : Nat)
  | nilsl
  | sl0
  | fn (f : Nat) (cs : List AV)
  | agg (cs : List AV)
  | tup (cs : List AV)
  | nilif
  | iface
  deriving Inhabited

/-- Where a name lies: block, shift, and, of a row that has grown, its capacity. -/
structure Ref where
  b : Nat
  s : Nat
  c : Nat

abbrev Rho := Nat → Option Ref

mutual
def Is (ρ : Rho) : AV → Value → Prop
  | .any, _ => True
  | .bool b, v => v = .bool b
  | .int k n, v => v = .int k n
  | .str s, v => v = .string s
  | .ptr i o, v => ∃ r, ρ i = some r ∧ v = .pointer (some ⟨r.b, r.s + o, none⟩)
  | .nilptr, v => v = .pointer none
  | .sl i o n c, v => ∃ r, ρ i = some r ∧ v = .slice (some ⟨r.b, r.s + o, none⟩) n c
  | .so i n, v => ∃ r, ρ i = some r ∧ r.s = 0 ∧ n ≤ r.c ∧ v = .slice (some ⟨r.b, 0, none⟩) n r.c
  | .sx i o n, v => ∃ r a c, ρ i = some r ∧ v = .slice (some a) n c ∧ n ≤ c ∧ (n ≠ 0 → a = ⟨r.b, r.s + o, none⟩)
  | .nilsl, v => v = .slice none 0 0
  | .sl0, v => ∃ a, v = .slice a 0 0
  | .fn f cs, v => ∃ vs : List Value, v = .func (.func f) #[] vs.toArray ∧ IsL ρ cs vs
  | .agg cs, v => ∃ vs : List Value, v = .agg vs.toArray ∧ IsL ρ cs vs
  | .tup cs, v => ∃ vs : List Value, v = .tuple vs.toArray ∧ IsL ρ cs vs
  | .nilif, v => v = .nilIface
  | .iface, v => ∃ t u, v = .iface t u
def IsL (ρ : Rho) : List AV → List Value → Prop
  | [], vs => vs = []
  | c :: cs, vs => ∃ v r, vs = v :: r ∧ Is ρ c v ∧ IsL ρ cs r
end

def Ext (ρ ρ' : Rho) : Prop := ∀ i r, ρ i = some r → ρ' i = some r
theorem Ext.refl (ρ : Rho) : Ext ρ ρ := fun _ _ h => h

mutual
theorem Is.mono {ρ ρ' : Rho} (e : Ext ρ ρ') : ∀ (a : AV) (v : Value), Is ρ a v → Is ρ' a v
  | .any, _, _ => by simp only [Is]
  | .bool b, v, h => by simp only [Is] at h ⊢; exact h
  | .int k n, v, h => by simp only [Is] at h ⊢; exact h
  | .str s, v, h => by simp only [Is] at h ⊢; exact h
  | .ptr i o, v, h => by simp only [Is] at h ⊢; obtain ⟨r, h1, h2⟩ := h; exact ⟨r, e _ _ h1, h2⟩
  | .nilptr, v, h => by simp only [Is] at h ⊢; exact h
  | .sl i o n c, v, h => by simp only [Is] at h ⊢; obtain ⟨r, h1, h2⟩ := h; exact ⟨r, e _ _ h1, h2⟩
  | .so i n, v, h => by simp only [Is] at h ⊢; obtain ⟨r, h1, h2⟩ := h; exact ⟨r, e _ _ h1, h2⟩
  | .sx i o n, v, h => by simp only [Is] at h ⊢; obtain ⟨r, a, c, h1, h2⟩ := h; exact ⟨r, a, c, e _ _ h1, h2⟩
  | .nilsl, v, h => by simp only [Is] at h ⊢; exact h
  | .sl0, v, h => by simp only [Is] at h ⊢; exact h
  | .fn f cs, v, h => by simp only [Is] at h ⊢; obtain ⟨vs, h1, h2⟩ := h; exact ⟨vs, h1, IsL.mono e cs vs h2⟩
  | .agg cs, v, h => by simp only [Is] at h ⊢; obtain ⟨vs, h1, h2⟩ := h; exact ⟨vs, h1, IsL.mono e cs vs h2⟩
  | .tup cs, v, h => by simp only [Is] at h ⊢; obtain ⟨vs, h1, h2⟩ := h; exact ⟨vs, h1, IsL.mono e cs vs h2⟩
  | .nilif, v, h => by simp only [Is] at h ⊢; exact h
  | .iface, v, h => by simp only [Is] at h ⊢; exact h
theorem IsL.mono {ρ ρ' : Rho} (e : Ext ρ ρ') : ∀ (l : List AV) (vs : List Value), IsL ρ l vs → IsL ρ' l vs
  | [], _, h => by simp only [IsL] at h ⊢; exact h
  | c :: cs, vs, h => by
    simp only [IsL] at h ⊢
    obtain ⟨v, r, h1, h2, h3⟩ := h
    exact ⟨v, r, h1, Is.mono e c v h2, IsL.mono e cs r h3⟩
end

theorem IsL.nil (ρ : Rho) : IsL ρ [] [] := by simp only [IsL]
theorem IsL.cons {ρ : Rho} {c : AV} {cs : List AV} {v : Value} {vs : List Value} (h : Is ρ c v) (hs : IsL ρ cs vs) : IsL ρ (c :: cs) (v :: vs) := by
  simp only [IsL]; exact ⟨v, vs, rfl, h, hs⟩
theorem IsL.cons_iff {ρ : Rho} {c : AV} {cs : List AV} {v : Value} {vs : List Value} : IsL ρ (c :: cs) (v :: vs) ↔ Is ρ c v ∧ IsL ρ cs vs := by
  simp only [IsL]
  constructor
  · rintro ⟨v', r, h, h1, h2⟩; cases h; exact ⟨h1, h2⟩
  · rintro ⟨h1, h2⟩; exact ⟨v, vs, rfl, h1, h2⟩
theorem IsL.length {ρ : Rho} : ∀ {l : List AV} {vs : List Value}, IsL ρ l vs → vs.length = l.length
  | [], vs, h => by simp only [IsL] at h; simp [h]
  | c :: cs, vs, h => by
    simp only [IsL] at h
    obtain ⟨v, r, rfl, _, h3⟩ := h
    simp [h3.length]
theorem IsL.get {ρ : Rho} : ∀ {l : List AV} {vs : List Value}, IsL ρ l vs → ∀ (i : Nat) (c : AV), l[i]? = some c → ∃ v, vs[i]? = some v ∧ Is ρ c v
  | [], vs, h, i, c, hi => by simp at hi
  | c :: cs, vs, h, i, d, hi => by
    simp only [IsL] at h
    obtain ⟨v, r, rfl, h1, h2⟩ := h
    cases i with
    | zero => simp at hi; subst hi; exact ⟨v, by simp, h1⟩
    | succ i => simpa using h2.get i d (by simpa using hi)
theorem IsL.of_get {ρ : Rho} : ∀ {l : List AV} {vs : List Value}, vs.length = l.length → (∀ (i : Nat) (c : AV) (v : Value), l[i]? = some c → vs[i]? = some v → Is ρ c v) → IsL ρ l vs
  | [], vs, hl, _ => by simp only [IsL]; exact List.eq_nil_of_length_eq_zero (by simpa using hl)
  | c :: cs, [], hl, _ => by simp at hl
  | c :: cs, v :: vs, hl, h => by
    refine IsL.cons (h 0 c v (by simp) (by simp)) (IsL.of_get (by simpa using hl) fun i d u h1 h2 => h (i + 1) d u (by simpa using h1) (by simpa using h2))
theorem IsL.getD {ρ : Rho} {l : List AV} {vs : List Value} (h : IsL ρ l vs) (i : Nat) (u : Value) : Is ρ (l.getD i .any) (vs.getD i u) := by
  cases hc : l[i]? with
  | none => simp [List.getD, hc, Is]
  | some c =>
    obtain ⟨v, hv, his⟩ := h.get i c hc
    simp [List.getD, hc, hv, his]
theorem IsL.set {ρ : Rho} {c : AV} {v : Value} (hc : Is ρ c v) : ∀ {l : List AV} {vs : List Value}, IsL ρ l vs → ∀ i, IsL ρ (l.set i c) (vs.set i v)
  | [], vs, h, i => by simp only [IsL] at h; subst h; simp [IsL.nil]
  | d :: ds, vs, h, i => by
    simp only [IsL] at h
    obtain ⟨u, r, rfl, h1, h2⟩ := h
    cases i with
    | zero => exact IsL.cons hc h2
    | succ i => exact IsL.cons h1 (IsL.set hc h2 i)
theorem IsL.append {ρ : Rho} : ∀ {l m : List AV} {vs us : List Value}, IsL ρ l vs → IsL ρ m us → IsL ρ (l ++ m) (vs ++ us)
  | [], m, vs, us, h, h' => by simp only [IsL] at h; subst h; simpa using h'
  | c :: cs, m, vs, us, h, h' => by
    simp only [IsL] at h
    obtain ⟨v, r, rfl, h1, h2⟩ := h
    exact IsL.cons h1 (IsL.append h2 h')
theorem IsL.replicate_any (ρ : Rho) (vs : List Value) : IsL ρ (List.replicate vs.length .any) vs := by
  induction vs with
  | nil => exact IsL.nil ρ
  | cons v vs ih => exact IsL.cons (by simp only [Is]) ih
theorem IsL.take {ρ : Rho} {l : List AV} {vs : List Value} (h : IsL ρ l vs) (k : Nat) : IsL ρ (l.take k) (vs.take k) := by
  refine IsL.of_get (by simp [h.length]) fun i c v h1 h2 => ?_
  rw [List.getElem?_take] at h1 h2
  split at h1
  · obtain ⟨u, hu, hi⟩ := h.get i c h1
    rw [hu] at h2; split at h2 <;> simp_all
  · cases h1
theorem IsL.drop {ρ : Rho} {l : List AV} {vs : List Value} (h : IsL ρ l vs) (k : Nat) : IsL ρ (l.drop k) (vs.drop k) := by
  refine IsL.of_get (by simp [h.length]) fun i c v h1 h2 => ?_
  rw [List.getElem?_drop] at h1 h2
  obtain ⟨u, hu, hi⟩ := h.get _ c h1
  rw [hu] at h2; simp_all

/-- A value that one cell can hold, and of which we know that. -/
def AV.one : AV → Bool
  | .any | .agg _ | .tup _ => false
  | _ => true
def AV.cells : AV → List AV
  | .agg cs => cs
  | v => [v]
theorem Is.one {ρ : Rho} {a : AV} {v : Value} (h : Is ρ a v) (ha : a.one = true) : v.oneCell' = true ∧ v.cells = #[v] := by
  cases a <;> simp only [AV.one, Bool.false_eq_true] at ha <;> simp only [Is] at h <;>
    first
      | (subst h; exact ⟨rfl, rfl⟩)
      | (obtain ⟨a, rfl⟩ := h; exact ⟨rfl, rfl⟩)
      | (obtain ⟨r, _, h⟩ := h; subst h; exact ⟨rfl, rfl⟩)
      | (obtain ⟨r, _, _, _, h⟩ := h; subst h; exact ⟨rfl, rfl⟩)
      | (obtain ⟨r, a, c, _, h, _⟩ := h; subst h; exact ⟨rfl, rfl⟩)
      | (obtain ⟨vs, h, _⟩ := h; subst h; exact ⟨rfl, rfl⟩)
      | (obtain ⟨t, u, h⟩ := h; subst h; exact ⟨rfl, rfl⟩)
/-- The cells of a value that can be stored. -/
def AV.storable (a : AV) : Bool := match a with
  | .agg cs => cs.all AV.one
  | v => v.one
theorem IsL.all_one {ρ : Rho} {l : List AV} {vs : List Value} (h : IsL ρ l vs) (hl : l.all AV.one = true) : ∀ v ∈ vs, v.oneCell' = true := by
  intro v hv
  obtain ⟨i, hi, rfl⟩ := List.mem_iff_getElem.1 hv
  have hi' : i < l.length := by rw [← h.length]; exact hi
  obtain ⟨u, hu, his⟩ := h.get i l[i] (by simp [hi'])
  rw [List.getElem?_eq_getElem hi] at hu
  cases hu
  exact (his.one (List.all_eq_true.1 hl _ (List.getElem_mem hi'))).1
theorem Is.storable {ρ : Rho} {a : AV} {v : Value} (h : Is ρ a v) (ha : a.storable = true) : IsL ρ a.cells v.cells.toList ∧ ∀ u ∈ v.cells.toList, u.oneCell' = true := by
  unfold AV.storable at ha
  split at ha
  · rename_i cs
    simp only [Is] at h
    obtain ⟨vs, rfl, h⟩ := h
    exact ⟨by simpa [AV.cells, Value.cells] using h, by simpa [Value.cells] using h.all_one ha⟩
  · rename_i x hx
    have hc : a.cells = [a] := by cases a <;> simp_all [AV.cells, AV.one]
    rw [hc, (h.one ha).2]
    exact ⟨IsL.cons h (IsL.nil ρ), by simpa using (h.one ha).1⟩

/-- A block told: its type, its cells, whether it is ours to write, and, of one that append has grown, its element's size (else 0). -/
structure Blk where
  ty : Nat
  cells : List AV
  wr : Bool
  op : Nat

abbrev AH := Nat → Option Blk
def emp : AH := fun _ => none
def upd (h : AH) (i : Nat) (b : Option Blk) : AH := fun j => if j = i then b else h j
theorem upd_same (h : AH) (i : Nat) (b : Option Blk) : upd h i b i = b := by simp [upd]
theorem upd_other {h : AH} {i j : Nat} {b : Option Blk} (e : j ≠ i) : upd h i b j = h j := by simp [upd, e]

structure BlkAt (ρ : Rho) (w : World) (r : Ref) (b : Blk) : Prop where
  cells : ∀ k c, b.cells[k]? = some c → ∃ v, w.cell? ⟨r.b, r.s + k, none⟩ = some v ∧ Is ρ c v
  own : b.wr = true → r.s = 0 ∧ ∃ cs : Array Value, w.heap[r.b]? = some (.cells cs b.ty (0, 0)) ∧ b.cells.length ≤ cs.size ∧
    (b.op = 0 → cs.size = b.cells.length) ∧ (b.op ≠ 0 → cs.size = r.c * b.op ∧ r.c ≤ maxLen)

structure Sim (ρ : Rho) (h : AH) (w : World) : Prop where
  lies : ∀ i b, h i = some b → ∃ r, ρ i = some r ∧ BlkAt ρ w r b
  inj : ∀ i j bi bj ri rj, h i = some bi → h j = some bj → i ≠ j → bi.wr = true → (bj.wr = true ∨ bj.cells ≠ []) → ρ i = some ri → ρ j = some rj → ri.b ≠ rj.b

theorem Sim.emp (ρ : Rho) (w : World) : Sim ρ emp w := ⟨fun _ _ h => by simp [L.emp] at h, fun _ _ _ _ _ _ h => by simp [L.emp] at h⟩
/-- Less is told. -/
theorem Sim.less {ρ : Rho} {h g : AH} {w : World} (s : Sim ρ h w) (hg : ∀ i b, g i = some b → h i = some b) : Sim ρ g w :=
  ⟨fun i b hb => s.lies i b (hg i b hb), fun i j bi bj ri rj h1 h2 => s.inj i j bi bj ri rj (hg _ _ h1) (hg _ _ h2)⟩
theorem cell?_block {w w' : World} {a : Addr} (h : w'.heap[a.block]? = w.heap[a.block]?) : w'.cell? a = w.cell? a := by
  simp only [World.cell?, h]
theorem cell?_lt {w : World} {a : Addr} {v : Value} (h : w.cell? a = some v) : a.block < w.heap.size := by
  simp only [World.cell?] at h
  split at h
  · rename_i hb; exact (Array.getElem?_eq_some_iff.1 hb).1
  · cases h
theorem BlkAt.keep {ρ ρ' : Rho} {w w' : World} {r : Ref} {b : Blk} (h : BlkAt ρ w r b) (e : Ext ρ ρ') (hw : w'.heap[r.b]? = w.heap[r.b]?) : BlkAt ρ' w' r b := by
  refine ⟨fun k c hk => ?_, fun hb => ?_⟩
  · obtain ⟨v, h1, h2⟩ := h.cells k c hk
    exact ⟨v, by rw [cell?_block hw]; exact h1, h2.mono e⟩
  · obtain ⟨h1, cs, h2, h3⟩ := h.own hb
    exact ⟨h1, cs, by rw [hw]; exact h2, h3⟩
theorem BlkAt.lt {ρ : Rho} {w : World} {r : Ref} {b : Blk} (h : BlkAt ρ w r b) (hb : b.wr = true ∨ b.cells ≠ []) : r.b < w.heap.size := by
  rcases hb with hb | hb
  · obtain ⟨_, cs, h2, _⟩ := h.own hb
    exact (Array.getElem?_eq_some_iff.1 h2).1
  · cases hc : b.cells with
    | nil => exact absurd hc hb
    | cons c cs =>
      obtain ⟨v, h1, _⟩ := h.cells 0 c (by simp [hc])
      exact cell?_lt h1

/-- What a piece of code that began in w0, names below n0 lying by ρ0, may write: W. Its own names: from n0 to n1. -/
structure Gx where
  ρ0 : Rho
  w0 : World
  W : Nat → Prop
  n0 : Nat
  n1 : Nat

structure Cx (G : Gx) (ρ : Rho) (w : World) : Prop where
  os : w.os = G.w0.os
  tape : w.tape = G.w0.tape
  output : w.output = G.w0.output
  size : G.w0.heap.size ≤ w.heap.size
  blk : ∀ b, b < G.w0.heap.size → (∀ i r, i < G.n0 → G.W i → G.ρ0 i = some r → r.b ≠ b) → w.heap[b]? = G.w0.heap[b]?
  old : ∀ i, i < G.n0 → ρ i = G.ρ0 i
  far : ∀ i, G.n1 ≤ i → ρ i = G.ρ0 i
  own : ∀ i r, G.n0 ≤ i → i < G.n1 → ρ i = some r → G.w0.heap.size ≤ r.b ∨ ∃ j rj, j < G.n0 ∧ G.W j ∧ G.ρ0 j = some rj ∧ rj.b = r.b

def none' : Nat → Prop := fun _ => False

theorem Cx.refl (ρ : Rho) (w : World) (W : Nat → Prop) (n0 n1 : Nat) (hf : ∀ i, n0 ≤ i → i < n1 → ρ i = none) : Cx ⟨ρ, w, W, n0, n1⟩ ρ w :=
  ⟨rfl, rfl, rfl, Nat.le_refl _, fun _ _ _ => rfl, fun _ _ => rfl, fun _ _ => rfl, fun i r h1 h2 h3 => by rw [hf i h1 h2] at h3; cases h3⟩

theorem Cx.trans {G : Gx} {ρ ρ' : Rho} {w w' : World} {W' : Nat → Prop} {n n' : Nat} (c : Cx G ρ w) (c' : Cx ⟨ρ, w, W', n, n'⟩ ρ' w')
    (h0 : G.n0 ≤ n) (h1 : n ≤ n') (h2 : n' ≤ G.n1) (hW : ∀ i, i < n → W' i → G.n0 ≤ i ∨ G.W i) : Cx G ρ' w' := by
  refine ⟨c'.os.trans c.os, c'.tape.trans c.tape, c'.output.trans c.output, Nat.le_trans c.size c'.size, fun b hb hh => ?_, fun i hi => ?_, fun i hi => ?_, fun i r hi1 hi2 hr => ?_⟩
  · have e1 := c.blk b hb hh
    have e2 := c'.blk b (Nat.lt_of_lt_of_le hb c.size) (fun i r hi hw hr => by
      rcases Nat.lt_or_ge i G.n0 with hlt | hge
      · rcases hW i hi hw with h | h
        · omega
        · exact hh i r hlt h (by rw [← c.old i hlt]; exact hr)
      · rcases c.own i r hge (by simp at hi; omega) hr with h | ⟨j, rj, hj, hwj, hrj, hb'⟩
        · omega
        · rw [← hb']; exact hh j rj hj hwj hrj)
    exact e2.trans e1
  · exact (c'.old i (by simp; omega)).trans (c.old i hi)
  · exact (c'.far i (by simp; omega)).trans (c.far i hi)
  · by_cases hm : n ≤ i ∧ i < n'
    · rcases c'.own i r hm.1 hm.2 hr with h | ⟨j, rj, hj, hwj, hrj, hb'⟩
      · exact .inl (Nat.le_trans c.size h)
      · rcases Nat.lt_or_ge j G.n0 with hlt | hge
        · rcases hW j hj hwj with h | h
          · omega
          · exact .inr ⟨j, rj, hlt, h, by rw [← c.old j hlt]; exact hrj, hb'⟩
        · rcases c.own j rj hge (by simp at hj; omega) hrj with h | ⟨j', rj', h3, h4, h5, h6⟩
          · exact .inl (by rw [← hb']; exact h)
          · exact .inr ⟨j', rj', h3, h4, h5, h6.trans hb'⟩
    · have : ρ' i = ρ i := by
        by_cases hlt : i < n
        · exact c'.old i hlt
        · exact c'.far i (by simp; omega)
      exact c.own i r hi1 hi2 (by rw [← this]; exact hr)

theorem Cx.ext {ρ ρ' : Rho} {w w' : World} {W : Nat → Prop} {n n' : Nat} (c : Cx ⟨ρ, w, W, n, n'⟩ ρ' w') (hf : ∀ i, n ≤ i → i < n' → ρ i = none) : Ext ρ ρ' := by
  intro i r hr
  by_cases h1 : i < n
  · rw [c.old i h1]; exact hr
  · by_cases h2 : i < n'
    · rw [hf i (by omega) h2] at hr; cases hr
    · rw [c.far i (by simp; omega)]; exact hr

def mix (n n' : Nat) (g new : AH) : AH := fun i => if n ≤ i ∧ i < n' then new i else g i

/-- What a piece of code that writes nothing of what was there has made is laid beside what is told. -/
theorem Sim.mix {ρ ρ' : Rho} {g new : AH} {w w' : World} {n n' : Nat} (s : Sim ρ g w) (c : Cx ⟨ρ, w, none', n, n'⟩ ρ' w') (hf : ∀ i, n ≤ i → i < n' → ρ i = none)
    (s' : Sim ρ' new w') : Sim ρ' (mix n n' g new) w' := by
  have e := c.ext hf
  have same : ∀ b, b < w.heap.size → w'.heap[b]? = w.heap[b]? := fun b hb => c.blk b hb (fun i r _ h => h.elim)
  have hg : ∀ i b, g i = some b → ¬ (n ≤ i ∧ i < n') := fun i b hb hm => by
    obtain ⟨r, h1, _⟩ := s.lies i b hb
    rw [hf i hm.1 hm.2] at h1; cases h1
  have keep : ∀ i b, g i = some b → ∃ r, ρ i = some r ∧ ρ' i = some r ∧ BlkAt ρ' w' r b := fun i b hb => by
    obtain ⟨r, h1, h2⟩ := s.lies i b hb
    refine ⟨r, h1, e i r h1, ?_⟩
    by_cases hne : b.wr = true ∨ b.cells ≠ []
    · exact h2.keep e (same _ (h2.lt hne))
    · refine ⟨fun k c hk => ?_, fun hb' => absurd (Or.inl hb') hne⟩
      have : b.cells = [] := by simpa using fun hc => hne (.inr hc)
      simp [this] at hk
  refine ⟨fun i b hb => ?_, fun i j bi bj ri rj hi hj hij hwr hne hri hrj => ?_⟩
  · simp only [L.mix] at hb
    split at hb
    · exact s'.lies i b hb
    · obtain ⟨r, _, h2, h3⟩ := keep i b hb
      exact ⟨r, h2, h3⟩
  · simp only [L.mix] at hi hj
    split at hi <;> split at hj
    · exact s'.inj i j bi bj ri rj hi hj hij hwr hne hri hrj
    · rename_i hm _
      obtain ⟨r, h1, h2, h3⟩ := keep j bj hj
      rw [h2] at hrj; cases hrj
      rcases c.own i ri hm.1 hm.2 hri with h | ⟨_, _, _, h, _⟩
      · obtain ⟨r', h1', h2'⟩ := s.lies j bj hj
        rw [h1] at h1'; cases h1'
        have := h2'.lt hne
        intro heq; simp only at h; omega
      · exact h.elim
    · rename_i _ hm
      obtain ⟨r, h1, h2, h3⟩ := keep i bi hi
      rw [h2] at hri; cases hri
      rcases c.own j rj hm.1 hm.2 hrj with h | ⟨_, _, _, h, _⟩
      · obtain ⟨r', h1', h2'⟩ := s.lies i bi hi
        rw [h1] at h1'; cases h1'
        have := h2'.lt (.inl hwr)
        intro heq; simp only at h; omega
      · exact h.elim
    · obtain ⟨r, h1, h2, h3⟩ := keep i bi hi
      obtain ⟨r', h1', h2', h3'⟩ := keep j bj hj
      rw [h2] at hri; cases hri
      rw [h2'] at hrj; cases hrj
      exact s.inj i j bi bj _ _ hi hj hij hwr hne h1 h1'
end Go.Proofs.Ytmjfekgbbjojdac.L
