/- append, and calls. -/
import Derived.Test.YtmjfekgbbjojdacL6
namespace Go.Proofs.Ytmjfekgbbjojdac.L
open Go
set_option linter.unusedSimpArgs false
set_option linter.unusedVariables false

theorem read_cells {ρ : Rho} {w : World} {r : Ref} {b : Blk} (h : BlkAt ρ w r b) (off : Nat) : ∀ m, off + m ≤ b.cells.length →
    ∃ vs : List Value, vs.length = m ∧ IsL ρ (cutA b.cells off m) vs ∧ ∀ j v, vs[j]? = some v → w.cell? ((⟨r.b, r.s + off, none⟩ : Addr).add j) = some v := by
  intro m hm
  induction m with
  | zero => exact ⟨[], rfl, by simp [cutA, IsL.nil], fun j v h => by simp at h⟩
  | succ m ih =>
    obtain ⟨vs, g1, g2, g3⟩ := ih (by omega)
    have hlt : off + m < b.cells.length := by omega
    obtain ⟨v, h3, h4⟩ := h.cells (off + m) b.cells[off + m] (by simp [hlt])
    refine ⟨vs ++ [v], by simp [g1], ?_, fun j u hj => ?_⟩
    · have : cutA b.cells off (m + 1) = cutA b.cells off m ++ [b.cells[off + m]] := by
        simp only [cutA]
        rw [List.take_succ_eq_append_getElem (by simp; omega)]
        simp
      rw [this]
      exact g2.append (IsL.cons h4 (IsL.nil ρ))
    · rw [List.getElem?_append] at hj
      split at hj
      · exact g3 j u hj
      · rename_i hjl
        have : j = m := by
          have := List.getElem?_eq_some_iff.1 hj
          obtain ⟨h5, _⟩ := this
          simp at h5; omega
        subst this
        simp [g1] at hj
        subst hj
        rw [add_none, Nat.add_assoc]; exact h3

/-- The cells of a slice's elements. -/
def Src (h : AH) (es : Nat) (x : AV) (m : Nat) (xs : List AV) : Prop := match x with
  | .sl j o k _ => k = m ∧ ∃ b, h j = some b ∧ o + m * es ≤ b.cells.length ∧ xs = cutA b.cells o (m * es)
  | .so j k => k = m ∧ ∃ b, h j = some b ∧ m * es ≤ b.cells.length ∧ xs = cutA b.cells 0 (m * es)
  | .sx j o k => k = m ∧ ∃ b, h j = some b ∧ o + m * es ≤ b.cells.length ∧ xs = cutA b.cells o (m * es)
  | .nilsl => m = 0 ∧ xs = []
  | .sl0 => m = 0 ∧ xs = []
  | _ => False
theorem Src.real {ρ : Rho} {h : AH} {w : World} {es m : Nat} {x : AV} {xs : List AV} {rx : Value} (hs : Src h es x m xs) (s : Sim ρ h w) (hi : Is ρ x rx) :
    (∃ a c news, rx = .slice (some a) m c ∧ List.length news = m * es ∧ IsL ρ xs news ∧ ∀ (j : Nat) (u : Value), news[j]? = some u → w.cell? (a.add j) = some u) ∨ (rx = .slice none 0 0 ∧ m = 0 ∧ xs = []) := by
  unfold Src at hs
  split at hs
  · obtain ⟨rfl, b, hb, hl, rfl⟩ := hs
    simp only [Is] at hi
    obtain ⟨r, hr, rfl⟩ := hi
    obtain ⟨r', hr', hat⟩ := s.lies _ b hb
    rw [hr] at hr'; cases hr'
    obtain ⟨vs, g1, g2, g3⟩ := read_cells hat _ _ hl
    exact .inl ⟨_, _, vs, rfl, g1, g2, g3⟩
  · obtain ⟨rfl, b, hb, hl, rfl⟩ := hs
    simp only [Is] at hi
    obtain ⟨r, hr, hs0, hc, rfl⟩ := hi
    obtain ⟨r', hr', hat⟩ := s.lies _ b hb
    rw [hr] at hr'; cases hr'
    obtain ⟨vs, g1, g2, g3⟩ := read_cells hat 0 (_ * es) (by rw [Nat.zero_add]; exact hl)
    exact .inl ⟨_, _, vs, rfl, g1, g2, by simpa [hs0] using g3⟩
  · obtain ⟨rfl, b, hb, hl, rfl⟩ := hs
    simp only [Is] at hi
    obtain ⟨r, a, c, hr, rfl, hc, ha⟩ := hi
    rename_i j o k
    by_cases h0 : k = 0
    · subst h0
      exact .inl ⟨a, c, [], rfl, by simp, by simp [cutA, IsL.nil], fun j u h => by simp at h⟩
    · have ha := ha h0
      subst ha
      obtain ⟨r', hr', hat⟩ := s.lies _ b hb
      rw [hr] at hr'; cases hr'
      obtain ⟨vs, g1, g2, g3⟩ := read_cells hat _ _ hl
      exact .inl ⟨_, _, vs, rfl, g1, g2, g3⟩
  · obtain ⟨rfl, rfl⟩ := hs
    simp only [Is] at hi
    exact .inr ⟨hi, rfl, rfl⟩
  · obtain ⟨rfl, rfl⟩ := hs
    simp only [Is] at hi
    obtain ⟨a, rfl⟩ := hi
    cases a with
    | none => exact .inr ⟨rfl, rfl, rfl⟩
    | some a => exact .inl ⟨a, 0, [], rfl, by simp, IsL.nil ρ, fun j u h => by simp at h⟩
  · exact hs.elim

/-- What append comes to: s, x, the result, the heap and the free names behind it, and what it may write. -/
inductive App (h : AH) (n ty es : Nat) : AV → AV → AV → AH → Nat → (Nat → Prop) → Prop
  | open_ {i m0 m : Nat} {b : Blk} {x : AV} {xs : List AV} (hb : h i = some b) (hw : b.wr = true) (ho : b.op = es) (ht : b.ty = ty) (hl : b.cells.length = m0 * es) (hx : Src h es x m xs) (h1 : xs.all AV.one = true) (hm : m0 + m ≤ 1073741824) (hi : i < n) :
      App h n ty es (.so i m0) x (.so n (m0 + m)) (upd (upd h i none) n (some ⟨ty, b.cells ++ xs, true, es⟩)) (n + 1) (· = i)
  | nil {m : Nat} {x : AV} {xs : List AV} (hx : Src h es x m xs) (h1 : xs.all AV.one = true) (h0 : m ≠ 0) (hm : m ≤ 1073741824) :
      App h n ty es .nilsl x (.so n m) (upd h n (some ⟨ty, xs, true, es⟩)) (n + 1) none'
  | nil0 {x : AV} (hx : Src h es x 0 []) : App h n ty es .nilsl x .nilsl h n none'
  | grow {i o m0 c m : Nat} {x : AV} {os xs : List AV} (hos : Src h es (.sl i o m0 c) m0 os) (hx : Src h es x m xs) (h1 : xs.all AV.one = true) (h0 : m ≠ 0) (hc : c < m0 + m) (hm : m0 + m ≤ 1073741824) :
      App h n ty es (.sl i o m0 c) x (.so n (m0 + m)) (upd h n (some ⟨ty, os ++ xs, true, es⟩)) (n + 1) none'
  | same {i o m0 c : Nat} {x : AV} (hx : Src h es x 0 []) (hc : m0 ≤ c) : App h n ty es (.sl i o m0 c) x (.sl i o m0 c) h n none'

theorem Cx.weaken {ρ ρ0 : Rho} {w w0 : World} {W W' : Nat → Prop} {n n' : Nat} (c : Cx ⟨ρ0, w0, W, n, n'⟩ ρ w) (h : ∀ i, W i → W' i) : Cx ⟨ρ0, w0, W', n, n'⟩ ρ w :=
  ⟨c.os, c.tape, c.output, c.size, fun b hb hh => c.blk b hb fun i r hi hw hr => hh i r hi (h i hw) hr, c.old, c.far, fun i r h1 h2 h3 => (c.own i r h1 h2 h3).imp id fun ⟨j, rj, g1, g2, g3⟩ => ⟨j, rj, g1, h j g2, g3⟩⟩

def Rho.put (ρ : Rho) (n : Nat) (r : Ref) : Rho := fun i => if i = n then some r else ρ i
theorem Rho.put_same (ρ : Rho) (n : Nat) (r : Ref) : ρ.put n r n = some r := by simp [Rho.put]
theorem Rho.put_other (ρ : Rho) {n i : Nat} (r : Ref) (h : i ≠ n) : ρ.put n r i = ρ i := by simp [Rho.put, h]
theorem Rho.put_ext {ρ : Rho} {n : Nat} (r : Ref) (h : ρ n = none) : Ext ρ (ρ.put n r) := fun i r' hi => by
  by_cases hn : i = n
  · subst hn; rw [h] at hi; cases hi
  · rw [Rho.put_other _ _ hn]; exact hi

/-- A new row, some of whose cells are told. -/
theorem fresh {ρ : Rho} {h : AH} {w w' : World} (s : Sim ρ h w) {n ty es c : Nat} {cells : List AV} {cs : Array Value} (hn : ρ n = none) (hh : w'.heap = w.heap.push (.cells cs ty (0, 0)))
    (ho : w'.os = w.os) (ht : w'.tape = w.tape) (hu : w'.output = w.output) (hp : Pre ρ cells cs.toList) (hl : cells.length ≤ cs.size) (he : es ≠ 0) (hs : cs.size = c * es) (hc : c ≤ maxLen) :
    Sim (ρ.put n ⟨w.heap.size, 0, c⟩) (upd h n (some ⟨ty, cells, true, es⟩)) w' ∧ Cx ⟨ρ, w, none', n, n + 1⟩ (ρ.put n ⟨w.heap.size, 0, c⟩) w' := by
  have hb : w'.heap[w.heap.size]? = some (.cells cs ty (0, 0)) := by rw [hh]; simp
  have hsame := Rho.put_same ρ n ⟨w.heap.size, 0, c⟩
  have cx : Cx ⟨ρ, w, none', n, n + 1⟩ (ρ.put n ⟨w.heap.size, 0, c⟩) w' := by
    refine ⟨ho, ht, hu, by rw [hh]; simp, fun b hb' _ => by rw [hh]; exact Array.getElem?_push_lt hb' |>.trans (by simp [hb']), fun i hi => Rho.put_other _ _ (Nat.ne_of_lt hi), fun i hi => Rho.put_other _ _ (by simp only at hi; omega), fun i r h1 h2 h3 => ?_⟩
    simp only at h1 h2
    obtain rfl : i = n := by omega
    rw [hsame] at h3; cases h3
    exact .inl (Nat.le_refl _)
  refine ⟨?_, cx⟩
  have hf : ∀ i, n ≤ i → i < n + 1 → ρ i = none := fun i h1 h2 => by
    have : i = n := by omega
    rw [this]; exact hn
  rw [← mix_upd]
  refine s.mix cx hf ⟨fun i b hi => ?_, fun i j bi bj ri rj hi hj hij => ?_⟩
  · simp only [upd] at hi
    split at hi
    · rename_i hin
      subst hin; cases hi
      refine ⟨_, hsame, fun k c' hk => ?_, fun _ => ⟨rfl, cs, hb, hl, fun h => absurd h he, fun _ => ⟨hs, hc⟩⟩⟩
      obtain ⟨v, hv, hi⟩ := hp k c' hk
      exact ⟨v, by rw [cell_of_row _ _ _ _ _ _ hb]; simpa using hv, hi.mono (Rho.put_ext _ hn)⟩
    · simp [L.emp] at hi
  · simp only [upd] at hi hj
    split at hi
    · split at hj
      · omega
      · simp [L.emp] at hj
    · simp [L.emp] at hi

/-- A row goes on under another name. -/
theorem Sim.rename {ρ : Rho} {h : AH} {w : World} {i n : Nat} {b : Blk} {r : Ref} (s : Sim ρ (upd h i (some b)) w) (hr : ρ i = some r) (hn : ρ n = none) (hw : b.wr = true) :
    Sim (ρ.put n r) (upd (upd h i none) n (some b)) w := by
  have e := Rho.put_ext (ρ := ρ) (n := n) r hn
  have hin : i ≠ n := fun h => by rw [h, hn] at hr; cases hr
  have old : ∀ j bj, upd (upd h i none) n (some b) j = some bj → j ≠ n → upd h i (some b) j = some bj ∧ j ≠ i := fun j bj hj hjn => by
    simp only [upd, if_neg hjn] at hj ⊢
    by_cases hji : j = i
    · simp [hji] at hj
    · simp only [if_neg hji] at hj ⊢; exact ⟨hj, hji⟩
  have hb : upd h i (some b) i = some b := upd_same _ _ _
  have ne : ∀ j rj, j ≠ n → (ρ.put n r) j = some rj → ρ j = some rj := fun j rj hj h => by rw [Rho.put_other _ _ hj] at h; exact h
  refine ⟨fun j bj hj => ?_, fun j k bj bk rj rk hj hk hjk hwr hne hrj hrk => ?_⟩
  · by_cases hjn : j = n
    · subst hjn
      rw [upd_same] at hj; cases hj
      obtain ⟨r', hr', hat⟩ := s.lies i b hb
      rw [hr] at hr'; cases hr'
      exact ⟨r, Rho.put_same _ _ _, hat.keep e rfl⟩
    · obtain ⟨r', hr', hat⟩ := s.lies j bj (old j bj hj hjn).1
      exact ⟨r', e _ _ hr', hat.keep e rfl⟩
  · by_cases hjn : j = n
    · subst hjn
      rw [upd_same] at hj; cases hj
      rw [Rho.put_same] at hrj; cases hrj
      obtain ⟨h1, h2⟩ := old k bk hk (Ne.symm hjk)
      exact s.inj i k b bk r rk hb h1 (Ne.symm h2) hw hne hr (ne k rk (Ne.symm hjk) hrk)
    · obtain ⟨h1, h2⟩ := old j bj hj hjn
      by_cases hkn : k = n
      · subst hkn
        rw [upd_same] at hk; cases hk
        rw [Rho.put_same] at hrk; cases hrk
        exact s.inj j i bj b rj r h1 hb h2 hwr (.inl hw) (ne j rj hjn hrj) hr
      · obtain ⟨h3, h4⟩ := old k bk hk hkn
        exact s.inj j k bj bk rj rk h1 h3 hjk hwr hne (ne j rj hjn hrj) (ne k rk hkn hrk)

theorem zeroCells_size (z : Array Value) (n : Nat) : (Builtin.zeroCells z n).size = n * z.size := by simp [Builtin.zeroCells]

theorem Pre.of_IsL {ρ : Rho} {z : List AV} {rz more : List Value} (h : IsL ρ z rz) : Pre ρ z (rz ++ more) := fun k c hk => by
  obtain ⟨v, hv, hi⟩ := h.get k c hk
  refine ⟨v, ?_, hi⟩
  rw [List.getElem?_append_left (List.getElem?_eq_some_iff.1 hv).1]; exact hv

section
variable {P : Program} {o : Oper} {t : List AV}

theorem app_none {T e ty : TypeId} {i : TypeInfo} (hT : P.underlying T = some (.slice e)) (hi : P.info? e = some i) (w : World) (base : Option Addr) (m c : Nat) (hm : m ≤ c) :
    (Builtin.append_ #[T, T] ty #[.slice base m c, .slice none 0 0]).run P w = .ok (.slice base m c) w := by
  cases base <;> simp [Builtin.append_, run_underlying hT, sizeOf, typeInfo, hi, Builtin.lenOf, Builtin.firstCells, hm, storeCells]

theorem o_app {ar : Array Operand} {ats : Array TypeId} {x y : Operand} {x' y' : A} {T e : TypeId} {i : TypeInfo} {z : List AV} (ho : o.op = .call { callee := .builtin .append, args := ar, argTypes := ats })
    (har : ar.toList = [x, y]) (hat : ats.toList = [T, T]) (hT : P.underlying T = some (.slice e)) (hi : P.info? e = some i) (hz : zeroOf P e = some z) (hs0 : i.size ≠ 0) (hby : i.bytes ≤ 4096)
    (hx : compA x = some x') (hy : compA y = some y') {h : AH} {n : Nat} {v : AV} {h' : AH} {n' : Nat} {W : Nat → Prop} (ha : App h n e i.size (ev t x') (ev t y') v h' n' W) :
    RO P W o (O.app e i.size i.bytes z x' y').reads t h n v h' n' := by
  have har' : ar = #[x, y] := Array.ext' har
  have hat' : ats = #[T, T] := Array.ext' hat
  subst har'; subst hat'
  obtain ⟨i', zv, hi', hiz, hs, hrun, his⟩ := zeroOf_run hz
  rw [hi] at hi'; cases hi'
  have bnd : ∀ m, m ≤ 1073741824 → m * i.bytes ≤ 140737488355328 := fun m hm => by
    have := Nat.mul_le_mul hm hby; omega
  refine ⟨(show ∀ {s x : AV}, App h n e i.size s x v h' n' W → n ≤ n' from fun ha => by cases ha <;> omega) ha, fun ρ a w Kr Qr hr hsim hf hk => ?_⟩
  have e1 := compA_is hx (hr.arg (x := x') (by simp [O.args]))
  have e2 := compA_is hy (hr.arg (x := y') (by simp [O.args]))
  have fin : ∀ rv ρ' w', (Builtin.append_ #[T, T] o.type #[a.eval x, a.eval y]).run P w = .ok rv w' → Is ρ' v rv → Sim ρ' h' w' → Cx ⟨ρ, w, W, n, n'⟩ ρ' w' → o.wp P a w Kr Qr := fun rv ρ' w' hR h1 h2 h3 =>
    wp_value (by simp [execOp, ho, resolve, invoke, builtin, hR]) (hk rv ρ' w' h1 h2 h3)
  generalize ev t x' = sx at ha e1
  generalize ev t y' = sy at ha e2
  generalize a.eval x = rx at e1 fin
  generalize a.eval y = ry at e2 fin
  cases ha with
  | @open_ id m0 m b _ xs hb hw hop hty hl hsrc hone hm hid =>
    simp only [Is] at e1
    obtain ⟨r, hrr, hrs, hrc, rfl⟩ := e1
    have hn : ρ n = none := hf n (Nat.le_refl _) (Nat.lt_succ_self _)
    obtain ⟨r', hr', hat⟩ := hsim.lies id b hb
    rw [hrr] at hr'; cases hr'
    obtain ⟨_, cs, hcs, g1, g2, g3⟩ := hat.own hw
    obtain ⟨g3, g4⟩ := g3 (by rw [hop]; exact hs0)
    rw [hop] at g3
    obtain ⟨olds, o1, o2, o3⟩ := read_cells hat 0 b.cells.length (by omega)
    have hcut : cutA b.cells 0 b.cells.length = b.cells := by simp [cutA]
    rw [hcut] at o2
    simp only [hrs] at o3
    have renamed : ∀ (cs' : Array Value), cs'.size = cs.size → (b.cells ++ xs).length ≤ cs.size → Pre ρ (b.cells ++ xs) cs'.toList → m0 + m ≤ r.c →
        Sim (ρ.put n r) (upd (upd h id none) n (some ⟨e, b.cells ++ xs, true, i.size⟩)) (w.setRow r.b cs') ∧ Cx ⟨ρ, w, (· = id), n, n + 1⟩ (ρ.put n r) (w.setRow r.b cs') ∧ Is (ρ.put n r) (.so n (m0 + m)) (.slice (some ⟨r.b, 0, none⟩) (m0 + m) r.c) := fun cs' hsz hlen hpre hroom => by
      have hsim2 := hsim.write (b' := ⟨e, b.cells ++ xs, true, i.size⟩) (cs' := cs') hb hw hrr hcs rfl hty.symm hop.symm hsz hlen (fun h0 => absurd (hop ▸ h0) hs0) (fun k c hk => by
        obtain ⟨v, hv, hi⟩ := hpre k c hk; exact ⟨v, by simpa using hv, hi⟩)
      refine ⟨hsim2.rename hrr hn rfl, ?_, by simp only [Is]; exact ⟨r, Rho.put_same _ _ _, hrs, hroom, rfl⟩⟩
      refine ⟨rfl, rfl, rfl, by simp [World.setRow], fun b' hb' hh => setRow_other w r.b b' cs' (Ne.symm (hh id r hid rfl hrr)), fun j hj => Rho.put_other _ _ (Nat.ne_of_lt hj), fun j hj => Rho.put_other _ _ (by simp only at hj; omega), fun j rj h1 h2 h3 => ?_⟩
      simp only at h1 h2
      obtain rfl : j = n := by omega
      rw [Rho.put_same] at h3; cases h3
      exact .inr ⟨id, r, hid, rfl, hrr, rfl⟩
    have hxl : xs.length = m * i.size := by
      rcases hsrc.real hsim e2 with ⟨_, _, news, _, n1, n2, _⟩ | ⟨_, rfl, rfl⟩
      · rw [← n1, n2.length]
      · simp
    have hbx : (b.cells ++ xs).length = (m0 + m) * i.size := by simp [hl, hxl, Nat.add_mul]
    by_cases hroom : m0 + m ≤ r.c
    · have hlen : (b.cells ++ xs).length ≤ cs.size := by rw [hbx, g3]; exact Nat.mul_le_mul_right _ hroom
      rcases hsrc.real hsim e2 with ⟨ad, cc, news, rfl, n1, n2, n3⟩ | ⟨rfl, rfl, rfl⟩
      · have hrow := run_append_room (P := P) w T o.type e i hT hi r.b m0 r.c cs (by rw [← hty]; exact hcs) ad m cc news n1 n3 (n2.all_one hone) hroom (by rw [n1, ← Nat.add_mul, g3]; exact Nat.mul_le_mul_right _ hroom)
        obtain ⟨q1, q2, q3⟩ := renamed (cs.toList.take (m0 * i.size) ++ news ++ cs.toList.drop (m0 * i.size + news.length)).toArray (by
          simp only [List.size_toArray, List.length_append, List.length_take, List.length_drop, Array.length_toList, n1]
          rw [← hxl, ← hl]; simp at hlen; omega) hlen (by
          have hp : Pre ρ b.cells cs.toList := fun k c hk => by
            obtain ⟨v, hv, hi⟩ := hat.cells k c hk
            rw [hrs, Nat.zero_add, cell_of_row _ _ _ _ _ _ hcs] at hv
            exact ⟨v, by simpa using hv, hi⟩
          intro k c hk
          show ∃ v, (cs.toList.take (m0 * i.size) ++ news ++ cs.toList.drop (m0 * i.size + news.length))[k]? = some v ∧ Is ρ c v
          rw [← hl]
          simp at hlen
          rw [put_get (by simp [n1]; omega)]
          rw [List.getElem?_append] at hk
          split at hk
          · rename_i h; rw [if_pos h]; exact hp k c hk
          · rename_i h
            rw [if_neg h]
            obtain ⟨v, hv, hi⟩ := n2.get _ c hk
            have := (List.getElem?_eq_some_iff.1 hv).1
            rw [if_pos (by omega)]
            exact ⟨v, hv, hi⟩) hroom
        exact fin _ _ _ hrow q3 q1 q2
      · have hsame : w.setRow r.b cs = w := by
          have hh : (w.setRow r.b cs).heap = w.heap := Array.ext_getElem? fun j => by
            by_cases hj : j = r.b
            · subst hj; rw [setRow_heap w _ cs cs _ _ hcs, hcs]
            · exact setRow_other w r.b j cs hj
          cases w
          simp only [World.setRow] at hh ⊢
          rw [hh]
        obtain ⟨q1, q2, q3⟩ := renamed cs rfl hlen (fun k c hk => by
          simp at hk
          obtain ⟨v, hv, hi⟩ := hat.cells k c hk
          rw [hrs, Nat.zero_add, cell_of_row _ _ _ _ _ _ hcs] at hv
          exact ⟨v, by simpa using hv, hi⟩) hroom
        rw [hsame] at q1 q2
        exact fin _ _ _ (app_none hT hi w _ m0 r.c (by omega)) q3 q1 q2
    · rcases hsrc.real hsim e2 with ⟨ad, cc, news, rfl, n1, n2, n3⟩ | ⟨rfl, rfl, rfl⟩
      · have hgr := run_append_grow (P := P) w T o.type e i zv hT hi hiz ⟨r.b, 0, none⟩ m0 r.c olds (by rw [o1, hl]) o3 ad m cc news n1 n3 (by omega) (by omega) (growslice_fits (by omega) (bnd _ hm))
        have hge := grownCap_ge w (m0 + m) r.c e
        obtain ⟨q1, q2⟩ := fresh (ty := e) (es := i.size) (c := grownCap w (m0 + m) r.c e) (cells := b.cells ++ xs) (cs := olds.toArray ++ news.toArray ++ Builtin.zeroCells zv.cells (grownCap w (m0 + m) r.c e - (m0 + m)))
          (w' := w.drew.alloc (.cells (olds.toArray ++ news.toArray ++ Builtin.zeroCells zv.cells (grownCap w (m0 + m) r.c e - (m0 + m))) e)) hsim hn rfl rfl rfl rfl
          (by simpa using Pre.of_IsL (o2.append n2)) (by simp [o1, n1, hxl]) hs0 (by
            simp only [Array.size_append, List.size_toArray, zeroCells_size, hs, o1, n1, hl, ← Nat.add_mul]
            congr 1; omega) (grownCap_le_maxLen w _ _ e (by unfold maxLen; omega))
        refine fin _ _ _ hgr (by simp only [Is]; exact ⟨_, Rho.put_same _ _ _, rfl, hge, rfl⟩) (q1.less fun j bj hj => ?_) (q2.weaken fun _ h => h.elim)
        simp only [upd] at hj ⊢
        split at hj
        · rename_i h; rw [if_pos h]; exact hj
        · rename_i h
          rw [if_neg h]
          split at hj
          · cases hj
          · exact hj
      · omega
  | @nil m _ xs hsrc hone h0 hm =>
    simp only [Is] at e1
    subst e1
    have hn : ρ n = none := hf n (Nat.le_refl _) (Nat.lt_succ_self _)
    rcases hsrc.real hsim e2 with ⟨ad, cc, news, rfl, n1, n2, n3⟩ | ⟨_, rfl, _⟩
    · have hb := bnd _ hm
      have hgr := run_append_nil (P := P) w T o.type e i zv hT hi hiz ad m cc news n1 n3 (by omega) (by omega) (by omega)
      have hge := grownCap_ge w m 0 e
      obtain ⟨q1, q2⟩ := fresh (ty := e) (es := i.size) (c := grownCap w m 0 e) (cells := xs) (cs := news.toArray ++ Builtin.zeroCells zv.cells (grownCap w m 0 e - m))
        (w' := w.drew.alloc (.cells (news.toArray ++ Builtin.zeroCells zv.cells (grownCap w m 0 e - m)) e)) hsim hn rfl rfl rfl rfl
        (by simpa using Pre.of_IsL n2) (by simp [n2.length]) hs0 (by
          simp only [Array.size_append, List.size_toArray, zeroCells_size, hs, n1, ← Nat.add_mul]
          congr 1; omega) (grownCap_le_maxLen w _ _ e (by unfold maxLen; omega))
      exact fin _ _ _ hgr (by simp only [Is]; exact ⟨_, Rho.put_same _ _ _, rfl, hge, rfl⟩) q1 q2
    · exact absurd rfl h0
  | nil0 hsrc =>
    simp only [Is] at e1
    subst e1
    have hcx := Cx.refl ρ w none' n n hf
    rcases hsrc.real hsim e2 with ⟨ad, cc, news, rfl, n1, n2, n3⟩ | ⟨rfl, _, _⟩
    · refine fin (.slice none 0 0) ρ w ?_ (by simp only [Is]) hsim hcx
      simp [Builtin.append_, run_underlying hT, sizeOf, typeInfo, hi, Builtin.lenOf, Builtin.firstCells, loadCells, loadCellsFrom]
    · exact fin (.slice none 0 0) ρ w (app_none hT hi w _ 0 0 (Nat.le_refl _)) (by simp only [Is]) hsim hcx
  | @grow id off m0 c m _ os xs hos hsrc hone h0 hc hm =>
    have hn : ρ n = none := hf n (Nat.le_refl _) (Nat.lt_succ_self _)
    rcases hos.real hsim e1 with ⟨ad0, c0, olds, rfl, o1, o2, o3⟩ | ⟨rfl, rfl, rfl⟩
    · have hc0 : c0 = c := by
        simp only [Is] at e1
        obtain ⟨r, _, e1⟩ := e1
        cases e1; rfl
      subst hc0
      rcases hsrc.real hsim e2 with ⟨ad, cc, news, rfl, n1, n2, n3⟩ | ⟨rfl, rfl, rfl⟩
      · have hgr := run_append_grow (P := P) w T o.type e i zv hT hi hiz ad0 m0 c0 olds o1 o3 ad m cc news n1 n3 hc (by omega) (growslice_fits (by omega) (bnd _ hm))
        have hge := grownCap_ge w (m0 + m) c0 e
        obtain ⟨q1, q2⟩ := fresh (ty := e) (es := i.size) (c := grownCap w (m0 + m) c0 e) (cells := os ++ xs) (cs := olds.toArray ++ news.toArray ++ Builtin.zeroCells zv.cells (grownCap w (m0 + m) c0 e - (m0 + m)))
          (w' := w.drew.alloc (.cells (olds.toArray ++ news.toArray ++ Builtin.zeroCells zv.cells (grownCap w (m0 + m) c0 e - (m0 + m))) e)) hsim hn rfl rfl rfl rfl
          (by simpa using Pre.of_IsL (o2.append n2)) (by simp [o2.length, n2.length]) hs0 (by
            simp only [Array.size_append, List.size_toArray, zeroCells_size, hs, o1, n1, ← Nat.add_mul]
            congr 1; omega) (grownCap_le_maxLen w _ _ e (by unfold maxLen; omega))
        exact fin _ _ _ hgr (by simp only [Is]; exact ⟨_, Rho.put_same _ _ _, rfl, hge, rfl⟩) q1 q2
      · exact absurd rfl h0
    · simp only [Is] at e1
      obtain ⟨r, _, e1⟩ := e1
      cases e1
  | @same id off m0 c _ hsrc hc =>
    have hcx := Cx.refl ρ w none' n n hf
    have e1' := e1
    simp only [Is] at e1
    obtain ⟨r, hrr, rfl⟩ := e1
    rcases hsrc.real hsim e2 with ⟨ad, cc, news, rfl, n1, n2, n3⟩ | ⟨rfl, _, _⟩
    · refine fin _ ρ w ?_ e1' hsim hcx
      simp [Builtin.append_, run_underlying hT, sizeOf, typeInfo, hi, Builtin.lenOf, Builtin.firstCells, loadCells, loadCellsFrom, hc, storeCells]
    · exact fin _ ρ w (app_none hT hi w _ m0 c hc) e1' hsim hcx
end
end Go.Proofs.Ytmjfekgbbjojdac.L
