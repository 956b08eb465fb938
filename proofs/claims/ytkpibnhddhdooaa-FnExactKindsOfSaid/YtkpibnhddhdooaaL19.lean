/- Writing into lists of whole numbers that are our own. -/
import Derived.Test.YtkpibnhddhdooaaL18
namespace Go.Proofs.Ytkpibnhddhdooaa.L
open Go
set_option linter.unusedSimpArgs false
set_option linter.unusedVariables false

/-- The heap behind a store of c. -/
def wr (h : AH) (i o : Nat) (c : AV) : AH := upd h i ((h i).map fun b => { b with cells := putA b.cells o [c] })
theorem wr_other {h : AH} {i o j : Nat} {c : AV} (e : j ≠ i) : wr h i o c j = h j := upd_other e

section
variable {lo hi : Nat} {h : AH} {v : AV} {cs : List AV} {es : Nat}
theorem putA_len {z : List AV} {k : Nat} {x : AV} (hk : k < z.length) : (putA z k [x]).length = z.length := by
  simp [putA]; omega
theorem putA_eq_set {z : List AV} {k : Nat} {x : AV} (hk : k < z.length) : putA z k [x] = z.set k x := by
  rw [putA, List.set_eq_take_append_cons_drop, if_pos hk]; simp
theorem cutA_set {z : List AV} {o m k : Nat} {x : AV} (hk : k < m) (hl : o + m ≤ z.length) : cutA (z.set (o + k) x) o m = (cutA z o m).set k x := by
  refine List.ext_getElem? fun i => ?_
  simp only [cutA, List.getElem?_take, List.getElem?_drop, List.getElem?_set, List.length_take, List.length_drop]
  by_cases e : i < m
  · rw [if_pos e]
    by_cases e2 : k = i
    · subst e2
      rw [if_pos rfl, if_pos rfl, if_pos (by omega), if_pos (by omega)]
    · rw [if_neg (by omega), if_neg e2, if_pos e]
  · rw [if_neg e, if_neg (by omega), if_neg e]
theorem Sl.wr (s : Sl true lo hi h es v cs) {k : Nat} (hk : k < cs.length) (x : AV) : Sl true lo hi (wr h (bid v) (boff v + k) x) es v (cs.set k x) := by
  refine ⟨by simpa using s.len, ?_⟩
  rcases s.shape with rfl | ⟨hw, _⟩ | ⟨h1, h2, h3, b, hb, hw, hl, hc⟩
  · exact .inl rfl
  · cases hw
  · refine .inr (.inr ⟨h1, h2, h3, { b with cells := putA b.cells (boff v + k) [x] }, by simp [L.wr, upd, hb], hw, ?_, ?_⟩)
    · simp only [List.length_set]; rw [putA_len (by omega)]; exact hl
    · simp only [List.length_set]
      rw [putA_eq_set (by omega), cutA_set hk hl, hc]
theorem Sl.st (s : Sl true lo hi h es v cs) {k : Nat} (hk : k < cs.length) {x : AV} (hx : x.one = true) (hc : x.cells = [x]) (hsx : x.storable = true) {n0 n : Nat} {W : Nat → Prop} (hW : ∀ i, lo ≤ i → i < hi → n0 ≤ i ∨ W i) (hn : hi ≤ n) (K : AV → AH → Nat → Prop) :
    S1 n0 W 1 (.ptr (bid v) (boff v + k)) x K h n = K .any (L.wr h (bid v) (boff v + k) x) n := by
  rcases s.shape with rfl | ⟨hw, _⟩ | ⟨h1, h2, h3, ⟨ty, cells, w, op⟩, hb, hw, hl, hcc⟩
  · have := s.len; simp [slen] at this; subst this; simp at hk
  · cases hw
  · have hw' : w = true := hw rfl
    subst hw'
    rw [s1, hb, s2, hsx, hc]
    simp only [L.wr, hb, Option.map_some]
    simp only at hl
    exact propext ⟨fun h => h.2.2.2.2.2, fun h => ⟨trivial, rfl, by omega, by omega, hW _ h2 h3, h⟩⟩
end

section
variable {lo hi : Nat} {h : AH} {v : AV} {l : List Int}
theorem ints_set (l : List Int) (k : Nat) (x : Int) : (ints l).set k (.int .i64 x) = ints (l.set k x) := by simp [ints, List.map_set]
theorem Ints.wr (s : Ints true lo hi h v l) {k : Nat} (hk : k < l.length) (x : Int) : Ints true lo hi (wr h (bid v) (boff v + k) (.int .i64 x)) v (l.set k x) := by
  unfold Ints
  rw [← ints_set]
  exact Sl.wr s (by rw [ints_len]; exact hk) _
theorem Ints.st (s : Ints true lo hi h v l) {k : Nat} (hk : k < l.length) {x : Int} {n0 n : Nat} {W : Nat → Prop} (hW : ∀ i, lo ≤ i → i < hi → n0 ≤ i ∨ W i) (hn : hi ≤ n) (K : AV → AH → Nat → Prop) :
    S1 n0 W 1 (.ptr (bid v) (boff v + k)) (.int .i64 x) K h n = K .any (L.wr h (bid v) (boff v + k) (.int .i64 x)) n :=
  Sl.st s (by rw [ints_len]; exact hk) rfl rfl rfl hW hn K
end
theorem getD_set {α : Type} {l : List α} {i j : Nat} {x d : α} : (l.set i x).getD j d = if i = j ∧ j < l.length then x else l.getD j d := by
  simp only [List.getD, List.getElem?_set]
  by_cases e : i = j
  · subst e
    by_cases e2 : i < l.length
    · simp [e2]
    · simp [e2]
  · simp [e]
theorem RowsV.wr {lo hi : Nat} {h : AH} {vs : List AV} {ll : List (List Int)} (s : RowsV true lo hi h vs ll) {i k : Nat} (hi' : i < ll.length) (hk : k < (ll.getD i []).length) (x : Int) :
    RowsV true lo hi (wr h (bid (vs.getD i .any)) (boff (vs.getD i .any) + k) (.int .i64 x)) vs (ll.set i ((ll.getD i []).set k x)) := by
  refine ⟨by simpa using s.len, fun j hj => ?_, fun _ j m hj hm => ?_⟩
  · simp only [List.length_set] at hj
    rw [getD_set]
    by_cases e : i = j
    · subst e
      rw [if_pos ⟨rfl, hj⟩]
      exact (s.row i hi').wr hk x
    · rw [if_neg fun h => e h.1]
      refine Sl.keep1 (s.row j hj) fun hs => wr_other ?_
      have hne : vs.getD i .any ≠ .nilsl := by
        intro e'
        have := (s.row i hi').slen
        rw [e'] at this
        change 0 = _ at this
        omega
      exact s.apart rfl j i hj hi' (fun e' => e e'.symm) hs (Sl.isReal (s.row i hi') hne)
  · simp only [List.length_set] at hj hm
    exact s.apart rfl j m hj hm
theorem Rows.wr {lo hi : Nat} {h : AH} {v : AV} {vs : List AV} {ll : List (List Int)} (s : Rows true lo hi h v vs ll) {i k : Nat} (hi' : i < ll.length) (hk : k < (ll.getD i []).length) (x : Int) :
    Rows true lo hi (L.wr h (bid (vs.getD i .any)) (boff (vs.getD i .any) + k) (.int .i64 x)) v vs (ll.set i ((ll.getD i []).set k x)) := by
  have hne : vs.getD i .any ≠ .nilsl := by
    intro e'
    have := (s.row i hi').slen
    rw [e'] at this
    change 0 = _ at this
    omega
  refine ⟨s.out.keep1 fun _ => wr_other fun e => s.outer rfl i hi' (Sl.isReal (s.row i hi') hne) e.symm, s.rows.wr hi' hk x, fun _ j hj => ?_⟩
  simp only [List.length_set] at hj
  exact s.outer rfl j hj

/-- One row told anew. -/
theorem RowsV.row1 {lo hi : Nat} {h h' : AH} {vs : List AV} {ll : List (List Int)} (s : RowsV true lo hi h vs ll) {i : Nat} (hi' : i < ll.length) {l : List Int} (hl : Ints true lo hi h' (vs.getD i .any) l) (hne : isSl (vs.getD i .any) = true ∨ h' = h)
    (hk : ∀ j, j ≠ bid (vs.getD i .any) → h' j = h j) : RowsV true lo hi h' vs (ll.set i l) := by
  refine ⟨by simpa using s.len, fun j hj => ?_, fun _ j m hj hm => ?_⟩
  · simp only [List.length_set] at hj
    rw [getD_set]
    by_cases e : i = j
    · subst e
      rw [if_pos ⟨rfl, hj⟩]
      exact hl
    · rw [if_neg fun h => e h.1]
      rcases hne with hne | rfl
      · exact Sl.keep1 (s.row j hj) fun hs => hk _ (s.apart rfl j i hj hi' (fun e' => e e'.symm) hs hne)
      · exact s.row j hj
  · simp only [List.length_set] at hj hm
    exact s.apart rfl j m hj hm
theorem Rows.row1 {lo hi : Nat} {h h' : AH} {v : AV} {vs : List AV} {ll : List (List Int)} (s : Rows true lo hi h v vs ll) {i : Nat} (hi' : i < ll.length) {l : List Int} (hl : Ints true lo hi h' (vs.getD i .any) l) (hne : isSl (vs.getD i .any) = true ∨ h' = h)
    (hk : ∀ j, j ≠ bid (vs.getD i .any) → h' j = h j) : Rows true lo hi h' v vs (ll.set i l) := by
  refine ⟨?_, s.rows.row1 hi' hl hne hk, fun _ j hj => ?_⟩
  · rcases hne with hne | rfl
    · exact s.out.keep1 fun _ => hk _ fun e => s.outer rfl i hi' hne e.symm
    · exact s.out
  · simp only [List.length_set] at hj
    exact s.outer rfl j hj
/-- Numbers in a row from k on. -/
def markL (k : Int) (m : Nat) : List Int := (List.range m).map (fun i : Nat => k + (i : Int))
theorem markL_len (k : Int) (m : Nat) : (markL k m).length = m := by simp [markL]
theorem markL_get (k : Int) (m j : Nat) (hj : j < m) : (markL k m).getD j 0 = k + j := by simp [markL, List.getD, hj]
theorem markL_step (k : Int) (l : List Int) (j : Nat) (hj : j < l.length) : (markL k j ++ l.drop j).set j (k + j) = markL k (j + 1) ++ l.drop (j + 1) := by
  have h1 : (markL k j).length = j := markL_len k j
  rw [List.set_append, if_neg (by omega), h1, Nat.sub_self, List.drop_eq_getElem_cons hj, List.set_cons_zero]
  simp [markL, List.range_succ]
def tot : List (List Int) → Nat
  | [] => 0
  | l :: ll => l.length + tot ll
def markLL : Int → List (List Int) → List (List Int)
  | _, [] => []
  | k, l :: ll => markL k l.length :: markLL (k + l.length) ll
theorem markLL_len : ∀ (k : Int) (ll : List (List Int)), (markLL k ll).length = ll.length
  | _, [] => rfl
  | k, l :: ll => by simp [markLL, markLL_len]
theorem tot_snoc : ∀ (ll : List (List Int)) (l : List Int), tot (ll ++ [l]) = tot ll + l.length
  | [], l => by simp [tot]
  | a :: ll, l => by simp [tot, tot_snoc ll l]; omega
theorem markLL_snoc : ∀ (k : Int) (ll : List (List Int)) (l : List Int), markLL k (ll ++ [l]) = markLL k ll ++ [markL (k + tot ll) l.length]
  | k, [], l => by simp [markLL, tot]
  | k, a :: ll, l => by
    simp only [List.cons_append, markLL, tot, markLL_snoc]
    rw [show k + a.length + (tot ll : Int) = k + ((a.length + tot ll : Nat) : Int) by omega]
theorem markLL_step (k : Int) (ll : List (List Int)) (j : Nat) (hj : j < ll.length) :
    (markLL k (ll.take j) ++ ll.drop j).set j (markL (k + tot (ll.take j)) (ll.getD j []).length) = markLL k (ll.take (j + 1)) ++ ll.drop (j + 1) := by
  have h1 : (markLL k (ll.take j)).length = j := by rw [markLL_len]; simp; omega
  rw [take_succ_getD (d := []) hj, markLL_snoc, List.set_append, if_neg (by omega), h1, Nat.sub_self, List.drop_eq_getElem_cons hj, List.set_cons_zero]
  simp
theorem markLL_get : ∀ (k : Int) (ll : List (List Int)) (j : Nat), j < ll.length → (markLL k ll).getD j [] = markL (k + tot (ll.take j)) (ll.getD j []).length
  | _, [], j, h => absurd h (Nat.not_lt_zero _)
  | k, l :: ll, 0, _ => by simp [markLL, tot, List.getD]
  | k, l :: ll, j + 1, h => by
    have := markLL_get (k + l.length) ll j (by simpa using h)
    simp only [markLL, List.getD_cons_succ, this, List.take_succ_cons, tot]
    rw [show k + l.length + (tot (ll.take j) : Int) = k + ((l.length + tot (ll.take j) : Nat) : Int) by omega]
theorem tot_bound : ∀ (ll : List (List Int)) (m : Nat), (∀ l ∈ ll, l.length ≤ m) → tot ll ≤ ll.length * m
  | [], m, _ => by simp [tot]
  | l :: ll, m, h => by
    have h1 := tot_bound ll m fun a ha => h a (List.mem_cons_of_mem _ ha)
    have h2 := h l List.mem_cons_self
    simp only [tot, List.length_cons, Nat.succ_mul]
    omega
theorem tot_take (ll : List (List Int)) (j : Nat) : tot (ll.take j) ≤ tot ll := by
  induction ll generalizing j with
  | nil => simp [tot]
  | cons l ll ih =>
    cases j with
    | zero => simp [tot]
    | succ j => simp only [List.take_succ_cons, tot]; have := ih j; omega
/-- A call that writes in blocks from lo to hi alone. -/
def MQ (P : Program) (f : Nat) (args : List AV) (h : AH) (n lo hi : Nat) (R : AV → AH → Nat → Prop) : Prop :=
  ∃ v h' n', BCalls P (fun i => lo ≤ i ∧ i < hi) f args h n v h' n' ∧ R v h' n'
theorem mq_use {P : Program} {n0 : Nat} {W : Nat → Prop} {f : Nat} {args : List AV} {h : AH} {n lo hi : Nat} {R : AV → AH → Nat → Prop} {K : AV → AH → Nat → Prop} (q : MQ P f args h n lo hi R) (hlo : ∀ i, lo ≤ i → i < hi → n0 ≤ i ∨ W i)
    (hk : ∀ v h' n', n ≤ n' → R v h' n' → K v h' n') : CallC P n0 W false f args h n K := by
  obtain ⟨v, h', n', c, hr⟩ := q
  exact ⟨v, h', n', _, c, fun i _ hi => hlo i hi.1 hi.2, (fun h => (by cases h)), hk v h' n' c.2.1 hr⟩
/-- The same, where nothing else that touches memory comes beside it. -/
theorem mqw_use {P : Program} {n0 : Nat} {W : Nat → Prop} {f : Nat} {args : List AV} {h : AH} {n lo hi : Nat} {R : AV → AH → Nat → Prop} {K : AV → AH → Nat → Prop} (q : MQ P f args h n lo hi R) (hlo : ∀ i, lo ≤ i → i < hi → n0 ≤ i ∨ W i)
    (hf : ∀ v h' n', R v h' n' → n ≤ n' → ∀ i, n' ≤ i → h' i = h i) (hk : ∀ v h' n', n ≤ n' → R v h' n' → K v h' n') : CallW P n0 W f args h n K := by
  obtain ⟨v, h', n', c, hr⟩ := q
  exact ⟨v, h', n', _, c, fun i _ hi => hlo i hi.1 hi.2, hf v h' n' hr c.2.1, hk v h' n' c.2.1 hr⟩
theorem mq_intro {P : Program} {f : Nat} {args : List AV} {h : AH} {n lo hi : Nat} {R : AV → AH → Nat → Prop} {fn : Func} {F' : F} (hf : P.funcs[f]? = some fn) (hF : compF P fn = some F')
    (hx : X P n (fun i => lo ≤ i ∧ i < hi) F'.c (args ++ List.replicate (F'.nt - args.length) .any) h n (KS P n (fun i => lo ≤ i ∧ i < hi) [] (KF F'.rs R))) : MQ P f args h n lo hi R := by
  obtain ⟨v, h', n', hr, c⟩ := f_intro (K := R) hf hF hx
  exact ⟨v, h', n', c, hr⟩
end Go.Proofs.Ytkpibnhddhdooaa.L
