/- The rest of the operations that only compute: parts of structs, addresses, slices, lengths. -/
import Derived.Test.YtmjfekgbbjojdacL3
namespace Go.Proofs.Ytmjfekgbbjojdac.L
open Go
set_option linter.unusedSimpArgs false
set_option linter.unusedVariables false
section
variable {P : Program} {o : Oper} {t : List AV} {K : AV → Prop}

theorem add_none (b s n : Nat) : (⟨b, s, none⟩ : Addr).add n = ⟨b, s + n, none⟩ := by unfold Addr.add; split <;> simp_all

theorem x_fa {T : TypeId} {fs : Array Field} {x : Operand} {x' : A} {i : Nat} {f : Field} {s : Nat} (ho : o.op = .fieldAddr T x i) (hT : P.underlying T = some (.struct fs)) (hf : fs[i]? = some f)
    (hs : sizeOf' P f.type = some s) (hs0 : s ≠ 0) (hx : compA x = some x') (h : xp (.fa f.offset x') t K) : ∃ v, K v ∧ PV P o (.fa f.offset x') t v := by
  simp only [xp] at h
  split at h
  · rename_i id off hp
    refine ⟨_, h, fun ρ A hR => ?_⟩
    have e1 := compA_is hx (hR.arg (x := x') (by simp [O.args]))
    rw [hp] at e1
    simp only [Is] at e1
    obtain ⟨r, hr, e1⟩ := e1
    refine ⟨.pointer (some ⟨r.b, r.s + (off + f.offset), none⟩), by simp only [Is]; exact ⟨r, hr, rfl⟩, fun w => ?_⟩
    simp [execOp, ho, e1, Instr.fieldAt, run_underlying hT, hf, Instr.sureAddr, fieldPlace, sizeOf'_run hs, hs0, add_none, Nat.add_assoc]
  · exact h.elim
theorem extract_is {ρ : Rho} {cs : List AV} {vs : List Value} (h : IsL ρ cs vs) (off sz : Nat) : Is ρ (.agg (cutA cs off sz)) (.agg (vs.toArray.extract off (off + sz))) := by
  simp only [Is]
  refine ⟨(vs.drop off).take sz, ?_, (h.drop off).take sz⟩
  simp [cutA, List.extract_eq_drop_take']
theorem x_fld {T : TypeId} {fs : Array Field} {x : Operand} {x' : A} {i : Nat} {f : Field} {s : Nat} (ho : o.op = .field T x i) (hT : P.underlying T = some (.struct fs)) (hf : fs[i]? = some f)
    (ha : isAgg' P f.type = some true) (hs : sizeOf' P f.type = some s) (hx : compA x = some x') (h : xp (.fld s f.offset x') t K) : ∃ v, K v ∧ PV P o (.fld s f.offset x') t v := by
  simp only [xp] at h
  split at h
  · rename_i cs hp
    refine ⟨_, h, fun ρ A hR => ?_⟩
    have e1 := compA_is hx (hR.arg (x := x') (by simp [O.args]))
    rw [hp] at e1
    simp only [Is] at e1
    obtain ⟨vs, e1, hl⟩ := e1
    refine ⟨_, extract_is hl f.offset s, fun w => ?_⟩
    simp [execOp, ho, e1, Instr.field, run_underlying hT, hf, asAgg, part, isAgg'_run ha, sizeOf'_run hs]
  · exact h.elim
theorem x_fld1 {T : TypeId} {fs : Array Field} {x : Operand} {x' : A} {i : Nat} {f : Field} (ho : o.op = .field T x i) (hT : P.underlying T = some (.struct fs)) (hf : fs[i]? = some f)
    (ha : isAgg' P f.type = some false) (hx : compA x = some x') (h : xp (.fld1 f.offset x') t K) : ∃ v, K v ∧ PV P o (.fld1 f.offset x') t v := by
  simp only [xp] at h
  split at h
  · rename_i cs hp
    obtain ⟨c, hc, h⟩ := h
    refine ⟨_, h, fun ρ A hR => ?_⟩
    have e1 := compA_is hx (hR.arg (x := x') (by simp [O.args]))
    rw [hp] at e1
    simp only [Is] at e1
    obtain ⟨vs, e1, hl⟩ := e1
    obtain ⟨u, hu, hi⟩ := hl.get _ c hc
    refine ⟨u, hi, fun w => ?_⟩
    simp [execOp, ho, e1, Instr.field, run_underlying hT, hf, asAgg, part, isAgg'_run ha, hu]
  · exact h.elim
theorem x_ext {x : Operand} {x' : A} {i : Nat} (ho : o.op = .extract x i) (hx : compA x = some x') (h : xp (.ext x' i) t K) : ∃ v, K v ∧ PV P o (.ext x' i) t v := by
  simp only [xp] at h
  split at h
  · rename_i cs hp
    obtain ⟨c, hc, h⟩ := h
    refine ⟨_, h, fun ρ A hR => ?_⟩
    have e1 := compA_is hx (hR.arg (x := x') (by simp [O.args]))
    rw [hp] at e1
    simp only [Is] at e1
    obtain ⟨vs, e1, hl⟩ := e1
    obtain ⟨u, hu, hi⟩ := hl.get _ c hc
    refine ⟨u, hi, fun w => ?_⟩
    simp [execOp, ho, e1, Instr.extract, hu]
  · exact h.elim
theorem x_ia {T e : TypeId} {x i : Operand} {x' i' : A} {s : Nat} (ho : o.op = .indexAddr T x i) (hT : P.underlying T = some (.slice e)) (hs : sizeOf' P e = some s)
    (hx : compA x = some x') (hi : compA i = some i') (h : xp (.ia s x' i') t K) : ∃ v, K v ∧ PV P o (.ia s x' i') t v := by
  simp only [xp] at h
  split at h
  · rename_i id off n c k j hp hq
    obtain ⟨h0, h1, h⟩ := h
    refine ⟨_, h, fun ρ A hR => ?_⟩
    have e1 := compA_is hx (hR.arg (x := x') (by simp [O.args]))
    have e2 := compA_is hi (hR.arg (x := i') (by simp [O.args]))
    rw [hp] at e1; rw [hq] at e2
    simp only [Is] at e1 e2
    obtain ⟨r, hr, e1⟩ := e1
    refine ⟨.pointer (some ⟨r.b, r.s + (off + j.toNat * s), none⟩), by simp only [Is]; exact ⟨r, hr, rfl⟩, fun w => ?_⟩
    simp [execOp, ho, e1, e2, Instr.indexAt, asIntOf, run_underlying hT, h0, h1, sizeOf'_run hs, add_none, Nat.add_assoc]
  · rename_i id n k j hp hq
    obtain ⟨h0, h1, h⟩ := h
    refine ⟨_, h, fun ρ A hR => ?_⟩
    have e1 := compA_is hx (hR.arg (x := x') (by simp [O.args]))
    have e2 := compA_is hi (hR.arg (x := i') (by simp [O.args]))
    rw [hp] at e1; rw [hq] at e2
    simp only [Is] at e1 e2
    obtain ⟨r, hr, hs0, hc, e1⟩ := e1
    refine ⟨.pointer (some ⟨r.b, r.s + (j.toNat * s), none⟩), by simp only [Is]; exact ⟨r, hr, rfl⟩, fun w => ?_⟩
    simp [execOp, ho, e1, e2, Instr.indexAt, asIntOf, run_underlying hT, h0, h1, sizeOf'_run hs, add_none, hs0]
  · rename_i id off n k j hp hq
    obtain ⟨h0, h1, h⟩ := h
    refine ⟨_, h, fun ρ A hR => ?_⟩
    have e1 := compA_is hx (hR.arg (x := x') (by simp [O.args]))
    have e2 := compA_is hi (hR.arg (x := i') (by simp [O.args]))
    rw [hp] at e1; rw [hq] at e2
    simp only [Is] at e1 e2
    obtain ⟨r, a, c, hr, e1, hc, ha⟩ := e1
    have ha := ha (by omega)
    subst ha
    refine ⟨.pointer (some ⟨r.b, r.s + (off + j.toNat * s), none⟩), by simp only [Is]; exact ⟨r, hr, rfl⟩, fun w => ?_⟩
    simp [execOp, ho, e1, e2, Instr.indexAt, asIntOf, run_underlying hT, h0, h1, sizeOf'_run hs, add_none, Nat.add_assoc]
  · exact h.elim
theorem x_ixs {T : TypeId} {x i : Operand} {x' i' : A} (ho : o.op = .index T x i) (hT : P.underlying T = some .string)
    (hx : compA x = some x') (hi : compA i = some i') (h : xp (.ixs x' i') t K) : ∃ v, K v ∧ PV P o (.ixs x' i') t v := by
  simp only [xp] at h
  split at h
  · rename_i s k j hp hq
    obtain ⟨c, h0, h1, h⟩ := h
    refine ⟨_, h, fun ρ A hR => ⟨_, is_int, fun w => ?_⟩⟩
    have e1 := compA_is hx (hR.arg (x := x') (by simp [O.args]))
    have e2 := compA_is hi (hR.arg (x := i') (by simp [O.args]))
    rw [hp] at e1; rw [hq] at e2
    simp only [Is] at e1 e2
    have h1' : s[j.toNat]? = some c := by
      obtain ⟨hlt, he⟩ := Array.getElem?_eq_some_iff.1 h1
      rw [getElem?_pos s j.toNat hlt]; exact congrArg some he
    simp [execOp, ho, e1, e2, Instr.index, asIntOf, run_underlying hT, h0, h1']
  · exact h.elim
theorem x_len {ar : Array Operand} {ats : Array TypeId} {T e : TypeId} {x : Operand} {x' : A} (ho : o.op = .call { callee := .builtin .len, args := ar, argTypes := ats }) (har : ar.toList = [x]) (hat : ats.toList = [T])
    (hT : P.underlying T = some (.slice e)) (hx : compA x = some x') (h : xp (.len x') t K) : ∃ v, K v ∧ PV P o (.len x') t v := by
  have har' : ar = #[x] := Array.ext' har
  have hat' : ats = #[T] := Array.ext' hat
  subst har'; subst hat'
  simp only [xp] at h
  split at h
  · rename_i id off n c hp
    refine ⟨_, h, fun ρ A hR => ⟨_, is_int, fun w => ?_⟩⟩
    have e1 := compA_is hx (hR.arg (x := x') (by simp [O.args]))
    rw [hp] at e1; simp only [Is] at e1
    obtain ⟨r, hr, e1⟩ := e1
    simp [execOp, ho, resolve, e1, invoke, builtin, Builtin.len_, run_underlying hT, goInt]
  · rename_i id n hp
    refine ⟨_, h, fun ρ A hR => ⟨_, is_int, fun w => ?_⟩⟩
    have e1 := compA_is hx (hR.arg (x := x') (by simp [O.args]))
    rw [hp] at e1; simp only [Is] at e1
    obtain ⟨r, hr, _, _, e1⟩ := e1
    simp [execOp, ho, resolve, e1, invoke, builtin, Builtin.len_, run_underlying hT, goInt]
  · rename_i id off n hp
    refine ⟨_, h, fun ρ A hR => ⟨_, is_int, fun w => ?_⟩⟩
    have e1 := compA_is hx (hR.arg (x := x') (by simp [O.args]))
    rw [hp] at e1; simp only [Is] at e1
    obtain ⟨r, a, c, hr, e1, _⟩ := e1
    simp [execOp, ho, resolve, e1, invoke, builtin, Builtin.len_, run_underlying hT, goInt]
  · rename_i hp
    refine ⟨_, h, fun ρ A hR => ⟨_, is_int, fun w => ?_⟩⟩
    have e1 := compA_is hx (hR.arg (x := x') (by simp [O.args]))
    rw [hp] at e1; simp only [Is] at e1
    simp [execOp, ho, resolve, e1, invoke, builtin, Builtin.len_, run_underlying hT, goInt]
  · rename_i hp
    refine ⟨_, h, fun ρ A hR => ⟨_, is_int, fun w => ?_⟩⟩
    have e1 := compA_is hx (hR.arg (x := x') (by simp [O.args]))
    rw [hp] at e1; simp only [Is] at e1
    obtain ⟨a, e1⟩ := e1
    simp [execOp, ho, resolve, e1, invoke, builtin, Builtin.len_, run_underlying hT, goInt]
  · exact h.elim
theorem x_lens {ar : Array Operand} {ats : Array TypeId} {T : TypeId} {x : Operand} {x' : A} (ho : o.op = .call { callee := .builtin .len, args := ar, argTypes := ats }) (har : ar.toList = [x]) (hat : ats.toList = [T])
    (hT : P.underlying T = some .string) (hx : compA x = some x') (h : xp (.lens x') t K) : ∃ v, K v ∧ PV P o (.lens x') t v := by
  have har' : ar = #[x] := Array.ext' har
  have hat' : ats = #[T] := Array.ext' hat
  subst har'; subst hat'
  simp only [xp] at h
  split at h
  · rename_i s hp
    refine ⟨_, h, fun ρ A hR => ⟨_, is_int, fun w => ?_⟩⟩
    have e1 := compA_is hx (hR.arg (x := x') (by simp [O.args]))
    rw [hp] at e1; simp only [Is] at e1
    simp [execOp, ho, resolve, e1, invoke, builtin, Builtin.len_, run_underlying hT, goInt]
  · exact h.elim
theorem x_cap {ar : Array Operand} {ats : Array TypeId} {T e : TypeId} {x : Operand} {x' : A} (ho : o.op = .call { callee := .builtin .cap, args := ar, argTypes := ats }) (har : ar.toList = [x]) (hat : ats.toList = [T])
    (hT : P.underlying T = some (.slice e)) (hx : compA x = some x') (h : xp (.cap x') t K) : ∃ v, K v ∧ PV P o (.cap x') t v := by
  have har' : ar = #[x] := Array.ext' har
  have hat' : ats = #[T] := Array.ext' hat
  subst har'; subst hat'
  simp only [xp] at h
  split at h
  · rename_i id off n c hp
    refine ⟨_, h, fun ρ A hR => ⟨_, is_int, fun w => ?_⟩⟩
    have e1 := compA_is hx (hR.arg (x := x') (by simp [O.args]))
    rw [hp] at e1; simp only [Is] at e1
    obtain ⟨r, hr, e1⟩ := e1
    simp [execOp, ho, resolve, e1, invoke, builtin, Builtin.cap_, run_underlying hT, goInt]
  · rename_i hp
    refine ⟨_, h, fun ρ A hR => ⟨_, is_int, fun w => ?_⟩⟩
    have e1 := compA_is hx (hR.arg (x := x') (by simp [O.args]))
    rw [hp] at e1; simp only [Is] at e1
    simp [execOp, ho, resolve, e1, invoke, builtin, Builtin.cap_, run_underlying hT, goInt]
  · exact h.elim
theorem compAs_len : ∀ {xs : List Operand} {xs' : List A}, compAs xs = some xs' → xs.length = xs'.length
  | [], xs', h => by simp only [compAs, Option.some.injEq] at h; subst h; rfl
  | x :: xs, xs', h => by
    simp only [compAs] at h
    split at h
    · rename_i y l hy hl; cases h; simp [compAs_len hl]
    · cases h
theorem compAs_two {xs : List Operand} {x y : A} (h : compAs xs = some [x, y]) : ∃ x0 y0, xs = [x0, y0] ∧ compA x0 = some x ∧ compA y0 = some y := by
  match xs, h with
  | [], h => simp [compAs] at h
  | [a], h =>
    simp only [compAs] at h
    split at h <;> simp_all
  | [a, b], h =>
    simp only [compAs] at h
    split at h
    · rename_i y l hy hl
      split at hl
      · rename_i z m hz hm
        cases hl; cases h
        exact ⟨a, b, rfl, hy, hz⟩
      · cases hl
    · cases h
  | a :: b :: c :: r, h => have := compAs_len h; simp at this
theorem x_mx {ar : Array Operand} {ats : Array TypeId} {xs : List A} (ho : o.op = .call { callee := .builtin .max, args := ar, argTypes := ats }) (hx : compAs ar.toList = some xs) (h : xp (.mx xs) t K) : ∃ v, K v ∧ PV P o (.mx xs) t v := by
  simp only [xp] at h
  split at h
  · rename_i x y
    obtain ⟨x0, y0, hl, h1, h2⟩ := compAs_two hx
    have har' : ar = #[x0, y0] := Array.ext' hl
    subst har'
    split at h
    · rename_i k a k' b hp hq
      refine ⟨_, h, fun ρ A hR => ⟨_, is_int, fun w => ?_⟩⟩
      have e1 := compA_is h1 (hR.arg (x := x) (by simp [O.args]))
      have e2 := compA_is h2 (hR.arg (x := y) (by simp [O.args]))
      rw [hp] at e1; rw [hq] at e2; simp only [Is] at e1 e2
      simp [execOp, ho, resolve, e1, e2, invoke, builtin, Builtin.max_, Builtin.max2]
    · exact h.elim
  · exact h.elim
theorem x_mn {ar : Array Operand} {ats : Array TypeId} {xs : List A} (ho : o.op = .call { callee := .builtin .min, args := ar, argTypes := ats }) (hx : compAs ar.toList = some xs) (h : xp (.mn xs) t K) : ∃ v, K v ∧ PV P o (.mn xs) t v := by
  simp only [xp] at h
  split at h
  · rename_i x y
    obtain ⟨x0, y0, hl, h1, h2⟩ := compAs_two hx
    have har' : ar = #[x0, y0] := Array.ext' hl
    subst har'
    split at h
    · rename_i k a k' b hp hq
      refine ⟨_, h, fun ρ A hR => ⟨_, is_int, fun w => ?_⟩⟩
      have e1 := compA_is h1 (hR.arg (x := x) (by simp [O.args]))
      have e2 := compA_is h2 (hR.arg (x := y) (by simp [O.args]))
      rw [hp] at e1; rw [hq] at e2; simp only [Is] at e1 e2
      simp [execOp, ho, resolve, e1, e2, invoke, builtin, Builtin.min_, Builtin.min2]
    · exact h.elim
  · exact h.elim
theorem IsO {ρ : Rho} {t : List AV} {a : Act} {x : Option Operand} {x' : Option A} (h : compOA x = some x') (hr : ∀ y, x' = some y → Rel ρ y.reads t a) :
    (x = none ∧ x' = none) ∨ ∃ x0 y, x = some x0 ∧ x' = some y ∧ Is ρ (ev t y) (a.eval x0) := by
  cases x with
  | none => simp only [compOA, Option.some.injEq] at h; exact .inl ⟨rfl, h.symm⟩
  | some x0 =>
    simp only [compOA, Option.map_eq_some_iff] at h
    obtain ⟨y, hy, rfl⟩ := h
    exact .inr ⟨x0, y, rfl, rfl, compA_is hy (hr y rfl)⟩
theorem bound_run {k : IntKind} {i : Int} {y : Nat} {code : BoundsCode} (h0 : 0 ≤ i) (h1 : i ≤ y) (w : World) : (Instr.sliceBound (.int k i) y code).run P w = .ok i.toNat w := by
  simp [Instr.sliceBound, asIntOf, h0, h1]
def RelO (ρ : Rho) (x : Option AV) (r : Option Value) : Prop := match x, r with
  | none, none => True
  | some x, some r => Is ρ x r
  | _, _ => False
theorem RelO.none_ {ρ : Rho} {r : Option Value} (h : RelO ρ none r) : r = none := by cases r <;> simp [RelO] at h ⊢
theorem RelO.int {ρ : Rho} {k : IntKind} {n : Int} {r : Option Value} (h : RelO ρ (some (.int k n)) r) : r = some (.int k n) := by
  cases r <;> simp only [RelO, Is] at h
  · exact congrArg some h
theorem RelO.of {ρ : Rho} {t : List AV} {a : Act} {x : Option Operand} {x' : Option A} (h : compOA x = some x') (hr : ∀ y, x' = some y → Rel ρ y.reads t a) :
    RelO ρ (x'.map (ev t)) (x.map a.eval) := by
  rcases IsO h hr with ⟨rfl, rfl⟩ | ⟨x0, y, rfl, rfl, hi⟩
  · simp [RelO]
  · simpa [RelO] using hi
theorem bound_run2 {P : Program} {k : IntKind} {i y : Int} {code : BoundsCode} (h0 : 0 ≤ i) (h1 : i ≤ y) (w : World) : (Instr.sliceBound (.int k i) y.toNat code).run P w = .ok i.toNat w :=
  bound_run h0 (by omega) w
theorem bnds_run {P : Program} {len cap : Nat} {lo hi mx : Option AV} {K : Nat → Nat → Nat → Prop} {b : Bool} (h : bnds len cap lo hi mx K) :
    ∃ l h m, K l h m ∧ ∀ (ρ : Rho) (rlo rhi rmx : Option Value) (w : World), RelO ρ lo rlo → RelO ρ hi rhi → RelO ρ mx rmx → (Instr.sliceBounds b len cap rlo rhi rmx).run P w = .ok (l, h, m) w := by
  unfold bnds at h
  split at h
  · split at h
    · split at h
      · refine ⟨_, _, _, h, fun ρ rlo rhi rmx w h1 h2 h3 => ?_⟩
        rw [h1.none_, h2.none_, h3.none_]; simp [Instr.sliceBounds]
      · obtain ⟨g0, g1, h⟩ := h
        refine ⟨_, _, _, h, fun ρ rlo rhi rmx w h1 h2 h3 => ?_⟩
        rw [h1.int, h2.none_, h3.none_]; simp [Instr.sliceBounds, bound_run g0 g1]
      · exact h.elim
    · obtain ⟨g0, g1, h⟩ := h
      split at h
      · refine ⟨_, _, _, h, fun ρ rlo rhi rmx w h1 h2 h3 => ?_⟩
        rw [h1.none_, h2.int, h3.none_]; simp [Instr.sliceBounds, bound_run g0 g1]
      · obtain ⟨f0, f1, h⟩ := h
        refine ⟨_, _, _, h, fun ρ rlo rhi rmx w h1 h2 h3 => ?_⟩
        rw [h1.int, h2.int, h3.none_]; simp [Instr.sliceBounds, bound_run g0 g1, bound_run2 f0 f1]
      · exact h.elim
    · exact h.elim
  · obtain ⟨g0, g1, h⟩ := h
    split at h
    · obtain ⟨f0, f1, h⟩ := h
      split at h
      · refine ⟨_, _, _, h, fun ρ rlo rhi rmx w h1 h2 h3 => ?_⟩
        rw [h1.none_, h2.int, h3.int]; simp [Instr.sliceBounds, bound_run g0 g1, bound_run2 f0 f1]
      · obtain ⟨e0, e1, h⟩ := h
        refine ⟨_, _, _, h, fun ρ rlo rhi rmx w h1 h2 h3 => ?_⟩
        rw [h1.int, h2.int, h3.int]; simp [Instr.sliceBounds, bound_run g0 g1, bound_run2 f0 f1, bound_run2 e0 e1]
      · exact h.elim
    · exact h.elim
  · exact h.elim
theorem x_sls {T : TypeId} {x : Operand} {lo hi : Option Operand} {x' : A} {lo' hi' : Option A} (ho : o.op = .slice T x lo hi none) (hT : P.underlying T = some .string)
    (hx : compA x = some x') (hl : compOA lo = some lo') (hh : compOA hi = some hi') (h : xp (.sls x' lo' hi') t K) : ∃ v, K v ∧ PV P o (.sls x' lo' hi') t v := by
  simp only [xp] at h
  split at h
  · rename_i s hp
    obtain ⟨l, h', m, hK, hrun⟩ := bnds_run (P := P) (b := false) h
    refine ⟨_, hK, fun ρ A hR => ⟨_, is_str, fun w => ?_⟩⟩
    have e1 := compA_is hx (hR.arg (x := x') (by simp [O.args]))
    rw [hp] at e1; simp only [Is] at e1
    have r1 := RelO.of (ρ := ρ) (t := t) (a := A) hl (fun y hy => hR.arg (by simp [O.args, hy]))
    have r2 := RelO.of (ρ := ρ) (t := t) (a := A) hh (fun y hy => hR.arg (by simp [O.args, hy]))
    have := hrun ρ _ _ none w r1 r2 (by simp [RelO])
    simp [execOp, ho, e1, Instr.sliceAt, Instr.slice, run_underlying hT, this]
  · exact h.elim
theorem x_slc {T e : TypeId} {x : Operand} {lo hi mx : Option Operand} {x' : A} {lo' hi' mx' : Option A} {s : Nat} (ho : o.op = .slice T x lo hi mx) (hT : P.underlying T = some (.slice e))
    (hs : sizeOf' P e = some s) (hx : compA x = some x') (hl : compOA lo = some lo') (hh : compOA hi = some hi') (hm : compOA mx = some mx') (h : xp (.slc s x' lo' hi' mx') t K) :
    ∃ v, K v ∧ PV P o (.slc s x' lo' hi' mx') t v := by
  simp only [xp] at h
  have R : ∀ ρ A, Rel ρ (O.slc s x' lo' hi' mx').reads t A → RelO ρ (lo'.map (ev t)) (lo.map A.eval) ∧ RelO ρ (hi'.map (ev t)) (hi.map A.eval) ∧ RelO ρ (mx'.map (ev t)) (mx.map A.eval) :=
    fun ρ A hR => ⟨RelO.of (ρ := ρ) (t := t) (a := A) hl (fun y hy => hR.arg (by simp [O.args, hy])), RelO.of (ρ := ρ) (t := t) (a := A) hh (fun y hy => hR.arg (by simp [O.args, hy])),
      RelO.of (ρ := ρ) (t := t) (a := A) hm (fun y hy => hR.arg (by simp [O.args, hy]))⟩
  split at h
  · rename_i id off n c hp
    obtain ⟨l, h', m, hK, hrun⟩ := bnds_run (P := P) (b := true) h
    refine ⟨_, hK, fun ρ A hR => ?_⟩
    have e1 := compA_is hx (hR.arg (x := x') (by simp [O.args]))
    rw [hp] at e1; simp only [Is] at e1
    obtain ⟨r, hr, e1⟩ := e1
    obtain ⟨r1, r2, r3⟩ := R ρ A hR
    refine ⟨.slice (some ⟨r.b, r.s + (if m = l then off else off + l * s), none⟩) (h' - l) (m - l), by simp only [Is]; exact ⟨r, hr, rfl⟩, fun w => ?_⟩
    have := hrun ρ _ _ _ w r1 r2 r3
    simp only [execOp, ho, e1, Instr.sliceAt, Sem.run_bind, run_underlying hT, Result.andThen_ok, Instr.slice, this, sizeOf'_run hs, Sem.run_pure]
    split <;> simp [add_none, Nat.add_assoc]
  · rename_i id n hp
    split at h
    · rename_i q1 q2 q3
      refine ⟨_, h, fun ρ A hR => ?_⟩
      have e1 := compA_is hx (hR.arg (x := x') (by simp [O.args]))
      rw [hp] at e1
      obtain ⟨r1, r2, r3⟩ := R ρ A hR
      rw [q1] at r1; rw [q2] at r2; rw [q3] at r3
      refine ⟨_, e1, fun w => ?_⟩
      simp only [Is] at e1
      obtain ⟨r, hr, hs0, hc, e1⟩ := e1
      simp only [execOp, ho, e1, r1.none_, r2.none_, r3.none_, Instr.sliceAt, Sem.run_bind, run_underlying hT, Result.andThen_ok, Instr.slice, Instr.sliceBounds, sizeOf'_run hs, Sem.run_pure]
      split <;> simp [add_none]
    · rename_i k l q1 q2 q3
      obtain ⟨g0, g1, h⟩ := h
      refine ⟨_, h, fun ρ A hR => ?_⟩
      have e1 := compA_is hx (hR.arg (x := x') (by simp [O.args]))
      rw [hp] at e1
      obtain ⟨r1, r2, r3⟩ := R ρ A hR
      rw [q1] at r1; rw [q2] at r2; rw [q3] at r3
      simp only [Is] at e1
      obtain ⟨r, hr, hs0, hc, e1⟩ := e1
      refine ⟨.slice (some ⟨r.b, (if r.c = l.toNat then 0 else l.toNat * s), none⟩) (n - l.toNat) (r.c - l.toNat), by simp only [Is]; exact ⟨r, _, _, hr, rfl, by omega, fun hn => by rw [hs0, if_neg (by omega), Nat.zero_add]⟩, fun w => ?_⟩
      simp only [execOp, ho, e1, r1.int, r2.none_, r3.none_, Instr.sliceAt, Sem.run_bind, run_underlying hT, Result.andThen_ok, Instr.slice, Instr.sliceBounds, sizeOf'_run hs, Sem.run_pure, bound_run g0 g1]
      split <;> simp [add_none]
    · rename_i k j q1 q2 q3
      obtain ⟨g0, g1, h⟩ := h
      refine ⟨_, h, fun ρ A hR => ?_⟩
      have e1 := compA_is hx (hR.arg (x := x') (by simp [O.args]))
      rw [hp] at e1
      obtain ⟨r1, r2, r3⟩ := R ρ A hR
      rw [q1] at r1; rw [q2] at r2; rw [q3] at r3
      simp only [Is] at e1
      obtain ⟨r, hr, hs0, hc, e1⟩ := e1
      refine ⟨.slice (some ⟨r.b, 0, none⟩) j.toNat r.c, by simp only [Is]; exact ⟨r, hr, hs0, by omega, rfl⟩, fun w => ?_⟩
      have hb : j ≤ ((r.c : Nat) : Int) := by omega
      simp only [execOp, ho, e1, r1.none_, r2.int, r3.none_, Instr.sliceAt, Sem.run_bind, run_underlying hT, Result.andThen_ok, Instr.slice, Instr.sliceBounds, sizeOf'_run hs, Sem.run_pure, bound_run g0 hb]
      split <;> simp [add_none]
    · rename_i k l k' j q1 q2 q3
      obtain ⟨g0, g1, g2, h⟩ := h
      refine ⟨_, h, fun ρ A hR => ?_⟩
      have e1 := compA_is hx (hR.arg (x := x') (by simp [O.args]))
      rw [hp] at e1
      obtain ⟨r1, r2, r3⟩ := R ρ A hR
      rw [q1] at r1; rw [q2] at r2; rw [q3] at r3
      simp only [Is] at e1
      obtain ⟨r, hr, hs0, hc, e1⟩ := e1
      refine ⟨.slice (some ⟨r.b, (if r.c = l.toNat then 0 else l.toNat * s), none⟩) (j.toNat - l.toNat) (r.c - l.toNat), by simp only [Is]; exact ⟨r, _, _, hr, rfl, by omega, fun hn => by rw [hs0, if_neg (by omega), Nat.zero_add]⟩, fun w => ?_⟩
      have hb : j ≤ ((r.c : Nat) : Int) := by omega
      have hg0 : 0 ≤ j := by omega
      simp only [execOp, ho, e1, r1.int, r2.int, r3.none_, Instr.sliceAt, Sem.run_bind, run_underlying hT, Result.andThen_ok, Instr.slice, Instr.sliceBounds, sizeOf'_run hs, Sem.run_pure, bound_run hg0 hb, bound_run2 g0 g1]
      split <;> simp [add_none]
    · exact h.elim
  · rename_i id off n hp
    split at h
    · rename_i k l q1 q2 q3
      obtain ⟨g0, g1, h⟩ := h
      refine ⟨_, h, fun ρ A hR => ?_⟩
      have e1 := compA_is hx (hR.arg (x := x') (by simp [O.args]))
      rw [hp] at e1
      obtain ⟨r1, r2, r3⟩ := R ρ A hR
      rw [q1] at r1; rw [q2] at r2; rw [q3] at r3
      simp only [Is] at e1
      obtain ⟨r, a, c, hr, e1, hc, ha⟩ := e1
      refine ⟨.slice (some (if c = l.toNat then a else a.add (l.toNat * s))) (n - l.toNat) (c - l.toNat), by simp only [Is]; exact ⟨r, _, _, hr, rfl, by omega, fun hn => by rw [if_neg (by omega), ha (by omega), add_none, Nat.add_assoc]⟩, fun w => ?_⟩
      simp only [execOp, ho, e1, r1.int, r2.none_, r3.none_, Instr.sliceAt, Sem.run_bind, run_underlying hT, Result.andThen_ok, Instr.slice, Instr.sliceBounds, sizeOf'_run hs, Sem.run_pure, bound_run g0 g1]
      split <;> simp
    · rename_i k j q1 q2 q3
      obtain ⟨g0, g1, h⟩ := h
      refine ⟨_, h, fun ρ A hR => ?_⟩
      have e1 := compA_is hx (hR.arg (x := x') (by simp [O.args]))
      rw [hp] at e1
      obtain ⟨r1, r2, r3⟩ := R ρ A hR
      rw [q1] at r1; rw [q2] at r2; rw [q3] at r3
      simp only [Is] at e1
      obtain ⟨r, a, c, hr, e1, hc, ha⟩ := e1
      refine ⟨.slice (some a) j.toNat c, by simp only [Is]; exact ⟨r, _, _, hr, rfl, by omega, fun hn => ha (by omega)⟩, fun w => ?_⟩
      have hb : j ≤ ((c : Nat) : Int) := by omega
      simp only [execOp, ho, e1, r1.none_, r2.int, r3.none_, Instr.sliceAt, Sem.run_bind, run_underlying hT, Result.andThen_ok, Instr.slice, Instr.sliceBounds, sizeOf'_run hs, Sem.run_pure, bound_run g0 hb]
      have hz : a.add 0 = a := by simp [Addr.add]
      split <;> simp [hz]
    · exact h.elim
  · rename_i hp
    have z : ∀ (k : IntKind) code w, (Instr.sliceBound (.int k 0) 0 code).run P w = .ok 0 w := fun k code w => bound_run (i := 0) (y := 0) (Int.le_refl 0) (Int.le_refl 0) w
    have fin : ∀ {v1 v2 v3 : Option AV}, K .nilsl → (∀ (ρ : Rho) (rlo rhi rmx : Option Value) (w : World), RelO ρ v1 rlo → RelO ρ v2 rhi → RelO ρ v3 rmx → (Instr.sliceBounds true 0 0 rlo rhi rmx).run P w = .ok (0, 0, 0) w) →
        lo'.map (ev t) = v1 → hi'.map (ev t) = v2 → mx'.map (ev t) = v3 → ∃ v, K v ∧ PV P o (.slc s x' lo' hi' mx') t v := by
      intro v1 v2 v3 hK hz q1 q2 q3
      refine ⟨_, hK, fun ρ A hR => ⟨.slice none 0 0, by simp only [Is], fun w => ?_⟩⟩
      have e1 := compA_is hx (hR.arg (x := x') (by simp [O.args]))
      rw [hp] at e1; simp only [Is] at e1
      obtain ⟨r1, r2, r3⟩ := R ρ A hR
      rw [q1] at r1; rw [q2] at r2; rw [q3] at r3
      simp [execOp, ho, e1, Instr.sliceAt, run_underlying hT, Instr.slice, hz ρ _ _ _ w r1 r2 r3, sizeOf'_run hs]
    split at h
    · rename_i q1 q2 q3; exact fin h (fun ρ _ _ _ w r1 r2 r3 => by rw [r1.none_, r2.none_, r3.none_]; simp [Instr.sliceBounds]) q1 q2 q3
    · rename_i q1 q2 q3; exact fin h (fun ρ _ _ _ w r1 r2 r3 => by rw [r1.int, r2.none_, r3.none_]; simp [Instr.sliceBounds, z]) q1 q2 q3
    · rename_i q1 q2 q3; exact fin h (fun ρ _ _ _ w r1 r2 r3 => by rw [r1.none_, r2.int, r3.none_]; simp [Instr.sliceBounds, z]) q1 q2 q3
    · rename_i q1 q2 q3; exact fin h (fun ρ _ _ _ w r1 r2 r3 => by rw [r1.int, r2.int, r3.int]; simp [Instr.sliceBounds, z]) q1 q2 q3
    · rename_i q1 q2 q3; exact fin h (fun ρ _ _ _ w r1 r2 r3 => by rw [r1.none_, r2.int, r3.int]; simp [Instr.sliceBounds, z]) q1 q2 q3
    · exact h.elim
  · exact h.elim
end
end Go.Proofs.Ytmjfekgbbjojdac.L
