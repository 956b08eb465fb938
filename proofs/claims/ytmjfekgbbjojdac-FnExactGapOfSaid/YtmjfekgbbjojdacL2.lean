/- The operations of the model's code in a short form, read off a program, and the operations that only compute: what they yield in whatever world. -/
import Derived.Test.YtmjfekgbbjojdacL1
namespace Go.Proofs.Ytmjfekgbbjojdac.L
open Go
set_option linter.unusedSimpArgs false
set_option linter.unusedVariables false

/-- An operand. -/
inductive A where
  | t (n : Nat)
  | c (v : AV)
  | f (n : Nat)

def ev (t : List AV) : A → AV
  | .t n => t.getD n .any
  | .c v => v
  | .f n => .fn n []

inductive O where
  | mv (x : A)
  | pick (c a b : A)
  | bin (op : BinOp) (x y : A)
  | beq (neg : Bool) (x y : A)
  | nileq (neg : Bool) (x y : A)
  | nilseq (neg : Bool) (x : A)
  | bad
  | un (op : UnOp) (x : A)
  | alloc (ty : Nat) (z : List AV)
  | box (ty : Nat) (x : A)
  | build (z : List AV) (ps : List (Nat × Nat × A))
  | mks (ty es : Nat) (z : List AV) (l c : A)
  | lit (ty es len : Nat) (z : List AV) (ps : List (Nat × A))
  | ld (sz : Nat) (x : A)
  | ld1 (x : A)
  | st (sz : Nat) (a x : A)
  | nck (x : A)
  | cvi (k : IntKind) (x : A)
  | cvs (x : A)
  | b2s (x : A)
  | mkf (f : Nat) (cs : List A)
  | slc (es : Nat) (x : A) (lo hi mx : Option A)
  | sls (x : A) (lo hi : Option A)
  | fa (off : Nat) (x : A)
  | fld (sz off : Nat) (x : A)
  | fld1 (off : Nat) (x : A)
  | ia (es : Nat) (x i : A)
  | ixs (x i : A)
  | ext (x : A) (i : Nat)
  | call (f : A) (xs : List A)
  | callw (f : A) (xs : List A)
  | app (ty es by_ : Nat) (z : List AV) (s x : A)
  | len (x : A)
  | lens (x : A)
  | cap (x : A)
  | mx (xs : List A)
  | mn (xs : List A)

mutual
def compV : Value → Option AV
  | .bool b => some (.bool b)
  | .int k n => some (.int k n)
  | .string s => some (.str s)
  | .pointer none => some .nilptr
  | .slice none 0 0 => some .nilsl
  | .nilIface => some .nilif
  | _ => none
end
def compVs : List Value → Option (List AV)
  | [] => some []
  | v :: vs => match compV v, compVs vs with
    | some a, some l => some (a :: l)
    | _, _ => none
def compA : Operand → Option A
  | .tmp t => some (.t t)
  | .const v => (compV v).map .c
  | .func f => some (.f f)
  | .global _ => none
def compAs : List Operand → Option (List A)
  | [] => some []
  | v :: vs => match compA v, compAs vs with
    | some a, some l => some (a :: l)
    | _, _ => none
def compOA : Option Operand → Option (Option A)
  | none => some none
  | some x => (compA x).map some
/-- A type's zero value, its cells. -/
def zeroOf (P : Program) (t : TypeId) : Option (List AV) :=
  match P.info? t with
  | some i => match i.zero with
    | some z => if z.cells.size = i.size then compVs z.cells.toList else none
    | none => none
  | none => none
def sizeOf' (P : Program) (t : TypeId) : Option Nat := (P.info? t).map (·.size)
def isAgg' (P : Program) (t : TypeId) : Option Bool := (P.underlying t).map fun d => match d with | .struct _ | .array _ _ => true | _ => false

def compParts (pl : Array (Nat × Nat)) : List (Nat × Operand) → Option (List (Nat × Nat × A))
  | [] => some []
  | (i, x) :: r => match pl[i]?, compA x, compParts pl r with
    | some q, some a, some l => some ((q.1, q.2, a) :: l)
    | _, _, _ => none
def placesOf (P : Program) (fs : Array Field) : Option (List (Nat × Nat)) := fs.toList.mapM (fun f => (P.info? f.type).map fun i => (f.offset, i.size))
def compElems : List (Nat × Operand) → Option (List (Nat × A))
  | [] => some []
  | (i, x) :: r => match compA x, compElems r with
    | some a, some l => some ((i, a) :: l)
    | _, _ => none

def compO1 (P : Program) : Op → Option O
  | .move x | .assign x => (compA x).map .mv
  | .pick c a b => match compA c, compA a, compA b with
    | some c, some a, some b => some (.pick c a b)
    | _, _, _ => none
  | .binOp op t x y _ => match compA x, compA y, P.underlying t with
    | some x, some y, some (.int _) => some (.bin op x y)
    | some x, some y, some .string => some (.bin op x y)
    | some x, some y, some .bool => match op with
      | .eql => some (.beq false x y)
      | .neq => some (.beq true x y)
      | _ => none
    | some x, some (.c .nilif), some (.interface _) => match op with
      | .eql => some (.nileq false x (.c .nilif))
      | .neq => some (.nileq true x (.c .nilif))
      | _ => none
    | some x, some (.c .nilsl), some (.slice _) => match op with
      | .eql => some (.nilseq false x)
      | .neq => some (.nilseq true x)
      | _ => none
    | _, _, _ => none
  | .unOp op _ x => match op with
    | .plus => none
    | op => (compA x).map (.un op)
  | .alloc t => (zeroOf P t).map (.alloc t)
  | .box t x => (compA x).map (.box t)
  | .build t ps => match P.underlying t, zeroOf P t with
    | some (.struct fs), some z => match placesOf P fs with
      | some pl => match compParts pl.toArray ps.toList with
        | some l => some (.build z l)
        | none => none
      | none => none
    | _, _ => none
  | .makeSlice t l c => match P.underlying t with
    | some (.slice e) => match P.info? e, zeroOf P e, compA l, compA c with
      | some i, some z, some l, some c => if i.size ≠ 0 ∧ i.bytes ≤ 4096 then some (.mks e i.size z l c) else none
      | _, _, _, _ => none
    | _ => none
  | .buildSlice t len ps => match P.underlying t with
    | some (.slice e) => match P.info? e, zeroOf P e, compElems ps.toList with
      | some i, some z, some l => if i.size ≠ 0 ∧ len * i.size ≤ 65536 then some (.lit e i.size len z l) else none
      | _, _, _ => none
    | _ => none
  | .load t x => match compA x, isAgg' P t, sizeOf' P t with
    | some x, some true, some s => some (.ld s x)
    | some x, some false, some _ => some (.ld1 x)
    | _, _, _ => none
  | .store t a x => match compA a, compA x, sizeOf' P t with
    | some a, some x, some s => some (.st s a x)
    | _, _, _ => none
  | .nilCheck x => (compA x).map .nck
  | .convert s d x => match P.underlying s, P.underlying d, compA x with
    | some (.int _), some (.int k), some x => some (.cvi k x)
    | some .string, some .string, some x => some (.cvs x)
    | some (.slice e), some .string, some x => match P.underlying e with
      | some (.int .u8) => some (.b2s x)
      | _ => none
    | _, _, _ => none
  | .makeFunc (.func f) first cs => if first.size = 0 then (compAs cs.toList).map (.mkf f) else none
  | .slice t x lo hi mx => match P.underlying t, compA x, compOA lo, compOA hi, compOA mx with
    | some .string, some x, some lo, some hi, some none => some (.sls x lo hi)
    | some (.slice e), some x, some lo, some hi, some mx => match sizeOf' P e with
      | some s => some (.slc s x lo hi mx)
      | none => none
    | _, _, _, _, _ => none
  | .fieldAddr t x i => match P.underlying t, compA x with
    | some (.struct fs), some x => match fs[i]? with
      | some f => match sizeOf' P f.type with
        | some s => if s = 0 then none else some (.fa f.offset x)
        | none => none
      | none => none
    | _, _ => none
  | .field t x i => match P.underlying t, compA x with
    | some (.struct fs), some x => match fs[i]? with
      | some f => match isAgg' P f.type, sizeOf' P f.type with
        | some true, some s => some (.fld s f.offset x)
        | some false, some _ => some (.fld1 f.offset x)
        | _, _ => none
      | none => none
    | _, _ => none
  | .indexAddr t x i => match P.underlying t, compA x, compA i with
    | some (.slice e), some x, some i => match sizeOf' P e with
      | some s => some (.ia s x i)
      | none => none
    | _, _, _ => none
  | .index t x i => match P.underlying t, compA x, compA i with
    | some .string, some x, some i => some (.ixs x i)
    | _, _, _ => none
  | .extract x i => (compA x).map fun x => .ext x i
  | .call { callee := .value f, args, .. } => match compA f, compAs args.toList with
    | some f, some xs => some (.call f xs)
    | _, _ => none
  | .call { callee := .builtin .append, args, argTypes } => match args.toList, argTypes.toList with
    | [s, x], [t, t'] => match compA s, compA x, P.underlying t with
      | some s, some x, some (.slice e) => match P.info? e, zeroOf P e with
        | some i, some z => if t = t' ∧ i.size ≠ 0 ∧ i.bytes ≤ 4096 then some (.app e i.size i.bytes z s x) else none
        | _, _ => none
      | _, _, _ => none
    | _, _ => none
  | .call { callee := .builtin .len, args, argTypes } => match args.toList, argTypes.toList with
    | [x], [t] => match compA x, P.underlying t with
      | some x, some .string => some (.lens x)
      | some x, some (.slice _) => some (.len x)
      | _, _ => none
    | _, _ => none
  | .call { callee := .builtin .cap, args, argTypes } => match args.toList, argTypes.toList with
    | [x], [t] => match compA x, P.underlying t with
      | some x, some (.slice _) => some (.cap x)
      | _, _ => none
    | _, _ => none
  | .call { callee := .builtin .max, args, .. } => (compAs args.toList).map .mx
  | .call { callee := .builtin .min, args, .. } => (compAs args.toList).map .mn
  | _ => none

/-- What is not taken may stand where no way comes. -/
def compO (P : Program) (o : Op) : Option O := match compO1 P o with
  | some x => some x
  | none => some .bad

def A.reads : A → List Nat
  | .t n => [n]
  | _ => []
def O.args : O → List A
  | .mv x | .un _ x | .box _ x | .ld _ x | .ld1 x | .nck x | .cvi _ x | .cvs x | .b2s x | .fa _ x | .fld _ _ x | .fld1 _ x | .ext x _ | .len x | .lens x | .cap x | .nilseq _ x => [x]
  | .pick c a b => [c, a, b]
  | .bin _ x y | .beq _ x y | .nileq _ x y | .st _ x y | .ia _ x y | .ixs x y | .mks _ _ _ x y | .app _ _ _ _ x y => [x, y]
  | .alloc _ _ | .bad => []
  | .build _ ps => ps.map (·.2.2)
  | .lit _ _ _ _ ps => ps.map (·.2)
  | .mkf _ xs | .mx xs | .mn xs => xs
  | .call f xs => f :: xs
  | .callw f xs => f :: xs
  | .slc _ x lo hi m' => x :: (lo.toList ++ hi.toList ++ m'.toList)
  | .sls x lo hi => x :: (lo.toList ++ hi.toList)
def O.reads (o : O) : List Nat := o.args.flatMap A.reads

/-- The slots that an operation looks at are told. -/
def Rel (ρ : Rho) (ds : List Nat) (t : List AV) (a : Act) : Prop := ∀ d ∈ ds, Is ρ (t.getD d .any) (a.tmps.getD d undef)

theorem Rel.of_all {ρ : Rho} {ds : List Nat} {t : List AV} {a : Act} (h : IsL ρ t a.tmps.toList) : Rel ρ ds t a := fun d _ => by
  have := h.getD d undef
  rw [Array.getD_eq_getD_getElem?]
  simpa [List.getD] using this

theorem compV_is (ρ : Rho) {v : Value} {x : AV} (h : compV v = some x) : Is ρ x v := by
  unfold compV at h
  split at h <;> first | (cases h; simp only [Is]) | cases h
theorem compVs_is (ρ : Rho) : ∀ {vs : List Value} {xs : List AV}, compVs vs = some xs → IsL ρ xs vs
  | [], xs, h => by simp only [compVs, Option.some.injEq] at h; subst h; exact IsL.nil ρ
  | v :: vs, xs, h => by
    simp only [compVs] at h
    split at h
    · rename_i a l ha hl
      cases h
      exact IsL.cons (compV_is ρ ha) (compVs_is ρ hl)
    · cases h
theorem compA_is {ρ : Rho} {t : List AV} {a : Act} {x : Operand} {x' : A} (h : compA x = some x') (hr : Rel ρ x'.reads t a) : Is ρ (ev t x') (a.eval x) := by
  cases x with
  | tmp n => simp only [compA, Option.some.injEq] at h; subst h; exact hr n (by simp [A.reads])
  | const v =>
    simp only [compA, Option.map_eq_some_iff] at h
    obtain ⟨y, hy, rfl⟩ := h
    exact compV_is ρ hy
  | global g => simp [compA] at h
  | func f => simp only [compA, Option.some.injEq] at h; subst h; simp only [ev, Is, Act.eval]; exact ⟨[], rfl, IsL.nil ρ⟩
theorem compAs_is {ρ : Rho} {t : List AV} {a : Act} : ∀ {xs : List Operand} {xs' : List A}, compAs xs = some xs' → Rel ρ (xs'.flatMap A.reads) t a → IsL ρ (xs'.map (ev t)) (xs.map a.eval)
  | [], xs', h, _ => by simp only [compAs, Option.some.injEq] at h; subst h; exact IsL.nil ρ
  | x :: xs, xs', h, hr => by
    simp only [compAs] at h
    split at h
    · rename_i y l hy hl
      cases h
      exact IsL.cons (compA_is hy fun d hd => hr d (by simp [hd])) (compAs_is hl fun d hd => hr d (by
        simp only [List.flatMap_cons, List.mem_append]; exact .inr hd))
    · cases h

theorem sizeOf'_run {P : Program} {t : TypeId} {s : Nat} (h : sizeOf' P t = some s) (w : World) : (sizeOf t).run P w = .ok s w := by
  simp only [sizeOf', Option.map_eq_some_iff] at h
  obtain ⟨i, hi, rfl⟩ := h
  simp [sizeOf, typeInfo, hi]
theorem isAgg'_run {P : Program} {t : TypeId} {b : Bool} (h : isAgg' P t = some b) (w : World) : (isAgg t).run P w = .ok b w := by
  simp only [isAgg', Option.map_eq_some_iff] at h
  obtain ⟨d, hd, rfl⟩ := h
  simp only [isAgg, Sem.run_bind, run_underlying hd, Result.andThen_ok]
  cases d <;> rfl
theorem zeroOf_run {P : Program} {t : TypeId} {z : List AV} (h : zeroOf P t = some z) : ∃ i v, P.info? t = some i ∧ i.zero = some v ∧ v.cells.size = i.size ∧ (∀ w, (zeroValue t).run P w = .ok v w) ∧ ∀ ρ, IsL ρ z v.cells.toList := by
  simp only [zeroOf] at h
  split at h
  · rename_i i hi
    split at h
    · rename_i v hv
      split at h
      · rename_i hs
        exact ⟨i, v, hi, hv, hs, fun w => by simp [zeroValue, typeInfo, hi, hv], fun ρ => compVs_is ρ h⟩
      · cases h
    · cases h
  · cases h
end Go.Proofs.Ytmjfekgbbjojdac.L
