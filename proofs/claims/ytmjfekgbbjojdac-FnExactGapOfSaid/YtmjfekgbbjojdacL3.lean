/- The operations that only compute, told on abstract values: the clause of each, and that the model yields what the clause says, in whatever world. -/
import Derived.Test.YtmjfekgbbjojdacL2
import Derived.IntWalk
namespace Go.Proofs.Ytmjfekgbbjojdac.L
open Go
set_option linter.unusedSimpArgs false
set_option linter.unusedVariables false

def in64 (n : Int) : Prop := -9223372036854775808 ≤ n ∧ n ≤ 9223372036854775807
theorem wrap_in {n : Int} (h : in64 n) : IntKind.i64.wrap n = n := IntWalk.i64_in n h

/-- Where the kind is int64 no wrap may happen; else it is told. -/
def kInt (k : IntKind) (n : Int) (K : AV → Prop) : Prop := match k with
  | .i64 => in64 n ∧ K (.int .i64 n)
  | k => K (.int k (k.wrap n))
theorem kInt_spec {k : IntKind} {n : Int} {K : AV → Prop} (h : kInt k n K) : K (.int k (k.wrap n)) := by
  cases k <;> simp only [kInt] at h <;> first | exact h | (rw [wrap_in h.1]; exact h.2)

def bitv (op : BinOp) (k : IntKind) (x y : Int) : Int :=
  let a := BitVec.ofInt k.bits x
  let b := BitVec.ofInt k.bits y
  match op with
  | .and => k.wrap (a &&& b).toNat
  | .or => k.wrap (a ||| b).toNat
  | .xor => k.wrap (a ^^^ b).toNat
  | .andNot => k.wrap (a &&& ~~~b).toNat
  | _ => 0

def xint (op : BinOp) (k : IntKind) (a b : Int) (K : AV → Prop) : Prop := match op with
  | .add => kInt k (a + b) K
  | .sub => kInt k (a - b) K
  | .mul => kInt k (a * b) K
  | .quo => b ≠ 0 ∧ kInt k (a.tdiv b) K
  | .rem => b ≠ 0 ∧ K (.int k (a.tmod b))
  | .and => K (.int k (bitv .and k a b))
  | .or => K (.int k (bitv .or k a b))
  | .xor => K (.int k (bitv .xor k a b))
  | .andNot => K (.int k (bitv .andNot k a b))
  | .eql => K (.bool (a == b))
  | .neq => K (.bool (a != b))
  | .lss => K (.bool (decide (a < b)))
  | .leq => K (.bool (decide (a ≤ b)))
  | .gtr => K (.bool (decide (a > b)))
  | .geq => K (.bool (decide (a ≥ b)))
  | .shl | .shr => False

def xbin (op : BinOp) (x y : AV) (K : AV → Prop) : Prop := match x, y with
  | .int k a, .int k' b => match op with
    | .shl => 0 ≤ b ∧ kInt k (a * 2 ^ (min b.toNat k.bits)) K
    | .shr => 0 ≤ b ∧ K (.int k (a.fdiv (2 ^ (min b.toNat k.bits))))
    | op => k = k' ∧ xint op k a b K
  | .str a, .str b => match op with
    | .add => a.size + b.size ≤ 9223372036854775807 ∧ K (.str (a ++ b))
    | .eql => K (.bool (a.toList == b.toList))
    | .neq => K (.bool (!(a.toList == b.toList)))
    | _ => False
  | _, _ => False

def cutA (cs : List AV) (off sz : Nat) : List AV := (cs.drop off).take sz
def putA (z : List AV) (off : Nat) (cs : List AV) : List AV := z.take off ++ cs ++ z.drop (off + cs.length)
def fillA (z : List AV) : List (Nat × Nat × AV) → Option (List AV)
  | [] => some z
  | (off, s, v) :: r => if v.storable = true ∧ v.cells.length = s ∧ off + s ≤ z.length then fillA (putA z off v.cells) r else none

def AV.num : AV → Option Int
  | .int _ n => some n
  | _ => none
/-- The bounds of a slice expression: low, high, max. -/
def bnds (len cap : Nat) (lo hi mx : Option AV) (K : Nat → Nat → Nat → Prop) : Prop :=
  match mx with
  | none =>
    match hi with
    | none => match lo with
      | none => K 0 len cap
      | some (.int _ l) => 0 ≤ l ∧ l ≤ len ∧ K l.toNat len cap
      | _ => False
    | some (.int _ h) => 0 ≤ h ∧ h ≤ cap ∧ match lo with
      | none => K 0 h.toNat cap
      | some (.int _ l) => 0 ≤ l ∧ l ≤ h ∧ K l.toNat h.toNat cap
      | _ => False
    | _ => False
  | some (.int _ m) => 0 ≤ m ∧ m ≤ cap ∧
    match hi with
    | some (.int _ h) => 0 ≤ h ∧ h ≤ m ∧ match lo with
      | none => K 0 h.toNat m.toNat
      | some (.int _ l) => 0 ≤ l ∧ l ≤ h ∧ K l.toNat h.toNat m.toNat
      | _ => False
    | _ => False
  | _ => False

def xp (o : O) (t : List AV) (K : AV → Prop) : Prop := match o with
  | .mv x => K (ev t x)
  | .pick c a b => match ev t c with
    | .bool p => (p = true → K (ev t a)) ∧ (p = false → K (ev t b))
    | _ => False
  | .bin op x y => xbin op (ev t x) (ev t y) K
  | .beq neg x y => match ev t x, ev t y with
    | .bool p, .bool q => K (.bool (if neg then p != q else p == q))
    | _, _ => False
  | .nileq neg x _ => match ev t x with
    | .nilif => K (.bool (!neg))
    | .iface => K (.bool neg)
    | _ => False
  | .nilseq neg x => match ev t x with
    | .nilsl => K (.bool (!neg))
    | .sl _ _ _ _ => K (.bool neg)
    | .so _ _ => K (.bool neg)
    | .sx _ _ _ => K (.bool neg)
    | _ => False
  | .un op x => match op, ev t x with
    | .neg, .int k n => kInt k (-n) K
    | .not, .bool b => K (.bool (!b))
    | _, _ => False
  | .build z ps => match fillA z (ps.map fun p => (p.1, p.2.1, ev t p.2.2)) with
    | some cs => K (.agg cs)
    | none => False
  | .nck x => match ev t x with
    | .ptr i o => K (.ptr i o)
    | .fn f cs => K (.fn f cs)
    | _ => False
  | .cvi k x => match ev t x with
    | .int _ n => kInt k n K
    | _ => False
  | .cvs x => match ev t x with
    | .str s => K (.str s)
    | _ => False
  | .mkf f cs => K (.fn f (cs.map (ev t)))
  | .slc es x lo hi m => match ev t x with
    | .sl i o n c => bnds n c (lo.map (ev t)) (hi.map (ev t)) (m.map (ev t)) fun l h m => K (.sl i (if m = l then o else o + l * es) (h - l) (m - l))
    | .so i n => match lo.map (ev t), hi.map (ev t), m.map (ev t) with
      | none, none, none => K (.so i n)
      | some (.int _ l), none, none => 0 ≤ l ∧ l ≤ n ∧ K (.sx i (l.toNat * es) (n - l.toNat))
      | none, some (.int _ h), none => 0 ≤ h ∧ h ≤ n ∧ K (.so i h.toNat)
      | some (.int _ l), some (.int _ h), none => 0 ≤ l ∧ l ≤ h ∧ h ≤ n ∧ K (.sx i (l.toNat * es) (h.toNat - l.toNat))
      | _, _, _ => False
    | .sx i o n => match lo.map (ev t), hi.map (ev t), m.map (ev t) with
      | some (.int _ l), none, none => 0 ≤ l ∧ l ≤ n ∧ K (.sx i (o + l.toNat * es) (n - l.toNat))
      | none, some (.int _ h), none => 0 ≤ h ∧ h ≤ n ∧ K (.sx i o h.toNat)
      | _, _, _ => False
    | .nilsl => match lo.map (ev t), hi.map (ev t), m.map (ev t) with
      | none, none, none => K .nilsl
      | some (.int _ 0), none, none => K .nilsl
      | none, some (.int _ 0), none => K .nilsl
      | some (.int _ 0), some (.int _ 0), some (.int _ 0) => K .nilsl
      | none, some (.int _ 0), some (.int _ 0) => K .nilsl
      | _, _, _ => False
    | _ => False
  | .sls x lo hi => match ev t x with
    | .str s => bnds s.size s.size (lo.map (ev t)) (hi.map (ev t)) none fun l h _ => K (.str (s.extract l h))
    | _ => False
  | .fa off x => match ev t x with
    | .ptr i o => K (.ptr i (o + off))
    | _ => False
  | .fld sz off x => match ev t x with
    | .agg cs => K (.agg (cutA cs off sz))
    | _ => False
  | .fld1 off x => match ev t x with
    | .agg cs => ∃ c, cs[off]? = some c ∧ K c
    | _ => False
  | .ia es x i => match ev t x, ev t i with
    | .sl id o n _, .int _ j => 0 ≤ j ∧ j < n ∧ K (.ptr id (o + j.toNat * es))
    | .so id n, .int _ j => 0 ≤ j ∧ j < n ∧ K (.ptr id (j.toNat * es))
    | .sx id o n, .int _ j => 0 ≤ j ∧ j < n ∧ K (.ptr id (o + j.toNat * es))
    | _, _ => False
  | .ixs x i => match ev t x, ev t i with
    | .str s, .int _ j => ∃ c, 0 ≤ j ∧ s.data[j.toNat]? = some c ∧ K (.int .u8 c.toNat)
    | _, _ => False
  | .ext x i => match ev t x with
    | .tup vs => ∃ c, vs[i]? = some c ∧ K c
    | _ => False
  | .len x => match ev t x with
    | .sl _ _ n _ => K (.int .i64 n)
    | .so _ n => K (.int .i64 n)
    | .sx _ _ n => K (.int .i64 n)
    | .nilsl => K (.int .i64 0)
    | .sl0 => K (.int .i64 0)
    | _ => False
  | .lens x => match ev t x with
    | .str s => K (.int .i64 s.size)
    | _ => False
  | .cap x => match ev t x with
    | .sl _ _ _ c => K (.int .i64 c)
    | .nilsl => K (.int .i64 0)
    | _ => False
  | .mx xs => match xs with
    | [x, y] => match ev t x, ev t y with
      | .int k a, .int _ b => K (.int k (if b > a then b else a))
      | _, _ => False
    | _ => False
  | .mn xs => match xs with
    | [x, y] => match ev t x, ev t y with
      | .int k a, .int _ b => K (.int k (if b < a then b else a))
      | _, _ => False
    | _ => False
  | _ => False

/-- In whatever world the operation yields a value that is told by v, and does nothing else. -/
def PV (P : Program) (o : Oper) (o' : O) (t : List AV) (v : AV) : Prop :=
  ∀ ρ a, Rel ρ o'.reads t a → ∃ rv, Is ρ v rv ∧ ∀ w, (execOp a.eval o).run P w = .ok (.value rv) w

section
variable {P : Program} {o : Oper} {t : List AV} {K : AV → Prop}

theorem is_int {ρ : Rho} {k : IntKind} {n : Int} : Is ρ (.int k n) (.int k n) := by simp only [Is]
theorem is_bool {ρ : Rho} {b : Bool} : Is ρ (.bool b) (.bool b) := by simp only [Is]
theorem is_str {ρ : Rho} {b : ByteArray} : Is ρ (.str b) (.string b) := by simp only [Is]
theorem Rel.arg {ρ : Rho} {o' : O} {x : A} {t : List AV} {a : Act} (h : Rel ρ o'.reads t a) (hx : x ∈ o'.args) : Rel ρ x.reads t a :=
  fun d hd => h d (by simp only [O.reads, List.mem_flatMap]; exact ⟨x, hx, hd⟩)
theorem Rel.args {ρ : Rho} {o' : O} {t : List AV} {a : Act} (h : Rel ρ o'.reads t a) {xs : List A} (hx : ∀ x ∈ xs, x ∈ o'.args) : Rel ρ (xs.flatMap A.reads) t a :=
  fun d hd => by
    simp only [List.mem_flatMap] at hd
    obtain ⟨x, h1, h2⟩ := hd
    exact h.arg (hx x h1) d h2

theorem x_mv {x : Operand} {x' : A} (ho : o.op = .move x ∨ o.op = .assign x) (hx : compA x = some x') (h : xp (.mv x') t K) : ∃ v, K v ∧ PV P o (.mv x') t v := by
  refine ⟨_, h, fun ρ a hr => ⟨a.eval x, compA_is hx (hr.arg (by simp [O.args])), fun w => ?_⟩⟩
  rcases ho with ho | ho <;> simp [execOp, ho]

theorem x_pick {c x y : Operand} {c' x' y' : A} (ho : o.op = .pick c x y) (hc : compA c = some c') (hx : compA x = some x') (hy : compA y = some y') (h : xp (.pick c' x' y') t K) :
    ∃ v, K v ∧ PV P o (.pick c' x' y') t v := by
  simp only [xp] at h
  split at h
  · rename_i p hp
    cases p with
    | true =>
      refine ⟨_, h.1 rfl, fun ρ a hr => ⟨a.eval x, compA_is hx (hr.arg (by simp [O.args])), fun w => ?_⟩⟩
      have := compA_is hc (hr.arg (x := c') (by simp [O.args]))
      rw [hp] at this; simp only [Is] at this
      simp [execOp, ho, this, asBool]
    | false =>
      refine ⟨_, h.2 rfl, fun ρ a hr => ⟨a.eval y, compA_is hy (hr.arg (by simp [O.args])), fun w => ?_⟩⟩
      have := compA_is hc (hr.arg (x := c') (by simp [O.args]))
      rw [hp] at this; simp only [Is] at this
      simp [execOp, ho, this, asBool]
  · exact h.elim

theorem xint_run {op : BinOp} {k : IntKind} {x y : Int} (h : xint op k x y K) (T : TypeId) :
    ∃ v, K v ∧ ∃ rv, (∀ ρ, Is ρ v rv) ∧ ∀ w, (binOp op T (.int k x) (.int k y)).run P w = .ok rv w := by
  cases op <;> simp only [xint] at h
  case add => exact ⟨_, kInt_spec h, _, fun ρ => is_int, fun w => by simp [binOp, Op.intArith]⟩
  case sub => exact ⟨_, kInt_spec h, _, fun ρ => is_int, fun w => by simp [binOp, Op.intArith]⟩
  case mul => exact ⟨_, kInt_spec h, _, fun ρ => is_int, fun w => by simp [binOp, Op.intArith]⟩
  case quo => exact ⟨_, kInt_spec h.2, _, fun ρ => is_int, fun w => by simp [binOp, Op.intDiv, h.1]⟩
  case rem => exact ⟨_, h.2, _, fun ρ => is_int, fun w => by simp [binOp, Op.intDiv, h.1]⟩
  case and => exact ⟨_, h, _, fun ρ => is_int, fun w => by cases k <;> rfl⟩
  case or => exact ⟨_, h, _, fun ρ => is_int, fun w => by cases k <;> rfl⟩
  case xor => exact ⟨_, h, _, fun ρ => is_int, fun w => by cases k <;> rfl⟩
  case andNot => exact ⟨_, h, _, fun ρ => is_int, fun w => by cases k <;> rfl⟩
  case eql => exact ⟨_, h, _, fun ρ => is_bool, fun w => by simp [binOp, Op.intCmp]⟩
  case neq => exact ⟨_, h, _, fun ρ => is_bool, fun w => by simp [binOp, Op.intCmp]⟩
  case lss => exact ⟨_, h, _, fun ρ => is_bool, fun w => by simp [binOp, Op.intCmp]⟩
  case leq => exact ⟨_, h, _, fun ρ => is_bool, fun w => by simp [binOp, Op.intCmp]⟩
  case gtr => exact ⟨_, h, _, fun ρ => is_bool, fun w => by simp [binOp, Op.intCmp]⟩
  case geq => exact ⟨_, h, _, fun ρ => is_bool, fun w => by simp [binOp, Op.intCmp]⟩

theorem x_bin {op : BinOp} {T T' : TypeId} {x y : Operand} {x' y' : A} (ho : o.op = .binOp op T x y T') (hx : compA x = some x') (hy : compA y = some y') (h : xp (.bin op x' y') t K) :
    ∃ v, K v ∧ PV P o (.bin op x' y') t v := by
  simp only [xp, xbin] at h
  split at h
  · rename_i k a k' b ha hb
    have key : ∃ v, K v ∧ ∃ rv, (∀ ρ, Is ρ v rv) ∧ ∀ w, (binOp op T (.int k a) (.int k' b)).run P w = .ok rv w := by
      split at h
      · exact ⟨_, kInt_spec h.2, _, fun ρ => is_int, fun w => by simp [binOp, Op.shift, Int.not_lt.2 h.1]⟩
      · exact ⟨_, h.2, _, fun ρ => is_int, fun w => by simp [binOp, Op.shift, Int.not_lt.2 h.1]⟩
      · obtain ⟨rfl, h⟩ := h
        exact xint_run h T
    obtain ⟨v, hv, rv, hi, hr⟩ := key
    refine ⟨v, hv, fun ρ A hR => ⟨rv, hi ρ, fun w => ?_⟩⟩
    have e1 := compA_is hx (hR.arg (x := x') (by simp [O.args]))
    have e2 := compA_is hy (hR.arg (x := y') (by simp [O.args]))
    rw [ha] at e1; rw [hb] at e2; simp only [Is] at e1 e2
    have hg : (eqGuard op T x y (.int k a) (.int k' b)).run P w = .ok () w := by
      unfold eqGuard; cases op <;> simp
    simp [execOp, ho, e1, e2, hg, hr]
  · rename_i a b ha hb
    have key : ∃ v, K v ∧ ∃ rv, (∀ ρ, Is ρ v rv) ∧ ∀ w, (binOp op T (.string a) (.string b)).run P w = .ok rv w := by
      split at h
      · refine ⟨_, h.2, _, fun ρ => is_str, fun w => ?_⟩
        have : ¬ ((a.size + b.size : Nat) : Int) > IntKind.i64.max := by simp [IntKind.max, IntKind.signed, IntKind.bits]; omega
        simp [binOp, Op.stringOp, this]
        omega
      · exact ⟨_, h, _, fun ρ => is_bool, fun w => by simp [binOp, Op.stringOp]⟩
      · exact ⟨_, h, _, fun ρ => is_bool, fun w => by simp [binOp, Op.stringOp]⟩
      · exact h.elim
    obtain ⟨v, hv, rv, hi, hr⟩ := key
    refine ⟨v, hv, fun ρ A hR => ⟨rv, hi ρ, fun w => ?_⟩⟩
    have e1 := compA_is hx (hR.arg (x := x') (by simp [O.args]))
    have e2 := compA_is hy (hR.arg (x := y') (by simp [O.args]))
    rw [ha] at e1; rw [hb] at e2; simp only [Is] at e1 e2
    have hg : (eqGuard op T x y (.string a) (.string b)).run P w = .ok () w := by
      unfold eqGuard; cases op <;> simp
    simp [execOp, ho, e1, e2, hg, hr]
  · exact h.elim

theorem x_un {op : UnOp} {T : TypeId} {x : Operand} {x' : A} (ho : o.op = .unOp op T x) (hx : compA x = some x') (h : xp (.un op x') t K) :
    ∃ v, K v ∧ PV P o (.un op x') t v := by
  simp only [xp] at h
  split at h
  · rename_i k n hn
    refine ⟨_, kInt_spec h, fun ρ A hR => ⟨_, is_int, fun w => ?_⟩⟩
    have e1 := compA_is hx (hR.arg (x := x') (by simp [O.args]))
    rw [hn] at e1; simp only [Is] at e1
    simp [execOp, ho, e1, Op.unary, Op.intArith]
  · rename_i b hb
    refine ⟨_, h, fun ρ A hR => ⟨_, is_bool, fun w => ?_⟩⟩
    have e1 := compA_is hx (hR.arg (x := x') (by simp [O.args]))
    rw [hb] at e1; simp only [Is] at e1
    simp [execOp, ho, e1, Op.unary]
  · exact h.elim
theorem run_equal_bool {T : TypeId} (hT : P.underlying T = some .bool) (p q : Bool) (w : World) : (Op.equal T (.bool p) (.bool q)).run P w = .ok (p == q) w := by
  have : ∀ d, (Op.equalIn (d + 1) T (.bool p) (.bool q)).run P w = .ok (p == q) w := fun d => by simp [Op.equalIn, run_underlying hT]
  exact this 9999
theorem run_equal_nil {T : TypeId} {ms} (hT : P.underlying T = some (.interface ms)) (w : World) : (Op.equal T .nilIface .nilIface).run P w = .ok true w := by
  have : ∀ d, (Op.equalIn (d + 1) T .nilIface .nilIface).run P w = .ok true w := fun d => by simp [Op.equalIn, run_underlying hT]
  exact this 9999
theorem run_equal_iface {T : TypeId} {ms} (hT : P.underlying T = some (.interface ms)) (t : TypeId) (u : Value) (w : World) : (Op.equal T (.iface t u) .nilIface).run P w = .ok false w := by
  have : ∀ d, (Op.equalIn (d + 1) T (.iface t u) .nilIface).run P w = .ok false w := fun d => by simp [Op.equalIn, run_underlying hT]
  exact this 9999
theorem x_beq {neg : Bool} {T T' : TypeId} {x y : Operand} {x' y' : A} (ho : o.op = .binOp (if neg then .neq else .eql) T x y T') (hT : P.underlying T = some .bool) (hx : compA x = some x') (hy : compA y = some y') (h : xp (.beq neg x' y') t K) :
    ∃ v, K v ∧ PV P o (.beq neg x' y') t v := by
  simp only [xp] at h
  split at h
  · rename_i p q hp hq
    refine ⟨_, h, fun ρ A hR => ⟨_, is_bool, fun w => ?_⟩⟩
    have e1 := compA_is hx (hR.arg (x := x') (by simp [O.args]))
    have e2 := compA_is hy (hR.arg (x := y') (by simp [O.args]))
    rw [hp] at e1; rw [hq] at e2; simp only [Is] at e1 e2
    have hg : ∀ op, (eqGuard op T x y (.bool p) (.bool q)).run P w = .ok () w := by
      intro op; unfold eqGuard; cases op <;> simp
    cases neg
    · simp only [execOp, ho, e1, e2, Bool.false_eq_true, if_true, if_false, Sem.run_bind, hg, binOp, run_equal_bool hT, Result.andThen_ok, Sem.run_pure]
      all_goals first | rfl | (cases p <;> cases q <;> rfl)
    · simp only [execOp, ho, e1, e2, Bool.false_eq_true, if_true, if_false, Sem.run_bind, hg, binOp, run_equal_bool hT, Result.andThen_ok, Sem.run_pure]
      all_goals first | rfl | (cases p <;> cases q <;> rfl)
  · exact h.elim
theorem x_nileq {neg : Bool} {T T' : TypeId} {ms} {x y : Operand} {x' : A} (ho : o.op = .binOp (if neg then .neq else .eql) T x y T') (hT : P.underlying T = some (.interface ms)) (hx : compA x = some x') (hy : compA y = some (.c .nilif)) (h : xp (.nileq neg x' (.c .nilif)) t K) :
    ∃ v, K v ∧ PV P o (.nileq neg x' (.c .nilif)) t v := by
  have hyc : y = .const .nilIface := by
    cases y with
    | tmp n => simp [compA] at hy
    | const v =>
      simp only [compA, Option.map_eq_some_iff] at hy
      obtain ⟨u, hu, he⟩ := hy
      cases he
      unfold compV at hu
      split at hu <;> first | rfl | (cases hu)
    | global g => simp [compA] at hy
    | func f => simp [compA] at hy
  subst hyc
  simp only [xp] at h
  split at h
  · rename_i hp
    refine ⟨_, h, fun ρ A hR => ⟨_, is_bool, fun w => ?_⟩⟩
    have e1 := compA_is hx (hR.arg (x := x') (by simp [O.args]))
    rw [hp] at e1; simp only [Is] at e1
    have hg : ∀ op, (eqGuard op T x (.const .nilIface) .nilIface .nilIface).run P w = .ok () w := by
      intro op; unfold eqGuard; cases op <;> simp
    cases neg
    · have e2 : A.eval (.const .nilIface) = .nilIface := rfl
      simp only [execOp, ho, e1, e2, Bool.false_eq_true, if_true, if_false, Sem.run_bind, hg, binOp, run_equal_nil hT, run_equal_iface hT, Result.andThen_ok, Sem.run_pure]
      all_goals rfl
    · have e2 : A.eval (.const .nilIface) = .nilIface := rfl
      simp only [execOp, ho, e1, e2, Bool.false_eq_true, if_true, if_false, Sem.run_bind, hg, binOp, run_equal_nil hT, run_equal_iface hT, Result.andThen_ok, Sem.run_pure]
      all_goals rfl
  · rename_i hp
    refine ⟨_, h, fun ρ A hR => ⟨_, is_bool, fun w => ?_⟩⟩
    have e1 := compA_is hx (hR.arg (x := x') (by simp [O.args]))
    rw [hp] at e1; simp only [Is] at e1
    obtain ⟨tt, u, e1⟩ := e1
    have hg : ∀ op, (eqGuard op T x (.const .nilIface) (.iface tt u) .nilIface).run P w = .ok () w := by
      intro op; unfold eqGuard; cases op <;> simp
    cases neg
    · have e2 : A.eval (.const .nilIface) = .nilIface := rfl
      simp only [execOp, ho, e1, e2, Bool.false_eq_true, if_true, if_false, Sem.run_bind, hg, binOp, run_equal_nil hT, run_equal_iface hT, Result.andThen_ok, Sem.run_pure]
      all_goals rfl
    · have e2 : A.eval (.const .nilIface) = .nilIface := rfl
      simp only [execOp, ho, e1, e2, Bool.false_eq_true, if_true, if_false, Sem.run_bind, hg, binOp, run_equal_nil hT, run_equal_iface hT, Result.andThen_ok, Sem.run_pure]
      all_goals rfl
  · exact h.elim
theorem run_equal_slnil {T e : TypeId} (hT : P.underlying T = some (.slice e)) (b : Option Addr) (n c : Nat) (w : World) : (Op.equal T (.slice b n c) (.slice none 0 0)).run P w = .ok b.isNone w := by
  have : ∀ d, (Op.equalIn (d + 1) T (.slice b n c) (.slice none 0 0)).run P w = .ok b.isNone w := fun d => by
    cases b <;> simp [Op.equalIn, run_underlying hT]
  exact this 9999
theorem x_nilseq {neg : Bool} {T T' e : TypeId} {x y : Operand} {x' : A} (ho : o.op = .binOp (if neg then .neq else .eql) T x y T') (hT : P.underlying T = some (.slice e)) (hx : compA x = some x') (hy : compA y = some (.c .nilsl)) (h : xp (.nilseq neg x') t K) :
    ∃ v, K v ∧ PV P o (.nilseq neg x') t v := by
  have hyc : y = .const (.slice none 0 0) := by
    cases y with
    | tmp n => simp [compA] at hy
    | const v =>
      simp only [compA, Option.map_eq_some_iff] at hy
      obtain ⟨u, hu, he⟩ := hy
      cases he
      unfold compV at hu
      split at hu <;> first | rfl | (cases hu)
    | global g => simp [compA] at hy
    | func f => simp [compA] at hy
  subst hyc
  have e2 : ∀ A : Act, A.eval (.const (.slice none 0 0)) = .slice none 0 0 := fun _ => rfl
  have fin : ∀ (b : Option Addr) (n c : Nat) (v : Bool), v = (if neg then !b.isNone else b.isNone) → K (.bool v) → (∀ ρ A, Rel ρ (O.nilseq neg x').reads t A → ∃ n c, ∃ b' : Option Addr, b'.isNone = b.isNone ∧ A.eval x = .slice b' n c) → ∃ v, K v ∧ PV P o (.nilseq neg x') t v := by
    intro b n c v hv hk hA
    refine ⟨_, hk, fun ρ A hR => ⟨_, is_bool, fun w => ?_⟩⟩
    obtain ⟨n', c', b', hb, e1⟩ := hA ρ A hR
    have hg : ∀ op, (eqGuard op T x (.const (.slice none 0 0)) (.slice b' n' c') (.slice none 0 0)).run P w = .ok () w := by
      intro op; unfold eqGuard; cases op <;> simp
    subst hv
    cases neg
    · simp only [execOp, ho, e1, e2, Bool.false_eq_true, if_false, Sem.run_bind, hg, binOp, run_equal_slnil hT, Result.andThen_ok, Sem.run_pure, hb]
    · simp only [execOp, ho, e1, e2, if_true, Sem.run_bind, hg, binOp, run_equal_slnil hT, Result.andThen_ok, Sem.run_pure, hb]
  simp only [xp] at h
  split at h
  · rename_i hp
    refine fin none 0 0 _ (by cases neg <;> rfl) h fun ρ A hR => ?_
    have e1 := compA_is hx (hR.arg (x := x') (by simp [O.args]))
    rw [hp] at e1; simp only [Is] at e1
    exact ⟨0, 0, none, rfl, e1⟩
  · rename_i hp
    refine fin (some default) 0 0 _ (by cases neg <;> rfl) h fun ρ A hR => ?_
    have e1 := compA_is hx (hR.arg (x := x') (by simp [O.args]))
    rw [hp] at e1; simp only [Is] at e1
    obtain ⟨r, _, e1⟩ := e1
    refine ⟨_, _, _, ?_, e1⟩
    rfl
  · rename_i hp
    refine fin (some default) 0 0 _ (by cases neg <;> rfl) h fun ρ A hR => ?_
    have e1 := compA_is hx (hR.arg (x := x') (by simp [O.args]))
    rw [hp] at e1; simp only [Is] at e1
    obtain ⟨r, _, _, _, e1⟩ := e1
    refine ⟨_, _, _, ?_, e1⟩
    rfl
  · rename_i hp
    refine fin (some default) 0 0 _ (by cases neg <;> rfl) h fun ρ A hR => ?_
    have e1 := compA_is hx (hR.arg (x := x') (by simp [O.args]))
    rw [hp] at e1; simp only [Is] at e1
    obtain ⟨r, a, c, _, e1, _⟩ := e1
    refine ⟨_, _, _, ?_, e1⟩
    rfl
  · exact h.elim
theorem x_nck {x : Operand} {x' : A} (ho : o.op = .nilCheck x) (hx : compA x = some x') (h : xp (.nck x') t K) :
    ∃ v, K v ∧ PV P o (.nck x') t v := by
  simp only [xp] at h
  split at h
  · rename_i i off hp
    refine ⟨_, h, fun ρ A hR => ?_⟩
    have e1 := compA_is hx (hR.arg (x := x') (by simp [O.args]))
    rw [hp] at e1
    refine ⟨_, e1, fun w => ?_⟩
    simp only [Is] at e1
    obtain ⟨r, _, e1⟩ := e1
    simp [execOp, ho, e1]
  · rename_i f cs hp
    refine ⟨_, h, fun ρ A hR => ?_⟩
    have e1 := compA_is hx (hR.arg (x := x') (by simp [O.args]))
    rw [hp] at e1
    refine ⟨_, e1, fun w => ?_⟩
    simp only [Is] at e1
    obtain ⟨r, e1, _⟩ := e1
    simp [execOp, ho, e1]
  · exact h.elim
theorem x_cvi {S T : TypeId} {k0 k : IntKind} {x : Operand} {x' : A} (ho : o.op = .convert S T x) (hS : P.underlying S = some (.int k0)) (hT : P.underlying T = some (.int k)) (hx : compA x = some x') (h : xp (.cvi k x') t K) :
    ∃ v, K v ∧ PV P o (.cvi k x') t v := by
  simp only [xp] at h
  split at h
  · rename_i k1 n hp
    refine ⟨_, kInt_spec h, fun ρ A hR => ⟨_, is_int, fun w => ?_⟩⟩
    have e1 := compA_is hx (hR.arg (x := x') (by simp [O.args]))
    rw [hp] at e1; simp only [Is] at e1
    simp [execOp, ho, e1, convert, run_underlying hS, run_underlying hT, Conv.intToInt]
  · exact h.elim
theorem x_cvs {S T : TypeId} {x : Operand} {x' : A} (ho : o.op = .convert S T x) (hS : P.underlying S = some .string) (hT : P.underlying T = some .string) (hx : compA x = some x') (h : xp (.cvs x') t K) :
    ∃ v, K v ∧ PV P o (.cvs x') t v := by
  simp only [xp] at h
  split at h
  · rename_i s hp
    refine ⟨_, h, fun ρ A hR => ⟨_, is_str, fun w => ?_⟩⟩
    have e1 := compA_is hx (hR.arg (x := x') (by simp [O.args]))
    rw [hp] at e1; simp only [Is] at e1
    simp [execOp, ho, e1, convert, run_underlying hS, run_underlying hT]
  · exact h.elim
theorem x_mkf {f : Nat} {first cs : Array Operand} {cs' : List A} (ho : o.op = .makeFunc (.func f) first cs) (hf : first.size = 0) (hx : compAs cs.toList = some cs') (h : xp (.mkf f cs') t K) :
    ∃ v, K v ∧ PV P o (.mkf f cs') t v := by
  simp only [xp] at h
  refine ⟨_, h, fun ρ A hR => ⟨.func (.func f) #[] (cs.map A.eval), ?_, fun w => ?_⟩⟩
  · simp only [Is]
    exact ⟨cs.toList.map A.eval, by rw [show (List.map A.eval cs.toList).toArray = cs.map A.eval from Array.ext' (by simp)], compAs_is hx (hR.args (by simp [O.args]))⟩
  · have : first = #[] := by simpa using hf
    subst this
    simp [execOp, ho, Instr.makeFunc]
end
end Go.Proofs.Ytmjfekgbbjojdac.L
