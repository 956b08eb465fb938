/- The walk's rules, staged: nothing that is still to come stands under a binder or behind a test that is not decided. -/
import Derived.Test.YtmjfekgbbjojdacL12
namespace Go.Proofs.Ytmjfekgbbjojdac.L
open Go
set_option linter.unusedSimpArgs false
set_option linter.unusedVariables false

theorem sto_bool (b : Bool) : AV.storable (.bool b) = true := rfl
theorem one_bool (b : Bool) : AV.one (.bool b) = true := rfl
theorem cel_bool (b : Bool) : AV.cells (.bool b) = [(.bool b)] := rfl
theorem sto_int (k : IntKind) (m : Int) : AV.storable (.int k m) = true := rfl
theorem one_int (k : IntKind) (m : Int) : AV.one (.int k m) = true := rfl
theorem cel_int (k : IntKind) (m : Int) : AV.cells (.int k m) = [(.int k m)] := rfl
theorem sto_str (s : ByteArray) : AV.storable (.str s) = true := rfl
theorem one_str (s : ByteArray) : AV.one (.str s) = true := rfl
theorem cel_str (s : ByteArray) : AV.cells (.str s) = [(.str s)] := rfl
theorem sto_ptr (i o : Nat) : AV.storable (.ptr i o) = true := rfl
theorem one_ptr (i o : Nat) : AV.one (.ptr i o) = true := rfl
theorem cel_ptr (i o : Nat) : AV.cells (.ptr i o) = [(.ptr i o)] := rfl
theorem sto_nilptr  : AV.storable .nilptr = true := rfl
theorem one_nilptr  : AV.one .nilptr = true := rfl
theorem cel_nilptr  : AV.cells .nilptr = [.nilptr] := rfl
theorem sto_sl (i o m c : Nat) : AV.storable (.sl i o m c) = true := rfl
theorem one_sl (i o m c : Nat) : AV.one (.sl i o m c) = true := rfl
theorem cel_sl (i o m c : Nat) : AV.cells (.sl i o m c) = [(.sl i o m c)] := rfl
theorem sto_so (i m : Nat) : AV.storable (.so i m) = true := rfl
theorem one_so (i m : Nat) : AV.one (.so i m) = true := rfl
theorem cel_so (i m : Nat) : AV.cells (.so i m) = [(.so i m)] := rfl
theorem sto_sx (i o m : Nat) : AV.storable (.sx i o m) = true := rfl
theorem one_sx (i o m : Nat) : AV.one (.sx i o m) = true := rfl
theorem cel_sx (i o m : Nat) : AV.cells (.sx i o m) = [(.sx i o m)] := rfl
theorem sto_nilsl  : AV.storable .nilsl = true := rfl
theorem one_nilsl  : AV.one .nilsl = true := rfl
theorem cel_nilsl  : AV.cells .nilsl = [.nilsl] := rfl
theorem sto_fn (f : Nat) (cs : List AV) : AV.storable (.fn f cs) = true := rfl
theorem one_fn (f : Nat) (cs : List AV) : AV.one (.fn f cs) = true := rfl
theorem cel_fn (f : Nat) (cs : List AV) : AV.cells (.fn f cs) = [(.fn f cs)] := rfl
theorem sto_nilif  : AV.storable .nilif = true := rfl
theorem one_nilif  : AV.one .nilif = true := rfl
theorem cel_nilif  : AV.cells .nilif = [.nilif] := rfl
theorem sto_iface  : AV.storable .iface = true := rfl
theorem one_iface  : AV.one .iface = true := rfl
theorem cel_iface  : AV.cells .iface = [.iface] := rfl
theorem sto_agg (cs : List AV) : AV.storable (.agg cs) = cs.all AV.one := rfl
theorem cel_agg (cs : List AV) : AV.cells (.agg cs) = cs := rfl

section
variable {P : Program} {n0 : Nat} {W : Nat → Prop} {t : List AV} {h : AH} {n : Nat} {d : Bool} {s : List Fr}

/-! ### tests -/
def CD (P : Program) (n0 : Nat) (W : Nat → Prop) (x : AV) (a b : C) (t : List AV) (h : AH) (n : Nat) (s : List Fr) (K : KT) : Prop := match x with
  | .bool c => (c = true → X P n0 W a t h n (KS P n0 W s K)) ∧ (c = false → X P n0 W b t h n (KS P n0 W s K))
  | _ => False
theorem setA_same {t : List AV} {x : A} {c : Bool} (e : ev t x = .bool c) : setA t x (.bool c) = t := by
  cases x with
  | t k => simp only [setA]; exact set_same (by simpa [ev] using e) (by simp)
  | _ => rfl
theorem y_cond {K : KT} {x : A} {a b : C} : X P n0 W (.cond x a b) t h n (KS P n0 W s K) = CD P n0 W (ev t x) a b t h n s K := by
  simp only [X, CD]
  cases hx : ev t x <;> try rfl
  rename_i c
  cases c <;> simp [setA_same hx]
theorem cd_t {K : KT} {a b : C} : CD P n0 W (.bool true) a b t h n s K = X P n0 W a t h n (KS P n0 W s K) := by simp [CD]
theorem cd_f {K : KT} {a b : C} : CD P n0 W (.bool false) a b t h n s K = X P n0 W b t h n (KS P n0 W s K) := by simp [CD]
theorem cd {K : KT} {a b : C} {c : Bool} (h1 : c = true → X P n0 W a t h n (KS P n0 W s K)) (h2 : c = false → X P n0 W b t h n (KS P n0 W s K)) : CD P n0 W (.bool c) a b t h n s K := ⟨h1, h2⟩
theorem cd_dec {K : KT} {a b : C} {p : Prop} [Decidable p] (h1 : p → X P n0 W a t h n (KS P n0 W s K)) (h2 : ¬ p → X P n0 W b t h n (KS P n0 W s K)) : CD P n0 W (.bool (decide p)) a b t h n s K :=
  ⟨fun e => h1 (of_decide_eq_true e), fun e => h2 (of_decide_eq_false e)⟩
def GD (P : Program) (n0 : Nat) (W : Nat → Prop) (d : Bool) (x : AV) (b : Bool) (dst : Option Nat) (o : O) (r : List OO) (t : List AV) (h : AH) (n : Nat) (s : List Fr) (K : KT) : Prop := match x with
  | .bool c => (c = b → xo P n0 W d o t h n (AO P n0 W d dst r t s K)) ∧ (c = (!b) → xops P n0 W d r (setD t dst (.tup [])) h n (KO P n0 W s K))
  | .tup [] => xops P n0 W d r (setD t dst (.tup [])) h n (KO P n0 W s K)
  | _ => False
theorem z_guard {K : KT} {dst : Option Nat} {o : O} {r : List OO} {i : Nat} {b : Bool} : xops P n0 W d (⟨dst, o, some (i, b)⟩ :: r) t h n (KO P n0 W s K) = GD P n0 W d (t.getD i .any) b dst o r t h n s K := by
  simp only [xops, GD]
  cases hx : t.getD i .any with
  | tup cs => cases cs <;> rfl
  | bool c => ?_
  | _ => rfl
  have e := set_same hx (by simp)
  simp only
  cases c <;> cases b <;> simp [e] <;> exact Iff.rfl
theorem gd_tt {K : KT} {dst : Option Nat} {o : O} {r : List OO} : GD P n0 W d (.bool true) true dst o r t h n s K = xo P n0 W d o t h n (AO P n0 W d dst r t s K) := by simp [GD]
theorem gd_ff {K : KT} {dst : Option Nat} {o : O} {r : List OO} : GD P n0 W d (.bool false) false dst o r t h n s K = xo P n0 W d o t h n (AO P n0 W d dst r t s K) := by simp [GD]
theorem gd_tf {K : KT} {dst : Option Nat} {o : O} {r : List OO} : GD P n0 W d (.bool true) false dst o r t h n s K = xops P n0 W d r (setD t dst (.tup [])) h n (KO P n0 W s K) := by simp [GD]
theorem gd_ft {K : KT} {dst : Option Nat} {o : O} {r : List OO} : GD P n0 W d (.bool false) true dst o r t h n s K = xops P n0 W d r (setD t dst (.tup [])) h n (KO P n0 W s K) := by simp [GD]
theorem gd_no {K : KT} {dst : Option Nat} {o : O} {r : List OO} {b : Bool} : GD P n0 W d (.tup []) b dst o r t h n s K = xops P n0 W d r (setD t dst (.tup [])) h n (KO P n0 W s K) := rfl
/-- A guard: first the way on which it is true. -/
theorem gd {K : KT} {dst : Option Nat} {o : O} {r : List OO} {b c : Bool} (h1 : c = true → GD P n0 W d (.bool true) b dst o r t h n s K) (h2 : c = false → GD P n0 W d (.bool false) b dst o r t h n s K) :
    GD P n0 W d (.bool c) b dst o r t h n s K := by
  cases c
  · exact h2 rfl
  · exact h1 rfl
theorem gd_dec {K : KT} {dst : Option Nat} {o : O} {r : List OO} {b : Bool} {p : Prop} [Decidable p] (h1 : p → GD P n0 W d (.bool true) b dst o r t h n s K) (h2 : ¬ p → GD P n0 W d (.bool false) b dst o r t h n s K) :
    GD P n0 W d (.bool (decide p)) b dst o r t h n s K := gd (fun e => h1 (of_decide_eq_true e)) (fun e => h2 (of_decide_eq_false e))

theorem cd_y {K : KT} {a b : C} {p : Prop} [Decidable p] (hp : p) : CD P n0 W (.bool (decide p)) a b t h n s K = X P n0 W a t h n (KS P n0 W s K) := by rw [decide_eq_true hp, cd_t]
theorem cd_n {K : KT} {a b : C} {p : Prop} [Decidable p] (hp : ¬ p) : CD P n0 W (.bool (decide p)) a b t h n s K = X P n0 W b t h n (KS P n0 W s K) := by rw [decide_eq_false hp, cd_f]
theorem gd_y {K : KT} {dst : Option Nat} {o : O} {r : List OO} {b : Bool} {p : Prop} [Decidable p] (hp : p) : GD P n0 W d (.bool (decide p)) b dst o r t h n s K = GD P n0 W d (.bool true) b dst o r t h n s K := by rw [decide_eq_true hp]
theorem gd_n {K : KT} {dst : Option Nat} {o : O} {r : List OO} {b : Bool} {p : Prop} [Decidable p] (hp : ¬ p) : GD P n0 W d (.bool (decide p)) b dst o r t h n s K = GD P n0 W d (.bool false) b dst o r t h n s K := by rw [decide_eq_false hp]

variable {K : AV → AH → Nat → Prop}
/-! ### operations -/
theorem w_mv {x : A} : xo P n0 W d (.mv x) t h n K = K (ev t x) h n := rfl
def PK (c x y : AV) (K : AV → AH → Nat → Prop) (h : AH) (n : Nat) : Prop := match c with
  | .bool p => (p = true → K x h n) ∧ (p = false → K y h n)
  | _ => False
theorem w_pick {c a b : A} : xo P n0 W d (.pick c a b) t h n K = PK (ev t c) (ev t a) (ev t b) K h n := rfl
theorem pk_t {x y : AV} : PK (.bool true) x y K h n = K x h n := by simp [PK]
theorem pk_f {x y : AV} : PK (.bool false) x y K h n = K y h n := by simp [PK]
theorem pk {x y : AV} {c : Bool} (h1 : c = true → K x h n) (h2 : c = false → K y h n) : PK (.bool c) x y K h n := ⟨h1, h2⟩
theorem pk_y {x y : AV} {p : Prop} [Decidable p] (hp : p) : PK (.bool (decide p)) x y K h n = K x h n := by rw [decide_eq_true hp, pk_t]
theorem pk_n {x y : AV} {p : Prop} [Decidable p] (hp : ¬ p) : PK (.bool (decide p)) x y K h n = K y h n := by rw [decide_eq_false hp, pk_f]
theorem w_bin {op : BinOp} {x y : A} : xo P n0 W d (.bin op x y) t h n K = xbin op (ev t x) (ev t y) (PO K h n) := rfl
section
variable {k k' : IntKind} {a b : Int} {K : AV → Prop}
theorem b_add : xbin .add (.int k a) (.int k b) K = kInt k (a + b) K := by simp [xbin, xint]
theorem b_sub : xbin .sub (.int k a) (.int k b) K = kInt k (a - b) K := by simp [xbin, xint]
theorem b_mul : xbin .mul (.int k a) (.int k b) K = kInt k (a * b) K := by simp [xbin, xint]
theorem b_quo : xbin .quo (.int k a) (.int k b) K = (b ≠ 0 ∧ kInt k (a.tdiv b) K) := by simp [xbin, xint]
theorem b_rem : xbin .rem (.int k a) (.int k b) K = (b ≠ 0 ∧ K (.int k (a.tmod b))) := by simp [xbin, xint]
theorem b_quo' (hb : b ≠ 0) : xbin .quo (.int k a) (.int k b) K = kInt k (a.tdiv b) K := by rw [b_quo]; exact propext ⟨fun h => h.2, fun h => ⟨hb, h⟩⟩
theorem b_rem' (hb : b ≠ 0) : xbin .rem (.int k a) (.int k b) K = K (.int k (a.tmod b)) := by rw [b_rem]; exact propext ⟨fun h => h.2, fun h => ⟨hb, h⟩⟩
theorem b_and : xbin .and (.int k a) (.int k b) K = K (.int k (bitv .and k a b)) := by simp [xbin, xint]
theorem b_or : xbin .or (.int k a) (.int k b) K = K (.int k (bitv .or k a b)) := by simp [xbin, xint]
theorem b_xor : xbin .xor (.int k a) (.int k b) K = K (.int k (bitv .xor k a b)) := by simp [xbin, xint]
theorem b_andNot : xbin .andNot (.int k a) (.int k b) K = K (.int k (bitv .andNot k a b)) := by simp [xbin, xint]
theorem b_eql : xbin .eql (.int k a) (.int k b) K = K (.bool (decide (a = b))) := by simp [xbin, xint]; rfl
theorem b_neq : xbin .neq (.int k a) (.int k b) K = K (.bool (decide (a ≠ b))) := by simp [xbin, xint]; rw [show (a != b) = !decide (a = b) from rfl]
theorem b_lss : xbin .lss (.int k a) (.int k b) K = K (.bool (decide (a < b))) := by simp [xbin, xint]
theorem b_leq : xbin .leq (.int k a) (.int k b) K = K (.bool (decide (a ≤ b))) := by simp [xbin, xint]
theorem b_gtr : xbin .gtr (.int k a) (.int k b) K = K (.bool (decide (b < a))) := by simp [xbin, xint]
theorem b_geq : xbin .geq (.int k a) (.int k b) K = K (.bool (decide (b ≤ a))) := by simp [xbin, xint]
theorem b_shl : xbin .shl (.int k a) (.int k' b) K = (0 ≤ b ∧ kInt k (a * 2 ^ (min b.toNat k.bits)) K) := by simp [xbin]
theorem b_shr : xbin .shr (.int k a) (.int k' b) K = (0 ≤ b ∧ K (.int k (a.fdiv (2 ^ (min b.toNat k.bits))))) := by simp [xbin]
theorem b_shl' (hb : 0 ≤ b) : xbin .shl (.int k a) (.int k' b) K = kInt k (a * 2 ^ (min b.toNat k.bits)) K := by rw [b_shl]; exact propext ⟨fun h => h.2, fun h => ⟨hb, h⟩⟩
theorem b_shr' (hb : 0 ≤ b) : xbin .shr (.int k a) (.int k' b) K = K (.int k (a.fdiv (2 ^ (min b.toNat k.bits)))) := by rw [b_shr]; exact propext ⟨fun h => h.2, fun h => ⟨hb, h⟩⟩
theorem u64w {x : Int} (h0 : 0 ≤ x) (h1 : x ≤ 9223372036854775807) : IntKind.u64.wrap x = x := by simp [IntKind.wrap, IntKind.signed, IntKind.bits]; omega
theorem b_sadd {a b : ByteArray} : xbin .add (.str a) (.str b) K = (a.size + b.size ≤ 9223372036854775807 ∧ K (.str (a ++ b))) := rfl
theorem b_seql {a b : ByteArray} : xbin .eql (.str a) (.str b) K = K (.bool (a.toList == b.toList)) := rfl
theorem b_sneq {a b : ByteArray} : xbin .neq (.str a) (.str b) K = K (.bool (!(a.toList == b.toList))) := rfl
theorem ki_i64 {x : Int} : kInt .i64 x K = (in64 x ∧ K (.int .i64 x)) := rfl
theorem ki_i64' {x : Int} (h1 : -9223372036854775808 ≤ x) (h2 : x ≤ 9223372036854775807) : kInt .i64 x K = K (.int .i64 x) := by rw [ki_i64]; exact propext ⟨fun h => h.2, fun h => ⟨⟨by omega, by omega⟩, h⟩⟩
theorem ki_u64 {x : Int} : kInt .u64 x K = K (.int .u64 (IntKind.u64.wrap x)) := rfl
theorem ki_u8 {x : Int} : kInt .u8 x K = K (.int .u8 (IntKind.u8.wrap x)) := rfl
theorem ki_i32 {x : Int} : kInt .i32 x K = K (.int .i32 (IntKind.i32.wrap x)) := rfl
end
def BQ (neg : Bool) (x y : AV) (K : AV → AH → Nat → Prop) (h : AH) (n : Nat) : Prop := match x, y with
  | .bool p, .bool q => K (.bool (if neg then p != q else p == q)) h n
  | _, _ => False
theorem w_beq {neg : Bool} {x y : A} : xo P n0 W d (.beq neg x y) t h n K = BQ neg (ev t x) (ev t y) K h n := rfl
theorem bq_t {p q : Bool} : BQ true (.bool p) (.bool q) K h n = K (.bool (p != q)) h n := rfl
theorem bq_f {p q : Bool} : BQ false (.bool p) (.bool q) K h n = K (.bool (p == q)) h n := rfl
def NQ (neg : Bool) (x : AV) (K : AV → AH → Nat → Prop) (h : AH) (n : Nat) : Prop := match x with
  | .nilif => K (.bool (!neg)) h n
  | .iface => K (.bool neg) h n
  | _ => False
theorem w_nileq {neg : Bool} {x y : A} : xo P n0 W d (.nileq neg x y) t h n K = NQ neg (ev t x) K h n := rfl
theorem nq_n {neg : Bool} : NQ neg .nilif K h n = K (.bool (!neg)) h n := rfl
theorem nq_i {neg : Bool} : NQ neg .iface K h n = K (.bool neg) h n := rfl
def SQ (neg : Bool) (x : AV) (K : AV → AH → Nat → Prop) (h : AH) (n : Nat) : Prop := match x with
  | .nilsl => K (.bool (!neg)) h n
  | .sl _ _ _ _ => K (.bool neg) h n
  | .so _ _ => K (.bool neg) h n
  | .sx _ _ _ => K (.bool neg) h n
  | _ => False
theorem w_nilseq {neg : Bool} {x : A} : xo P n0 W d (.nilseq neg x) t h n K = SQ neg (ev t x) K h n := rfl
theorem sq_n {neg : Bool} : SQ neg .nilsl K h n = K (.bool (!neg)) h n := rfl
theorem sq_s {neg : Bool} {i o m c : Nat} : SQ neg (.sl i o m c) K h n = K (.bool neg) h n := rfl
theorem sq_o {neg : Bool} {i m : Nat} : SQ neg (.so i m) K h n = K (.bool neg) h n := rfl
def NG (x : AV) (K : AV → Prop) : Prop := match x with
  | .int k m => kInt k (-m) K
  | _ => False
theorem w_neg {x : A} : xo P n0 W d (.un .neg x) t h n K = NG (ev t x) (PO K h n) := by simp only [xo, xp, NG]; cases ev t x <;> rfl
theorem ng {k : IntKind} {m : Int} {K : AV → Prop} : NG (.int k m) K = kInt k (-m) K := rfl
def NT (x : AV) (K : AV → AH → Nat → Prop) (h : AH) (n : Nat) : Prop := match x with
  | .bool b => K (.bool (!b)) h n
  | _ => False
theorem w_not {x : A} : xo P n0 W d (.un .not x) t h n K = NT (ev t x) K h n := by simp only [xo, xp, NT]; cases ev t x <;> rfl
theorem nt {b : Bool} : NT (.bool b) K h n = K (.bool (!b)) h n := rfl
theorem w_alloc {ty : Nat} {z : List AV} : xo P n0 W d (.alloc ty z) t h n K = K (.ptr n 0) (upd h n (some ⟨ty, z, true, 0⟩)) (n + 1) := rfl
theorem w_box {ty : Nat} {x : A} : xo P n0 W d (.box ty x) t h n K = ((ev t x).storable = true ∧ K (.ptr n 0) (upd h n (some ⟨ty, (ev t x).cells, true, 0⟩)) (n + 1)) := rfl
def BD (x : Option (List AV)) (K : AV → AH → Nat → Prop) (h : AH) (n : Nat) : Prop := match x with
  | some cs => K (.agg cs) h n
  | none => False
def evP (t : List AV) : List (Nat × Nat × A) → List (Nat × Nat × AV)
  | [] => []
  | (o, z, x) :: r => (o, z, ev t x) :: evP t r
theorem evP_eq (t : List AV) : ∀ ps : List (Nat × Nat × A), (ps.map fun p => (p.1, p.2.1, ev t p.2.2)) = evP t ps
  | [] => rfl
  | (o, z, x) :: r => by simp [evP, evP_eq t r]
theorem w_build {z : List AV} {ps : List (Nat × Nat × A)} : xo P n0 W d (.build z ps) t h n K = BD (fillA z (evP t ps)) K h n := by
  simp only [xo, xp, BD, evP_eq]; cases fillA z (evP t ps) <;> rfl
theorem bd {cs : List AV} : BD (some cs) K h n = K (.agg cs) h n := rfl
def MK (ty : Nat) (z : List AV) (x y : AV) (K : AV → AH → Nat → Prop) (h : AH) (n : Nat) : Prop := match x, y with
  | .int _ m, .int _ p => 0 ≤ m ∧ m ≤ p ∧ p ≤ 4294967296 ∧ K (.sl n 0 m.toNat p.toNat) (upd h n (some ⟨ty, repA p.toNat z, true, 0⟩)) (n + 1)
  | _, _ => False
theorem w_mks {ty es : Nat} {z : List AV} {l c : A} : xo P n0 W d (.mks ty es z l c) t h n K = MK ty z (ev t l) (ev t c) K h n := rfl
theorem mk_ {ty : Nat} {z : List AV} {k k' : IntKind} {m p : Int} : MK ty z (.int k m) (.int k' p) K h n = (0 ≤ m ∧ m ≤ p ∧ p ≤ 4294967296 ∧ K (.sl n 0 m.toNat p.toNat) (upd h n (some ⟨ty, repA p.toNat z, true, 0⟩)) (n + 1)) := rfl
theorem mk_' {ty : Nat} {z : List AV} {k k' : IntKind} {m p : Int} (h0 : 0 ≤ m) (h1 : m ≤ p) (h2 : p ≤ 4294967296) : MK ty z (.int k m) (.int k' p) K h n = K (.sl n 0 m.toNat p.toNat) (upd h n (some ⟨ty, repA p.toNat z, true, 0⟩)) (n + 1) := by
  rw [mk_]; exact propext ⟨fun h => h.2.2.2, fun h => ⟨h0, h1, h2, h⟩⟩
theorem repA_one (p : Nat) (z : AV) : repA p [z] = List.replicate p z := by
  simp only [repA]
  induction p with
  | zero => rfl
  | succ p ih => simp [List.replicate_succ, ih]
theorem repA_zero {z : List AV} : repA 0 z = [] := rfl
theorem repA_succ {k : Nat} {z : List AV} : repA (k + 1) z = z ++ repA k z := by simp [repA, List.replicate_succ]
def LT_ (ty len : Nat) (x : Option (List AV)) (K : AV → AH → Nat → Prop) (h : AH) (n : Nat) : Prop := match x with
  | some cs => K (.sl n 0 len len) (upd h n (some ⟨ty, cs, true, 0⟩)) (n + 1)
  | none => False
def evE (es : Nat) (t : List AV) : List (Nat × A) → List (Nat × Nat × AV)
  | [] => []
  | (i, x) :: r => (i * es, es, ev t x) :: evE es t r
theorem evE_eq (es : Nat) (t : List AV) : ∀ ps : List (Nat × A), elemsOf es (ps.map fun p => (p.1, ev t p.2)) = evE es t ps
  | [] => rfl
  | (i, x) :: r => by have := evE_eq es t r; simp only [elemsOf, List.map_cons, evE] at this ⊢; rw [this]
theorem w_lit {ty es len : Nat} {z : List AV} {ps : List (Nat × A)} : xo P n0 W d (.lit ty es len z ps) t h n K = LT_ ty len (fillA (repA len z) (evE es t ps)) K h n := by
  simp only [xo, LT_, evE_eq]; cases fillA (repA len z) (evE es t ps) <;> rfl
theorem lt_ {ty len : Nat} {cs : List AV} : LT_ ty len (some cs) K h n = K (.sl n 0 len len) (upd h n (some ⟨ty, cs, true, 0⟩)) (n + 1) := rfl
def L1 (x : AV) (K : AV → AH → Nat → Prop) (h : AH) (n : Nat) : Prop := match x with
  | .ptr i o => ∃ b c, h i = some b ∧ b.cells[o]? = some c ∧ K c h n
  | _ => False
def L2 (b : Option Blk) (o : Nat) (K : AV → AH → Nat → Prop) (h : AH) (n : Nat) : Prop := ∃ b' c, b = some b' ∧ b'.cells[o]? = some c ∧ K c h n
def L3 (x : Option AV) (K : AV → AH → Nat → Prop) (h : AH) (n : Nat) : Prop := ∃ c, x = some c ∧ K c h n
theorem w_ld1 {x : A} : xo P n0 W d (.ld1 x) t h n K = L1 (ev t x) K h n := rfl
theorem l1 {i o : Nat} : L1 (.ptr i o) K h n = L2 (h i) o K h n := rfl
theorem l2 {ty op o : Nat} {cs : List AV} {wr : Bool} : L2 (some ⟨ty, cs, wr, op⟩) o K h n = L3 (cs[o]?) K h n := by simp [L2, L3]
theorem l3 {c : AV} : L3 (some c) K h n = K c h n := by simp [L3]
def M1 (z : Nat) (x : AV) (K : AV → AH → Nat → Prop) (h : AH) (n : Nat) : Prop := match x with
  | .ptr i o => ∃ b, h i = some b ∧ o + z ≤ b.cells.length ∧ K (.agg (cutA b.cells o z)) h n
  | _ => False
def M2 (z : Nat) (b : Option Blk) (o : Nat) (K : AV → AH → Nat → Prop) (h : AH) (n : Nat) : Prop := ∃ b', b = some b' ∧ o + z ≤ b'.cells.length ∧ K (.agg (cutA b'.cells o z)) h n
theorem w_ld {z : Nat} {x : A} : xo P n0 W d (.ld z x) t h n K = M1 z (ev t x) K h n := rfl
theorem m1 {z i o : Nat} : M1 z (.ptr i o) K h n = M2 z (h i) o K h n := rfl
theorem m2 {z ty op o : Nat} {cs : List AV} {wr : Bool} : M2 z (some ⟨ty, cs, wr, op⟩) o K h n = (o + z ≤ cs.length ∧ K (.agg (cutA cs o z)) h n) := by simp [M2]
def S1 (n0 : Nat) (W : Nat → Prop) (z : Nat) (x y : AV) (K : AV → AH → Nat → Prop) (h : AH) (n : Nat) : Prop := match x with
  | .ptr i o => ∃ b, h i = some b ∧ b.wr = true ∧ y.storable = true ∧ y.cells.length = z ∧ o + z ≤ b.cells.length ∧ i < n ∧ (n0 ≤ i ∨ W i) ∧ K .any (upd h i (some { b with cells := putA b.cells o y.cells })) n
  | _ => False
def S2 (n0 : Nat) (W : Nat → Prop) (z : Nat) (b : Option Blk) (i o : Nat) (y : AV) (K : AV → AH → Nat → Prop) (h : AH) (n : Nat) : Prop :=
  ∃ b', b = some b' ∧ b'.wr = true ∧ y.storable = true ∧ y.cells.length = z ∧ o + z ≤ b'.cells.length ∧ i < n ∧ (n0 ≤ i ∨ W i) ∧ K .any (upd h i (some { b' with cells := putA b'.cells o y.cells })) n
theorem w_st {z : Nat} {x y : A} : xo P n0 W d (.st z x y) t h n K = S1 n0 W z (ev t x) (ev t y) K h n := rfl
theorem s1 {z i o : Nat} {y : AV} : S1 n0 W z (.ptr i o) y K h n = S2 n0 W z (h i) i o y K h n := rfl
theorem s2 {z ty op i o : Nat} {cs : List AV} {y : AV} : S2 n0 W z (some ⟨ty, cs, true, op⟩) i o y K h n =
    (y.storable = true ∧ y.cells.length = z ∧ o + z ≤ cs.length ∧ i < n ∧ (n0 ≤ i ∨ W i) ∧ K .any (upd h i (some ⟨ty, putA cs o y.cells, true, op⟩)) n) := by simp [S2]
theorem s2' {z ty op i o : Nat} {cs : List AV} {y : AV} (hi : i < n) (hn : n0 ≤ i) : S2 n0 W z (some ⟨ty, cs, true, op⟩) i o y K h n =
    (y.storable = true ∧ y.cells.length = z ∧ o + z ≤ cs.length ∧ K .any (upd h i (some ⟨ty, putA cs o y.cells, true, op⟩)) n) := by
  rw [s2]; exact propext ⟨fun ⟨a, b, c, _, _, e⟩ => ⟨a, b, c, e⟩, fun ⟨a, b, c, e⟩ => ⟨a, b, c, hi, Or.inl hn, e⟩⟩
def NK (x : AV) (K : AV → AH → Nat → Prop) (h : AH) (n : Nat) : Prop := match x with
  | .ptr i o => K (.ptr i o) h n
  | .fn f cs => K (.fn f cs) h n
  | _ => False
theorem w_nck {x : A} : xo P n0 W d (.nck x) t h n K = NK (ev t x) K h n := rfl
theorem nk_p {i o : Nat} : NK (.ptr i o) K h n = K (.ptr i o) h n := rfl
theorem nk_f {f : Nat} {cs : List AV} : NK (.fn f cs) K h n = K (.fn f cs) h n := rfl
def CV (k : IntKind) (x : AV) (K : AV → Prop) : Prop := match x with
  | .int _ m => kInt k m K
  | _ => False
theorem w_cvi {k : IntKind} {x : A} : xo P n0 W d (.cvi k x) t h n K = CV k (ev t x) (PO K h n) := rfl
theorem cv {k k' : IntKind} {m : Int} {K : AV → Prop} : CV k (.int k' m) K = kInt k m K := rfl
def CS (x : AV) (K : AV → AH → Nat → Prop) (h : AH) (n : Nat) : Prop := match x with
  | .str s => K (.str s) h n
  | _ => False
theorem w_cvs {x : A} : xo P n0 W d (.cvs x) t h n K = CS (ev t x) K h n := rfl
theorem cs_ {s : ByteArray} : CS (.str s) K h n = K (.str s) h n := rfl
theorem w_mkf {f : Nat} {cs : List A} : xo P n0 W d (.mkf f cs) t h n K = K (.fn f (cs.map (ev t))) h n := rfl
def FA (off : Nat) (x : AV) (K : AV → AH → Nat → Prop) (h : AH) (n : Nat) : Prop := match x with
  | .ptr i o => K (.ptr i (o + off)) h n
  | _ => False
theorem w_fa {off : Nat} {x : A} : xo P n0 W d (.fa off x) t h n K = FA off (ev t x) K h n := rfl
theorem fa {off i o : Nat} : FA off (.ptr i o) K h n = K (.ptr i (o + off)) h n := rfl
def FL (off z : Nat) (x : AV) (K : AV → AH → Nat → Prop) (h : AH) (n : Nat) : Prop := match x with
  | .agg cs => K (.agg (cutA cs off z)) h n
  | _ => False
theorem w_fld {z off : Nat} {x : A} : xo P n0 W d (.fld z off x) t h n K = FL off z (ev t x) K h n := rfl
theorem fl {off z : Nat} {cs : List AV} : FL off z (.agg cs) K h n = K (.agg (cutA cs off z)) h n := rfl
def F1 (off : Nat) (x : AV) (K : AV → AH → Nat → Prop) (h : AH) (n : Nat) : Prop := match x with
  | .agg cs => ∃ c, cs[off]? = some c ∧ K c h n
  | _ => False
theorem w_fld1 {off : Nat} {x : A} : xo P n0 W d (.fld1 off x) t h n K = F1 off (ev t x) K h n := rfl
theorem f1 {off : Nat} {cs : List AV} : F1 off (.agg cs) K h n = L3 (cs[off]?) K h n := rfl
def IA (es : Nat) (x i : AV) (K : AV → AH → Nat → Prop) (h : AH) (n : Nat) : Prop := match x, i with
  | .sl id o m _, .int _ j => 0 ≤ j ∧ j < m ∧ K (.ptr id (o + j.toNat * es)) h n
  | .so id m, .int _ j => 0 ≤ j ∧ j < m ∧ K (.ptr id (j.toNat * es)) h n
  | .sx id o m, .int _ j => 0 ≤ j ∧ j < m ∧ K (.ptr id (o + j.toNat * es)) h n
  | _, _ => False
theorem w_ia {es : Nat} {x i : A} : xo P n0 W d (.ia es x i) t h n K = IA es (ev t x) (ev t i) K h n := by
  simp only [xo, xp, IA]; cases ev t x <;> cases ev t i <;> rfl
theorem ia_s {es id o m c : Nat} {k : IntKind} {j : Int} : IA es (.sl id o m c) (.int k j) K h n = (0 ≤ j ∧ j < m ∧ K (.ptr id (o + j.toNat * es)) h n) := rfl
theorem ia_o {es id m : Nat} {k : IntKind} {j : Int} : IA es (.so id m) (.int k j) K h n = (0 ≤ j ∧ j < m ∧ K (.ptr id (j.toNat * es)) h n) := rfl
theorem ia_x {es id o m : Nat} {k : IntKind} {j : Int} : IA es (.sx id o m) (.int k j) K h n = (0 ≤ j ∧ j < m ∧ K (.ptr id (o + j.toNat * es)) h n) := rfl
theorem ia_s' {es id o m c : Nat} {k : IntKind} {j : Int} (h0 : 0 ≤ j) (h1 : j < m) : IA es (.sl id o m c) (.int k j) K h n = K (.ptr id (o + j.toNat * es)) h n := by rw [ia_s]; exact propext ⟨fun h => h.2.2, fun h => ⟨h0, h1, h⟩⟩
theorem ia_o' {es id m : Nat} {k : IntKind} {j : Int} (h0 : 0 ≤ j) (h1 : j < m) : IA es (.so id m) (.int k j) K h n = K (.ptr id (j.toNat * es)) h n := by rw [ia_o]; exact propext ⟨fun h => h.2.2, fun h => ⟨h0, h1, h⟩⟩
theorem putA_zero {z cs : List AV} : putA z 0 cs = cs ++ z.drop cs.length := by simp [putA]
theorem putA_cons {a : AV} {z cs : List AV} {k : Nat} : putA (a :: z) (k + 1) cs = a :: putA z k cs := by simp [putA, Nat.succ_add]
def IX (x i : AV) (K : AV → AH → Nat → Prop) (h : AH) (n : Nat) : Prop := match x, i with
  | .str s, .int _ j => ∃ c, 0 ≤ j ∧ s.data[j.toNat]? = some c ∧ K (.int .u8 c.toNat) h n
  | _, _ => False
theorem w_ixs {x i : A} : xo P n0 W d (.ixs x i) t h n K = IX (ev t x) (ev t i) K h n := by
  simp only [xo, xp, IX]; cases ev t x <;> cases ev t i <;> rfl
theorem ix {s : ByteArray} {k : IntKind} {j : Int} {c : UInt8} (h0 : 0 ≤ j) (h1 : s.data[j.toNat]? = some c) (hk : K (.int .u8 c.toNat) h n) : IX (.str s) (.int k j) K h n := ⟨c, h0, h1, hk⟩
def EX (x : AV) (i : Nat) (K : AV → AH → Nat → Prop) (h : AH) (n : Nat) : Prop := match x with
  | .tup vs => ∃ c, vs[i]? = some c ∧ K c h n
  | _ => False
theorem w_ext {x : A} {i : Nat} : xo P n0 W d (.ext x i) t h n K = EX (ev t x) i K h n := rfl
theorem ex_ {vs : List AV} {i : Nat} : EX (.tup vs) i K h n = L3 (vs[i]?) K h n := rfl
def LN (x : AV) (K : AV → AH → Nat → Prop) (h : AH) (n : Nat) : Prop := match x with
  | .sl _ _ m _ => K (.int .i64 m) h n
  | .so _ m => K (.int .i64 m) h n
  | .sx _ _ m => K (.int .i64 m) h n
  | .nilsl => K (.int .i64 0) h n
  | .sl0 => K (.int .i64 0) h n
  | _ => False
theorem w_len {x : A} : xo P n0 W d (.len x) t h n K = LN (ev t x) K h n := rfl
theorem ln_s {i o m c : Nat} : LN (.sl i o m c) K h n = K (.int .i64 m) h n := rfl
theorem ln_o {i m : Nat} : LN (.so i m) K h n = K (.int .i64 m) h n := rfl
theorem ln_x {i o m : Nat} : LN (.sx i o m) K h n = K (.int .i64 m) h n := rfl
theorem ln_0 : LN .sl0 K h n = K (.int .i64 0) h n := rfl
theorem ln_n : LN .nilsl K h n = K (.int .i64 0) h n := rfl
def LS (x : AV) (K : AV → AH → Nat → Prop) (h : AH) (n : Nat) : Prop := match x with
  | .str s => K (.int .i64 s.size) h n
  | _ => False
theorem w_lens {x : A} : xo P n0 W d (.lens x) t h n K = LS (ev t x) K h n := rfl
theorem ls_ {s : ByteArray} : LS (.str s) K h n = K (.int .i64 s.size) h n := rfl
def CP (x : AV) (K : AV → AH → Nat → Prop) (h : AH) (n : Nat) : Prop := match x with
  | .sl _ _ _ c => K (.int .i64 c) h n
  | .nilsl => K (.int .i64 0) h n
  | _ => False
theorem w_cap {x : A} : xo P n0 W d (.cap x) t h n K = CP (ev t x) K h n := rfl
theorem cp_s {i o m c : Nat} : CP (.sl i o m c) K h n = K (.int .i64 c) h n := rfl
theorem cp_n : CP .nilsl K h n = K (.int .i64 0) h n := rfl
def MX (x y : AV) (K : AV → AH → Nat → Prop) (h : AH) (n : Nat) : Prop := match x, y with
  | .int k a, .int _ b => K (.int k (max a b)) h n
  | _, _ => False
def MN (x y : AV) (K : AV → AH → Nat → Prop) (h : AH) (n : Nat) : Prop := match x, y with
  | .int k a, .int _ b => K (.int k (min a b)) h n
  | _, _ => False
theorem max_is (a b : Int) : (if b > a then b else a) = max a b := by rw [Int.max_def]; split <;> split <;> omega
theorem min_is (a b : Int) : (if b < a then b else a) = min a b := by rw [Int.min_def]; split <;> split <;> omega
theorem w_mx {x y : A} : xo P n0 W d (.mx [x, y]) t h n K = MX (ev t x) (ev t y) K h n := by
  simp only [xo, xp, MX, max_is]; cases ev t x <;> cases ev t y <;> rfl
theorem w_mn {x y : A} : xo P n0 W d (.mn [x, y]) t h n K = MN (ev t x) (ev t y) K h n := by
  simp only [xo, xp, MN, min_is]; cases ev t x <;> cases ev t y <;> rfl
theorem mx_ {k k' : IntKind} {a b : Int} : MX (.int k a) (.int k' b) K h n = K (.int k (max a b)) h n := rfl
theorem mn_ {k k' : IntKind} {a b : Int} : MN (.int k a) (.int k' b) K h n = K (.int k (min a b)) h n := rfl
theorem w_app {ty es b : Nat} {z : List AV} {x y : A} : xo P n0 W d (.app ty es b z x y) t h n K = AppC n0 W ty es (ev t x) (ev t y) h n K := rfl
def CL (P : Program) (n0 : Nat) (W : Nat → Prop) (d : Bool) (f : AV) (xs : List AV) (h : AH) (n : Nat) (K : AV → AH → Nat → Prop) : Prop := match f with
  | .fn g cs => CallC P n0 W d g (xs ++ cs) h n K
  | _ => False
theorem w_call {f : A} {xs : List A} : xo P n0 W d (.call f xs) t h n K = CL P n0 W d (ev t f) (xs.map (ev t)) h n K := rfl
def CLW (P : Program) (n0 : Nat) (W : Nat → Prop) (f : AV) (xs : List AV) (h : AH) (n : Nat) (K : AV → AH → Nat → Prop) : Prop := match f with
  | .fn g cs => CallW P n0 W g (xs ++ cs) h n K
  | _ => False
theorem w_callw {f : A} {xs : List A} : xo P n0 W d (.callw f xs) t h n K = CLW P n0 W (ev t f) (xs.map (ev t)) h n K := rfl
theorem clw {g : Nat} {cs xs : List AV} : CLW P n0 W (.fn g cs) xs h n K = CallW P n0 W g (xs ++ cs) h n K := rfl
theorem cl {g : Nat} {cs xs : List AV} : CL P n0 W d (.fn g cs) xs h n K = CallC P n0 W d g (xs ++ cs) h n K := rfl
def SL (es : Nat) (x : AV) (lo hi m : Option AV) (K : AV → AH → Nat → Prop) (h : AH) (n : Nat) : Prop := match x with
    | .sl i o n1 c => bnds n1 c lo hi m fun l h1 m => K (.sl i (if m = l then o else o + l * es) (h1 - l) (m - l)) h n
    | .so i n1 => match lo, hi, m with
      | none, none, none => K (.so i n1) h n
      | some (.int _ l), none, none => 0 ≤ l ∧ l ≤ n1 ∧ K (.sx i (l.toNat * es) (n1 - l.toNat)) h n
      | none, some (.int _ h1), none => 0 ≤ h1 ∧ h1 ≤ n1 ∧ K (.so i h1.toNat) h n
      | some (.int _ l), some (.int _ h1), none => 0 ≤ l ∧ l ≤ h1 ∧ h1 ≤ n1 ∧ K (.sx i (l.toNat * es) (h1.toNat - l.toNat)) h n
      | _, _, _ => False
    | .sx i o n1 => match lo, hi, m with
      | some (.int _ l), none, none => 0 ≤ l ∧ l ≤ n1 ∧ K (.sx i (o + l.toNat * es) (n1 - l.toNat)) h n
      | none, some (.int _ h1), none => 0 ≤ h1 ∧ h1 ≤ n1 ∧ K (.sx i o h1.toNat) h n
      | _, _, _ => False
    | .nilsl => match lo, hi, m with
      | none, none, none => K .nilsl h n
      | some (.int _ 0), none, none => K .nilsl h n
      | none, some (.int _ 0), none => K .nilsl h n
      | some (.int _ 0), some (.int _ 0), some (.int _ 0) => K .nilsl h n
      | none, some (.int _ 0), some (.int _ 0) => K .nilsl h n
      | _, _, _ => False
    | _ => False
theorem w_slc {es : Nat} {x : A} {lo hi m : Option A} : xo P n0 W d (.slc es x lo hi m) t h n K = SL es (ev t x) (lo.map (ev t)) (hi.map (ev t)) (m.map (ev t)) K h n := rfl
theorem sl_lo {es i o m c : Nat} {k : IntKind} {l : Int} : SL es (.sl i o m c) (some (.int k l)) none none K h n = (0 ≤ l ∧ l ≤ m ∧ K (.sl i (if c = l.toNat then o else o + l.toNat * es) (m - l.toNat) (c - l.toNat)) h n) := rfl
theorem sl_hi {es i o m c : Nat} {k : IntKind} {l : Int} : SL es (.sl i o m c) none (some (.int k l)) none K h n = (0 ≤ l ∧ l ≤ c ∧ K (.sl i (if c = 0 then o else o + 0 * es) (l.toNat - 0) (c - 0)) h n) := rfl
theorem sl_so {es i m : Nat} {k : IntKind} {l : Int} : SL es (.so i m) none (some (.int k l)) none K h n = (0 ≤ l ∧ l ≤ m ∧ K (.so i l.toNat) h n) := rfl
theorem sl_sol {es i m : Nat} {k : IntKind} {l : Int} : SL es (.so i m) (some (.int k l)) none none K h n = (0 ≤ l ∧ l ≤ m ∧ K (.sx i (l.toNat * es) (m - l.toNat)) h n) := rfl
theorem sl_xlo {es i o m : Nat} {k : IntKind} {l : Int} : SL es (.sx i o m) (some (.int k l)) none none K h n = (0 ≤ l ∧ l ≤ m ∧ K (.sx i (o + l.toNat * es) (m - l.toNat)) h n) := rfl
theorem sl_xhi {es i o m : Nat} {k : IntKind} {l : Int} : SL es (.sx i o m) none (some (.int k l)) none K h n = (0 ≤ l ∧ l ≤ m ∧ K (.sx i o l.toNat) h n) := rfl
theorem sl_nlo {es : Nat} {k : IntKind} : SL es .nilsl (some (.int k 0)) none none K h n = K .nilsl h n := rfl
theorem sl_nhi {es : Nat} {k : IntKind} : SL es .nilsl none (some (.int k 0)) none K h n = K .nilsl h n := rfl
theorem sl_son {es i m : Nat} : SL es (.so i m) none none none K h n = K (.so i m) h n := rfl
theorem sl_nn {es : Nat} : SL es .nilsl none none none K h n = K .nilsl h n := rfl
def SS (x : AV) (lo hi : Option AV) (K : AV → AH → Nat → Prop) (h : AH) (n : Nat) : Prop := match x with
  | .str s => bnds s.size s.size lo hi none fun l h1 _ => K (.str (s.extract l h1)) h n
  | _ => False
theorem w_sls {x : A} {lo hi : Option A} : xo P n0 W d (.sls x lo hi) t h n K = SS (ev t x) (lo.map (ev t)) (hi.map (ev t)) K h n := rfl
theorem ss_lo {s : ByteArray} {k : IntKind} {l : Int} : SS (.str s) (some (.int k l)) none K h n = (0 ≤ l ∧ l ≤ s.size ∧ K (.str (s.extract l.toNat s.size)) h n) := rfl
theorem ss_hi {s : ByteArray} {k : IntKind} {l : Int} : SS (.str s) none (some (.int k l)) K h n = (0 ≤ l ∧ l ≤ s.size ∧ K (.str (s.extract 0 l.toNat)) h n) := rfl
theorem ss_lh {s : ByteArray} {k k' : IntKind} {l m : Int} : SS (.str s) (some (.int k l)) (some (.int k' m)) K h n = (0 ≤ m ∧ m ≤ s.size ∧ 0 ≤ l ∧ l ≤ m ∧ K (.str (s.extract l.toNat m.toNat)) h n) := rfl
end

/-! ### results, staged -/
section
variable {t : List AV} {h : AH} {n : Nat} {K : AV → AH → Nat → Prop}
def RF (rs : List RV) (acc : List AV) (t : List AV) (h : AH) (n : Nat) (K : AV → AH → Nat → Prop) : Prop := xres rs t h fun vs => K (oneOr (acc ++ vs)) h n
theorem kf_n {rs : List RV} : KF rs K .nrm t h n = RF rs [] t h n K := by simp [KF, RF]
theorem kf_r {rs : List RV} : KF rs K .ret t h n = RF rs [] t h n K := by simp [KF, RF]
theorem rf_nil {acc : List AV} : RF [] acc t h n K = K (oneOr acc) h n := by simp [RF, xres]
theorem rf_t {rs : List RV} {acc : List AV} {i : Nat} : RF (.t i :: rs) acc t h n K = RF rs (acc ++ [t.getD i .any]) t h n K := by simp [RF, xres]
def R1 (x : AV) (rs : List RV) (acc : List AV) (t : List AV) (h : AH) (n : Nat) (K : AV → AH → Nat → Prop) : Prop := match x with
  | .ptr id o => ∃ b c, h id = some b ∧ b.cells[o]? = some c ∧ RF rs (acc ++ [c]) t h n K
  | _ => False
def R2 (s : Nat) (x : AV) (rs : List RV) (acc : List AV) (t : List AV) (h : AH) (n : Nat) (K : AV → AH → Nat → Prop) : Prop := match x with
  | .ptr id o => ∃ b, h id = some b ∧ o + s ≤ b.cells.length ∧ RF rs (acc ++ [.agg (cutA b.cells o s)]) t h n K
  | _ => False
def R3 (s : Nat) (b : Option Blk) (o : Nat) (rs : List RV) (acc : List AV) (t : List AV) (h : AH) (n : Nat) (K : AV → AH → Nat → Prop) : Prop := ∃ b', b = some b' ∧ o + s ≤ b'.cells.length ∧ RF rs (acc ++ [.agg (cutA b'.cells o s)]) t h n K
def R4 (b : Option Blk) (o : Nat) (rs : List RV) (acc : List AV) (t : List AV) (h : AH) (n : Nat) (K : AV → AH → Nat → Prop) : Prop := ∃ b' c, b = some b' ∧ b'.cells[o]? = some c ∧ RF rs (acc ++ [c]) t h n K
def R5 (x : Option AV) (rs : List RV) (acc : List AV) (t : List AV) (h : AH) (n : Nat) (K : AV → AH → Nat → Prop) : Prop := ∃ c, x = some c ∧ RF rs (acc ++ [c]) t h n K
theorem rf_c1 {rs : List RV} {acc : List AV} {i : Nat} : RF (.c1 i :: rs) acc t h n K = R1 (t.getD i .any) rs acc t h n K := by
  simp only [RF, xres, R1]; cases t.getD i .any <;> simp
theorem rf_ca {rs : List RV} {acc : List AV} {i s : Nat} : RF (.ca i s :: rs) acc t h n K = R2 s (t.getD i .any) rs acc t h n K := by
  simp only [RF, xres, R2]; cases t.getD i .any <;> simp
theorem r1 {id o : Nat} {rs : List RV} {acc : List AV} : R1 (.ptr id o) rs acc t h n K = R4 (h id) o rs acc t h n K := rfl
theorem r2 {s id o : Nat} {rs : List RV} {acc : List AV} : R2 s (.ptr id o) rs acc t h n K = R3 s (h id) o rs acc t h n K := rfl
theorem r3 {s o ty op : Nat} {cs : List AV} {wr : Bool} {rs : List RV} {acc : List AV} : R3 s (some ⟨ty, cs, wr, op⟩) o rs acc t h n K = (o + s ≤ cs.length ∧ RF rs (acc ++ [.agg (cutA cs o s)]) t h n K) := by simp [R3]
theorem r4 {o ty op : Nat} {cs : List AV} {wr : Bool} {rs : List RV} {acc : List AV} : R4 (some ⟨ty, cs, wr, op⟩) o rs acc t h n K = R5 (cs[o]?) rs acc t h n K := by simp [R4, R5]
theorem r5 {c : AV} {rs : List RV} {acc : List AV} : R5 (some c) rs acc t h n K = RF rs (acc ++ [c]) t h n K := by simp [R5]
theorem one1 {v : AV} : oneOr [v] = v := rfl
theorem one2 {v v' : AV} {vs : List AV} : oneOr (v :: v' :: vs) = .tup (v :: v' :: vs) := rfl
end
end Go.Proofs.Ytmjfekgbbjojdac.L
