/- Arguments that are read, told to the logic. -/
import Derived.Test.YtmjfekgbbjojdacL14
namespace Go.Proofs.Ytmjfekgbbjojdac.L
open Go
open Go.RowKit Go.ChangeShapes Go.WideShapes Go.ChangeAt Go.Joins Go.Deep

theorem wf64 {a : Int} (w : (Lit.int .i64 a).wf = true) : in64 a := by
  simp only [Lit.wf, Bool.and_eq_true, decide_eq_true_eq] at w
  exact w
def rho0 : Rho := fun _ => none

section
variable {H : Type} {enc : TypeId × Value → H} {P : Program} {W : World} {base : Nat}

theorem tell_int {t : TypeId} (hu : P.underlying t = some (.int .i64)) {v : Value} {d : DataW H} {p : List MemPlace} (hv : Value.okWide P W .any base t v)
    (h : DataW.Trod enc P W 0 (fun _ => true) true t v d p) : ∃ a : Int, v = .int .i64 a ∧ in64 a := by
  obtain ⟨a, rfl, _, _, w⟩ := open_int hu hv h
  exact ⟨a, rfl, wf64 w⟩
theorem tell_frac {t ti : TypeId} {f0 f1 : Field} (hs : P.underlying t = some (.struct #[f0, f1])) (hone : oneCellFields P #[f0, f1] = true) (hC : P.cellsOf t = 2) (h0 : f0.type = ti) (h1 : f1.type = ti) (hu : P.underlying ti = some (.int .i64))
    {v : Value} {d : DataW H} {p : List MemPlace} (hv : Value.okWide P W .any base t v)
    (h : DataW.Trod enc P W 0 (fun _ => true) true t v d p) : ∃ a b : Int, v = .agg #[.int .i64 a, .int .i64 b] ∧ in64 a ∧ in64 b := by
  obtain ⟨c0, c1, y0, y1, m, rfl, rfl, rfl, hy0, hy1⟩ := open_agg2 hs hone hC hv h
  rw [h0] at hy0
  rw [h1] at hy1
  obtain ⟨a, e0, _, wa⟩ := DataW.trod_int hu hy0
  obtain ⟨b, e1, _, wb⟩ := DataW.trod_int hu hy1
  simp at e0 e1
  subst e0 e1
  exact ⟨a, b, rfl, wf64 wa, wf64 wb⟩
end
end Go.Proofs.Ytmjfekgbbjojdac.L
