/- The library's variables told at the row's start. -/
import Derived.Test.YtkpibnhddhdooacDoorRL1
import Derived.Test.YtkpibnhddhdooacDoorB4
namespace Go.Proofs.YtkpibnhddhdooacDoor
open Go.RowKit Go.ChangeShapes Go.WideShapes Go.ChangeAt Go.Joins L
set_option linter.unusedVariables false
theorem gSyn_named : Tryd.prog.globalNamed "strconv.ErrSyntax" = some gSyn := by kernel_rfl
theorem gRng_named : Tryd.prog.globalNamed "strconv.ErrRange" = some gRng := by kernel_rfl
theorem gSyn_type : (Tryd.prog.globals[gSyn]?).map (·.type) = some 120 := by kernel_rfl
theorem gRng_type : (Tryd.prog.globals[gRng]?).map (·.type) = some 120 := by kernel_rfl
theorem starErr : "*" ++ "errors.errorString" = "*errors.errorString" := by decide
theorem rowErr (u : TypeId) (h : Tryd.prog.typeName? 3 u = some "*errors.errorString") : u = 171 :=
  typeName_ptr_named (nm := "errors.errorString") (by rw [starErr]; kernel_rfl) (by kernel_rfl) (by decide) u (by rw [starErr]; exact h)
theorem max_row {W : World} (h : W.ShapedOpen Tryd.prog) : ∃ (m : Int) (cs : Array Value), W.heap[gMax]? = some (.cells cs 3) ∧ cs.size = 1 ∧ cs[0]? = some (.int .i64 m) := by
  obtain ⟨m, hm⟩ := Tryd.layCut.s1_3 W h
  obtain ⟨cs, h1, h2, _⟩ := h.1 gMax #[.int .i64 0] 3 (of_decide_eq_true (by kernel_rfl)) (by kernel_rfl)
  refine ⟨m, cs, h1, h2, ?_⟩
  have e : W.cell? ⟨gMax, 0, none⟩ = cs[0]? := cell_of_row W gMax 0 cs _ _ h1
  rw [← e]
  exact hm
theorem tell_start7 {W : World} (hL : laidMet Tryd.prog Rows.fnExactParseProblemRow.laid W) (hsh : W.ShapedOpen Tryd.prog) : ∃ ρ h, Tell W ρ h 4 ∧ L.Tabs h := by
  have h3 : laidMet Tryd.prog [("math/bits.deBruijn32tab", Rows.laid_math_bits_deBruijn32tab), ("math/bits.deBruijn64tab", Rows.laid_math_bits_deBruijn64tab), ("internal/strconv.uint64pow10", Lib.tabData .u64 Lib.pow10Tab), ("unicode/utf8.acceptRanges", Rows.laid_unicode_utf8_acceptRanges),
    ("strconv.ErrRange", Rows.laid_strconv_ErrRange), ("strconv.ErrSyntax", Rows.laid_strconv_ErrSyntax), ("unicode/utf8.first", Rows.laid_unicode_utf8_first)] W := hL
  have T1 := tell_tab gPow_named (Lib.tabIs_of_head gPow_named gPow_type Tryd.underlying157 Tryd.underlying93 (by kernel_rfl) (by kernel_rfl) (laidMet.tail (laidMet.tail h3))) (Tell.none W)
  obtain ⟨m, cs, r1, r2, r3⟩ := max_row hsh
  have T2 := T1.fix gMax 0 [.int .i64 m] r1 r2 (fun k x hx => by
    rcases k with _ | k
    · cases hx; exact ⟨_, r3, fun ρ => by simp only [Is]⟩
    · simp at hx)
  obtain ⟨a5, s5, v5, _⟩ := laid_sentinel (laidMet.tail (laidMet.tail (laidMet.tail (laidMet.tail (laidMet.tail h3))))) gSyn_named gSyn_type Tryd.underlying120 rowErr Tryd.underlying171 Tryd.underlying173 rfl rfl Tryd.underlying9 (by kernel_rfl) (by kernel_rfl)
  obtain ⟨t5, z5, e5⟩ := var_cells gSyn_named v5
  have T3 := T2.fix gSyn 0 [.iface] e5 rfl (fun k x hx => by
    rcases k with _ | k
    · cases hx; exact ⟨_, rfl, fun ρ => ⟨_, _, rfl⟩⟩
    · simp at hx)
  obtain ⟨a4, s4, v4, _⟩ := laid_sentinel (laidMet.tail (laidMet.tail (laidMet.tail (laidMet.tail h3)))) gRng_named gRng_type Tryd.underlying120 rowErr Tryd.underlying171 Tryd.underlying173 rfl rfl Tryd.underlying9 (by kernel_rfl) (by kernel_rfl)
  obtain ⟨t4, z4, e4⟩ := var_cells gRng_named v4
  have T4 := T3.fix gRng 0 [.iface] e4 rfl (fun k x hx => by
    rcases k with _ | k
    · cases hx; exact ⟨_, rfl, fun ρ => ⟨_, _, rfl⟩⟩
    · simp at hx)
  refine ⟨_, _, T4, ?_, ⟨m, ?_⟩, ?_, ?_⟩
  · exact (upd_other (by decide)).trans ((upd_other (by decide)).trans ((upd_other (by decide)).trans (upd_same _ _ _)))
  · exact (upd_other (by decide)).trans ((upd_other (by decide)).trans (upd_same _ _ _))
  · exact (upd_other (by decide)).trans (upd_same _ _ _)
  · exact upd_same _ _ _
end Go.Proofs.YtkpibnhddhdooacDoor
