/- Contracts on matrices. -/
import Derived.Test.YtkpibnhddhdooacDoorB1
import Derived.Test.YtkpibnhddhdooacDoorProg
import Derived.Shelf.Strconv.Itoa4
import Derived.Lib.ItoaLen
import Derived.Laws.Strings
set_option linter.unusedSimpArgs false
set_option linter.unusedVariables false
namespace Go.Proofs.YtkpibnhddhdooacDoor.L
open Go


end Go.Proofs.YtkpibnhddhdooacDoor.L
namespace Go.Proofs
open Go.Shelf
def Tryd.layFmt_ren : Go.Shelf.Ren := ⟨fun | 173 => 91 | 246 => 107 | 283 => 123 | 284 => 124 | 285 => 125 | 286 => 126 | 129 => 138 | 317 => 137 | 318 => 139 | 319 => 140 | 320 => 141 | 337 => 147 | 338 => 148 | n => n, fun | 2 => 2 | 3 => 3 | 9 => 9 | 4 => 4 | 171 => 139 | 0 => 0 | 53 => 93 | 37 => 29 | 5 => 5 | 173 => 142 | 212 => 157 | 51 => 147 | 20 => 20 | 213 => 158 | 46 => 96 | 232 => 174 | 233 => 175 | n => n, fun | 17 => 1 | 18 => 6 | 19 => 7 | n => n⟩
theorem Tryd.layFmt : Go.Proofs.LaysM.n173 Tryd.prog Tryd.layFmt_ren := {
  mixed := by kernel_rfl
  f129 := Tryd.func138.trans (congrArg some (by kernel_rfl))
  f173 := Tryd.func91.trans (congrArg some (by kernel_rfl))
  f246 := Tryd.func107.trans (congrArg some (by kernel_rfl))
  f283 := Tryd.func123.trans (congrArg some (by kernel_rfl))
  f284 := Tryd.func124.trans (congrArg some (by kernel_rfl))
  f285 := Tryd.func125.trans (congrArg some (by kernel_rfl))
  f286 := Tryd.func126.trans (congrArg some (by kernel_rfl))
  f317 := Tryd.func137.trans (congrArg some (by kernel_rfl))
  f318 := Tryd.func139.trans (congrArg some (by kernel_rfl))
  f319 := Tryd.func140.trans (congrArg some (by kernel_rfl))
  f320 := Tryd.func141.trans (congrArg some (by kernel_rfl))
  f337 := Tryd.func147.trans (congrArg some (by kernel_rfl))
  f338 := Tryd.func148.trans (congrArg some (by kernel_rfl))
  t0 := Tryd.underlying0
  a0 := Tryd.isAgg0
  z0 := Tryd.sizeOf0
  v0 := Tryd.zeroValue0
  t2 := Tryd.underlying2
  a2 := Tryd.isAgg2
  z2 := Tryd.sizeOf2
  v2 := Tryd.zeroValue2
  t3 := Tryd.underlying3
  a3 := Tryd.isAgg3
  z3 := Tryd.sizeOf3
  v3 := Tryd.zeroValue3
  t4 := Tryd.underlying4
  a4 := Tryd.isAgg4
  z4 := Tryd.sizeOf4
  v4 := Tryd.zeroValue4
  t5 := Tryd.underlying5
  a5 := Tryd.isAgg5
  z5 := Tryd.sizeOf5
  v5 := Tryd.zeroValue5
  t9 := Tryd.underlying9
  a9 := Tryd.isAgg9
  z9 := Tryd.sizeOf9
  v9 := Tryd.zeroValue9
  t20 := Tryd.underlying20
  a20 := Tryd.isAgg20
  z20 := Tryd.sizeOf20
  v20 := Tryd.zeroValue20
  t37 := Tryd.underlying29
  a37 := Tryd.isAgg29
  z37 := Tryd.sizeOf29
  v37 := Tryd.zeroValue29
  t46 := Tryd.underlying96
  a46 := Tryd.isAgg96
  z46 := Tryd.sizeOf96
  v46 := Tryd.zeroValue96
  t51 := Tryd.underlying147
  a51 := Tryd.isAgg147
  z51 := Tryd.sizeOf147
  v51 := Tryd.zeroValue147
  t53 := Tryd.underlying93
  a53 := Tryd.isAgg93
  z53 := Tryd.sizeOf93
  v53 := Tryd.zeroValue93
  t171 := Tryd.underlying139
  a171 := Tryd.isAgg139
  z171 := Tryd.sizeOf139
  v171 := Tryd.zeroValue139
  t173 := Tryd.underlying142
  a173 := Tryd.isAgg142
  z173 := Tryd.sizeOf142
  v173 := Tryd.zeroValue142
  t212 := Tryd.underlying157
  a212 := Tryd.isAgg157
  z212 := Tryd.sizeOf157
  v212 := Tryd.zeroValue157
  t213 := Tryd.underlying158
  a213 := Tryd.isAgg158
  z213 := Tryd.sizeOf158
  t232 := Tryd.underlying174
  a232 := Tryd.isAgg174
  z232 := Tryd.sizeOf174
  v232 := Tryd.zeroValue174
  t233 := Tryd.underlying175
  a233 := Tryd.isAgg175
  z233 := Tryd.sizeOf175
  v233 := Tryd.zeroValue175
  g17 := by kernel_rfl
  g18 := by kernel_rfl
  g19 := by kernel_rfl
  i0 := by kernel_rfl
  i2 := by kernel_rfl
  i3 := by kernel_rfl
  i4 := by kernel_rfl
  i5 := by kernel_rfl
  i9 := by kernel_rfl
  i20 := by kernel_rfl
  i37 := by kernel_rfl
  i46 := by kernel_rfl
  i51 := by kernel_rfl
  i53 := by kernel_rfl
  i171 := by kernel_rfl
  i173 := by kernel_rfl
  i212 := by kernel_rfl
  i232 := by kernel_rfl
  i233 := by kernel_rfl
  m17 := by kernel_rfl
  m18 := by kernel_rfl
  m19 := by kernel_rfl }
end Go.Proofs
namespace Go.Proofs.YtkpibnhddhdooacDoor.L
open Go Go.Proofs
def c_impl_decimal : F := ⟨(.seq (.reg false [⟨(some 2), (.mv (.c (.str ⟨#[]⟩))), none⟩]) (.seq (.reg false [⟨some 3, .mv (.t 0), none⟩, ⟨some 4, .call (.f 91) [(.t 3), (.c (.int .i64 10))], none⟩, ⟨some 2, .mv (.t 4), none⟩]) .ret)), 5, [(.t 2)]⟩
theorem k_impl_decimal : compF Tryd.prog Tryd.f75 = some c_impl_decimal := by kernel_rfl
def c_spec_l01Dec : F := ⟨(.seq (.reg false [⟨(some 2), (.mv (.c (.str ⟨#[]⟩))), none⟩]) (.seq (.seq (.reg false [⟨some 3, .mv (.t 0), none⟩, ⟨some 4, .bin .lss (.t 3) (.c (.int .i64 0)), none⟩]) (.cond (.t 4) (.seq (.reg false [⟨some 5, .mv (.t 0), none⟩, ⟨some 6, .un .neg (.t 5), none⟩, ⟨some 7, .call (.f 74) [(.t 6)], none⟩, ⟨(some 8), (.bin .add (.c (.str ⟨#[45]⟩)) (.t 7)), none⟩, ⟨some 2, .mv (.t 8), none⟩]) .ret) .skip)) (.seq (.seq (.reg false [⟨some 9, .mv (.t 0), none⟩, ⟨some 10, .bin .lss (.t 9) (.c (.int .i64 10)), none⟩]) (.cond (.t 10) (.seq (.reg false [⟨some 11, .mv (.t 0), none⟩, ⟨some 12, .bin .add (.c (.int .i64 48)) (.t 11), none⟩, ⟨some 13, .cvi .u8 (.t 12), none⟩, ⟨some 14, .lit 5 1 1 [(.int .u8 0)] [(0, (.t 13))], none⟩, ⟨some 15, .b2s (.t 14), none⟩, ⟨some 2, .mv (.t 15), none⟩]) .ret) .skip)) (.seq (.reg true [⟨some 16, .mv (.t 0), none⟩, ⟨some 17, .bin .quo (.t 16) (.c (.int .i64 10)), none⟩, ⟨some 19, .mv (.t 0), none⟩, ⟨some 20, .bin .rem (.t 19) (.c (.int .i64 10)), none⟩, ⟨some 21, .bin .add (.c (.int .i64 48)) (.t 20), none⟩, ⟨some 22, .cvi .u8 (.t 21), none⟩, ⟨some 23, .lit 5 1 1 [(.int .u8 0)] [(0, (.t 22))], none⟩, ⟨some 24, .b2s (.t 23), none⟩, ⟨some 18, .callq (.f 74) [(.t 17)], none⟩, ⟨some 25, .bin .add (.t 18) (.t 24), none⟩, ⟨some 2, .mv (.t 25), none⟩]) .ret)))), 26, [(.t 2)]⟩
theorem k_spec_l01Dec : compF Tryd.prog Tryd.f74 = some c_spec_l01Dec := by kernel_rfl

def bs (l : List UInt8) : ByteArray := ⟨l.toArray⟩
theorem bs_size (l : List UInt8) : (bs l).size = l.length := by simp [bs, ByteArray.size]
theorem bs_app (l m : List UInt8) : bs l ++ bs m = bs (l ++ m) := by
  apply ByteArray.ext
  simp [bs, ByteArray.data_append]
theorem fix_row {ρ : Rho} {h : AH} {w : World} {i g ty : Nat} {cells : List AV} (s : Sim ρ h w) (hb : h i = some ⟨ty, cells, false, g + 1⟩) (hne : cells ≠ []) :
    ∃ (cs : Array Value) (t : Nat) (z : Nat × Nat), w.heap[g]? = some (.cells cs t z) ∧ cs.size = cells.length ∧ ∀ (k : Nat) (c : AV), cells[k]? = some c → ∃ v : Value, cs[k]? = some v ∧ Is ρ c v := by
  obtain ⟨r, hr, hat⟩ := s.lies i _ hb
  obtain ⟨h0, h1, cs, t, z, h2, h3⟩ := hat.fix rfl (by simp) hne
  have e : r.b = g := by simp only at h1; omega
  subst e
  refine ⟨cs, t, z, h2, h3, fun k c hk => ?_⟩
  obtain ⟨v, h4, h5⟩ := hat.cells k c hk
  rw [h0, Nat.zero_add, cell_of_row w r.b k cs _ _ h2] at h4
  exact ⟨v, h4, h5⟩
def powA : List AV := Lib.pow10Tab.map fun z => .int .u64 z
def gPow : Nat := 1
def Tab (h : AH) : Prop := h 0 = some ⟨0, powA, false, gPow + 1⟩
theorem Tab.keep {h h' : AH} (t : Tab h) (k : h' 0 = h 0) : Tab h' := by unfold Tab; rw [k]; exact t
theorem gPow_named : Tryd.prog.globalNamed "internal/strconv.uint64pow10" = some gPow := by kernel_rfl
theorem tab_is {ρ : Rho} {h : AH} {w : World} (s : Sim ρ h w) (t : Tab h) : Lib.TabIs Tryd.prog w "internal/strconv.uint64pow10" .u64 Lib.pow10Tab := by
  obtain ⟨cs, ty, z, h1, h2, h3⟩ := fix_row s t (by simp [powA, Lib.pow10Tab])
  unfold Lib.TabIs World.var?
  rw [gPow_named]
  simp only [Option.bind_some, h1, Option.some.injEq]
  apply Array.ext'
  refine List.ext_getElem? fun k => ?_
  simp only [List.getElem?_map]
  cases hk : Lib.pow10Tab[k]? with
  | none =>
    rw [List.getElem?_eq_none_iff] at hk
    simp only [Option.map_none]
    rw [List.getElem?_eq_none_iff, Array.length_toList, h2]
    simpa [powA] using hk
  | some c =>
    obtain ⟨v, h4, h5⟩ := h3 k (.int .u64 c) (by simp [powA, hk])
    simp only [Is] at h5
    subst h5
    simpa using h4
structure Grown (w w' : World) : Prop where
  os : w'.os = w.os
  tape : w'.tape = w.tape
  output : w'.output = w.output
  size : w.heap.size ≤ w'.heap.size
  blk : ∀ b, b < w.heap.size → w'.heap[b]? = w.heap[b]?
theorem Grown.sim {ρ : Rho} {h : AH} {w w' : World} (s : Sim ρ h w) (g : Grown w w') : Sim ρ h w' := by
  refine ⟨fun i b hb => ?_, s.inj⟩
  obtain ⟨r, hr, hat⟩ := s.lies i b hb
  refine ⟨r, hr, ?_⟩
  by_cases hne : b.wr = true ∨ b.cells ≠ []
  · exact hat.keep (Ext.refl ρ) (g.blk _ (hat.lt hne))
  · refine ⟨fun k c hk => ?_, fun hb' => absurd (Or.inl hb') hne, fun _ _ hc => absurd (Or.inr hc) hne⟩
    have : b.cells = [] := by simpa using fun hc => hne (.inr hc)
    simp [this] at hk
theorem Grown.cx {ρ : Rho} {w w' : World} (g : Grown w w') (n : Nat) : Cx ⟨ρ, w, none', n, n⟩ ρ w' :=
  ⟨g.os, g.tape, g.output, g.size, fun b hb _ => g.blk b hb, fun _ _ => rfl, fun _ _ => rfl, fun i r h1 h2 => by simp only at h1 h2; omega, trivial⟩
theorem lib_q {f : Nat} {args : List AV} {h : AH} {n : Nat} {v : AV} (hf : okFn Tryd.prog f = true) (hc : ∀ (ρ : Rho) (w : World) (vs : List Value), Sim ρ h w → IsL ρ args vs → Calls Tryd.prog f vs.toArray w fun e w' => ∃ rv, e = .returned rv ∧ Is ρ v rv ∧ Grown w w') : Q Tryd.prog f args h n v :=
  ⟨n, hf, Nat.le_refl _, fun ρ w vs hs hi _ => (hc ρ w vs hs hi).mono fun e w' ⟨rv, h1, h2, h3⟩ => ⟨rv, ρ, h1, h2, h3.sim hs, h3.cx n⟩⟩
theorem grown_grow (w : World) (k : Nat) (os : Array Obj) : Grown w (Sort.grow (w.drewN k) os) :=
  ⟨rfl, rfl, rfl, by simp [Sort.grow, World.drewN], fun b hb => by
    show ((w.drewN k).heap ++ os)[b]? = w.heap[b]?
    rw [Array.getElem?_append_left (by simpa [World.drewN] using hb)]
    rfl⟩
theorem lib_FormatInt {h : AH} (t : Tab h) {m : Int} (hm : in64 m) (n : Nat) : Q Tryd.prog 91 [.int .i64 m, .int .i64 10] h n (.str (bs (Lib.itoa m))) := by
  refine lib_q (by kernel_rfl) fun ρ w vs hs hi => ?_
  simp only [IsL, Is] at hi
  obtain ⟨_, _, rfl, rfl, _, _, rfl, rfl, rfl⟩ := hi
  have h1 := hm.1
  have h2 := hm.2
  refine (Any.strconv_FormatInt_10 Tryd.layFmt m h1 h2 w (tab_is hs t)).mono ?_
  rintro e w' ⟨rfl, k, os, rfl⟩
  exact ⟨_, rfl, by simp only [Is]; rfl, grown_grow w k os⟩
theorem impl_decimal {h : AH} (t : Tab h) {m : Int} (hm : in64 m) (n : Nat) : Q Tryd.prog 75 [.int .i64 m] h n (.str (bs (Lib.itoa m))) := by
  refine q_intro Tryd.func75 k_impl_decimal ?_
  simp (maxSteps := 2000000) -implicitDefEqProofs (disch := omega) only [c_impl_decimal, xsW, xsC, xsD, xsE, fillA, reduceCtorEq, Nat.reduceAdd, Nat.reduceSub, Nat.reduceLeDiff, Nat.reduceMul, Int.reduceLT, Int.reduceLE, Int.reduceEq, Int.reduceNe, Int.reduceAdd, Int.reduceSub, Int.reduceMul, Int.reduceNeg, Int.reduceToNat]
  refine q_use (lib_FormatInt t hm _) fun n1 hn1 => ?_
  simp (maxSteps := 2000000) -implicitDefEqProofs (disch := omega) only [xsW, xsC, xsD, xsE, fillA, reduceCtorEq, Nat.reduceAdd, Nat.reduceSub, Nat.reduceLeDiff, Nat.reduceMul, Int.reduceLT, Int.reduceLE, Int.reduceEq, Int.reduceNe, Int.reduceAdd, Int.reduceSub, Int.reduceMul, Int.reduceNeg, Int.reduceToNat]
theorem u8_digit {d : Nat} (h : d < 10) : IntKind.u8.wrap (48 + (d : Int)) = ((UInt8.ofNat (48 + d)).toNat : Int) := by
  rw [UInt8.toNat_ofNat']
  simp [IntKind.wrap, IntKind.bits, IntKind.signed]
theorem bs_use {n m ty : Nat} {K : AV → AH → Nat → Prop} {h : AH} {c : UInt8} {x : Int} (hb : h n = some ⟨ty, [.int .u8 x], true, 0⟩) (hx : x = (c.toNat : Int)) (hk : K (.str (bs [c])) h m) : BS (.sl n 0 1 1) K h m :=
  ⟨[c], by simp, ⟨rfl, _, hb, by simp, by simp [cutA, hx]⟩, hk⟩
theorem nDigits_le {u : Nat} (h : u ≤ 9223372036854775807) : (Lib.decDigits u).length ≤ 20 := by
  rw [Lib.decDigits_length]
  exact Lib.nDigits_le20 u (by omega)
theorem dec_small {u : Nat} (h : u < 10) : Lib.decDigits u = [UInt8.ofNat (48 + u)] := by rw [Lib.decDigits, dif_pos h]
theorem dec_big {u : Nat} (h : ¬ u < 10) : Lib.decDigits u = Lib.decDigits (u / 10) ++ [UInt8.ofNat (48 + u % 10)] := by rw [Lib.decDigits, dif_neg h]
theorem spec_l01Dec0 (u : Nat) : u ≤ 9223372036854775807 → ∀ (h : AH) (n : Nat), Q Tryd.prog 74 [.int .i64 u] h n (.str (bs (Lib.decDigits u))) := by
  induction u using Nat.strongRecOn with
  | _ u ih =>
    intro hu h n
    refine q_intro Tryd.func74 k_spec_l01Dec ?_
    simp (maxSteps := 2000000) -implicitDefEqProofs (disch := omega) only [c_spec_l01Dec, w_b2s, w_callq, clq, xsW, xsC, xsD, xsE, fillA, reduceCtorEq, Nat.reduceAdd, Nat.reduceSub, Nat.reduceLeDiff, Nat.reduceMul, Int.reduceLT, Int.reduceLE, Int.reduceEq, Int.reduceNe, Int.reduceAdd, Int.reduceSub, Int.reduceMul, Int.reduceNeg, Int.reduceToNat]
    (refine cd_dec (fun c2 => ?_) (fun c2 => ?_) <;> simp (maxSteps := 2000000) -implicitDefEqProofs (disch := omega) only [xsW, xsC, xsD, xsE, fillA, reduceCtorEq, Nat.reduceAdd, Nat.reduceSub, Nat.reduceLeDiff, Nat.reduceMul, Int.reduceLT, Int.reduceLE, Int.reduceEq, Int.reduceNe, Int.reduceAdd, Int.reduceSub, Int.reduceMul, Int.reduceNeg, Int.reduceToNat,  c2])
    · simp (maxSteps := 2000000) -implicitDefEqProofs (disch := omega) only [xsW, xsC, xsD, xsE, fillA, reduceCtorEq, Nat.reduceAdd, Nat.reduceSub, Nat.reduceLeDiff, Nat.reduceMul, Int.reduceLT, Int.reduceLE, Int.reduceEq, Int.reduceNe, Int.reduceAdd, Int.reduceSub, Int.reduceMul, Int.reduceNeg, Int.reduceToNat,  w_b2s, w_callq, clq]
      refine bs_use (upd_same _ _ _) (u8_digit (by omega)) ?_
      simp (maxSteps := 2000000) -implicitDefEqProofs (disch := omega) only [xsW, xsC, xsD, xsE, fillA, reduceCtorEq, Nat.reduceAdd, Nat.reduceSub, Nat.reduceLeDiff, Nat.reduceMul, Int.reduceLT, Int.reduceLE, Int.reduceEq, Int.reduceNe, Int.reduceAdd, Int.reduceSub, Int.reduceMul, Int.reduceNeg, Int.reduceToNat,  dec_small (show u < 10 by omega)]
    · simp (maxSteps := 2000000) -implicitDefEqProofs (disch := omega) only [xsW, xsC, xsD, xsE, fillA, reduceCtorEq, Nat.reduceAdd, Nat.reduceSub, Nat.reduceLeDiff, Nat.reduceMul, Int.reduceLT, Int.reduceLE, Int.reduceEq, Int.reduceNe, Int.reduceAdd, Int.reduceSub, Int.reduceMul, Int.reduceNeg, Int.reduceToNat,  w_b2s, w_callq, clq]
      have e1 : (u : Int).tdiv 10 = ((u / 10 : Nat) : Int) := by rw [Int.tdiv_eq_ediv_of_nonneg (by omega)]; omega
      have e2 : (u : Int).tmod 10 = ((u % 10 : Nat) : Int) := by rw [Int.tmod_eq_emod_of_nonneg (by omega)]; omega
      rw [e1, e2]
      refine ⟨by unfold in64; omega, by unfold in64; omega, bs_use (upd_same _ _ _) (u8_digit (by omega)) ?_⟩
      simp (maxSteps := 2000000) -implicitDefEqProofs (disch := omega) only [xsW, xsC, xsD, xsE, fillA, reduceCtorEq, Nat.reduceAdd, Nat.reduceSub, Nat.reduceLeDiff, Nat.reduceMul, Int.reduceLT, Int.reduceLE, Int.reduceEq, Int.reduceNe, Int.reduceAdd, Int.reduceSub, Int.reduceMul, Int.reduceNeg, Int.reduceToNat,  w_callq, clq]
      refine callq_use (ih (u / 10) (by omega) (by omega) emp 0) rfl rfl ?_
      have hl := nDigits_le (u := u / 10) (by omega)
      simp (maxSteps := 2000000) -implicitDefEqProofs (disch := omega) only [xsW, xsC, xsD, xsE, fillA, reduceCtorEq, Nat.reduceAdd, Nat.reduceSub, Nat.reduceLeDiff, Nat.reduceMul, Int.reduceLT, Int.reduceLE, Int.reduceEq, Int.reduceNe, Int.reduceAdd, Int.reduceSub, Int.reduceMul, Int.reduceNeg, Int.reduceToNat,  bs_size, bs_app]
      have hb := dec_big (u := u) (by omega)
      exact ⟨by omega, by rw [hb]⟩
theorem sc45 : (⟨#[45]⟩ : ByteArray) = bs [45] := rfl
theorem sc47 : (⟨#[47]⟩ : ByteArray) = bs [47] := rfl
theorem sc0 : (⟨#[]⟩ : ByteArray) = bs [] := rfl
theorem spec_l01Dec {m : Int} (h0 : -9223372036854775807 ≤ m) (h1 : m ≤ 9223372036854775807) (h : AH) (n : Nat) : Q Tryd.prog 74 [.int .i64 m] h n (.str (bs (Lib.itoa m))) := by
  by_cases hm : 0 ≤ m
  · obtain ⟨u, rfl⟩ : ∃ u : Nat, m = u := ⟨m.toNat, by omega⟩
    have := spec_l01Dec0 u (by omega) h n
    rwa [show Lib.itoa (u : Int) = Lib.decDigits u by unfold Lib.itoa; rw [if_neg (by omega)]; simp]
  · obtain ⟨u, rfl⟩ : ∃ u : Nat, m = -(u : Int) := ⟨m.natAbs, by omega⟩
    refine q_intro Tryd.func74 k_spec_l01Dec ?_
    simp (maxSteps := 2000000) -implicitDefEqProofs (disch := omega) only [c_spec_l01Dec, xsW, xsC, xsD, xsE, fillA, reduceCtorEq, Nat.reduceAdd, Nat.reduceSub, Nat.reduceLeDiff, Nat.reduceMul, Int.reduceLT, Int.reduceLE, Int.reduceEq, Int.reduceNe, Int.reduceAdd, Int.reduceSub, Int.reduceMul, Int.reduceNeg, Int.reduceToNat]
    have q := spec_l01Dec0 u (by omega) h n
    rw [show - -(u : Int) = u by omega]
    refine q_use q fun n1 hn1 => ?_
    have hl := nDigits_le (u := u) (by omega)
    simp (maxSteps := 2000000) -implicitDefEqProofs (disch := omega) only [xsW, xsC, xsD, xsE, fillA, reduceCtorEq, Nat.reduceAdd, Nat.reduceSub, Nat.reduceLeDiff, Nat.reduceMul, Int.reduceLT, Int.reduceLE, Int.reduceEq, Int.reduceNe, Int.reduceAdd, Int.reduceSub, Int.reduceMul, Int.reduceNeg, Int.reduceToNat,  sc45, bs_size, bs_app]
    exact ⟨by omega, by rw [show Lib.itoa (-(u : Int)) = [45] ++ Lib.decDigits u by unfold Lib.itoa; rw [if_pos (by omega)]; simp]; simp⟩
theorem itoa_len {m : Int} (hm : in64 m) : (Lib.itoa m).length ≤ 21 := Lib.itoa_length_le m hm.1 hm.2
def c_impl_FracText : F := ⟨(.seq (.reg false [⟨some 1, .box 26 (.t 0), none⟩, ⟨(some 2), (.mv (.c (.str ⟨#[]⟩))), none⟩, ⟨some 3, .mv (.c (.int .i64 0)), none⟩]) (.seq (.seq (.reg false [⟨some 4, .ld 2 (.t 1), none⟩, ⟨some 5, .call (.f 14) [(.t 4)], none⟩, ⟨some 6, .un .not (.t 5), none⟩]) (.cond (.t 6) (.seq (.reg false [⟨(some 2), (.mv (.c (.str ⟨#[]⟩))), none⟩, ⟨some 3, .mv (.c (.int .i64 1)), none⟩]) .ret) .skip)) (.seq (.reg false [⟨some 7, .ld 2 (.t 1), none⟩, ⟨some 8, .call (.f 36) [(.t 7)], none⟩, ⟨some 2, .mv (.t 8), none⟩, ⟨some 3, .mv (.c (.int .i64 0)), none⟩]) .ret))), 9, [(.t 2), (.t 3)]⟩
theorem k_impl_FracText : compF Tryd.prog Tryd.f9 = some c_impl_FracText := by kernel_rfl
def c_spec_FracText : F := ⟨(.seq (.reg false [⟨some 1, .box 26 (.t 0), none⟩, ⟨(some 2), (.mv (.c (.str ⟨#[]⟩))), none⟩, ⟨some 3, .mv (.c (.int .i64 0)), none⟩]) (.seq (.seq (.reg false [⟨some 4, .ld 2 (.t 1), none⟩, ⟨some 5, .call (.f 15) [(.t 4)], none⟩, ⟨some 6, .un .not (.t 5), none⟩]) (.cond (.t 6) (.seq (.reg false [⟨(some 2), (.mv (.c (.str ⟨#[]⟩))), none⟩, ⟨some 3, .mv (.c (.int .i64 1)), none⟩]) .ret) .skip)) (.seq (.reg false [⟨some 7, .ld 2 (.t 1), none⟩, ⟨some 8, .call (.f 35) [(.t 7)], none⟩, ⟨some 2, .mv (.t 8), none⟩, ⟨some 3, .mv (.c (.int .i64 0)), none⟩]) .ret))), 9, [(.t 2), (.t 3)]⟩
theorem k_spec_FracText : compF Tryd.prog Tryd.f7 = some c_spec_FracText := by kernel_rfl
def c_impl_fracText : F := ⟨(.seq (.reg false [⟨some 1, .box 26 (.t 0), none⟩, ⟨(some 2), (.mv (.c (.str ⟨#[]⟩))), none⟩]) (.seq (.seq (.reg false [⟨some 3, .fa 1 (.t 1), none⟩, ⟨some 4, .ld1 (.t 3), none⟩, ⟨some 5, .bin .eql (.t 4) (.c (.int .i64 1)), none⟩]) (.cond (.t 5) (.seq (.reg false [⟨some 6, .fa 0 (.t 1), none⟩, ⟨some 7, .ld1 (.t 6), none⟩, ⟨some 8, .call (.f 75) [(.t 7)], none⟩, ⟨some 2, .mv (.t 8), none⟩]) .ret) .skip)) (.seq (.reg true [⟨some 9, .fa 0 (.t 1), none⟩, ⟨some 10, .ld1 (.t 9), none⟩, ⟨some 13, .fa 1 (.t 1), none⟩, ⟨some 14, .ld1 (.t 13), none⟩, ⟨some 11, .call (.f 75) [(.t 10)], none⟩, ⟨(some 12), (.bin .add (.t 11) (.c (.str ⟨#[47]⟩))), none⟩, ⟨some 15, .call (.f 75) [(.t 14)], none⟩, ⟨some 16, .bin .add (.t 12) (.t 15), none⟩, ⟨some 2, .mv (.t 16), none⟩]) .ret))), 17, [(.t 2)]⟩
theorem k_impl_fracText : compF Tryd.prog Tryd.f36 = some c_impl_fracText := by kernel_rfl
def c_spec_l01FracText : F := ⟨(.seq (.reg false [⟨some 1, .box 26 (.t 0), none⟩, ⟨(some 2), (.mv (.c (.str ⟨#[]⟩))), none⟩]) (.seq (.seq (.reg false [⟨some 3, .fa 1 (.t 1), none⟩, ⟨some 4, .ld1 (.t 3), none⟩, ⟨some 5, .bin .eql (.t 4) (.c (.int .i64 1)), none⟩]) (.cond (.t 5) (.seq (.reg false [⟨some 6, .fa 0 (.t 1), none⟩, ⟨some 7, .ld1 (.t 6), none⟩, ⟨some 8, .call (.f 74) [(.t 7)], none⟩, ⟨some 2, .mv (.t 8), none⟩]) .ret) .skip)) (.seq (.reg true [⟨some 9, .fa 0 (.t 1), none⟩, ⟨some 10, .ld1 (.t 9), none⟩, ⟨some 13, .fa 1 (.t 1), none⟩, ⟨some 14, .ld1 (.t 13), none⟩, ⟨some 11, .call (.f 74) [(.t 10)], none⟩, ⟨(some 12), (.bin .add (.t 11) (.c (.str ⟨#[47]⟩))), none⟩, ⟨some 15, .call (.f 74) [(.t 14)], none⟩, ⟨some 16, .bin .add (.t 12) (.t 15), none⟩, ⟨some 2, .mv (.t 16), none⟩]) .ret))), 17, [(.t 2)]⟩
theorem k_spec_l01FracText : compF Tryd.prog Tryd.f35 = some c_spec_l01FracText := by kernel_rfl
def frT (a b : Int) : List UInt8 := if b = 1 then Lib.itoa a else Lib.itoa a ++ [47] ++ Lib.itoa b
theorem mid64 {a : Int} (h : -1000000000000 ≤ a ∧ a ≤ 1000000000000) : in64 a := by unfold in64; omega
theorem impl_fracText {h : AH} (t : Tab h) {a b : Int} (ha : -1000000000000 ≤ a ∧ a ≤ 1000000000000) (hb : -1000000000000 ≤ b ∧ b ≤ 1000000000000) (n : Nat) (hn : 1 ≤ n) : Q Tryd.prog 36 [fr a b] h n (.str (bs (frT a b))) := by
  have la := itoa_len (mid64 ha)
  have lb := itoa_len (mid64 hb)
  refine q_intro Tryd.func36 k_impl_fracText ?_
  simp (maxSteps := 2000000) -implicitDefEqProofs (disch := omega) only [c_impl_fracText, fr, xsW, xsC, xsD, xsE, fillA, reduceCtorEq, Nat.reduceAdd, Nat.reduceSub, Nat.reduceLeDiff, Nat.reduceMul, Int.reduceLT, Int.reduceLE, Int.reduceEq, Int.reduceNe, Int.reduceAdd, Int.reduceSub, Int.reduceMul, Int.reduceNeg, Int.reduceToNat]
  unfold frT
  (refine cd_dec (fun c1 => ?_) (fun c1 => ?_) <;> simp (maxSteps := 2000000) -implicitDefEqProofs (disch := omega) only [xsW, xsC, xsD, xsE, fillA, reduceCtorEq, Nat.reduceAdd, Nat.reduceSub, Nat.reduceLeDiff, Nat.reduceMul, Int.reduceLT, Int.reduceLE, Int.reduceEq, Int.reduceNe, Int.reduceAdd, Int.reduceSub, Int.reduceMul, Int.reduceNeg, Int.reduceToNat,  c1])
  · refine q_use (impl_decimal (t.keep (upd_other (by omega))) (mid64 ha) _) fun n1 hn1 => ?_
    simp (maxSteps := 2000000) -implicitDefEqProofs (disch := omega) only [xsW, xsC, xsD, xsE, fillA, reduceCtorEq, Nat.reduceAdd, Nat.reduceSub, Nat.reduceLeDiff, Nat.reduceMul, Int.reduceLT, Int.reduceLE, Int.reduceEq, Int.reduceNe, Int.reduceAdd, Int.reduceSub, Int.reduceMul, Int.reduceNeg, Int.reduceToNat]
  · refine q_use (impl_decimal (t.keep (upd_other (by omega))) (mid64 ha) _) fun n1 hn1 => ?_
    simp (maxSteps := 2000000) -implicitDefEqProofs (disch := omega) only [xsW, xsC, xsD, xsE, fillA, reduceCtorEq, Nat.reduceAdd, Nat.reduceSub, Nat.reduceLeDiff, Nat.reduceMul, Int.reduceLT, Int.reduceLE, Int.reduceEq, Int.reduceNe, Int.reduceAdd, Int.reduceSub, Int.reduceMul, Int.reduceNeg, Int.reduceToNat,  sc47, bs_size, bs_app]
    refine ⟨by omega, ?_⟩
    refine q_use (impl_decimal (t.keep (upd_other (by omega))) (mid64 hb) _) fun n2 hn2 => ?_
    simp (maxSteps := 2000000) -implicitDefEqProofs (disch := omega) only [xsW, xsC, xsD, xsE, fillA, reduceCtorEq, Nat.reduceAdd, Nat.reduceSub, Nat.reduceLeDiff, Nat.reduceMul, Int.reduceLT, Int.reduceLE, Int.reduceEq, Int.reduceNe, Int.reduceAdd, Int.reduceSub, Int.reduceMul, Int.reduceNeg, Int.reduceToNat,  sc47, bs_size, bs_app]
    omega
theorem spec_l01FracText {h : AH} (t : Tab h) {a b : Int} (ha : -1000000000000 ≤ a ∧ a ≤ 1000000000000) (hb : -1000000000000 ≤ b ∧ b ≤ 1000000000000) (n : Nat) (hn : 1 ≤ n) : Q Tryd.prog 35 [fr a b] h n (.str (bs (frT a b))) := by
  have la := itoa_len (mid64 ha)
  have lb := itoa_len (mid64 hb)
  refine q_intro Tryd.func35 k_spec_l01FracText ?_
  simp (maxSteps := 2000000) -implicitDefEqProofs (disch := omega) only [c_spec_l01FracText, fr, xsW, xsC, xsD, xsE, fillA, reduceCtorEq, Nat.reduceAdd, Nat.reduceSub, Nat.reduceLeDiff, Nat.reduceMul, Int.reduceLT, Int.reduceLE, Int.reduceEq, Int.reduceNe, Int.reduceAdd, Int.reduceSub, Int.reduceMul, Int.reduceNeg, Int.reduceToNat]
  unfold frT
  (refine cd_dec (fun c1 => ?_) (fun c1 => ?_) <;> simp (maxSteps := 2000000) -implicitDefEqProofs (disch := omega) only [xsW, xsC, xsD, xsE, fillA, reduceCtorEq, Nat.reduceAdd, Nat.reduceSub, Nat.reduceLeDiff, Nat.reduceMul, Int.reduceLT, Int.reduceLE, Int.reduceEq, Int.reduceNe, Int.reduceAdd, Int.reduceSub, Int.reduceMul, Int.reduceNeg, Int.reduceToNat,  c1])
  · refine q_use (spec_l01Dec (by omega) (by omega) _ _) fun n1 hn1 => ?_
    simp (maxSteps := 2000000) -implicitDefEqProofs (disch := omega) only [xsW, xsC, xsD, xsE, fillA, reduceCtorEq, Nat.reduceAdd, Nat.reduceSub, Nat.reduceLeDiff, Nat.reduceMul, Int.reduceLT, Int.reduceLE, Int.reduceEq, Int.reduceNe, Int.reduceAdd, Int.reduceSub, Int.reduceMul, Int.reduceNeg, Int.reduceToNat]
  · refine q_use (spec_l01Dec (by omega) (by omega) _ _) fun n1 hn1 => ?_
    simp (maxSteps := 2000000) -implicitDefEqProofs (disch := omega) only [xsW, xsC, xsD, xsE, fillA, reduceCtorEq, Nat.reduceAdd, Nat.reduceSub, Nat.reduceLeDiff, Nat.reduceMul, Int.reduceLT, Int.reduceLE, Int.reduceEq, Int.reduceNe, Int.reduceAdd, Int.reduceSub, Int.reduceMul, Int.reduceNeg, Int.reduceToNat,  sc47, bs_size, bs_app]
    refine ⟨by omega, ?_⟩
    refine q_use (spec_l01Dec (by omega) (by omega) _ _) fun n2 hn2 => ?_
    simp (maxSteps := 2000000) -implicitDefEqProofs (disch := omega) only [xsW, xsC, xsD, xsE, fillA, reduceCtorEq, Nat.reduceAdd, Nat.reduceSub, Nat.reduceLeDiff, Nat.reduceMul, Int.reduceLT, Int.reduceLE, Int.reduceEq, Int.reduceNe, Int.reduceAdd, Int.reduceSub, Int.reduceMul, Int.reduceNeg, Int.reduceToNat,  sc47, bs_size, bs_app]
    omega
theorem isFr_c {m a b : Int} (h : isFr m a b = true) : 1 ≤ b ∧ b ≤ m ∧ -m ≤ a ∧ a ≤ m := by
  unfold isFr at h
  rw [decide_eq_true_eq] at h
  exact ⟨h.1, h.2.1, h.2.2.1, h.2.2.2.1⟩
def frTV (a b : Int) : List UInt8 × Int := if isFr 1000000000 a b = true then (frT a b, 0) else ([], 1)
theorem impl_FracText {h : AH} (t : Tab h) (a b : Int) (n : Nat) (hn : 1 ≤ n) : Q Tryd.prog 9 [fr a b] h n (.tup [.str (bs (frTV a b).1), .int .i64 (frTV a b).2]) := by
  refine q_intro Tryd.func9 k_impl_FracText ?_
  simp (maxSteps := 2000000) -implicitDefEqProofs (disch := omega) only [c_impl_FracText, fr, xsW, xsC, xsD, xsE, fillA, reduceCtorEq, Nat.reduceAdd, Nat.reduceSub, Nat.reduceLeDiff, Nat.reduceMul, Int.reduceLT, Int.reduceLE, Int.reduceEq, Int.reduceNe, Int.reduceAdd, Int.reduceSub, Int.reduceMul, Int.reduceNeg, Int.reduceToNat]
  refine q_use (impl_IsFrac a b _ _) fun n1 hn1 => ?_
  unfold frTV
  cases hf : isFr 1000000000 a b
  · simp (maxSteps := 2000000) -implicitDefEqProofs (disch := omega) only [xsW, xsC, xsD, xsE, fillA, reduceCtorEq, Nat.reduceAdd, Nat.reduceSub, Nat.reduceLeDiff, Nat.reduceMul, Int.reduceLT, Int.reduceLE, Int.reduceEq, Int.reduceNe, Int.reduceAdd, Int.reduceSub, Int.reduceMul, Int.reduceNeg, Int.reduceToNat,  sc0]
  · obtain ⟨h1, h2, h3, h4⟩ := isFr_c hf
    simp (maxSteps := 2000000) -implicitDefEqProofs (disch := omega) only [xsW, xsC, xsD, xsE, fillA, reduceCtorEq, Nat.reduceAdd, Nat.reduceSub, Nat.reduceLeDiff, Nat.reduceMul, Int.reduceLT, Int.reduceLE, Int.reduceEq, Int.reduceNe, Int.reduceAdd, Int.reduceSub, Int.reduceMul, Int.reduceNeg, Int.reduceToNat,  fr]
    refine q_use (impl_fracText (t.keep (upd_other (by omega))) (by omega) (by omega) _ (by omega)) fun n2 hn2 => ?_
    simp (maxSteps := 2000000) -implicitDefEqProofs (disch := omega) only [xsW, xsC, xsD, xsE, fillA, reduceCtorEq, Nat.reduceAdd, Nat.reduceSub, Nat.reduceLeDiff, Nat.reduceMul, Int.reduceLT, Int.reduceLE, Int.reduceEq, Int.reduceNe, Int.reduceAdd, Int.reduceSub, Int.reduceMul, Int.reduceNeg, Int.reduceToNat]
theorem spec_FracText {h : AH} (t : Tab h) (a b : Int) (n : Nat) (hn : 1 ≤ n) : Q Tryd.prog 7 [fr a b] h n (.tup [.str (bs (frTV a b).1), .int .i64 (frTV a b).2]) := by
  refine q_intro Tryd.func7 k_spec_FracText ?_
  simp (maxSteps := 2000000) -implicitDefEqProofs (disch := omega) only [c_spec_FracText, fr, xsW, xsC, xsD, xsE, fillA, reduceCtorEq, Nat.reduceAdd, Nat.reduceSub, Nat.reduceLeDiff, Nat.reduceMul, Int.reduceLT, Int.reduceLE, Int.reduceEq, Int.reduceNe, Int.reduceAdd, Int.reduceSub, Int.reduceMul, Int.reduceNeg, Int.reduceToNat]
  refine q_use (spec_IsFrac a b _ _) fun n1 hn1 => ?_
  unfold frTV
  cases hf : isFr 1000000000 a b
  · simp (maxSteps := 2000000) -implicitDefEqProofs (disch := omega) only [xsW, xsC, xsD, xsE, fillA, reduceCtorEq, Nat.reduceAdd, Nat.reduceSub, Nat.reduceLeDiff, Nat.reduceMul, Int.reduceLT, Int.reduceLE, Int.reduceEq, Int.reduceNe, Int.reduceAdd, Int.reduceSub, Int.reduceMul, Int.reduceNeg, Int.reduceToNat,  sc0]
  · obtain ⟨h1, h2, h3, h4⟩ := isFr_c hf
    simp (maxSteps := 2000000) -implicitDefEqProofs (disch := omega) only [xsW, xsC, xsD, xsE, fillA, reduceCtorEq, Nat.reduceAdd, Nat.reduceSub, Nat.reduceLeDiff, Nat.reduceMul, Int.reduceLT, Int.reduceLE, Int.reduceEq, Int.reduceNe, Int.reduceAdd, Int.reduceSub, Int.reduceMul, Int.reduceNeg, Int.reduceToNat,  fr]
    refine q_use (spec_l01FracText (t.keep (upd_other (by omega))) (by omega) (by omega) _ (by omega)) fun n2 hn2 => ?_
    simp (maxSteps := 2000000) -implicitDefEqProofs (disch := omega) only [xsW, xsC, xsD, xsE, fillA, reduceCtorEq, Nat.reduceAdd, Nat.reduceSub, Nat.reduceLeDiff, Nat.reduceMul, Int.reduceLT, Int.reduceLE, Int.reduceEq, Int.reduceNe, Int.reduceAdd, Int.reduceSub, Int.reduceMul, Int.reduceNeg, Int.reduceToNat]
def c_spec_l01From : F := ⟨(.seq (.reg false [⟨some 2, .mv (.c .nilptr), none⟩]) (.seq (.reg false [⟨some 5, .mv (.t 0), none⟩, ⟨some 6, .mv (.t 0), none⟩, ⟨some 7, .len (.t 6), none⟩, ⟨some 8, .cvi .u64 (.t 7), none⟩, ⟨some 9, .bin .add (.c (.int .u64 13431)) (.t 8), none⟩, ⟨some 10, .build [.nilsl, (.int .i64 0), (.int .u64 0)] [(0, (1, (.t 5))), (2, (1, (.t 9)))], none⟩, ⟨some 11, .box 95 (.t 10), none⟩, ⟨some 3, .mv (.t 11), none⟩]) (.seq (.seq (.reg false [⟨some 4, .mv (.c (.int .i64 0)), none⟩]) (.block 0 (.loop (.seq (.seq (.reg false [⟨some 12, .mv (.t 4), none⟩, ⟨some 13, .mv (.t 0), none⟩, ⟨some 14, .len (.t 13), none⟩, ⟨some 15, .bin .lss (.t 12) (.t 14), none⟩, ⟨some 16, .mv (.t 15), none⟩, ⟨some 17, .mv (.t 4), some (16, true)⟩, ⟨some 18, .bin .lss (.t 17) (.c (.int .i64 4096)), some (16, true)⟩, ⟨some 19, .pick (.t 16) (.t 18) (.c (.bool false)), none⟩]) (.cond (.t 19) .skip (.exit 0))) (.seq (.block 1 (.reg true [⟨some 22, .mv (.t 3), none⟩, ⟨some 23, .mv (.t 3), none⟩, ⟨some 24, .nck (.t 23), none⟩, ⟨some 25, .fa 2 (.t 24), none⟩, ⟨some 26, .ld1 (.t 25), none⟩, ⟨some 27, .bin .mul (.t 26) (.c (.int .u64 1099511628211)), none⟩, ⟨some 28, .mv (.t 0), none⟩, ⟨some 29, .mv (.t 4), none⟩, ⟨some 30, .ia 1 (.t 28) (.t 29), none⟩, ⟨some 31, .ld1 (.t 30), none⟩, ⟨some 32, .cvi .u64 (.t 31), none⟩, ⟨some 33, .bin .add (.t 27) (.t 32), none⟩, ⟨some 34, .bin .add (.t 33) (.c (.int .u64 167)), none⟩, ⟨some 35, .nck (.t 22), none⟩, ⟨some 36, .fa 2 (.t 35), none⟩, ⟨none, .st 1 (.t 36) (.t 34), none⟩])) (.reg false [⟨some 20, .mv (.t 4), none⟩, ⟨some 21, .bin .add (.t 20) (.c (.int .i64 1)), none⟩, ⟨some 4, .mv (.t 21), none⟩])))))) (.seq (.reg false [⟨some 37, .mv (.t 3), none⟩, ⟨some 2, .mv (.t 37), none⟩]) .ret)))), 38, [(.t 2)]⟩
theorem k_spec_l01From : compF Tryd.prog Tryd.f37 = some c_spec_l01From := by kernel_rfl
def c_spec_l01Next : F := ⟨(.seq (.reg false [⟨some 4, .mv (.c (.int .i64 0)), none⟩]) (.seq (.seq (.reg false [⟨some 6, .mv (.t 1), none⟩, ⟨some 7, .bin .lss (.t 6) (.c (.int .i64 1)), none⟩]) (.cond (.t 7) (.seq (.reg false [⟨some 4, .mv (.c (.int .i64 0)), none⟩]) .ret) .skip)) (.seq (.reg false [⟨some 8, .mv (.t 0), none⟩, ⟨some 9, .mv (.t 0), none⟩, ⟨some 10, .nck (.t 9), none⟩, ⟨some 11, .fa 2 (.t 10), none⟩, ⟨some 12, .ld1 (.t 11), none⟩, ⟨some 13, .bin .mul (.t 12) (.c (.int .u64 6364136223846793005)), none⟩, ⟨some 14, .bin .add (.t 13) (.c (.int .u64 1442695040888963407)), none⟩, ⟨some 15, .nck (.t 8), none⟩, ⟨some 16, .fa 2 (.t 15), none⟩, ⟨none, .st 1 (.t 16) (.t 14), none⟩]) (.seq (.reg false [⟨some 17, .mv (.t 0), none⟩, ⟨some 18, .nck (.t 17), none⟩, ⟨some 19, .fa 2 (.t 18), none⟩, ⟨some 20, .ld1 (.t 19), none⟩, ⟨some 21, .bin .shr (.t 20) (.c (.int .u64 31)), none⟩, ⟨some 22, .bin .and (.t 21) (.c (.int .u64 1073741823)), none⟩, ⟨some 23, .cvi .i64 (.t 22), none⟩, ⟨some 5, .mv (.t 23), none⟩]) (.seq (.seq (.reg true [⟨some 24, .mv (.t 0), none⟩, ⟨some 25, .nck (.t 24), none⟩, ⟨some 26, .fa 1 (.t 25), none⟩, ⟨some 27, .ld1 (.t 26), none⟩, ⟨some 28, .mv (.t 0), none⟩, ⟨some 29, .nck (.t 28), none⟩, ⟨some 30, .fa 0 (.t 29), none⟩, ⟨some 31, .ld1 (.t 30), none⟩, ⟨some 32, .len (.t 31), none⟩, ⟨some 33, .bin .lss (.t 27) (.t 32), none⟩]) (.cond (.t 33) (.seq (.reg true [⟨some 34, .mv (.t 5), none⟩, ⟨some 35, .mv (.t 0), none⟩, ⟨some 36, .nck (.t 35), none⟩, ⟨some 37, .fa 0 (.t 36), none⟩, ⟨some 38, .ld1 (.t 37), none⟩, ⟨some 39, .mv (.t 0), none⟩, ⟨some 40, .nck (.t 39), none⟩, ⟨some 41, .fa 1 (.t 40), none⟩, ⟨some 42, .ld1 (.t 41), none⟩, ⟨some 43, .ia 1 (.t 38) (.t 42), none⟩, ⟨some 44, .ld1 (.t 43), none⟩, ⟨some 45, .cvi .i64 (.t 44), none⟩, ⟨some 46, .bin .add (.t 34) (.t 45), none⟩, ⟨some 5, .mv (.t 46), none⟩]) (.reg false [⟨some 47, .mv (.t 0), none⟩, ⟨some 48, .mv (.t 0), none⟩, ⟨some 49, .nck (.t 48), none⟩, ⟨some 50, .fa 1 (.t 49), none⟩, ⟨some 51, .ld1 (.t 50), none⟩, ⟨some 52, .bin .add (.t 51) (.c (.int .i64 1)), none⟩, ⟨some 53, .nck (.t 47), none⟩, ⟨some 54, .fa 1 (.t 53), none⟩, ⟨none, .st 1 (.t 54) (.t 52), none⟩])) .skip)) (.seq (.reg false [⟨some 55, .mv (.t 5), none⟩, ⟨some 56, .mv (.t 1), none⟩, ⟨some 57, .bin .rem (.t 55) (.t 56), none⟩, ⟨some 4, .mv (.t 57), none⟩]) .ret)))))), 58, [(.t 4)]⟩
theorem k_spec_l01Next : compF Tryd.prog Tryd.f39 = some c_spec_l01Next := by kernel_rfl
def c_spec_l01Pick : F := ⟨(.seq (.reg false [⟨some 4, .mv (.c (.int .i64 0)), none⟩]) (.seq (.reg false [⟨some 5, .mv (.t 1), none⟩, ⟨some 6, .mv (.t 0), none⟩, ⟨some 7, .mv (.t 1), none⟩, ⟨some 8, .len (.t 7), none⟩, ⟨some 9, .call (.f 39) [(.t 6), (.t 8)], none⟩, ⟨some 10, .ia 1 (.t 5) (.t 9), none⟩, ⟨some 11, .ld1 (.t 10), none⟩, ⟨some 4, .mv (.t 11), none⟩]) .ret)), 12, [(.t 4)]⟩
theorem k_spec_l01Pick : compF Tryd.prog Tryd.f42 = some c_spec_l01Pick := by kernel_rfl
def c_spec_l01DrawPart : F := ⟨(.seq (.reg false [⟨some 4, .mv (.c (.int .i64 0)), none⟩]) (.seq (.reg false [⟨some 5, .mv (.t 0), none⟩, ⟨some 6, .mv (.t 1), none⟩, ⟨some 7, .bin .mul (.c (.int .i64 2)) (.t 6), none⟩, ⟨some 8, .bin .add (.t 7) (.c (.int .i64 1)), none⟩, ⟨some 9, .call (.f 39) [(.t 5), (.t 8)], none⟩, ⟨some 10, .mv (.t 1), none⟩, ⟨some 11, .bin .sub (.t 9) (.t 10), none⟩, ⟨some 4, .mv (.t 11), none⟩]) .ret)), 12, [(.t 4)]⟩
theorem k_spec_l01DrawPart : compF Tryd.prog Tryd.f41 = some c_spec_l01DrawPart := by kernel_rfl

def Rnd (bnd b : Nat) (h : AH) : Prop := ∃ (vc : AV) (code : List Int) (a : Nat) (hash : Int), h b = some ⟨95, [vc, .int .i64 a, .int .u64 hash], true, 0⟩ ∧ Sl false 0 bnd h 1 vc (bytesA code) ∧ code.length ≤ 4096 ∧ (∀ x ∈ code, 0 ≤ x ∧ x ≤ 255) ∧ a ≤ code.length
theorem Rnd.keep {bnd b : Nat} {h h' : AH} (r : Rnd bnd b h) (hb : h' b = h b) (k : ∀ j, j < bnd → h' j = h j) : Rnd bnd b h' := by
  obtain ⟨vc, code, a, hash, h1, h2, h3⟩ := r
  exact ⟨vc, code, a, hash, by rw [hb]; exact h1, h2.keep fun j _ hj => k j hj, h3⟩
theorem Rnd.blk {bnd b : Nat} {h : AH} (r : Rnd bnd b h) : ∃ bl, h b = some bl ∧ bl.wr = true := by
  obtain ⟨vc, code, a, hash, h1, _⟩ := r
  exact ⟨_, h1, rfl⟩
theorem and_small (x : Int) : 0 ≤ bitv .and .u64 x 1073741823 ∧ bitv .and .u64 x 1073741823 ≤ 1073741823 := by
  simp only [bitv]
  have h : (BitVec.ofInt IntKind.u64.bits x &&& BitVec.ofInt IntKind.u64.bits 1073741823).toNat ≤ 1073741823 := by
    rw [BitVec.toNat_and]
    refine Nat.le_trans Nat.and_le_right ?_
    decide
  generalize (BitVec.ofInt IntKind.u64.bits x &&& BitVec.ofInt IntKind.u64.bits 1073741823).toNat = m at h
  have : IntKind.u64.wrap (m : Int) = m := by simp [IntKind.wrap, IntKind.bits, IntKind.signed]; omega
  rw [this]
  omega
def NextP (k : Int) (x : AV) : Prop := ∃ y : Int, x = .int .i64 y ∧ 0 ≤ y ∧ (1 ≤ k → y < k) ∧ (k < 1 → y = 0)
def PickP (l : List Int) (x : AV) : Prop := ∃ y : Int, x = .int .i64 y ∧ y ∈ l
def PartP (k : Int) (x : AV) : Prop := ∃ y : Int, x = .int .i64 y ∧ -k ≤ y ∧ y ≤ k
def Same (b : Nat) (h' h : AH) : Prop := ∀ j, j ≠ b → h' j = h j
section
variable {bnd b : Nat} {h : AH}
theorem spec_l01Next (r : Rnd bnd b h) (hb : bnd ≤ b) (k : Int) (n : Nat) (hn : b < n) :
    MQ Tryd.prog 39 [.ptr b 0, .int .i64 k] h n b (b + 1) fun x h' n' => n' = n ∧ NextP k x ∧ Rnd bnd b h' ∧ Same b h' h := by
  refine mq_intro Tryd.func39 k_spec_l01Next ?_
  obtain ⟨vc, code, a, hash, h1, h2, h3, h4, h5⟩ := r
  have r0 : Rnd bnd b h := ⟨vc, code, a, hash, h1, h2, h3, h4, h5⟩
  simp (maxSteps := 2000000) -implicitDefEqProofs (disch := omega) only [c_spec_l01Next, xsW, xsC, xsD, xsE, fillA, reduceCtorEq, Nat.reduceAdd, Nat.reduceSub, Nat.reduceLeDiff, Nat.reduceMul, Int.reduceLT, Int.reduceLE, Int.reduceEq, Int.reduceNe, Int.reduceAdd, Int.reduceSub, Int.reduceMul, Int.reduceNeg, Int.reduceToNat]
  (refine cd_dec (fun c1 => ?_) (fun c1 => ?_) <;> simp (maxSteps := 2000000) -implicitDefEqProofs (disch := omega) only [xsW, xsC, xsD, xsE, fillA, reduceCtorEq, Nat.reduceAdd, Nat.reduceSub, Nat.reduceLeDiff, Nat.reduceMul, Int.reduceLT, Int.reduceLE, Int.reduceEq, Int.reduceNe, Int.reduceAdd, Int.reduceSub, Int.reduceMul, Int.reduceNeg, Int.reduceToNat,  c1])
  · exact ⟨⟨0, rfl, by omega, fun h => by omega, fun _ => rfl⟩, r0, fun _ _ => rfl⟩
  · simp (maxSteps := 2000000) -implicitDefEqProofs (disch := omega) only [xsW, xsC, xsD, xsE, fillA, reduceCtorEq, Nat.reduceAdd, Nat.reduceSub, Nat.reduceLeDiff, Nat.reduceMul, Int.reduceLT, Int.reduceLE, Int.reduceEq, Int.reduceNe, Int.reduceAdd, Int.reduceSub, Int.reduceMul, Int.reduceNeg, Int.reduceToNat,  h1]
    refine ⟨hn, .inr (by omega), ?_⟩
    generalize IntKind.u64.wrap (IntKind.u64.wrap (hash * 6364136223846793005) + 1442695040888963407) = hash2
    have hx := and_small (hash2.fdiv (2 ^ min 31 IntKind.u64.bits))
    generalize bitv BinOp.and IntKind.u64 (hash2.fdiv (2 ^ min 31 IntKind.u64.bits)) 1073741823 = X at hx ⊢
    have hup : ∀ (a' : Nat) (hash' : Int) (h2' : AH), (∀ j, j ≠ b → h2' j = h j) → h2' b = some ⟨95, [vc, .int .i64 a', .int .u64 hash'], true, 0⟩ → a' ≤ code.length → Rnd bnd b h2' := fun a' hash' h2' e1 e2 e3 =>
      ⟨vc, code, a', hash', e2, h2.keep fun j _ hj => e1 j (by omega), h3, h4, e3⟩
    have fin : ∀ y : Int, 0 ≤ y → NextP k (.int .i64 (y.tmod k)) := fun y hy => ⟨_, rfl, Int.tmod_nonneg _ hy, fun _ => Int.tmod_lt_of_pos _ (by omega), fun _ => by omega⟩
    have hsl : slen vc = code.length := by have := h2.len; rw [bytesA_len] at this; omega
    refine ⟨by unfold in64; omega, ?_⟩
    simp (maxSteps := 2000000) -implicitDefEqProofs (disch := omega) only [xsW, xsC, xsD, xsE, fillA, reduceCtorEq, Nat.reduceAdd, Nat.reduceSub, Nat.reduceLeDiff, Nat.reduceMul, Int.reduceLT, Int.reduceLE, Int.reduceEq, Int.reduceNe, Int.reduceAdd, Int.reduceSub, Int.reduceMul, Int.reduceNeg, Int.reduceToNat,  h2.ln, hsl]
    (refine cd_dec (fun c2 => ?_) (fun c2 => ?_) <;> simp (maxSteps := 2000000) -implicitDefEqProofs (disch := omega) only [xsW, xsC, xsD, xsE, fillA, reduceCtorEq, Nat.reduceAdd, Nat.reduceSub, Nat.reduceLeDiff, Nat.reduceMul, Int.reduceLT, Int.reduceLE, Int.reduceEq, Int.reduceNe, Int.reduceAdd, Int.reduceSub, Int.reduceMul, Int.reduceNeg, Int.reduceToNat,  c2])
    · have ha : a < code.length := by omega
      have hby := h4 _ (getD_mem (d := 0) ha)
      have hbel := h2.below (by omega)
      have hld := fun (K : AV → AH → Nat → Prop) (h' : AH) (n : Nat) => h2.ld (k := a) (by rw [bytesA_len]; exact ha) K h' n
      rw [bytesA_get code a ha] at hld
      simp (maxSteps := 2000000) -implicitDefEqProofs (disch := omega) only [xsW, xsC, xsD, xsE, fillA, reduceCtorEq, Nat.reduceAdd, Nat.reduceSub, Nat.reduceLeDiff, Nat.reduceMul, Int.reduceLT, Int.reduceLE, Int.reduceEq, Int.reduceNe, Int.reduceAdd, Int.reduceSub, Int.reduceMul, Int.reduceNeg, Int.reduceToNat,  h2.ia, hsl, hld]
      exact ⟨hn, .inr (by omega), fin _ (by omega), hup (a + 1) hash2 _ (fun j hj => upd_other hj) (by rw [upd_same, Int.natCast_add]; rfl) (by omega), fun j hj => upd_other hj⟩
    · exact ⟨fin _ (by omega), hup a hash2 _ (fun j hj => upd_other hj) (by rw [upd_same]) (by omega), fun j hj => upd_other hj⟩
theorem spec_l01Pick {w : Bool} {lo hi : Nat} {v : AV} {l : List Int} (r : Rnd bnd b h) (hb : bnd ≤ b) (s : Ints w lo hi h v l) (hd : b < lo) (hl : 0 < l.length) (hl2 : l.length ≤ 100) (n : Nat) (hn : b < n) :
    MQ Tryd.prog 42 [.ptr b 0, v] h n b (b + 1) fun x h' n' => n' = n ∧ PickP l x ∧ Rnd bnd b h' ∧ Same b h' h := by
  refine mq_intro Tryd.func42 k_spec_l01Pick ?_
  simp (maxSteps := 2000000) -implicitDefEqProofs (disch := omega) only [c_spec_l01Pick, s.ln, xsW, xsC, xsD, xsE, fillA, reduceCtorEq, Nat.reduceAdd, Nat.reduceSub, Nat.reduceLeDiff, Nat.reduceMul, Int.reduceLT, Int.reduceLE, Int.reduceEq, Int.reduceNe, Int.reduceAdd, Int.reduceSub, Int.reduceMul, Int.reduceNeg, Int.reduceToNat]
  refine mq_use (spec_l01Next r hb _ n hn) (fun i a c => .inr ⟨by omega, by omega⟩) fun x h' n' hn' ⟨en, ⟨y, hy, y0, y1, _⟩, r', sm⟩ => ?_
  subst en
  subst hy
  have y2 := y1 (by omega)
  obtain ⟨m, rfl⟩ : ∃ m : Nat, y = m := ⟨y.toNat, by omega⟩
  have s' := s.keep (h' := h') fun i a c => sm i (by omega)
  simp (maxSteps := 2000000) -implicitDefEqProofs (disch := omega) only [xsW, xsC, xsD, xsE, fillA, reduceCtorEq, Nat.reduceAdd, Nat.reduceSub, Nat.reduceLeDiff, Nat.reduceMul, Int.reduceLT, Int.reduceLE, Int.reduceEq, Int.reduceNe, Int.reduceAdd, Int.reduceSub, Int.reduceMul, Int.reduceNeg, Int.reduceToNat,  s'.ia, s'.ld]
  exact ⟨⟨_, rfl, getD_mem (by omega)⟩, r', sm⟩
theorem spec_l01DrawPart (r : Rnd bnd b h) (hb : bnd ≤ b) (k : Int) (h0 : 0 ≤ k) (h1 : k ≤ 1000000000000) (n : Nat) (hn : b < n) :
    MQ Tryd.prog 41 [.ptr b 0, .int .i64 k] h n b (b + 1) fun x h' n' => n' = n ∧ PartP k x ∧ Rnd bnd b h' ∧ Same b h' h := by
  refine mq_intro Tryd.func41 k_spec_l01DrawPart ?_
  simp (maxSteps := 2000000) -implicitDefEqProofs (disch := omega) only [c_spec_l01DrawPart, xsW, xsC, xsD, xsE, fillA, reduceCtorEq, Nat.reduceAdd, Nat.reduceSub, Nat.reduceLeDiff, Nat.reduceMul, Int.reduceLT, Int.reduceLE, Int.reduceEq, Int.reduceNe, Int.reduceAdd, Int.reduceSub, Int.reduceMul, Int.reduceNeg, Int.reduceToNat]
  refine mq_use (spec_l01Next r hb _ n hn) (fun i a c => .inr ⟨by omega, by omega⟩) fun x h' n' hn' ⟨en, ⟨y, hy, y0, y1, _⟩, r', sm⟩ => ?_
  subst en
  subst hy
  have y2 := y1 (by omega)
  simp (maxSteps := 2000000) -implicitDefEqProofs (disch := omega) only [xsW, xsC, xsD, xsE, fillA, reduceCtorEq, Nat.reduceAdd, Nat.reduceSub, Nat.reduceLeDiff, Nat.reduceMul, Int.reduceLT, Int.reduceLE, Int.reduceEq, Int.reduceNe, Int.reduceAdd, Int.reduceSub, Int.reduceMul, Int.reduceNeg, Int.reduceToNat]
  exact ⟨⟨_, rfl, by omega, by omega⟩, r', sm⟩
theorem spec_l01From {hi : Nat} {v : AV} {code : List Int} (s : Sl false 0 hi h 1 v (bytesA code)) (hl : code.length ≤ 4096) (hc : ∀ x ∈ code, 0 ≤ x ∧ x ≤ 255) (n : Nat) (hn : hi ≤ n) :
    FQ Tryd.prog 37 [v] h n fun x h' n' => x = .ptr n 0 ∧ n < n' ∧ Rnd hi n (fun j => if j = n then h' j else h j) := by
  refine fq_intro Tryd.func37 k_spec_l01From ?_
  have hsl : slen v = code.length := by have := s.len; rw [bytesA_len] at this; omega
  have x1 := one_any s.any
  have x2 := sto_any s.any
  have x3 := cel_any s.any
  simp (maxSteps := 2000000) -implicitDefEqProofs (disch := omega) only [c_spec_l01From, s.ln, hsl, x1, x2, x3, xsW, xsC, xsD, xsE, fillA, reduceCtorEq, Nat.reduceAdd, Nat.reduceSub, Nat.reduceLeDiff, Nat.reduceMul, Int.reduceLT, Int.reduceLE, Int.reduceEq, Int.reduceNe, Int.reduceAdd, Int.reduceSub, Int.reduceMul, Int.reduceNeg, Int.reduceToNat]
  refine loop_for code.length 0 (fun k _ => [v, .any, .nilptr, .ptr n 0, .int .i64 k, .any, .any, .any, .any, .any, .any, .any, .any, .any, .any, .any, .any, .any, .any, .any, .any, .any, .any, .any, .any, .any, .any, .any, .any, .any, .any, .any, .any, .any, .any, .any, .any, .any]) (fun _ (hash : Int) => upd h n (some ⟨95, [v, .int .i64 0, .int .u64 hash], true, 0⟩))
    (fun _ _ _ => True) _ (Nat.zero_le _) trivial (by simp [LeL, Le1]) (fun _ _ h => h) ?_
  rintro k hash n1 - hk hn1 -
  simp (maxSteps := 2000000) -implicitDefEqProofs (disch := omega) only [xsW, xsC, xsD, xsE, fillA, reduceCtorEq, Nat.reduceAdd, Nat.reduceSub, Nat.reduceLeDiff, Nat.reduceMul, Int.reduceLT, Int.reduceLE, Int.reduceEq, Int.reduceNe, Int.reduceAdd, Int.reduceSub, Int.reduceMul, Int.reduceNeg, Int.reduceToNat,  s.ln, hsl]
  (refine gd_dec (fun c1 => ?_) (fun c1 => ?_) <;> simp (maxSteps := 2000000) -implicitDefEqProofs (disch := omega) only [xsW, xsC, xsD, xsE, fillA, reduceCtorEq, Nat.reduceAdd, Nat.reduceSub, Nat.reduceLeDiff, Nat.reduceMul, Int.reduceLT, Int.reduceLE, Int.reduceEq, Int.reduceNe, Int.reduceAdd, Int.reduceSub, Int.reduceMul, Int.reduceNeg, Int.reduceToNat,  c1])
  · have hk2 : k < code.length := by omega
    have hby := hc _ (getD_mem (d := 0) hk2)
    have hbel := s.below (by omega)
    have hld := fun (K : AV → AH → Nat → Prop) (h' : AH) (n : Nat) => s.ld (k := k) (by rw [bytesA_len]; exact hk2) K h' n
    rw [bytesA_get code k hk2] at hld
    simp (maxSteps := 2000000) -implicitDefEqProofs (disch := omega) only [xsW, xsC, xsD, xsE, fillA, reduceCtorEq, Nat.reduceAdd, Nat.reduceSub, Nat.reduceLeDiff, Nat.reduceMul, Int.reduceLT, Int.reduceLE, Int.reduceEq, Int.reduceNe, Int.reduceAdd, Int.reduceSub, Int.reduceMul, Int.reduceNeg, Int.reduceToNat,  s.ia, hsl, hld]
    exact ⟨_, by omega, by omega, (by simp [LeL, Le1]), fun _ _ h => h⟩
  · intro h0 h2 hh
    refine ⟨by omega, v, code, 0, hash, ?_, s.keep fun j _ hj => if_neg (by omega), hl, hc, Nat.zero_le _⟩
    show (if n = n then h2 n else h n) = _
    rw [if_pos rfl, hh n (Nat.le_refl _) (by omega), upd_same]
    rfl
end
def thinC : AV → AV
  | .int k n => .int k n
  | _ => .any
def thin (b : Blk) : Blk := ⟨b.ty, b.cells.map thinC, b.wr, b.op⟩
theorem thinC_int {c : AV} {k : IntKind} {n : Int} (h : thinC c = .int k n) : c = .int k n := by
  cases c <;> simp only [thinC] at h <;> first | exact h | (cases h)
theorem thinC_is {ρ ρ' : Rho} {c : AV} {x : Value} (h : Is ρ c x) : Is ρ' (thinC c) x := by
  cases c <;> simp only [thinC, Is] at h ⊢
  exact h
theorem cutA_map (f : AV → AV) (l : List AV) (o m : Nat) : cutA (l.map f) o m = (cutA l o m).map f := by simp [cutA, List.map_take, List.map_drop]
theorem thin_of (c : List Int) : (bytesA c).map thinC = bytesA c := by simp [bytesA, thinC]
theorem thin_bytes {l : List AV} {c : List Int} : l.map thinC = bytesA c → l = bytesA c := by
  induction l generalizing c with
  | nil => intro h; exact h
  | cons x l ih =>
    intro h
    cases c with
    | nil => simp [bytesA] at h
    | cons y c =>
      simp only [bytesA, List.map_cons, List.cons.injEq] at h ⊢
      exact ⟨thinC_int h.1, ih h.2⟩
section
variable {bnd b : Nat} {h h' : AH} {v : AV} {c : List Int}
theorem Sl.thin (s : Sl false 0 bnd h 1 v (bytesA c)) (k : ∀ j, j < bnd → h' j = (h j).map L.thin) : Sl false 0 bnd h' 1 v (bytesA c) :=
  ⟨s.len, s.shape.imp id (Or.imp id fun ⟨h1, h2, h3, b, h4, h5, h6, h7⟩ => ⟨h1, h2, h3, L.thin b, by rw [k _ h3, h4]; rfl, (fun h => by cases h), by simpa [L.thin] using h6, by rw [show (L.thin b).cells = b.cells.map thinC from rfl, cutA_map, h7, thin_of]⟩)⟩
theorem Sl.unthin (s : Sl false 0 bnd h' 1 v (bytesA c)) (k : ∀ j, j < bnd → h' j = (h j).map L.thin) : Sl false 0 bnd h 1 v (bytesA c) :=
  ⟨s.len, s.shape.imp id (Or.imp id fun ⟨h1, h2, h3, b, h4, h5, h6, h7⟩ => by
    rw [k _ h3] at h4
    cases hb : h (bid v) with
    | none => rw [hb] at h4; cases h4
    | some b0 =>
      rw [hb] at h4
      simp only [Option.map_some, Option.some.injEq] at h4
      subst h4
      refine ⟨h1, h2, h3, b0, rfl, (fun h => by cases h), by simpa [L.thin] using h6, thin_bytes ?_⟩
      rw [← cutA_map]
      exact h7)⟩
theorem Sl.bid_lt (s : Sl false 0 bnd h 1 v (bytesA c)) (hb : bnd ≤ b) : bid v ≤ b ∧ (v = .nilsl ∨ v = .sl0 ∨ isSl v = true) := by
  rcases s.shape with rfl | ⟨_, rfl⟩ | ⟨h1, _, h2, _⟩
  · exact ⟨Nat.zero_le _, .inl rfl⟩
  · exact ⟨Nat.zero_le _, .inr (.inl rfl)⟩
  · exact ⟨by omega, .inr (.inr h1)⟩
theorem is_bid {ρ ρ' : Rho} {x : Value} (hv : v = .nilsl ∨ v = .sl0 ∨ isSl v = true) (e : ρ' (bid v) = ρ (bid v)) (h : Is ρ' v x) : Is ρ v x := by
  rcases hv with rfl | rfl | hv
  · simpa [Is] using h
  · simpa [Is] using h
  · cases v with
    | sl i o n c => simp only [Is, bid] at h e ⊢; rw [← e]; exact h
    | so i n => simp only [Is, bid] at h e ⊢; rw [← e]; exact h
    | sx i o n => simp only [Is, bid] at h e ⊢; rw [← e]; exact h
    | _ => simp [isSl] at hv
theorem src_re {ρ ρ' : Rho} {w : World} {r : Ref} {ty : Nat} {a hash : Int} (hv : v = .nilsl ∨ v = .sl0 ∨ isSl v = true) (e : ρ' (bid v) = ρ (bid v)) (s : BlkAt ρ' w r ⟨ty, [v, .int .i64 a, .int .u64 hash], true, 0⟩) : BlkAt ρ w r ⟨ty, [v, .int .i64 a, .int .u64 hash], true, 0⟩ := by
  refine ⟨fun k c hk => ?_, s.own, s.fix⟩
  obtain ⟨u, hu, hi⟩ := s.cells k c hk
  refine ⟨u, hu, ?_⟩
  rcases k with _ | _ | _ | k
  · cases hk
    exact is_bid hv e hi
  · cases hk
    simpa [Is] using hi
  · cases hk
    simpa [Is] using hi
  · simp at hk
end
theorem rnd_narrow {P : Program} {f : Nat} {bnd b : Nat} {h : AH} {n : Nat} {R : AV → Prop} (r : Rnd bnd b h) (hb : bnd ≤ b) (hn : b < n) (hR : ∀ v, R v → ∀ ρ ρ' x, Is ρ' v x → Is ρ v x)
    (q : ∀ h1, Rnd bnd b h1 → MQ P f [.ptr b 0] h1 n b (b + 1) fun v h' n' => R v ∧ Rnd bnd b h' ∧ ∀ j, j < n → j ≠ b → h' j = h1 j) :
    MQ P f [.ptr b 0] h n b (b + 1) fun v h' n' => n' = n ∧ R v ∧ Rnd bnd b h' ∧ Same b h' h := by
  obtain ⟨vc, code, a, hash, f1, f2, f3⟩ := r
  obtain ⟨h1, hh1⟩ : ∃ h1 : AH, h1 = fun j => if j = b then h b else if j < bnd then (h j).map thin else none := ⟨_, rfl⟩
  have hb1 : h1 b = h b := by rw [hh1]; simp
  have hj1 : ∀ j, j < bnd → h1 j = (h j).map thin := fun j hj => by rw [hh1]; simp only; rw [if_neg (by omega), if_pos hj]
  obtain ⟨v, h', n', ⟨ok, hnn, hc⟩, hv, ⟨vc', code', a', hash', g1, g2, g3⟩, hs⟩ := q h1 ⟨vc, code, a, hash, by rw [hb1]; exact f1, f2.thin hj1, f3⟩
  have hs' : ∀ j, j < bnd → h' j = (h j).map thin := fun j hj => by rw [hs j (by omega) (by omega), hj1 j hj]
  obtain ⟨lt1, sh1⟩ := f2.bid_lt hb
  obtain ⟨lt2, sh2⟩ := g2.bid_lt hb
  refine ⟨v, upd h b (h' b), n, ⟨ok, Nat.le_refl _, fun ρ w vs hsim hargs _ => ?_⟩, rfl, hv, ⟨vc', code', a', hash', by rw [upd_same]; exact g1, (g2.unthin hs').keep fun j _ hj => upd_other (by omega), g3⟩, fun j hj => upd_other hj⟩
  obtain ⟨ρ1, hρ⟩ : ∃ ρ1 : Rho, ρ1 = fun j => if n ≤ j then none else ρ j := ⟨_, rfl⟩
  have hρl : ∀ j, j < n → ρ1 j = ρ j := fun j hj => by rw [hρ]; simp only; rw [if_neg (by omega)]
  have hρf : ∀ j, n ≤ j → ρ1 j = none := fun j hj => by rw [hρ]; simp only; rw [if_pos hj]
  have tel : ∀ i bi, h1 i = some bi → i < n ∧ ∃ b0, h i = some b0 ∧ bi.wr = b0.wr ∧ (bi.cells ≠ [] → b0.cells ≠ []) ∧ ∀ r, BlkAt ρ w r b0 → BlkAt ρ1 w r bi := fun i bi hi => by
    by_cases e : i = b
    · subst e
      rw [hb1, f1] at hi
      cases hi
      exact ⟨hn, _, f1, rfl, id, fun r hr => src_re sh1 (hρl _ (by omega)).symm hr⟩
    · rw [hh1] at hi
      simp only [if_neg e] at hi
      split at hi
      · rename_i hlt
        cases hb0 : h i with
        | none => rw [hb0] at hi; cases hi
        | some b0 =>
          rw [hb0] at hi
          cases hi
          refine ⟨by omega, b0, rfl, rfl, fun hne => (by intro e0; apply hne; simp [thin, e0]), fun r hr => ⟨fun k c hk => ?_, ?_, ?_⟩⟩
          · simp only [thin, List.getElem?_map, Option.map_eq_some_iff] at hk
            obtain ⟨c0, hc0, rfl⟩ := hk
            obtain ⟨u, hu, his⟩ := hr.cells k c0 hc0
            exact ⟨u, hu, thinC_is his⟩
          · intro hw
            simpa [thin] using hr.own hw
          · intro hw ho hne
            have := hr.fix hw ho (by intro e0; apply hne; simp [thin, e0])
            simpa [thin] using this
      · cases hi
  have sim1 : Sim ρ1 h1 w := by
    refine ⟨fun i bi hi => ?_, fun i j bi bj ri rj hi hj hne hw hw2 hri hrj => ?_⟩
    · obtain ⟨hlt, b0, e0, _, _, hat⟩ := tel i bi hi
      obtain ⟨r, hr, hr2⟩ := hsim.lies i b0 e0
      exact ⟨r, by rw [hρl i hlt]; exact hr, hat r hr2⟩
    · obtain ⟨lti, b0, e0, w0, c0, _⟩ := tel i bi hi
      obtain ⟨ltj, b2, e2, w2, c2, _⟩ := tel j bj hj
      rw [hρl i lti] at hri
      rw [hρl j ltj] at hrj
      exact hsim.inj i j b0 b2 ri rj e0 e2 hne (by rw [← w0]; exact hw) (hw2.imp (fun q => by rw [← w2]; exact q) c2) hri hrj
  have args1 : IsL ρ1 [.ptr b 0] vs := by
    simp only [IsL, Is] at hargs ⊢
    rw [hρl b hn]
    exact hargs
  have call := hc ρ1 w vs sim1 args1 (fun i h1 _ => hρf i h1)
  refine call.mono ?_
  rintro e w' ⟨rv, ρ', he, hrv, hsim', hcx⟩
  refine ⟨rv, ρ, he, hR v hv _ _ _ hrv, ⟨fun i bi hi => ?_, fun i j bi bj ri rj hi hj hne hw hw2 hri hrj => ?_⟩, ?_⟩
  · by_cases e : i = b
    · subst e
      rw [upd_same, g1] at hi
      cases hi
      obtain ⟨r, hr, hat⟩ := hsim'.lies i _ g1
      have o1 := hcx.old i hn
      have o2 := hcx.old (bid vc') (by show bid vc' < n; omega)
      simp only at o1 o2
      refine ⟨r, by rw [← hρl i hn, ← o1]; exact hr, src_re sh2 (by rw [o2]; exact hρl _ (by omega)) hat⟩
    · rw [upd_other e] at hi
      obtain ⟨r, hr, hat⟩ := hsim.lies i bi hi
      by_cases hne : bi.wr = true ∨ bi.cells ≠ []
      · refine ⟨r, hr, hat.keep (Ext.refl _) (hcx.blk r.b (hat.lt hne) fun i2 r2 hi2 hW hr2 => ?_)⟩
        have : i2 = b := by have := hW.1; have := hW.2; omega
        subst this
        simp only [hρl i2 hn] at hr2
        exact hsim.inj i2 i _ bi r2 r f1 hi (Ne.symm e) rfl hne hr2 hr
      · refine ⟨r, hr, fun k c hk => ?_, fun hw => absurd (.inl hw) hne, fun _ _ hc => absurd (.inr hc) hne⟩
        exact absurd (.inr (by intro e0; rw [e0] at hk; simp at hk)) hne
  · have und : ∀ i bi, upd h b (h' b) i = some bi → ∃ b0, h i = some b0 ∧ (bi.wr = true → b0.wr = true) ∧ ((bi.wr = true ∨ bi.cells ≠ []) → (b0.wr = true ∨ b0.cells ≠ [])) := fun i bi hi => by
      by_cases e : i = b
      · subst e
        exact ⟨_, f1, fun _ => rfl, fun _ => .inl rfl⟩
      · rw [upd_other e] at hi
        exact ⟨bi, hi, id, id⟩
    obtain ⟨b0, e0, w0, _⟩ := und i bi hi
    obtain ⟨b2, e2, _, w2⟩ := und j bj hj
    exact hsim.inj i j b0 b2 ri rj e0 e2 hne (w0 hw) (w2 hw2) hri hrj
  · exact ⟨hcx.os, hcx.tape, hcx.output, hcx.size, fun b' hb' hW => hcx.blk b' hb' fun i r hi hWi hr => hW i r hi hWi (by have e9 : ρ1 i = ρ i := hρl i hi; show ρ i = some r; rw [← e9]; exact hr), fun i hi => rfl, fun i hi => rfl, fun i r k1 k2 => absurd (show i < n from k2) (by have : n ≤ i := k1; omega), hcx.drawn⟩
end Go.Proofs.YtkpibnhddhdooacDoor.L
