/- Contracts: numbers as decimal text: the library's (its contract is proved in the given library) and the reference's. -/
import Derived.Test.YtkpibnhddhdooacDoorB1
import Derived.Test.YtkpibnhddhdooacDoorProg
import Derived.Shelf.Strconv.Itoa4
import Derived.Lib.ItoaLen
import Derived.Laws.Strings
import Derived.Shelf.Strings.OnBuilder
set_option linter.unusedSimpArgs false
set_option linter.unusedVariables false
namespace Go.Proofs
open Go.Shelf
def Tryd.layFmt_ren : Go.Shelf.Ren := ⟨fun | 173 => 91 | 246 => 107 | 283 => 123 | 284 => 124 | 285 => 125 | 286 => 126 | 129 => 138 | 317 => 137 | 318 => 139 | 319 => 140 | 320 => 141 | 337 => 147 | 338 => 148 | n => n, fun | 2 => 2 | 3 => 3 | 9 => 9 | 4 => 4 | 171 => 139 | 0 => 0 | 53 => 93 | 37 => 29 | 5 => 5 | 173 => 142 | 212 => 157 | 51 => 147 | 20 => 20 | 213 => 158 | 46 => 96 | 232 => 174 | 233 => 175 | n => n, fun | 17 => 1 | 18 => 6 | 19 => 7 | n => n⟩
theorem Tryd.layFmt : Go.Proofs.LaysM.n173 Tryd.prog Tryd.layFmt_ren := {
  mixed := by kernel_rfl
  f129 := Tryd.func138.trans (congrArg some (by kernel_rfl))
  f173 := Tryd.func91.trans (congrArg some (by kernel_rfl))
  f246 := Tryd.func107.trans (congrArg some (by kernel_rfl))
  f283 := Tryd.func123.trans (congrArg some (by kernel_rfl))
  f284 := Tryd.func124.trans (congrArg some (by kernel_rfl))
  f285 := Tryd.func125.trans (congrArg some (by kernel_rfl))
  f286 := Tryd.func126.trans (congrArg some (by kernel_rfl))
  f317 := Tryd.func137.trans (congrArg some (by kernel_rfl))
  f318 := Tryd.func139.trans (congrArg some (by kernel_rfl))
  f319 := Tryd.func140.trans (congrArg some (by kernel_rfl))
  f320 := Tryd.func141.trans (congrArg some (by kernel_rfl))
  f337 := Tryd.func147.trans (congrArg some (by kernel_rfl))
  f338 := Tryd.func148.trans (congrArg some (by kernel_rfl))
  t0 := Tryd.underlying0
  a0 := Tryd.isAgg0
  z0 := Tryd.sizeOf0
  v0 := Tryd.zeroValue0
  t2 := Tryd.underlying2
  a2 := Tryd.isAgg2
  z2 := Tryd.sizeOf2
  v2 := Tryd.zeroValue2
  t3 := Tryd.underlying3
  a3 := Tryd.isAgg3
  z3 := Tryd.sizeOf3
  v3 := Tryd.zeroValue3
  t4 := Tryd.underlying4
  a4 := Tryd.isAgg4
  z4 := Tryd.sizeOf4
  v4 := Tryd.zeroValue4
  t5 := Tryd.underlying5
  a5 := Tryd.isAgg5
  z5 := Tryd.sizeOf5
  v5 := Tryd.zeroValue5
  t9 := Tryd.underlying9
  a9 := Tryd.isAgg9
  z9 := Tryd.sizeOf9
  v9 := Tryd.zeroValue9
  t20 := Tryd.underlying20
  a20 := Tryd.isAgg20
  z20 := Tryd.sizeOf20
  v20 := Tryd.zeroValue20
  t37 := Tryd.underlying29
  a37 := Tryd.isAgg29
  z37 := Tryd.sizeOf29
  v37 := Tryd.zeroValue29
  t46 := Tryd.underlying96
  a46 := Tryd.isAgg96
  z46 := Tryd.sizeOf96
  v46 := Tryd.zeroValue96
  t51 := Tryd.underlying147
  a51 := Tryd.isAgg147
  z51 := Tryd.sizeOf147
  v51 := Tryd.zeroValue147
  t53 := Tryd.underlying93
  a53 := Tryd.isAgg93
  z53 := Tryd.sizeOf93
  v53 := Tryd.zeroValue93
  t171 := Tryd.underlying139
  a171 := Tryd.isAgg139
  z171 := Tryd.sizeOf139
  v171 := Tryd.zeroValue139
  t173 := Tryd.underlying142
  a173 := Tryd.isAgg142
  z173 := Tryd.sizeOf142
  v173 := Tryd.zeroValue142
  t212 := Tryd.underlying157
  a212 := Tryd.isAgg157
  z212 := Tryd.sizeOf157
  v212 := Tryd.zeroValue157
  t213 := Tryd.underlying158
  a213 := Tryd.isAgg158
  z213 := Tryd.sizeOf158
  t232 := Tryd.underlying174
  a232 := Tryd.isAgg174
  z232 := Tryd.sizeOf174
  v232 := Tryd.zeroValue174
  t233 := Tryd.underlying175
  a233 := Tryd.isAgg175
  z233 := Tryd.sizeOf175
  v233 := Tryd.zeroValue175
  g17 := by kernel_rfl
  g18 := by kernel_rfl
  g19 := by kernel_rfl
  i0 := by kernel_rfl
  i2 := by kernel_rfl
  i3 := by kernel_rfl
  i4 := by kernel_rfl
  i5 := by kernel_rfl
  i9 := by kernel_rfl
  i20 := by kernel_rfl
  i37 := by kernel_rfl
  i46 := by kernel_rfl
  i51 := by kernel_rfl
  i53 := by kernel_rfl
  i171 := by kernel_rfl
  i173 := by kernel_rfl
  i212 := by kernel_rfl
  i232 := by kernel_rfl
  i233 := by kernel_rfl
  m17 := by kernel_rfl
  m18 := by kernel_rfl
  m19 := by kernel_rfl }
end Go.Proofs
namespace Go.Proofs.YtkpibnhddhdooacDoor.L
open Go Go.Proofs
def c_impl_decimal : F := ⟨(.seq (.reg false [⟨(some 2), (.mv (.c (.str ⟨#[]⟩))), none⟩]) (.seq (.reg false [⟨some 3, .mv (.t 0), none⟩, ⟨some 4, .call (.f 91) [(.t 3), (.c (.int .i64 10))], none⟩, ⟨some 2, .mv (.t 4), none⟩]) .ret)), 5, [(.t 2)]⟩
theorem k_impl_decimal : compF Tryd.prog Tryd.f75 = some c_impl_decimal := by kernel_rfl
def c_spec_l01Dec : F := ⟨(.seq (.reg false [⟨(some 2), (.mv (.c (.str ⟨#[]⟩))), none⟩]) (.seq (.seq (.reg false [⟨some 3, .mv (.t 0), none⟩, ⟨some 4, .bin .lss (.t 3) (.c (.int .i64 0)), none⟩]) (.cond (.t 4) (.seq (.reg false [⟨some 5, .mv (.t 0), none⟩, ⟨some 6, .un .neg (.t 5), none⟩, ⟨some 7, .call (.f 74) [(.t 6)], none⟩, ⟨(some 8), (.bin .add (.c (.str ⟨#[45]⟩)) (.t 7)), none⟩, ⟨some 2, .mv (.t 8), none⟩]) .ret) .skip)) (.seq (.seq (.reg false [⟨some 9, .mv (.t 0), none⟩, ⟨some 10, .bin .lss (.t 9) (.c (.int .i64 10)), none⟩]) (.cond (.t 10) (.seq (.reg false [⟨some 11, .mv (.t 0), none⟩, ⟨some 12, .bin .add (.c (.int .i64 48)) (.t 11), none⟩, ⟨some 13, .cvi .u8 (.t 12), none⟩, ⟨some 14, .lit 5 1 1 [(.int .u8 0)] [(0, (.t 13))], none⟩, ⟨some 15, .b2s (.t 14), none⟩, ⟨some 2, .mv (.t 15), none⟩]) .ret) .skip)) (.seq (.reg true [⟨some 16, .mv (.t 0), none⟩, ⟨some 17, .bin .quo (.t 16) (.c (.int .i64 10)), none⟩, ⟨some 19, .mv (.t 0), none⟩, ⟨some 20, .bin .rem (.t 19) (.c (.int .i64 10)), none⟩, ⟨some 21, .bin .add (.c (.int .i64 48)) (.t 20), none⟩, ⟨some 22, .cvi .u8 (.t 21), none⟩, ⟨some 23, .lit 5 1 1 [(.int .u8 0)] [(0, (.t 22))], none⟩, ⟨some 24, .b2s (.t 23), none⟩, ⟨some 18, .callq (.f 74) [(.t 17)], none⟩, ⟨some 25, .bin .add (.t 18) (.t 24), none⟩, ⟨some 2, .mv (.t 25), none⟩]) .ret)))), 26, [(.t 2)]⟩
theorem k_spec_l01Dec : compF Tryd.prog Tryd.f74 = some c_spec_l01Dec := by kernel_rfl

def bs (l : List UInt8) : ByteArray := ⟨l.toArray⟩
theorem bs_size (l : List UInt8) : (bs l).size = l.length := by simp [bs, ByteArray.size]
theorem bs_app (l m : List UInt8) : bs l ++ bs m = bs (l ++ m) := by
  apply ByteArray.ext
  simp [bs, ByteArray.data_append]
theorem bs_list (l : List UInt8) : (bs l).data.toList = l := by simp [bs]
theorem fix_row {ρ : Rho} {h : AH} {w : World} {i g ty : Nat} {cells : List AV} (s : Sim ρ h w) (hb : h i = some ⟨ty, cells, false, g + 1⟩) (hne : cells ≠ []) :
    ∃ (cs : Array Value) (t : Nat) (z : Nat × Nat), w.heap[g]? = some (.cells cs t z) ∧ cs.size = cells.length ∧ ∀ (k : Nat) (c : AV), cells[k]? = some c → ∃ v : Value, cs[k]? = some v ∧ Is ρ c v := by
  obtain ⟨r, hr, hat⟩ := s.lies i _ hb
  obtain ⟨h0, h1, cs, t, z, h2, h3⟩ := hat.fix rfl (by simp) hne
  have e : r.b = g := by simp only at h1; omega
  subst e
  refine ⟨cs, t, z, h2, h3, fun k c hk => ?_⟩
  obtain ⟨v, h4, h5⟩ := hat.cells k c hk
  rw [h0, Nat.zero_add, cell_of_row w r.b k cs _ _ h2] at h4
  exact ⟨v, h4, h5⟩
def powA : List AV := Lib.pow10Tab.map fun z => .int .u64 z
def gPow : Nat := 1
def Tab (h : AH) : Prop := h 0 = some ⟨0, powA, false, gPow + 1⟩
theorem Tab.keep {h h' : AH} (t : Tab h) (k : h' 0 = h 0) : Tab h' := by unfold Tab; rw [k]; exact t
theorem gPow_named : Tryd.prog.globalNamed "internal/strconv.uint64pow10" = some gPow := by kernel_rfl
theorem tab_is {ρ : Rho} {h : AH} {w : World} (s : Sim ρ h w) (t : Tab h) : Lib.TabIs Tryd.prog w "internal/strconv.uint64pow10" .u64 Lib.pow10Tab := by
  obtain ⟨cs, ty, z, h1, h2, h3⟩ := fix_row s t (by simp [powA, Lib.pow10Tab])
  unfold Lib.TabIs World.var?
  rw [gPow_named]
  simp only [Option.bind_some, h1, Option.some.injEq]
  apply Array.ext'
  refine List.ext_getElem? fun k => ?_
  simp only [List.getElem?_map]
  cases hk : Lib.pow10Tab[k]? with
  | none =>
    rw [List.getElem?_eq_none_iff] at hk
    simp only [Option.map_none]
    rw [List.getElem?_eq_none_iff, Array.length_toList, h2]
    simpa [powA] using hk
  | some c =>
    obtain ⟨v, h4, h5⟩ := h3 k (.int .u64 c) (by simp [powA, hk])
    simp only [Is] at h5
    subst h5
    simpa using h4
structure Grown (w w' : World) : Prop where
  os : w'.os = w.os
  tape : w'.tape = w.tape
  output : w'.output = w.output
  size : w.heap.size ≤ w'.heap.size
  blk : ∀ b, b < w.heap.size → w'.heap[b]? = w.heap[b]?
theorem Grown.sim {ρ : Rho} {h : AH} {w w' : World} (s : Sim ρ h w) (g : Grown w w') : Sim ρ h w' := by
  refine ⟨fun i b hb => ?_, s.inj⟩
  obtain ⟨r, hr, hat⟩ := s.lies i b hb
  refine ⟨r, hr, ?_⟩
  by_cases hne : b.wr = true ∨ b.cells ≠ []
  · exact hat.keep (Ext.refl ρ) (g.blk _ (hat.lt hne))
  · refine ⟨fun k c hk => ?_, fun hb' => absurd (Or.inl hb') hne, fun _ _ hc => absurd (Or.inr hc) hne⟩
    have : b.cells = [] := by simpa using fun hc => hne (.inr hc)
    simp [this] at hk
theorem Grown.cx {ρ : Rho} {w w' : World} (g : Grown w w') (n : Nat) : Cx ⟨ρ, w, none', n, n⟩ ρ w' :=
  ⟨g.os, g.tape, g.output, g.size, fun b hb _ => g.blk b hb, fun _ _ => rfl, fun _ _ => rfl, fun i r h1 h2 => by simp only at h1 h2; omega, trivial⟩
theorem lib_q {f : Nat} {args : List AV} {h : AH} {n : Nat} {v : AV} (hf : okFn Tryd.prog f = true) (hc : ∀ (ρ : Rho) (w : World) (vs : List Value), Sim ρ h w → IsL ρ args vs → Calls Tryd.prog f vs.toArray w fun e w' => ∃ rv, e = .returned rv ∧ Is ρ v rv ∧ Grown w w') : Q Tryd.prog f args h n v :=
  ⟨n, hf, Nat.le_refl _, fun ρ w vs hs hi _ => (hc ρ w vs hs hi).mono fun e w' ⟨rv, h1, h2, h3⟩ => ⟨rv, ρ, h1, h2, h3.sim hs, h3.cx n⟩⟩
theorem Grown.of_below {w w' : World} (b : RowKit.Below w.heap.size w w') : Grown w w' := ⟨b.os, b.tape, b.output, b.size, b.block⟩
theorem grown_grow (w : World) (k : Nat) (os : Array Obj) : Grown w (Sort.grow (w.drewN k) os) :=
  ⟨rfl, rfl, rfl, by simp [Sort.grow, World.drewN], fun b hb => by
    show ((w.drewN k).heap ++ os)[b]? = w.heap[b]?
    rw [Array.getElem?_append_left (by simpa [World.drewN] using hb)]
    rfl⟩
theorem lib_FormatInt {h : AH} (t : Tab h) {m : Int} (hm : in64 m) (n : Nat) : Q Tryd.prog 91 [.int .i64 m, .int .i64 10] h n (.str (bs (Lib.itoa m))) := by
  refine lib_q (by kernel_rfl) fun ρ w vs hs hi => ?_
  simp only [IsL, Is] at hi
  obtain ⟨_, _, rfl, rfl, _, _, rfl, rfl, rfl⟩ := hi
  have h1 := hm.1
  have h2 := hm.2
  refine (Any.strconv_FormatInt_10 Tryd.layFmt m h1 h2 w (tab_is hs t)).mono ?_
  rintro e w' ⟨rfl, k, os, rfl⟩
  exact ⟨_, rfl, by simp only [Is]; rfl, grown_grow w k os⟩
theorem impl_decimal {h : AH} (t : Tab h) {m : Int} (hm : in64 m) (n : Nat) : Q Tryd.prog 75 [.int .i64 m] h n (.str (bs (Lib.itoa m))) := by
  refine q_intro Tryd.func75 k_impl_decimal ?_
  simp (maxSteps := 2000000) -implicitDefEqProofs (disch := omega) only [c_impl_decimal, xsW, xsC, xsD, xsE, fillA, reduceCtorEq, Nat.reduceAdd, Nat.reduceSub, Nat.reduceLeDiff, Nat.reduceMul, Int.reduceLT, Int.reduceLE, Int.reduceEq, Int.reduceNe, Int.reduceAdd, Int.reduceSub, Int.reduceMul, Int.reduceNeg, Int.reduceToNat]
  refine q_use (lib_FormatInt t hm _) fun n1 hn1 => ?_
  simp (maxSteps := 2000000) -implicitDefEqProofs (disch := omega) only [xsW, xsC, xsD, xsE, fillA, reduceCtorEq, Nat.reduceAdd, Nat.reduceSub, Nat.reduceLeDiff, Nat.reduceMul, Int.reduceLT, Int.reduceLE, Int.reduceEq, Int.reduceNe, Int.reduceAdd, Int.reduceSub, Int.reduceMul, Int.reduceNeg, Int.reduceToNat]
theorem u8_digit {d : Nat} (h : d < 10) : IntKind.u8.wrap (48 + (d : Int)) = ((UInt8.ofNat (48 + d)).toNat : Int) := by
  rw [UInt8.toNat_ofNat']
  simp [IntKind.wrap, IntKind.bits, IntKind.signed]
theorem bs_use {n m ty : Nat} {K : AV → AH → Nat → Prop} {h : AH} {c : UInt8} {x : Int} (hb : h n = some ⟨ty, [.int .u8 x], true, 0⟩) (hx : x = (c.toNat : Int)) (hk : K (.str (bs [c])) h m) : BS (.sl n 0 1 1) K h m :=
  ⟨[c], by simp, ⟨rfl, _, hb, by simp, by simp [cutA, hx]⟩, hk⟩
theorem nDigits_le {u : Nat} (h : u ≤ 9223372036854775807) : (Lib.decDigits u).length ≤ 20 := by
  rw [Lib.decDigits_length]
  exact Lib.nDigits_le20 u (by omega)
theorem dec_small {u : Nat} (h : u < 10) : Lib.decDigits u = [UInt8.ofNat (48 + u)] := by rw [Lib.decDigits, dif_pos h]
theorem dec_big {u : Nat} (h : ¬ u < 10) : Lib.decDigits u = Lib.decDigits (u / 10) ++ [UInt8.ofNat (48 + u % 10)] := by rw [Lib.decDigits, dif_neg h]
theorem spec_l01Dec0 (u : Nat) : u ≤ 9223372036854775807 → ∀ (h : AH) (n : Nat), Q Tryd.prog 74 [.int .i64 u] h n (.str (bs (Lib.decDigits u))) := by
  induction u using Nat.strongRecOn with
  | _ u ih =>
    intro hu h n
    refine q_intro Tryd.func74 k_spec_l01Dec ?_
    simp (maxSteps := 2000000) -implicitDefEqProofs (disch := omega) only [c_spec_l01Dec, w_b2s, w_callq, clq, xsW, xsC, xsD, xsE, fillA, reduceCtorEq, Nat.reduceAdd, Nat.reduceSub, Nat.reduceLeDiff, Nat.reduceMul, Int.reduceLT, Int.reduceLE, Int.reduceEq, Int.reduceNe, Int.reduceAdd, Int.reduceSub, Int.reduceMul, Int.reduceNeg, Int.reduceToNat]
    (refine cd_dec (fun c2 => ?_) (fun c2 => ?_) <;> simp (maxSteps := 2000000) -implicitDefEqProofs (disch := omega) only [xsW, xsC, xsD, xsE, fillA, reduceCtorEq, Nat.reduceAdd, Nat.reduceSub, Nat.reduceLeDiff, Nat.reduceMul, Int.reduceLT, Int.reduceLE, Int.reduceEq, Int.reduceNe, Int.reduceAdd, Int.reduceSub, Int.reduceMul, Int.reduceNeg, Int.reduceToNat,  c2])
    · simp (maxSteps := 2000000) -implicitDefEqProofs (disch := omega) only [xsW, xsC, xsD, xsE, fillA, reduceCtorEq, Nat.reduceAdd, Nat.reduceSub, Nat.reduceLeDiff, Nat.reduceMul, Int.reduceLT, Int.reduceLE, Int.reduceEq, Int.reduceNe, Int.reduceAdd, Int.reduceSub, Int.reduceMul, Int.reduceNeg, Int.reduceToNat,  w_b2s, w_callq, clq]
      refine bs_use (upd_same _ _ _) (u8_digit (by omega)) ?_
      simp (maxSteps := 2000000) -implicitDefEqProofs (disch := omega) only [xsW, xsC, xsD, xsE, fillA, reduceCtorEq, Nat.reduceAdd, Nat.reduceSub, Nat.reduceLeDiff, Nat.reduceMul, Int.reduceLT, Int.reduceLE, Int.reduceEq, Int.reduceNe, Int.reduceAdd, Int.reduceSub, Int.reduceMul, Int.reduceNeg, Int.reduceToNat,  dec_small (show u < 10 by omega)]
    · simp (maxSteps := 2000000) -implicitDefEqProofs (disch := omega) only [xsW, xsC, xsD, xsE, fillA, reduceCtorEq, Nat.reduceAdd, Nat.reduceSub, Nat.reduceLeDiff, Nat.reduceMul, Int.reduceLT, Int.reduceLE, Int.reduceEq, Int.reduceNe, Int.reduceAdd, Int.reduceSub, Int.reduceMul, Int.reduceNeg, Int.reduceToNat,  w_b2s, w_callq, clq]
      have e1 : (u : Int).tdiv 10 = ((u / 10 : Nat) : Int) := by rw [Int.tdiv_eq_ediv_of_nonneg (by omega)]; omega
      have e2 : (u : Int).tmod 10 = ((u % 10 : Nat) : Int) := by rw [Int.tmod_eq_emod_of_nonneg (by omega)]; omega
      rw [e1, e2]
      refine ⟨by unfold in64; omega, by unfold in64; omega, bs_use (upd_same _ _ _) (u8_digit (by omega)) ?_⟩
      simp (maxSteps := 2000000) -implicitDefEqProofs (disch := omega) only [xsW, xsC, xsD, xsE, fillA, reduceCtorEq, Nat.reduceAdd, Nat.reduceSub, Nat.reduceLeDiff, Nat.reduceMul, Int.reduceLT, Int.reduceLE, Int.reduceEq, Int.reduceNe, Int.reduceAdd, Int.reduceSub, Int.reduceMul, Int.reduceNeg, Int.reduceToNat,  w_callq, clq]
      refine callq_use (ih (u / 10) (by omega) (by omega) emp 0) rfl rfl ?_
      have hl := nDigits_le (u := u / 10) (by omega)
      simp (maxSteps := 2000000) -implicitDefEqProofs (disch := omega) only [xsW, xsC, xsD, xsE, fillA, reduceCtorEq, Nat.reduceAdd, Nat.reduceSub, Nat.reduceLeDiff, Nat.reduceMul, Int.reduceLT, Int.reduceLE, Int.reduceEq, Int.reduceNe, Int.reduceAdd, Int.reduceSub, Int.reduceMul, Int.reduceNeg, Int.reduceToNat,  bs_size, bs_app]
      have hb := dec_big (u := u) (by omega)
      exact ⟨by omega, by rw [hb]⟩
theorem sc45 : (⟨#[45]⟩ : ByteArray) = bs [45] := rfl
theorem sc47 : (⟨#[47]⟩ : ByteArray) = bs [47] := rfl
theorem sc44 : (⟨#[44]⟩ : ByteArray) = bs [44] := rfl
theorem sc59 : (⟨#[59]⟩ : ByteArray) = bs [59] := rfl
theorem sc0 : (⟨#[]⟩ : ByteArray) = bs [] := rfl
theorem spec_l01Dec {m : Int} (h0 : -9223372036854775807 ≤ m) (h1 : m ≤ 9223372036854775807) (h : AH) (n : Nat) : Q Tryd.prog 74 [.int .i64 m] h n (.str (bs (Lib.itoa m))) := by
  by_cases hm : 0 ≤ m
  · obtain ⟨u, rfl⟩ : ∃ u : Nat, m = u := ⟨m.toNat, by omega⟩
    have := spec_l01Dec0 u (by omega) h n
    rwa [show Lib.itoa (u : Int) = Lib.decDigits u by unfold Lib.itoa; rw [if_neg (by omega)]; simp]
  · obtain ⟨u, rfl⟩ : ∃ u : Nat, m = -(u : Int) := ⟨m.natAbs, by omega⟩
    refine q_intro Tryd.func74 k_spec_l01Dec ?_
    simp (maxSteps := 2000000) -implicitDefEqProofs (disch := omega) only [c_spec_l01Dec, xsW, xsC, xsD, xsE, fillA, reduceCtorEq, Nat.reduceAdd, Nat.reduceSub, Nat.reduceLeDiff, Nat.reduceMul, Int.reduceLT, Int.reduceLE, Int.reduceEq, Int.reduceNe, Int.reduceAdd, Int.reduceSub, Int.reduceMul, Int.reduceNeg, Int.reduceToNat]
    have q := spec_l01Dec0 u (by omega) h n
    rw [show - -(u : Int) = u by omega]
    refine q_use q fun n1 hn1 => ?_
    have hl := nDigits_le (u := u) (by omega)
    simp (maxSteps := 2000000) -implicitDefEqProofs (disch := omega) only [xsW, xsC, xsD, xsE, fillA, reduceCtorEq, Nat.reduceAdd, Nat.reduceSub, Nat.reduceLeDiff, Nat.reduceMul, Int.reduceLT, Int.reduceLE, Int.reduceEq, Int.reduceNe, Int.reduceAdd, Int.reduceSub, Int.reduceMul, Int.reduceNeg, Int.reduceToNat,  sc45, bs_size, bs_app]
    exact ⟨by omega, by rw [show Lib.itoa (-(u : Int)) = [45] ++ Lib.decDigits u by unfold Lib.itoa; rw [if_pos (by omega)]; simp]; simp⟩
theorem itoa_len {m : Int} (hm : in64 m) : (Lib.itoa m).length ≤ 21 := Lib.itoa_length_le m hm.1 hm.2
end Go.Proofs.YtkpibnhddhdooacDoor.L
namespace Go.Proofs
open Go.Shelf
def Tryd.layJoin_ren : Go.Shelf.Ren := ⟨fun | 156 => 85 | 165 => 98 | 166 => 99 | 169 => 100 | 240 => 111 | 241 => 112 | 276 => 127 | 277 => 128 | n => n, fun | 31 => 88 | 9 => 9 | 3 => 3 | 4 => 4 | 0 => 0 | 20 => 20 | 72 => 117 | 76 => 121 | 70 => 115 | 37 => 29 | 75 => 120 | 127 => 130 | 164 => 144 | 5 => 5 | 80 => 123 | n => n, fun | n => n⟩
theorem Tryd.layJoin : Go.Proofs.Lays.n156 Tryd.prog Tryd.layJoin_ren := {
  mixed := by kernel_rfl
  f156 := Tryd.func85.trans (congrArg some (by kernel_rfl))
  f165 := Tryd.func98.trans (congrArg some (by kernel_rfl))
  f166 := Tryd.func99.trans (congrArg some (by kernel_rfl))
  f169 := Tryd.func100.trans (congrArg some (by kernel_rfl))
  f240 := Tryd.func111.trans (congrArg some (by kernel_rfl))
  f241 := Tryd.func112.trans (congrArg some (by kernel_rfl))
  f276 := Tryd.func127.trans (congrArg some (by kernel_rfl))
  f277 := Tryd.func128.trans (congrArg some (by kernel_rfl))
  t0 := Tryd.underlying0
  a0 := Tryd.isAgg0
  z0 := Tryd.sizeOf0
  v0 := Tryd.zeroValue0
  t3 := Tryd.underlying3
  a3 := Tryd.isAgg3
  z3 := Tryd.sizeOf3
  v3 := Tryd.zeroValue3
  t4 := Tryd.underlying4
  a4 := Tryd.isAgg4
  z4 := Tryd.sizeOf4
  v4 := Tryd.zeroValue4
  t9 := Tryd.underlying9
  a9 := Tryd.isAgg9
  z9 := Tryd.sizeOf9
  v9 := Tryd.zeroValue9
  t20 := Tryd.underlying20
  a20 := Tryd.isAgg20
  z20 := Tryd.sizeOf20
  v20 := Tryd.zeroValue20
  t31 := Tryd.underlying88
  a31 := Tryd.isAgg88
  z31 := Tryd.sizeOf88
  v31 := Tryd.zeroValue88
  t37 := Tryd.underlying29
  a37 := Tryd.isAgg29
  z37 := Tryd.sizeOf29
  v37 := Tryd.zeroValue29
  t70 := Tryd.underlying115
  a70 := Tryd.isAgg115
  z70 := Tryd.sizeOf115
  v70 := Tryd.zeroValue115
  t72 := Tryd.underlying117
  a72 := Tryd.isAgg117
  z72 := Tryd.sizeOf117
  v72 := Tryd.zeroValue117
  t75 := Tryd.underlying120
  a75 := Tryd.isAgg120
  z75 := Tryd.sizeOf120
  v75 := Tryd.zeroValue120
  t76 := Tryd.underlying121
  a76 := Tryd.isAgg121
  z76 := Tryd.sizeOf121
  v76 := Tryd.zeroValue121
  t127 := Tryd.underlying130
  a127 := Tryd.isAgg130
  z127 := Tryd.sizeOf130
  v127 := Tryd.zeroValue130
  t164 := Tryd.underlying144
  a164 := Tryd.isAgg144
  z164 := Tryd.sizeOf144
  v164 := Tryd.zeroValue144 }
theorem Tryd.joinX : Builder.Extra Tryd.prog Tryd.layJoin_ren := {
  sizeBuilder := by kernel_rfl
  liesBuilder := by kernel_rfl
  t5 := Tryd.underlying5
  a5 := Tryd.isAgg5
  z5 := Tryd.sizeOf5
  v5 := Tryd.zeroValue5
  infoByte := by kernel_rfl
  cellsByte := by kernel_rfl
  sizeByte := by kernel_rfl
  neB5 := by decide }
end Go.Proofs
namespace Go.Proofs.YtkpibnhddhdooacDoor.L
open Go Go.Proofs

theorem Sl.val {w : Bool} {lo hi : Nat} {h : AH} {v : AV} {cs : List AV} {ρ : Rho} {W : World} {rx : Value} (s : Sl w lo hi h 1 v cs) (hs : Sim ρ h W) (hi' : Is ρ v rx) (h0 : cs ≠ []) :
    ∃ b o c, rx = .slice (some ⟨b, o, none⟩) cs.length c ∧ cs.length ≤ c ∧ b < W.heap.size ∧ ∀ (j : Nat) (x : AV), cs[j]? = some x → ∃ u, W.cell? ⟨b, o + j, none⟩ = some u ∧ Is ρ x u := by
  have hlen := s.len
  have hpos : 0 < cs.length := List.length_pos_iff.2 h0
  rcases s.shape with rfl | ⟨_, rfl⟩ | ⟨hsl, _, _, b, hb, _, hl, hc⟩
  · simp [slen] at hlen; exact absurd hlen h0
  · simp [slen] at hlen; exact absurd hlen h0
  · obtain ⟨r, hr, hat⟩ := hs.lies _ b hb
    have hat' : ∀ (j : Nat) (x : AV), cs[j]? = some x → ∃ u, W.cell? ⟨r.b, r.s + boff v + j, none⟩ = some u ∧ Is ρ x u := fun j x hx => by
      rw [← hc] at hx
      have hj := (List.getElem?_eq_some_iff.1 hx).1
      have : b.cells[boff v + j]? = some x := by
        simp only [cutA, List.getElem?_take, List.getElem?_drop] at hx
        split at hx
        · exact hx
        · cases hx
      obtain ⟨u, h1, h2⟩ := hat.cells _ x this
      exact ⟨u, by rw [Nat.add_assoc]; exact h1, h2⟩
    have hlt : r.b < W.heap.size := hat.lt (.inr (by intro e; rw [e] at hc; simp [cutA] at hc; exact h0 hc))
    cases v with
    | sl i o m c =>
      simp only [bid] at hr hb
      simp only [Is] at hi'
      obtain ⟨r', hr', rfl⟩ := hi'
      rw [hr] at hr'; cases hr'
      simp only [slen] at hlen
      simp only [isSl, decide_eq_true_eq] at hsl
      exact ⟨r.b, r.s + o, c, by simp; omega, by omega, hlt, hat'⟩
    | so i m =>
      simp only [bid] at hr hb
      simp only [Is] at hi'
      obtain ⟨r', hr', g0, g1, rfl⟩ := hi'
      rw [hr] at hr'; cases hr'
      simp only [slen] at hlen
      refine ⟨r.b, 0, r.c, by simp; omega, by omega, hlt, fun j x hx => ?_⟩
      have := hat' j x hx
      simpa [boff, g0] using this
    | sx i o m =>
      simp only [bid] at hr hb
      simp only [Is] at hi'
      obtain ⟨r', a, c, hr', rfl, g1, g2⟩ := hi'
      rw [hr] at hr'; cases hr'
      simp only [slen] at hlen
      have e := g2 (by omega)
      subst e
      exact ⟨r.b, r.s + o, c, by simp; omega, by omega, hlt, hat'⟩
    | _ => simp [isSl] at hsl
def strs (l : List (List UInt8)) : List AV := l.map fun x => .str (bs x)
theorem strs_len (l : List (List UInt8)) : (strs l).length = l.length := by simp [strs]
theorem lib_Join {w : Bool} {lo hi : Nat} {h : AH} {v : AV} {xs : List (List UInt8)} (s : Sl w lo hi h 1 v (strs xs)) (hv : v ≠ .nilsl) (sep : List UInt8) (hl : (Lib.join xs sep).length ≤ 140737488355328) (hx : xs.length ≤ 140737488355328) (n : Nat) :
    Q Tryd.prog 85 [v, .str (bs sep)] h n (.str (bs (Lib.join xs sep))) := by
  refine lib_q (by kernel_rfl) fun ρ W vs hs hi => ?_
  simp only [IsL] at hi
  obtain ⟨rv, _, rfl, hi1, rs, _, rfl, hi2, rfl⟩ := hi
  simp only [Is] at hi2
  subst hi2
  have hsep : (bs sep).data.toList = sep := bs_list sep
  by_cases h0 : xs = []
  · subst h0
    have hlen := s.len
    have : ∃ a c, rv = .slice a 0 c := by
      simp only [strs, List.map_nil, List.length_nil] at hlen
      rcases s.shape with rfl | ⟨_, rfl⟩ | ⟨hsl, _⟩
      · exact absurd rfl hv
      · simp only [Is] at hi1; obtain ⟨a, rfl⟩ := hi1; exact ⟨a, 0, rfl⟩
      · cases v with
        | sl i o m c =>
          simp only [slen] at hlen
          simp only [Is] at hi1
          obtain ⟨r, _, rfl⟩ := hi1
          exact ⟨_, c, by rw [show m = 0 by omega]⟩
        | so i m =>
          simp only [slen] at hlen
          simp only [Is] at hi1
          obtain ⟨r, _, _, _, rfl⟩ := hi1
          exact ⟨_, r.c, by rw [show m = 0 by omega]⟩
        | sx i o m =>
          simp only [slen] at hlen
          simp only [Is] at hi1
          obtain ⟨r, a, c, _, rfl, _⟩ := hi1
          exact ⟨_, c, by rw [show m = 0 by omega]⟩
        | _ => simp [isSl] at hsl
    obtain ⟨a, c, rfl⟩ := this
    refine (Any.strings_Join_none Tryd.layJoin Tryd.joinX a c (bs sep) W).mono ?_
    rintro e w' ⟨rfl, rfl⟩
    exact ⟨_, rfl, by simp only [Is]; rfl, ⟨rfl, rfl, rfl, Nat.le_refl _, fun _ _ => rfl⟩⟩
  · obtain ⟨b, o, c, rfl, hc, hb, hcell⟩ := s.val hs hi1 (by simpa [strs] using h0)
    have e1 : (xs.map bs).map (fun x : ByteArray => x.data.toList) = xs := by
      rw [List.map_map]
      conv => rhs; rw [← List.map_id xs]
      exact List.map_congr_left fun x _ => bs_list x
    have q := Any.strings_Join Tryd.layJoin Tryd.joinX b o c (xs.map bs) (bs sep) W (fun j x hx => by
      simp only [List.getElem?_map, Option.map_eq_some_iff] at hx
      obtain ⟨y, hy, rfl⟩ := hx
      obtain ⟨u, g1, g2⟩ := hcell j (.str (bs y)) (by simp [strs, hy])
      simp only [Is] at g2
      rw [g1, g2]) hb (by simpa using hx) (by rw [List.length_map]; rw [strs_len] at hc; exact hc) (by rw [e1, hsep]; exact hl)
    rw [e1, hsep, List.length_map] at q
    rw [strs_len]
    refine Calls.mono q ?_
    rintro e w' ⟨rfl, hbel⟩
    exact ⟨_, rfl, by simp only [Is]; rfl, .of_below hbel⟩
end Go.Proofs.YtkpibnhddhdooacDoor.L
namespace Go.Proofs.YtkpibnhddhdooacDoor.L
open Go Go.Proofs
def c_impl_joined : F := ⟨(.seq (.reg false [⟨(some 4), (.mv (.c (.str ⟨#[]⟩))), none⟩]) (.seq (.reg false [⟨some 8, .mv (.t 0), none⟩, ⟨some 9, .len (.t 8), none⟩, ⟨(some 10), (.mks 9 1 [(.str ⟨#[]⟩)] (.t 9) (.t 9)), none⟩, ⟨some 5, .mv (.t 10), none⟩]) (.seq (.seq (.reg false [⟨some 11, .mv (.t 0), none⟩, ⟨some 12, .len (.t 11), none⟩, ⟨some 13, .mv (.c (.int .i64 0)), none⟩]) (.block 0 (.loop (.seq (.reg false [⟨some 14, .bin .lss (.t 13) (.t 12), none⟩]) (.seq (.cond (.t 14) .skip (.exit 0)) (.seq (.block 1 (.seq (.reg false [⟨some 15, .mv (.t 13), none⟩, ⟨some 16, .ia 1 (.t 11) (.t 13), none⟩, ⟨some 17, .ld1 (.t 16), none⟩, ⟨some 6, .mv (.t 15), none⟩, ⟨some 7, .mv (.t 17), none⟩]) (.reg false [⟨some 18, .mv (.t 5), none⟩, ⟨some 19, .mv (.t 6), none⟩, ⟨some 20, .mv (.t 7), none⟩, ⟨some 21, .call (.f 75) [(.t 20)], none⟩, ⟨some 22, .ia 1 (.t 18) (.t 19), none⟩, ⟨none, .st 1 (.t 22) (.t 21), none⟩]))) (.reg false [⟨some 23, .bin .add (.t 13) (.c (.int .i64 1)), none⟩, ⟨some 13, .mv (.t 23), none⟩]))))))) (.seq (.reg false [⟨some 24, .mv (.t 5), none⟩, ⟨some 25, .mv (.t 1), none⟩, ⟨some 26, .call (.f 85) [(.t 24), (.t 25)], none⟩, ⟨some 4, .mv (.t 26), none⟩]) .ret)))), 27, [(.t 4)]⟩
theorem k_impl_joined : compF Tryd.prog Tryd.f63 = some c_impl_joined := by kernel_rfl
def c_impl_rowsText : F := ⟨(.seq (.reg false [⟨(some 2), (.mv (.c (.str ⟨#[]⟩))), none⟩]) (.seq (.reg false [⟨some 6, .mv (.t 0), none⟩, ⟨some 7, .len (.t 6), none⟩, ⟨(some 8), (.mks 9 1 [(.str ⟨#[]⟩)] (.t 7) (.t 7)), none⟩, ⟨some 3, .mv (.t 8), none⟩]) (.seq (.seq (.reg false [⟨some 9, .mv (.t 0), none⟩, ⟨some 10, .len (.t 9), none⟩, ⟨some 11, .mv (.c (.int .i64 0)), none⟩]) (.block 0 (.loop (.seq (.reg false [⟨some 12, .bin .lss (.t 11) (.t 10), none⟩]) (.seq (.cond (.t 12) .skip (.exit 0)) (.seq (.block 1 (.seq (.reg false [⟨some 13, .mv (.t 11), none⟩, ⟨some 14, .ia 1 (.t 9) (.t 11), none⟩, ⟨some 15, .ld1 (.t 14), none⟩, ⟨some 4, .mv (.t 13), none⟩, ⟨some 5, .mv (.t 15), none⟩]) (.reg false [⟨some 16, .mv (.t 3), none⟩, ⟨some 17, .mv (.t 4), none⟩, ⟨some 18, .mv (.t 5), none⟩, ⟨(some 19), (.call (.f 63) [(.t 18), (.c (.str ⟨#[44]⟩))]), none⟩, ⟨some 20, .ia 1 (.t 16) (.t 17), none⟩, ⟨none, .st 1 (.t 20) (.t 19), none⟩]))) (.reg false [⟨some 21, .bin .add (.t 11) (.c (.int .i64 1)), none⟩, ⟨some 11, .mv (.t 21), none⟩]))))))) (.seq (.reg false [⟨some 22, .mv (.t 3), none⟩, ⟨(some 23), (.call (.f 85) [(.t 22), (.c (.str ⟨#[59]⟩))]), none⟩, ⟨some 2, .mv (.t 23), none⟩]) .ret)))), 24, [(.t 2)]⟩
theorem k_impl_rowsText : compF Tryd.prog Tryd.f62 = some c_impl_rowsText := by kernel_rfl
def c_spec_l01Numbers : F := ⟨(.seq (.reg false [⟨(some 2), (.mv (.c (.str ⟨#[]⟩))), none⟩]) (.seq (.reg false [⟨(some 3), (.mv (.c (.str ⟨#[]⟩))), none⟩]) (.seq (.seq (.reg false [⟨some 4, .mv (.c (.int .i64 0)), none⟩]) (.block 0 (.loop (.seq (.seq (.reg false [⟨some 5, .mv (.t 4), none⟩, ⟨some 6, .mv (.t 0), none⟩, ⟨some 7, .len (.t 6), none⟩, ⟨some 8, .bin .lss (.t 5) (.t 7), none⟩]) (.cond (.t 8) .skip (.exit 0))) (.seq (.block 1 (.seq (.seq (.reg false [⟨some 11, .mv (.t 4), none⟩, ⟨some 12, .bin .gtr (.t 11) (.c (.int .i64 0)), none⟩]) (.cond (.t 12) (.reg false [⟨some 13, .mv (.t 3), none⟩, ⟨(some 14), (.bin .add (.t 13) (.c (.str ⟨#[44]⟩))), none⟩, ⟨some 3, .mv (.t 14), none⟩]) .skip)) (.reg false [⟨some 15, .mv (.t 3), none⟩, ⟨some 16, .mv (.t 0), none⟩, ⟨some 17, .mv (.t 4), none⟩, ⟨some 18, .ia 1 (.t 16) (.t 17), none⟩, ⟨some 19, .ld1 (.t 18), none⟩, ⟨some 20, .call (.f 74) [(.t 19)], none⟩, ⟨some 21, .bin .add (.t 15) (.t 20), none⟩, ⟨some 3, .mv (.t 21), none⟩]))) (.reg false [⟨some 9, .mv (.t 4), none⟩, ⟨some 10, .bin .add (.t 9) (.c (.int .i64 1)), none⟩, ⟨some 4, .mv (.t 10), none⟩])))))) (.seq (.reg false [⟨some 22, .mv (.t 3), none⟩, ⟨some 2, .mv (.t 22), none⟩]) .ret)))), 23, [(.t 2)]⟩
theorem k_spec_l01Numbers : compF Tryd.prog Tryd.f82 = some c_spec_l01Numbers := by kernel_rfl

theorem join_snoc {xs : List (List UInt8)} (h : xs ≠ []) (x sep : List UInt8) : Lib.join (xs ++ [x]) sep = Lib.join xs sep ++ sep ++ x := by
  cases xs with
  | nil => exact absurd rfl h
  | cons y r => rw [List.cons_append, Lib.join_cons, Lib.join_cons]; simp [Lib.joinTail]
theorem join_one (x sep : List UInt8) : Lib.join [x] sep = x := by rw [Lib.join_cons]; simp [Lib.joinTail]
theorem lens_le {B : Nat} : ∀ {r : List (List UInt8)}, (∀ x ∈ r, x.length ≤ B) → Lib.lens r ≤ r.length * B
  | [], _ => by simp [Lib.lens]
  | x :: r, h => by
    have h1 := lens_le (r := r) fun y hy => h y (by simp [hy])
    have h2 := h x (by simp)
    simp only [Lib.lens, List.map_cons, List.sum_cons, List.length_cons, Nat.add_mul, Nat.one_mul] at h1 ⊢
    omega
theorem join_le {B : Nat} {xs : List (List UInt8)} (c : UInt8) (h : ∀ x ∈ xs, x.length ≤ B) : (Lib.join xs [c]).length ≤ xs.length * (B + 1) := by
  cases xs with
  | nil => simp [Lib.join_nil]
  | cons y r =>
    have h1 := lens_le (r := r) (B := B) fun z hz => h z (by simp [hz])
    have h2 := h y (by simp)
    rw [Lib.join_cons, List.length_append, Lib.joinTail_length]
    simp only [List.length_cons, List.length_nil, Nat.add_mul, Nat.mul_add, Nat.one_mul, Nat.mul_one]
    omega
def numsT (l : List Int) : List UInt8 := Lib.join (l.map Lib.itoa) [44]
def rowsT (ll : List (List Int)) : List UInt8 := Lib.join (ll.map numsT) [59]
def probT (ll : List (List Int)) (q : List Int) : List UInt8 := rowsT ll ++ [47] ++ numsT q
def SmallL (l : List Int) : Prop := l.length ≤ 5 ∧ ∀ x ∈ l, -1000 ≤ x ∧ x ≤ 1000
theorem SmallL.at {l : List Int} (h : SmallL l) {k : Nat} (hk : k < l.length) : -1000 ≤ l.getD k 0 ∧ l.getD k 0 ≤ 1000 := h.2 _ (getD_mem hk)
theorem numsT_len {l : List Int} (h : SmallL l) : (numsT l).length ≤ 110 := by
  have h1 := join_le (B := 21) (xs := l.map Lib.itoa) 44 fun x hx => by
    rw [List.mem_map] at hx
    obtain ⟨y, hy, rfl⟩ := hx
    have := h.2 y hy
    exact itoa_len (by unfold in64; omega)
  rw [List.length_map] at h1
  have h2 := h.1
  have : l.length * (21 + 1) ≤ 5 * 22 := Nat.mul_le_mul_right _ h2
  unfold numsT; omega
theorem rowsT_len {ll : List (List Int)} (h1 : ll.length ≤ 5) (h : ∀ l ∈ ll, SmallL l) : (rowsT ll).length ≤ 555 := by
  have h2 := join_le (B := 110) (xs := ll.map numsT) 59 fun x hx => by
    rw [List.mem_map] at hx
    obtain ⟨y, hy, rfl⟩ := hx
    exact numsT_len (h y hy)
  rw [List.length_map] at h2
  have : ll.length * (110 + 1) ≤ 5 * 111 := Nat.mul_le_mul_right _ h1
  unfold rowsT; omega
theorem fill_strs (l : List (List UInt8)) (z : AV) (k : Nat) (hk : k < l.length) : putA ((strs l).take k ++ List.replicate (l.length - k) z) k [.str (bs (l.getD k []))] = (strs l).take (k + 1) ++ List.replicate (l.length - (k + 1)) z := by
  have := fill_step (strs l) z k (by rw [strs_len]; exact hk)
  have e : (strs l).getD k .any = .str (bs (l.getD k [])) := by simp [strs, List.getD, hk]
  rw [e, strs_len] at this
  exact this
section
variable {w : Bool} {lo hi : Nat} {h : AH} {v : AV} {l : List Int}
theorem impl_joined (t : Tab h) (s : Ints w lo hi h v l) (hS : SmallL l) (n : Nat) (hn : hi ≤ n) (h1 : 1 ≤ n) : Q Tryd.prog 63 [v, .str (bs [44])] h n (.str (bs (numsT l))) := by
  refine q_intro Tryd.func63 k_impl_joined ?_
  obtain ⟨xs, hxs⟩ : ∃ xs, xs = l.map Lib.itoa := ⟨_, rfl⟩
  have hxl : xs.length = l.length := by rw [hxs, List.length_map]
  have hN := hS.1
  simp (maxSteps := 2000000) -implicitDefEqProofs (disch := omega) only [c_impl_joined, s.ln, xsW, xsC, xsD, xsE, fillA, reduceCtorEq, Nat.reduceAdd, Nat.reduceSub, Nat.reduceLeDiff, Nat.reduceMul, Int.reduceLT, Int.reduceLE, Int.reduceEq, Int.reduceNe, Int.reduceAdd, Int.reduceSub, Int.reduceMul, Int.reduceNeg, Int.reduceToNat]
  refine loop_for l.length 0 (fun k (_ : Unit) => [v, .str (bs [44]), .any, .any, .str ⟨#[]⟩, .sl n 0 l.length l.length, .any, .any, .any, .any, .any, v, .int .i64 l.length, .int .i64 k, .any, .any, .any, .any, .any, .any, .any, .any, .any, .any, .any, .any, .any]) (fun k _ => upd h n (some ⟨9, (strs xs).take k ++ List.replicate (xs.length - k) (.str ⟨#[]⟩), true, 0⟩))
    (fun _ _ _ => True) () (Nat.zero_le _) trivial (by simp [LeL, Le1]) (by simp [hxl, repA]) ?_
  rintro k - n1 - hk hn1 -
  simp (maxSteps := 2000000) -implicitDefEqProofs (disch := omega) only [xsW, xsC, xsD, xsE, fillA, reduceCtorEq, Nat.reduceAdd, Nat.reduceSub, Nat.reduceLeDiff, Nat.reduceMul, Int.reduceLT, Int.reduceLE, Int.reduceEq, Int.reduceNe, Int.reduceAdd, Int.reduceSub, Int.reduceMul, Int.reduceNeg, Int.reduceToNat]
  (refine cd_dec (fun c1 => ?_) (fun c1 => ?_) <;> simp (maxSteps := 2000000) -implicitDefEqProofs (disch := omega) only [xsW, xsC, xsD, xsE, fillA, reduceCtorEq, Nat.reduceAdd, Nat.reduceSub, Nat.reduceLeDiff, Nat.reduceMul, Int.reduceLT, Int.reduceLE, Int.reduceEq, Int.reduceNe, Int.reduceAdd, Int.reduceSub, Int.reduceMul, Int.reduceNeg, Int.reduceToNat,  c1])
  · have hk2 : k < l.length := by omega
    have hbel := s.below (by intro e; rw [e] at hk2; simp at hk2)
    have hx := hS.at hk2
    simp (maxSteps := 2000000) -implicitDefEqProofs (disch := omega) only [xsW, xsC, xsD, xsE, fillA, reduceCtorEq, Nat.reduceAdd, Nat.reduceSub, Nat.reduceLeDiff, Nat.reduceMul, Int.reduceLT, Int.reduceLE, Int.reduceEq, Int.reduceNe, Int.reduceAdd, Int.reduceSub, Int.reduceMul, Int.reduceNeg, Int.reduceToNat,  s.ia, s.ld]
    refine q_use (impl_decimal (t.keep (upd_other (by omega))) (by unfold in64; omega) _) fun n2 hn2 => ?_
    have e : Lib.itoa (l.getD k 0) = xs.getD k [] := by rw [hxs]; simp [List.getD, hk2]
    rw [e]
    have hxk : k < xs.length := by omega
    simp (maxSteps := 2000000) -implicitDefEqProofs (disch := omega) only [xsW, xsC, xsD, xsE, fillA, reduceCtorEq, Nat.reduceAdd, Nat.reduceSub, Nat.reduceLeDiff, Nat.reduceMul, Int.reduceLT, Int.reduceLE, Int.reduceEq, Int.reduceNe, Int.reduceAdd, Int.reduceSub, Int.reduceMul, Int.reduceNeg, Int.reduceToNat,  fill_strs]
    have hsl := strs_len xs
    exact ⟨by omega, (), by omega, by omega, (by simp [LeL, Le1])⟩
  · have e : k = l.length := by omega
    subst e
    have hw : Sl true n (n + 1) (upd h n (some ⟨9, (strs xs).take l.length ++ List.replicate (xs.length - l.length) (.str ⟨#[]⟩), true, 0⟩)) 1 (.sl n 0 l.length l.length) (strs xs) := by
      refine Sl.of_sl (ty := 9) (op := 0) ?_ (by rw [strs_len]; omega) (Nat.le_refl _) (Nat.le_refl _) (by omega)
      rw [upd_same, hxl, Nat.sub_self, List.take_of_length_le (by rw [strs_len]; omega)]
      simp
    refine q_use (lib_Join hw (by simp) [44] (by have := numsT_len hS; unfold numsT at this; rw [← hxs] at this; omega) (by omega) _) fun n2 hn2 => ?_
    simp (maxSteps := 2000000) -implicitDefEqProofs (disch := omega) only [xsW, xsC, xsD, xsE, fillA, reduceCtorEq, Nat.reduceAdd, Nat.reduceSub, Nat.reduceLeDiff, Nat.reduceMul, Int.reduceLT, Int.reduceLE, Int.reduceEq, Int.reduceNe, Int.reduceAdd, Int.reduceSub, Int.reduceMul, Int.reduceNeg, Int.reduceToNat]
    rw [numsT, hxs]
theorem spec_l01Numbers (s : Ints w lo hi h v l) (hS : SmallL l) (n : Nat) : Q Tryd.prog 82 [v] h n (.str (bs (numsT l))) := by
  refine q_intro Tryd.func82 k_spec_l01Numbers ?_
  have hN := hS.1
  have hlen : ∀ k, k ≤ l.length → (Lib.join ((l.take k).map Lib.itoa) [44]).length ≤ 110 := fun k hk => numsT_len (l := l.take k) ⟨by rw [List.length_take]; omega, fun x hx => hS.2 x (List.mem_of_mem_take hx)⟩
  simp (maxSteps := 2000000) -implicitDefEqProofs (disch := omega) only [c_spec_l01Numbers, xsW, xsC, xsD, xsE, fillA, reduceCtorEq, Nat.reduceAdd, Nat.reduceSub, Nat.reduceLeDiff, Nat.reduceMul, Int.reduceLT, Int.reduceLE, Int.reduceEq, Int.reduceNe, Int.reduceAdd, Int.reduceSub, Int.reduceMul, Int.reduceNeg, Int.reduceToNat]
  refine loop_for l.length 0 (fun k (_ : Unit) => [v, .any, .str ⟨#[]⟩, .str (bs (Lib.join ((l.take k).map Lib.itoa) [44])), .int .i64 k, .any, .any, .any, .any, .any, .any, .any, .any, .any, .any, .any, .any, .any, .any, .any, .any, .any, .any]) (fun k _ => h)
    (fun _ _ _ => True) () (Nat.zero_le _) trivial (by simp [LeL, Le1, Lib.join_nil, sc0]) (fun _ _ h => h) ?_
  rintro k - n1 - hk hn1 -
  simp (maxSteps := 2000000) -implicitDefEqProofs (disch := omega) only [xsW, xsC, xsD, xsE, fillA, reduceCtorEq, Nat.reduceAdd, Nat.reduceSub, Nat.reduceLeDiff, Nat.reduceMul, Int.reduceLT, Int.reduceLE, Int.reduceEq, Int.reduceNe, Int.reduceAdd, Int.reduceSub, Int.reduceMul, Int.reduceNeg, Int.reduceToNat,  s.ln]
  (refine cd_dec (fun c1 => ?_) (fun c1 => ?_) <;> simp (maxSteps := 2000000) -implicitDefEqProofs (disch := omega) only [xsW, xsC, xsD, xsE, fillA, reduceCtorEq, Nat.reduceAdd, Nat.reduceSub, Nat.reduceLeDiff, Nat.reduceMul, Int.reduceLT, Int.reduceLE, Int.reduceEq, Int.reduceNe, Int.reduceAdd, Int.reduceSub, Int.reduceMul, Int.reduceNeg, Int.reduceToNat,  c1])
  · have hk2 : k < l.length := by omega
    have hx := hS.at hk2
    have hl1 := hlen k hk
    have hl2 := hlen (k + 1) hk2
    have hi := itoa_len (m := l.getD k 0) (by unfold in64; omega)
    have ex : (l.take (k + 1)).map Lib.itoa = (l.take k).map Lib.itoa ++ [Lib.itoa (l.getD k 0)] := by rw [take_succ_getD (d := 0) hk2, List.map_append]; rfl
    (refine cd_dec (fun c2 => ?_) (fun c2 => ?_) <;> simp (maxSteps := 2000000) -implicitDefEqProofs (disch := omega) only [xsW, xsC, xsD, xsE, fillA, reduceCtorEq, Nat.reduceAdd, Nat.reduceSub, Nat.reduceLeDiff, Nat.reduceMul, Int.reduceLT, Int.reduceLE, Int.reduceEq, Int.reduceNe, Int.reduceAdd, Int.reduceSub, Int.reduceMul, Int.reduceNeg, Int.reduceToNat,  c2])
    · have hne : (l.take k).map Lib.itoa ≠ [] := by
        intro e
        have := congrArg List.length e
        rw [List.length_map, List.length_take, List.length_nil] at this; omega
      have ej := join_snoc hne (Lib.itoa (l.getD k 0)) [44]
      simp (maxSteps := 2000000) -implicitDefEqProofs (disch := omega) only [xsW, xsC, xsD, xsE, fillA, reduceCtorEq, Nat.reduceAdd, Nat.reduceSub, Nat.reduceLeDiff, Nat.reduceMul, Int.reduceLT, Int.reduceLE, Int.reduceEq, Int.reduceNe, Int.reduceAdd, Int.reduceSub, Int.reduceMul, Int.reduceNeg, Int.reduceToNat,  sc44, bs_size, bs_app]
      refine ⟨by omega, ?_⟩
      simp (maxSteps := 2000000) -implicitDefEqProofs (disch := omega) only [xsW, xsC, xsD, xsE, fillA, reduceCtorEq, Nat.reduceAdd, Nat.reduceSub, Nat.reduceLeDiff, Nat.reduceMul, Int.reduceLT, Int.reduceLE, Int.reduceEq, Int.reduceNe, Int.reduceAdd, Int.reduceSub, Int.reduceMul, Int.reduceNeg, Int.reduceToNat,  s.ia, s.ld]
      refine q_use (spec_l01Dec (by omega) (by omega) _ _) fun n2 hn2 => ?_
      simp (maxSteps := 2000000) -implicitDefEqProofs (disch := omega) only [xsW, xsC, xsD, xsE, fillA, reduceCtorEq, Nat.reduceAdd, Nat.reduceSub, Nat.reduceLeDiff, Nat.reduceMul, Int.reduceLT, Int.reduceLE, Int.reduceEq, Int.reduceNe, Int.reduceAdd, Int.reduceSub, Int.reduceMul, Int.reduceNeg, Int.reduceToNat,  sc44, bs_size, bs_app]
      rw [ex, ej] at hl2 ⊢
      exact ⟨by omega, (), by omega, by omega, (by simp [LeL, Le1]), (fun _ _ h => h)⟩
    · have e0 : k = 0 := by omega
      have e1 : (l.take k).map Lib.itoa = [] := by rw [e0]; rfl
      have ej : Lib.join ((l.take k).map Lib.itoa) [44] = [] := by rw [e1]; rfl
      have ek : (l.take (k + 1)).map Lib.itoa = [Lib.itoa (l.getD k 0)] := by rw [ex, e1]; rfl
      rw [ej]
      simp (maxSteps := 2000000) -implicitDefEqProofs (disch := omega) only [xsW, xsC, xsD, xsE, fillA, reduceCtorEq, Nat.reduceAdd, Nat.reduceSub, Nat.reduceLeDiff, Nat.reduceMul, Int.reduceLT, Int.reduceLE, Int.reduceEq, Int.reduceNe, Int.reduceAdd, Int.reduceSub, Int.reduceMul, Int.reduceNeg, Int.reduceToNat,  s.ia, s.ld]
      refine q_use (spec_l01Dec (by omega) (by omega) _ _) fun n2 hn2 => ?_
      simp (maxSteps := 2000000) -implicitDefEqProofs (disch := omega) only [xsW, xsC, xsD, xsE, fillA, reduceCtorEq, Nat.reduceAdd, Nat.reduceSub, Nat.reduceLeDiff, Nat.reduceMul, Int.reduceLT, Int.reduceLE, Int.reduceEq, Int.reduceNe, Int.reduceAdd, Int.reduceSub, Int.reduceMul, Int.reduceNeg, Int.reduceToNat,  bs_size, bs_app]
      rw [ek, join_one] at hl2 ⊢
      exact ⟨by omega, (), by omega, by omega, (by simp [LeL, Le1]), (fun _ _ h => h)⟩
  · have e : k = l.length := by omega
    subst e
    rw [List.take_length]
    rfl
end
end Go.Proofs.YtkpibnhddhdooacDoor.L
namespace Go.Proofs.YtkpibnhddhdooacDoor.L
open Go Go.Proofs
def c_spec_l01Text : F := ⟨(.seq (.reg false [⟨some 1, .box 50 (.t 0), none⟩, ⟨(some 2), (.mv (.c (.str ⟨#[]⟩))), none⟩]) (.seq (.reg false [⟨(some 3), (.mv (.c (.str ⟨#[]⟩))), none⟩]) (.seq (.seq (.reg false [⟨some 4, .mv (.c (.int .i64 0)), none⟩]) (.block 0 (.loop (.seq (.seq (.reg false [⟨some 5, .mv (.t 4), none⟩, ⟨some 6, .fa 0 (.t 1), none⟩, ⟨some 7, .ld1 (.t 6), none⟩, ⟨some 8, .len (.t 7), none⟩, ⟨some 9, .bin .lss (.t 5) (.t 8), none⟩]) (.cond (.t 9) .skip (.exit 0))) (.seq (.block 1 (.seq (.seq (.reg false [⟨some 12, .mv (.t 4), none⟩, ⟨some 13, .bin .gtr (.t 12) (.c (.int .i64 0)), none⟩]) (.cond (.t 13) (.reg false [⟨some 14, .mv (.t 3), none⟩, ⟨(some 15), (.bin .add (.t 14) (.c (.str ⟨#[59]⟩))), none⟩, ⟨some 3, .mv (.t 15), none⟩]) .skip)) (.reg false [⟨some 16, .mv (.t 3), none⟩, ⟨some 17, .fa 0 (.t 1), none⟩, ⟨some 18, .ld1 (.t 17), none⟩, ⟨some 19, .mv (.t 4), none⟩, ⟨some 20, .ia 1 (.t 18) (.t 19), none⟩, ⟨some 21, .ld1 (.t 20), none⟩, ⟨some 22, .call (.f 82) [(.t 21)], none⟩, ⟨some 23, .bin .add (.t 16) (.t 22), none⟩, ⟨some 3, .mv (.t 23), none⟩]))) (.reg false [⟨some 10, .mv (.t 4), none⟩, ⟨some 11, .bin .add (.t 10) (.c (.int .i64 1)), none⟩, ⟨some 4, .mv (.t 11), none⟩])))))) (.seq (.reg false [⟨some 24, .mv (.t 3), none⟩, ⟨(some 25), (.bin .add (.t 24) (.c (.str ⟨#[47]⟩))), none⟩, ⟨some 26, .fa 1 (.t 1), none⟩, ⟨some 27, .ld1 (.t 26), none⟩, ⟨some 28, .call (.f 82) [(.t 27)], none⟩, ⟨some 29, .bin .add (.t 25) (.t 28), none⟩, ⟨some 2, .mv (.t 29), none⟩]) .ret)))), 30, [(.t 2)]⟩
theorem k_spec_l01Text : compF Tryd.prog Tryd.f58 = some c_spec_l01Text := by kernel_rfl
def c_impl_ProblemText : F := ⟨(.seq (.reg false [⟨some 1, .box 50 (.t 0), none⟩, ⟨(some 2), (.mv (.c (.str ⟨#[]⟩))), none⟩, ⟨some 3, .mv (.c (.int .i64 0)), none⟩]) (.seq (.seq (.reg false [⟨some 4, .ld 2 (.t 1), none⟩, ⟨some 5, .call (.f 61) [(.t 4)], none⟩, ⟨some 6, .un .not (.t 5), none⟩]) (.cond (.t 6) (.seq (.reg false [⟨(some 2), (.mv (.c (.str ⟨#[]⟩))), none⟩, ⟨some 3, .mv (.c (.int .i64 1)), none⟩]) .ret) .skip)) (.seq (.reg true [⟨some 7, .fa 0 (.t 1), none⟩, ⟨some 8, .ld1 (.t 7), none⟩, ⟨some 11, .fa 1 (.t 1), none⟩, ⟨some 12, .ld1 (.t 11), none⟩, ⟨some 9, .call (.f 62) [(.t 8)], none⟩, ⟨(some 10), (.bin .add (.t 9) (.c (.str ⟨#[47]⟩))), none⟩, ⟨(some 13), (.call (.f 63) [(.t 12), (.c (.str ⟨#[44]⟩))]), none⟩, ⟨some 14, .bin .add (.t 10) (.t 13), none⟩, ⟨some 2, .mv (.t 14), none⟩, ⟨some 3, .mv (.c (.int .i64 0)), none⟩]) .ret))), 15, [(.t 2), (.t 3)]⟩
theorem k_impl_ProblemText : compF Tryd.prog Tryd.f29 = some c_impl_ProblemText := by kernel_rfl
def c_spec_ProblemText : F := ⟨(.seq (.reg false [⟨some 1, .box 50 (.t 0), none⟩, ⟨(some 2), (.mv (.c (.str ⟨#[]⟩))), none⟩, ⟨some 3, .mv (.c (.int .i64 0)), none⟩]) (.seq (.seq (.reg false [⟨some 4, .ld 2 (.t 1), none⟩, ⟨some 5, .call (.f 57) [(.t 4)], none⟩, ⟨some 6, .un .not (.t 5), none⟩]) (.cond (.t 6) (.seq (.reg false [⟨(some 2), (.mv (.c (.str ⟨#[]⟩))), none⟩, ⟨some 3, .mv (.c (.int .i64 1)), none⟩]) .ret) .skip)) (.seq (.reg false [⟨some 7, .ld 2 (.t 1), none⟩, ⟨some 8, .call (.f 58) [(.t 7)], none⟩, ⟨some 2, .mv (.t 8), none⟩, ⟨some 3, .mv (.c (.int .i64 0)), none⟩]) .ret))), 9, [(.t 2), (.t 3)]⟩
theorem k_spec_ProblemText : compF Tryd.prog Tryd.f27 = some c_spec_ProblemText := by kernel_rfl
def c_laws_FnExactProblemText : F := ⟨(.seq (.reg false [⟨some 1, .box 47 (.t 0), none⟩, ⟨some 2, .mv (.c (.bool false)), none⟩]) (.seq (.reg false [⟨some 3, .mv (.c (.int .i64 1048576)), none⟩]) (.seq (.reg false [⟨some 9, .ld 2 (.t 1), none⟩, ⟨some 10, .mv (.t 3), none⟩, ⟨some 11, .call (.f 26) [(.t 9), (.t 10)], none⟩, ⟨some 3, .mv (.t 11), none⟩]) (.seq (.seq (.reg false [⟨some 12, .mv (.t 3), none⟩, ⟨some 13, .bin .lss (.t 12) (.c (.int .i64 0)), none⟩]) (.cond (.t 13) (.seq (.reg false [⟨some 2, .mv (.c (.bool true)), none⟩]) .ret) .skip)) (.seq (.reg false [⟨some 15, .ld 2 (.t 1), none⟩, ⟨some 16, .call (.f 28) [(.t 15)], none⟩, ⟨some 17, .call (.f 27) [(.t 16)], none⟩, ⟨some 14, .mv (.t 17), none⟩, ⟨some 18, .ext (.t 14) 0, none⟩, ⟨some 19, .ext (.t 14) 1, none⟩, ⟨some 4, .mv (.t 18), none⟩, ⟨some 5, .mv (.t 19), none⟩]) (.seq (.reg false [⟨some 20, .ld 2 (.t 1), none⟩, ⟨some 21, .call (.f 28) [(.t 20)], none⟩, ⟨some 6, .alloc 50 [.nilsl, .nilsl], none⟩, ⟨none, .st 2 (.t 6) (.t 21), none⟩]) (.seq (.reg false [⟨some 23, .ld 2 (.t 6), none⟩, ⟨some 24, .call (.f 29) [(.t 23)], none⟩, ⟨some 22, .mv (.t 24), none⟩, ⟨some 25, .ext (.t 22) 0, none⟩, ⟨some 26, .ext (.t 22) 1, none⟩, ⟨some 7, .mv (.t 25), none⟩, ⟨some 8, .mv (.t 26), none⟩]) (.seq (.seq (.reg false [⟨some 27, .mv (.t 7), none⟩, ⟨some 28, .mv (.t 4), none⟩, ⟨some 29, .bin .neq (.t 27) (.t 28), none⟩, ⟨some 30, .mv (.t 29), none⟩, ⟨some 31, .mv (.t 8), some (30, false)⟩, ⟨some 32, .mv (.t 5), some (30, false)⟩, ⟨some 33, .bin .neq (.t 31) (.t 32), some (30, false)⟩, ⟨some 34, .pick (.t 30) (.c (.bool true)) (.t 33), none⟩]) (.cond (.t 34) (.seq (.reg false [⟨some 2, .mv (.c (.bool false)), none⟩]) .ret) .skip)) (.seq (.seq (.reg true [⟨some 35, .ld 2 (.t 6), none⟩, ⟨some 36, .ld 2 (.t 1), none⟩, ⟨some 37, .call (.f 28) [(.t 36)], none⟩, ⟨some 38, .call (.f 30) [(.t 35), (.t 37)], none⟩, ⟨some 39, .un .not (.t 38), none⟩]) (.cond (.t 39) (.seq (.reg false [⟨some 2, .mv (.c (.bool false)), none⟩]) .ret) .skip)) (.seq (.reg false [⟨some 2, .mv (.c (.bool true)), none⟩]) .ret)))))))))), 40, [(.t 2)]⟩
theorem k_laws_FnExactProblemText : compF Tryd.prog Tryd.f5 = some c_laws_FnExactProblemText := by kernel_rfl

section
variable {w : Bool} {lo hi : Nat} {h : AH} {v u : AV} {vs : List AV} {ll : List (List Int)} {l : List Int}
def SmallP (ll : List (List Int)) (l : List Int) : Prop := 1 ≤ ll.length ∧ ll.length ≤ 5 ∧ (∀ r ∈ ll, SmallL r) ∧ SmallL l
theorem isProb_small (hp : isProb ll l = true) : SmallP ll l := by
  simp only [isProb, Bool.and_eq_true, decide_eq_true_eq] at hp
  obtain ⟨⟨hm, hl⟩, hw⟩ := hp
  have hm' := (isMat_iff ll).1 hm
  have hq := (within_iff 100 l).1 hw
  refine ⟨hm'.1, hm'.2.1, fun r hr => ?_, by omega, fun x hx => ?_⟩
  · obtain ⟨k, hk, rfl⟩ := List.getElem_of_mem hr
    have h3 := hm'.2.2 k hk
    have e : ll.getD k [] = ll[k] := by simp [List.getD, hk]
    rw [e] at h3
    have h4 := (within_iff 20 _).1 h3.2
    refine ⟨by omega, fun x hx => ?_⟩
    obtain ⟨j, hj, rfl⟩ := List.getElem_of_mem hx
    have h5 := h4 j hj
    have e : (ll[k]).getD j 0 = ll[k][j] := by simp [List.getD, hj]
    rw [e] at h5
    omega
  · obtain ⟨j, hj, rfl⟩ := List.getElem_of_mem hx
    have h5 := hq j hj
    have e : l.getD j 0 = l[j] := by simp [List.getD, hj]
    rw [e] at h5
    omega
theorem SmallP.row {k : Nat} (hS : SmallP ll l) (hk : k < ll.length) : SmallL (ll.getD k []) := hS.2.2.1 _ (getD_mem hk)
theorem impl_rowsText (t : Tab h) (s : Rows w lo hi h v vs ll) (h5 : ll.length ≤ 5) (hS : ∀ r ∈ ll, SmallL r) (n : Nat) (hn : hi ≤ n) (h1 : 1 ≤ n) : Q Tryd.prog 62 [v] h n (.str (bs (rowsT ll))) := by
  refine q_intro Tryd.func62 k_impl_rowsText ?_
  obtain ⟨xs, hxs⟩ : ∃ xs, xs = ll.map numsT := ⟨_, rfl⟩
  have hxl : xs.length = ll.length := by rw [hxs, List.length_map]
  simp (maxSteps := 2000000) -implicitDefEqProofs (disch := omega) only [c_impl_rowsText, s.ln, xsW, xsC, xsD, xsE, fillA, reduceCtorEq, Nat.reduceAdd, Nat.reduceSub, Nat.reduceLeDiff, Nat.reduceMul, Int.reduceLT, Int.reduceLE, Int.reduceEq, Int.reduceNe, Int.reduceAdd, Int.reduceSub, Int.reduceMul, Int.reduceNeg, Int.reduceToNat]
  refine loop_for ll.length 0 (fun k (_ : Unit) => [v, .any, .str ⟨#[]⟩, .sl n 0 ll.length ll.length, .any, .any, .any, .any, .any, v, .int .i64 ll.length, .int .i64 k, .any, .any, .any, .any, .any, .any, .any, .any, .any, .any, .any, .any]) (fun k _ => upd h n (some ⟨9, (strs xs).take k ++ List.replicate (xs.length - k) (.str ⟨#[]⟩), true, 0⟩))
    (fun _ _ _ => True) () (Nat.zero_le _) trivial (by simp [LeL, Le1]) (by simp [hxl, repA]) ?_
  rintro k - n1 - hk hn1 -
  simp (maxSteps := 2000000) -implicitDefEqProofs (disch := omega) only [xsW, xsC, xsD, xsE, fillA, reduceCtorEq, Nat.reduceAdd, Nat.reduceSub, Nat.reduceLeDiff, Nat.reduceMul, Int.reduceLT, Int.reduceLE, Int.reduceEq, Int.reduceNe, Int.reduceAdd, Int.reduceSub, Int.reduceMul, Int.reduceNeg, Int.reduceToNat]
  (refine cd_dec (fun c1 => ?_) (fun c1 => ?_) <;> simp (maxSteps := 2000000) -implicitDefEqProofs (disch := omega) only [xsW, xsC, xsD, xsE, fillA, reduceCtorEq, Nat.reduceAdd, Nat.reduceSub, Nat.reduceLeDiff, Nat.reduceMul, Int.reduceLT, Int.reduceLE, Int.reduceEq, Int.reduceNe, Int.reduceAdd, Int.reduceSub, Int.reduceMul, Int.reduceNeg, Int.reduceToNat,  c1])
  · have hk2 : k < ll.length := by omega
    have hbel := s.out.below (by rw [s.slen]; omega)
    have hr := s.row k hk2
    have hx := hS _ (getD_mem (d := []) hk2)
    have og := one_any (Sl.any hr)
    simp (maxSteps := 2000000) -implicitDefEqProofs (disch := omega) only [xsW, xsC, xsD, xsE, fillA, reduceCtorEq, Nat.reduceAdd, Nat.reduceSub, Nat.reduceLeDiff, Nat.reduceMul, Int.reduceLT, Int.reduceLE, Int.reduceEq, Int.reduceNe, Int.reduceAdd, Int.reduceSub, Int.reduceMul, Int.reduceNeg, Int.reduceToNat,  s.ia, s.ld, og]
    refine q_use (impl_joined (t.keep (upd_other (by omega))) (hr.keep (fun i _ hi9 => by simp (disch := omega) only [upd_other])) hx _ (by omega) (by omega)) fun n2 hn2 => ?_
    have e : numsT (ll.getD k []) = xs.getD k [] := by rw [hxs]; simp [List.getD, hk2]
    rw [e]
    have hxk : k < xs.length := by omega
    simp (maxSteps := 2000000) -implicitDefEqProofs (disch := omega) only [xsW, xsC, xsD, xsE, fillA, reduceCtorEq, Nat.reduceAdd, Nat.reduceSub, Nat.reduceLeDiff, Nat.reduceMul, Int.reduceLT, Int.reduceLE, Int.reduceEq, Int.reduceNe, Int.reduceAdd, Int.reduceSub, Int.reduceMul, Int.reduceNeg, Int.reduceToNat,  fill_strs]
    have hsl := strs_len xs
    exact ⟨by omega, (), by omega, by omega, (by simp [LeL, Le1])⟩
  · have e : k = ll.length := by omega
    subst e
    have hw : Sl true n (n + 1) (upd h n (some ⟨9, (strs xs).take ll.length ++ List.replicate (xs.length - ll.length) (.str ⟨#[]⟩), true, 0⟩)) 1 (.sl n 0 ll.length ll.length) (strs xs) := by
      refine Sl.of_sl (ty := 9) (op := 0) ?_ (by rw [strs_len]; omega) (Nat.le_refl _) (Nat.le_refl _) (by omega)
      rw [upd_same, hxl, Nat.sub_self, List.take_of_length_le (by rw [strs_len]; omega)]
      simp
    refine q_use (lib_Join hw (by simp) [59] (by have := rowsT_len h5 hS; unfold rowsT at this; rw [← hxs] at this; omega) (by omega) _) fun n2 hn2 => ?_
    simp (maxSteps := 2000000) -implicitDefEqProofs (disch := omega) only [xsW, xsC, xsD, xsE, fillA, reduceCtorEq, Nat.reduceAdd, Nat.reduceSub, Nat.reduceLeDiff, Nat.reduceMul, Int.reduceLT, Int.reduceLE, Int.reduceEq, Int.reduceNe, Int.reduceAdd, Int.reduceSub, Int.reduceMul, Int.reduceNeg, Int.reduceToNat]
    rw [rowsT, hxs]
theorem spec_l01Text (s : Prob w lo hi h v u vs ll l) (hS : SmallP ll l) (n : Nat) (hn : hi ≤ n) : Q Tryd.prog 58 [.agg [v, u]] h n (.str (bs (probT ll l))) := by
  refine q_intro Tryd.func58 k_spec_l01Text ?_
  have o1 := one_any (Sl.any s.M.out)
  have o2 := one_any (Sl.any s.Q)
  have hN := hS.2.1
  have hlen : ∀ k, k ≤ ll.length → (Lib.join ((ll.take k).map numsT) [59]).length ≤ 555 := fun k hk => rowsT_len (ll := ll.take k) (by rw [List.length_take]; omega) (fun x hx => hS.2.2.1 x (List.mem_of_mem_take hx))
  have hq := numsT_len hS.2.2.2
  simp (maxSteps := 2000000) -implicitDefEqProofs (disch := omega) only [c_spec_l01Text, o1, o2, xsW, xsC, xsD, xsE, fillA, reduceCtorEq, Nat.reduceAdd, Nat.reduceSub, Nat.reduceLeDiff, Nat.reduceMul, Int.reduceLT, Int.reduceLE, Int.reduceEq, Int.reduceNe, Int.reduceAdd, Int.reduceSub, Int.reduceMul, Int.reduceNeg, Int.reduceToNat]
  refine loop_for ll.length 0 (fun k (_ : Unit) => [.any, .ptr n 0, .str ⟨#[]⟩, .str (bs (Lib.join ((ll.take k).map numsT) [59])), .int .i64 k, .any, .any, .any, .any, .any, .any, .any, .any, .any, .any, .any, .any, .any, .any, .any, .any, .any, .any, .any, .any, .any, .any, .any, .any, .any]) (fun k _ => upd h n (some ⟨50, [v, u], true, 0⟩))
    (fun _ _ _ => True) () (Nat.zero_le _) trivial (by simp [LeL, Le1, Lib.join_nil, sc0]) (fun _ _ h => h) ?_
  rintro k - n1 - hk hn1 -
  have s1 := s.keep (h' := upd h n (some ⟨50, [v, u], true, 0⟩)) (fun i _ hi9 => by simp (disch := omega) only [upd_other])
  simp (maxSteps := 2000000) -implicitDefEqProofs (disch := omega) only [xsW, xsC, xsD, xsE, fillA, reduceCtorEq, Nat.reduceAdd, Nat.reduceSub, Nat.reduceLeDiff, Nat.reduceMul, Int.reduceLT, Int.reduceLE, Int.reduceEq, Int.reduceNe, Int.reduceAdd, Int.reduceSub, Int.reduceMul, Int.reduceNeg, Int.reduceToNat,  s.M.ln]
  (refine cd_dec (fun c1 => ?_) (fun c1 => ?_) <;> simp (maxSteps := 2000000) -implicitDefEqProofs (disch := omega) only [xsW, xsC, xsD, xsE, fillA, reduceCtorEq, Nat.reduceAdd, Nat.reduceSub, Nat.reduceLeDiff, Nat.reduceMul, Int.reduceLT, Int.reduceLE, Int.reduceEq, Int.reduceNe, Int.reduceAdd, Int.reduceSub, Int.reduceMul, Int.reduceNeg, Int.reduceToNat,  c1])
  · have hk2 : k < ll.length := by omega
    have hr := s.M.row k hk2
    have hx := hS.row hk2
    have hbel := s.M.out.below (by rw [s.M.slen]; omega)
    have og := one_any (Sl.any hr)
    have hl1 := hlen k hk
    have hl2 := hlen (k + 1) hk2
    have hi := numsT_len hx
    have ex : (ll.take (k + 1)).map numsT = (ll.take k).map numsT ++ [numsT (ll.getD k [])] := by rw [take_succ_getD (d := []) hk2, List.map_append]; rfl
    (refine cd_dec (fun c2 => ?_) (fun c2 => ?_) <;> simp (maxSteps := 2000000) -implicitDefEqProofs (disch := omega) only [xsW, xsC, xsD, xsE, fillA, reduceCtorEq, Nat.reduceAdd, Nat.reduceSub, Nat.reduceLeDiff, Nat.reduceMul, Int.reduceLT, Int.reduceLE, Int.reduceEq, Int.reduceNe, Int.reduceAdd, Int.reduceSub, Int.reduceMul, Int.reduceNeg, Int.reduceToNat,  c2])
    · have hne : (ll.take k).map numsT ≠ [] := by
        intro e
        have := congrArg List.length e
        rw [List.length_map, List.length_take, List.length_nil] at this; omega
      have ej := join_snoc hne (numsT (ll.getD k [])) [59]
      simp (maxSteps := 2000000) -implicitDefEqProofs (disch := omega) only [xsW, xsC, xsD, xsE, fillA, reduceCtorEq, Nat.reduceAdd, Nat.reduceSub, Nat.reduceLeDiff, Nat.reduceMul, Int.reduceLT, Int.reduceLE, Int.reduceEq, Int.reduceNe, Int.reduceAdd, Int.reduceSub, Int.reduceMul, Int.reduceNeg, Int.reduceToNat,  sc59, bs_size, bs_app]
      refine ⟨by omega, ?_⟩
      simp (maxSteps := 2000000) -implicitDefEqProofs (disch := omega) only [xsW, xsC, xsD, xsE, fillA, reduceCtorEq, Nat.reduceAdd, Nat.reduceSub, Nat.reduceLeDiff, Nat.reduceMul, Int.reduceLT, Int.reduceLE, Int.reduceEq, Int.reduceNe, Int.reduceAdd, Int.reduceSub, Int.reduceMul, Int.reduceNeg, Int.reduceToNat,  s.M.ia, s.M.ld, og]
      refine q_use (spec_l01Numbers (hr.keep (fun i _ hi9 => by simp (disch := omega) only [upd_other])) hx _) fun n2 hn2 => ?_
      simp (maxSteps := 2000000) -implicitDefEqProofs (disch := omega) only [xsW, xsC, xsD, xsE, fillA, reduceCtorEq, Nat.reduceAdd, Nat.reduceSub, Nat.reduceLeDiff, Nat.reduceMul, Int.reduceLT, Int.reduceLE, Int.reduceEq, Int.reduceNe, Int.reduceAdd, Int.reduceSub, Int.reduceMul, Int.reduceNeg, Int.reduceToNat,  sc59, bs_size, bs_app]
      rw [ex, ej] at hl2 ⊢
      exact ⟨by omega, (), by omega, by omega, (by simp [LeL, Le1]), (fun _ _ h => h)⟩
    · have e0 : k = 0 := by omega
      have e1 : (ll.take k).map numsT = [] := by rw [e0]; rfl
      have ej : Lib.join ((ll.take k).map numsT) [59] = [] := by rw [e1]; rfl
      have ek : (ll.take (k + 1)).map numsT = [numsT (ll.getD k [])] := by rw [ex, e1]; rfl
      rw [ej]
      simp (maxSteps := 2000000) -implicitDefEqProofs (disch := omega) only [xsW, xsC, xsD, xsE, fillA, reduceCtorEq, Nat.reduceAdd, Nat.reduceSub, Nat.reduceLeDiff, Nat.reduceMul, Int.reduceLT, Int.reduceLE, Int.reduceEq, Int.reduceNe, Int.reduceAdd, Int.reduceSub, Int.reduceMul, Int.reduceNeg, Int.reduceToNat,  s.M.ia, s.M.ld, og]
      refine q_use (spec_l01Numbers (hr.keep (fun i _ hi9 => by simp (disch := omega) only [upd_other])) hx _) fun n2 hn2 => ?_
      simp (maxSteps := 2000000) -implicitDefEqProofs (disch := omega) only [xsW, xsC, xsD, xsE, fillA, reduceCtorEq, Nat.reduceAdd, Nat.reduceSub, Nat.reduceLeDiff, Nat.reduceMul, Int.reduceLT, Int.reduceLE, Int.reduceEq, Int.reduceNe, Int.reduceAdd, Int.reduceSub, Int.reduceMul, Int.reduceNeg, Int.reduceToNat,  bs_size, bs_app]
      rw [ek, join_one] at hl2 ⊢
      exact ⟨by omega, (), by omega, by omega, (by simp [LeL, Le1]), (fun _ _ h => h)⟩
  · have e : k = ll.length := by omega
    subst e
    have hl1 := hlen ll.length (Nat.le_refl _)
    rw [List.take_length] at hl1 ⊢
    simp (maxSteps := 2000000) -implicitDefEqProofs (disch := omega) only [xsW, xsC, xsD, xsE, fillA, reduceCtorEq, Nat.reduceAdd, Nat.reduceSub, Nat.reduceLeDiff, Nat.reduceMul, Int.reduceLT, Int.reduceLE, Int.reduceEq, Int.reduceNe, Int.reduceAdd, Int.reduceSub, Int.reduceMul, Int.reduceNeg, Int.reduceToNat,  sc47, bs_size, bs_app]
    refine ⟨by omega, ?_⟩
    refine q_use (spec_l01Numbers s1.Q hS.2.2.2 _) fun n2 hn2 => ?_
    simp (maxSteps := 2000000) -implicitDefEqProofs (disch := omega) only [xsW, xsC, xsD, xsE, fillA, reduceCtorEq, Nat.reduceAdd, Nat.reduceSub, Nat.reduceLeDiff, Nat.reduceMul, Int.reduceLT, Int.reduceLE, Int.reduceEq, Int.reduceNe, Int.reduceAdd, Int.reduceSub, Int.reduceMul, Int.reduceNeg, Int.reduceToNat,  bs_size, bs_app]
    refine ⟨by omega, ?_⟩
    rfl
def probTV (ll : List (List Int)) (l : List Int) : List UInt8 × Int := if isProb ll l = true then (probT ll l, 0) else ([], 1)
theorem spec_ProblemText (s : Prob w lo hi h v u vs ll l) (hl : ll.length ≤ 1048576) (hll : ∀ l ∈ ll, l.length ≤ 1048576) (hq : l.length ≤ 1048576) (n : Nat) (hn : hi ≤ n) : Q Tryd.prog 27 [.agg [v, u]] h n (.tup [.str (bs (probTV ll l).1), .int .i64 (probTV ll l).2]) := by
  refine q_intro Tryd.func27 k_spec_ProblemText ?_
  have o1 := one_any (Sl.any s.M.out)
  have o2 := one_any (Sl.any s.Q)
  simp (maxSteps := 2000000) -implicitDefEqProofs (disch := omega) only [c_spec_ProblemText, o1, o2, xsW, xsC, xsD, xsE, fillA, reduceCtorEq, Nat.reduceAdd, Nat.reduceSub, Nat.reduceLeDiff, Nat.reduceMul, Int.reduceLT, Int.reduceLE, Int.reduceEq, Int.reduceNe, Int.reduceAdd, Int.reduceSub, Int.reduceMul, Int.reduceNeg, Int.reduceToNat]
  refine q_use (spec_l01Is (s.keep (fun i _ hi9 => by simp (disch := omega) only [upd_other])) hl hll hq _ (by omega)) fun n1 hn1 => ?_
  unfold probTV
  cases hf : isProb ll l
  · simp (maxSteps := 2000000) -implicitDefEqProofs (disch := omega) only [xsW, xsC, xsD, xsE, fillA, reduceCtorEq, Nat.reduceAdd, Nat.reduceSub, Nat.reduceLeDiff, Nat.reduceMul, Int.reduceLT, Int.reduceLE, Int.reduceEq, Int.reduceNe, Int.reduceAdd, Int.reduceSub, Int.reduceMul, Int.reduceNeg, Int.reduceToNat,  sc0]
  · simp (maxSteps := 2000000) -implicitDefEqProofs (disch := omega) only [xsW, xsC, xsD, xsE, fillA, reduceCtorEq, Nat.reduceAdd, Nat.reduceSub, Nat.reduceLeDiff, Nat.reduceMul, Int.reduceLT, Int.reduceLE, Int.reduceEq, Int.reduceNe, Int.reduceAdd, Int.reduceSub, Int.reduceMul, Int.reduceNeg, Int.reduceToNat,  o1, o2]
    refine q_use (spec_l01Text (s.keep (fun i _ hi9 => by simp (disch := omega) only [upd_other])) (isProb_small hf) _ (by omega)) fun n2 hn2 => ?_
    simp (maxSteps := 2000000) -implicitDefEqProofs (disch := omega) only [xsW, xsC, xsD, xsE, fillA, reduceCtorEq, Nat.reduceAdd, Nat.reduceSub, Nat.reduceLeDiff, Nat.reduceMul, Int.reduceLT, Int.reduceLE, Int.reduceEq, Int.reduceNe, Int.reduceAdd, Int.reduceSub, Int.reduceMul, Int.reduceNeg, Int.reduceToNat]
theorem impl_ProblemText (t : Tab h) (s : Prob w lo hi h v u vs ll l) (hl : ll.length ≤ 1048576) (hll : ∀ l ∈ ll, l.length ≤ 1048576) (hq : l.length ≤ 1048576) (n : Nat) (hn : hi ≤ n) (h1 : 1 ≤ n) : Q Tryd.prog 29 [.agg [v, u]] h n (.tup [.str (bs (probTV ll l).1), .int .i64 (probTV ll l).2]) := by
  refine q_intro Tryd.func29 k_impl_ProblemText ?_
  have o1 := one_any (Sl.any s.M.out)
  have o2 := one_any (Sl.any s.Q)
  simp (maxSteps := 2000000) -implicitDefEqProofs (disch := omega) only [c_impl_ProblemText, o1, o2, xsW, xsC, xsD, xsE, fillA, reduceCtorEq, Nat.reduceAdd, Nat.reduceSub, Nat.reduceLeDiff, Nat.reduceMul, Int.reduceLT, Int.reduceLE, Int.reduceEq, Int.reduceNe, Int.reduceAdd, Int.reduceSub, Int.reduceMul, Int.reduceNeg, Int.reduceToNat]
  refine q_use (impl_IsProblem (s.keep (fun i _ hi9 => by simp (disch := omega) only [upd_other])) hl hll hq _ (by omega)) fun n1 hn1 => ?_
  unfold probTV
  cases hf : isProb ll l
  · simp (maxSteps := 2000000) -implicitDefEqProofs (disch := omega) only [xsW, xsC, xsD, xsE, fillA, reduceCtorEq, Nat.reduceAdd, Nat.reduceSub, Nat.reduceLeDiff, Nat.reduceMul, Int.reduceLT, Int.reduceLE, Int.reduceEq, Int.reduceNe, Int.reduceAdd, Int.reduceSub, Int.reduceMul, Int.reduceNeg, Int.reduceToNat,  sc0]
  · have hS := isProb_small hf
    have ha := rowsT_len hS.2.1 hS.2.2.1
    have hb := numsT_len hS.2.2.2
    simp (maxSteps := 2000000) -implicitDefEqProofs (disch := omega) only [xsW, xsC, xsD, xsE, fillA, reduceCtorEq, Nat.reduceAdd, Nat.reduceSub, Nat.reduceLeDiff, Nat.reduceMul, Int.reduceLT, Int.reduceLE, Int.reduceEq, Int.reduceNe, Int.reduceAdd, Int.reduceSub, Int.reduceMul, Int.reduceNeg, Int.reduceToNat,  o1, o2]
    refine q_use (impl_rowsText (t.keep (upd_other (by omega))) (s.keep (fun i _ hi9 => by simp (disch := omega) only [upd_other])).M hS.2.1 hS.2.2.1 _ (by omega) (by omega)) fun n2 hn2 => ?_
    simp (maxSteps := 2000000) -implicitDefEqProofs (disch := omega) only [xsW, xsC, xsD, xsE, fillA, reduceCtorEq, Nat.reduceAdd, Nat.reduceSub, Nat.reduceLeDiff, Nat.reduceMul, Int.reduceLT, Int.reduceLE, Int.reduceEq, Int.reduceNe, Int.reduceAdd, Int.reduceSub, Int.reduceMul, Int.reduceNeg, Int.reduceToNat,  sc47, bs_size, bs_app]
    refine ⟨by omega, ?_⟩
    refine q_use (impl_joined (t.keep (upd_other (by omega))) (s.keep (fun i _ hi9 => by simp (disch := omega) only [upd_other])).Q hS.2.2.2 _ (by omega) (by omega)) fun n3 hn3 => ?_
    simp (maxSteps := 2000000) -implicitDefEqProofs (disch := omega) only [xsW, xsC, xsD, xsE, fillA, reduceCtorEq, Nat.reduceAdd, Nat.reduceSub, Nat.reduceLeDiff, Nat.reduceMul, Int.reduceLT, Int.reduceLE, Int.reduceEq, Int.reduceNe, Int.reduceAdd, Int.reduceSub, Int.reduceMul, Int.reduceNeg, Int.reduceToNat,  bs_size, bs_app]
    refine ⟨by omega, ?_⟩
    rfl
theorem laws_ProblemText (t : Tab h) (s : Prob w lo hi h v u vs ll l) (hl : ll.length ≤ 9223372036854775807) (hll : ∀ l ∈ ll, l.length ≤ 9223372036854775807) (hq : l.length ≤ 9223372036854775807) (n : Nat) (hn : hi ≤ n) (h1 : 1 ≤ n) :
    Q Tryd.prog 5 [.agg [v, u]] h n (.bool true) := by
  refine q_intro Tryd.func5 k_laws_FnExactProblemText ?_
  have o1 := one_any (Sl.any s.M.out)
  have o2 := one_any (Sl.any s.Q)
  obtain ⟨r, ⟨hr0, hr1, hr2⟩, hqr⟩ := laws_szProblem (s.keep (h' := upd h n (some ⟨47, [v, u], true, 0⟩)) (fun i _ hi9 => by simp (disch := omega) only [upd_other])) hl hll hq 1048576 (by omega) (by omega) (n + 1) (by omega)
  simp (maxSteps := 2000000) -implicitDefEqProofs (disch := omega) only [c_laws_FnExactProblemText, o1, o2, xsW, xsC, xsD, xsE, fillA, reduceCtorEq, Nat.reduceAdd, Nat.reduceSub, Nat.reduceLeDiff, Nat.reduceMul, Int.reduceLT, Int.reduceLE, Int.reduceEq, Int.reduceNe, Int.reduceAdd, Int.reduceSub, Int.reduceMul, Int.reduceNeg, Int.reduceToNat]
  refine q_use hqr fun n1 hn1 => ?_
  simp (maxSteps := 2000000) -implicitDefEqProofs (disch := omega) only [xsW, xsC, xsD, xsE, fillA, reduceCtorEq, Nat.reduceAdd, Nat.reduceSub, Nat.reduceLeDiff, Nat.reduceMul, Int.reduceLT, Int.reduceLE, Int.reduceEq, Int.reduceNe, Int.reduceAdd, Int.reduceSub, Int.reduceMul, Int.reduceNeg, Int.reduceToNat]
  (refine cd_dec (fun hc => ?_) (fun hc => ?_) <;> simp (maxSteps := 2000000) -implicitDefEqProofs (disch := omega) only [xsW, xsC, xsD, xsE, fillA, reduceCtorEq, Nat.reduceAdd, Nat.reduceSub, Nat.reduceLeDiff, Nat.reduceMul, Int.reduceLT, Int.reduceLE, Int.reduceEq, Int.reduceNe, Int.reduceAdd, Int.reduceSub, Int.reduceMul, Int.reduceNeg, Int.reduceToNat,  hc])
  obtain ⟨hb, hbb⟩ := sz_len (fun h0 => (hr2 h0).1) hc
  have hbq : l.length ≤ 1048576 := by have := (hr2 (by omega)).2; omega
  refine fq_use (laws_toProblem (s.keep (fun i _ hi9 => by simp (disch := omega) only [upd_other])) hb hbb hbq _ (by omega)) fun x2 g2 n2 hn2 hs2 ⟨v2, u2, vs2, hx2, hv2⟩ => ?_
  subst hx2
  simp (maxSteps := 2000000) -implicitDefEqProofs (disch := omega) only [xsW, xsC, xsD, xsE, fillA, reduceCtorEq, Nat.reduceAdd, Nat.reduceSub, Nat.reduceLeDiff, Nat.reduceMul, Int.reduceLT, Int.reduceLE, Int.reduceEq, Int.reduceNe, Int.reduceAdd, Int.reduceSub, Int.reduceMul, Int.reduceNeg, Int.reduceToNat]
  refine q_use (spec_ProblemText hv2 hb hbb hbq _ (by omega)) fun n3 hn3 => ?_
  simp (maxSteps := 2000000) -implicitDefEqProofs (disch := omega) only [xsW, xsC, xsD, xsE, fillA, reduceCtorEq, Nat.reduceAdd, Nat.reduceSub, Nat.reduceLeDiff, Nat.reduceMul, Int.reduceLT, Int.reduceLE, Int.reduceEq, Int.reduceNe, Int.reduceAdd, Int.reduceSub, Int.reduceMul, Int.reduceNeg, Int.reduceToNat,  hs2]
  refine fq_use (laws_toProblem (s.keep (fun i _ hi9 => by simp (disch := omega) only [upd_other, hs2])) hb hbb hbq _ (by omega)) fun x4 g4 n4 hn4 hs4 ⟨v4, u4, vs4, hx4, hv4⟩ => ?_
  subst hx4
  have o3 := one_any (Sl.any hv4.M.out)
  have o4 := one_any (Sl.any hv4.Q)
  simp (maxSteps := 2000000) -implicitDefEqProofs (disch := omega) only [xsW, xsC, xsD, xsE, fillA, reduceCtorEq, Nat.reduceAdd, Nat.reduceSub, Nat.reduceLeDiff, Nat.reduceMul, Int.reduceLT, Int.reduceLE, Int.reduceEq, Int.reduceNe, Int.reduceAdd, Int.reduceSub, Int.reduceMul, Int.reduceNeg, Int.reduceToNat,  o3, o4]
  have ht : Tab (upd g4 n4 (some ⟨50, [v4, u4], true, 0⟩)) := t.keep (by simp (disch := omega) only [upd_other, hs4, hs2])
  refine q_use (impl_ProblemText ht (hv4.keep (fun i _ hi9 => by simp (disch := omega) only [upd_other])) hb hbb hbq _ (by omega) (by omega)) fun n5 hn5 => ?_
  simp (maxSteps := 2000000) -implicitDefEqProofs (disch := omega) only [xsW, xsC, xsD, xsE, fillA, reduceCtorEq, Nat.reduceAdd, Nat.reduceSub, Nat.reduceLeDiff, Nat.reduceMul, Int.reduceLT, Int.reduceLE, Int.reduceEq, Int.reduceNe, Int.reduceAdd, Int.reduceSub, Int.reduceMul, Int.reduceNeg, Int.reduceToNat,  hs2, hs4]
  refine fq_use (laws_toProblem (s.keep (fun i _ hi9 => by simp (disch := omega) only [upd_other, hs2, hs4])) hb hbb hbq _ (by omega)) fun x6 g6 n6 hn6 hs6 ⟨v6, u6, vs6, hx6, hv6⟩ => ?_
  subst hx6
  simp (maxSteps := 2000000) -implicitDefEqProofs (disch := omega) only [xsW, xsC, xsD, xsE, fillA, reduceCtorEq, Nat.reduceAdd, Nat.reduceSub, Nat.reduceLeDiff, Nat.reduceMul, Int.reduceLT, Int.reduceLE, Int.reduceEq, Int.reduceNe, Int.reduceAdd, Int.reduceSub, Int.reduceMul, Int.reduceNeg, Int.reduceToNat]
  refine q_use (laws_eqProblem (hv4.keep (fun i _ hi9 => by simp (disch := omega) only [upd_other, hs6])) hv6 hb hbb hbq _ (by omega) (by omega)) fun n7 hn7 => ?_
  simp (maxSteps := 2000000) -implicitDefEqProofs (disch := omega) only [xsW, xsC, xsD, xsE, fillA, reduceCtorEq, Nat.reduceAdd, Nat.reduceSub, Nat.reduceLeDiff, Nat.reduceMul, Int.reduceLT, Int.reduceLE, Int.reduceEq, Int.reduceNe, Int.reduceAdd, Int.reduceSub, Int.reduceMul, Int.reduceNeg, Int.reduceToNat]
end
end Go.Proofs.YtkpibnhddhdooacDoor.L
