/- Contracts: lists and rows of numbers as text. -/
import Derived.Test.YtkpibnhddhdooacDoorB2
import Derived.Shelf.Strings.SplitShaped
import Derived.Shelf.Strings.Shaped
import Derived.Shelf.Strconv.ErrVarParseInt
import Derived.Lib.ParseIntBTie
import Derived.Lib.AtoiErrMem
set_option linter.unusedSimpArgs false
set_option linter.unusedVariables false
namespace Go.Proofs.YtkpibnhddhdooacDoor.L
open Go Go.Proofs
def SmallL (l : List Int) : Prop := l.length ≤ 5 ∧ ∀ x ∈ l, -1000 ≤ x ∧ x ≤ 1000
theorem SmallL.at {l : List Int} (h : SmallL l) {k : Nat} (hk : k < l.length) : -1000 ≤ l.getD k 0 ∧ l.getD k 0 ≤ 1000 := h.2 _ (getD_mem hk)
section
variable {w : Bool} {lo hi : Nat} {h : AH} {v : AV} {l : List Int}
end
end Go.Proofs.YtkpibnhddhdooacDoor.L
namespace Go.Proofs.YtkpibnhddhdooacDoor.L
open Go Go.Proofs
section
variable {w : Bool} {lo hi : Nat} {h : AH} {v u : AV} {vs : List AV} {ll : List (List Int)} {l : List Int}
def SmallP (ll : List (List Int)) (l : List Int) : Prop := 1 ≤ ll.length ∧ ll.length ≤ 5 ∧ (∀ r ∈ ll, SmallL r) ∧ SmallL l
theorem isProb_small (hp : isProb ll l = true) : SmallP ll l := by
  simp only [isProb, Bool.and_eq_true, decide_eq_true_eq] at hp
  obtain ⟨⟨hm, hl⟩, hw⟩ := hp
  have hm' := (isMat_iff ll).1 hm
  have hq := (within_iff 100 l).1 hw
  refine ⟨hm'.1, hm'.2.1, fun r hr => ?_, by omega, fun x hx => ?_⟩
  · obtain ⟨k, hk, rfl⟩ := List.getElem_of_mem hr
    have h3 := hm'.2.2 k hk
    have e : ll.getD k [] = ll[k] := by simp [List.getD, hk]
    rw [e] at h3
    have h4 := (within_iff 20 _).1 h3.2
    refine ⟨by omega, fun x hx => ?_⟩
    obtain ⟨j, hj, rfl⟩ := List.getElem_of_mem hx
    have h5 := h4 j hj
    have e : (ll[k]).getD j 0 = ll[k][j] := by simp [List.getD, hj]
    rw [e] at h5
    omega
  · obtain ⟨j, hj, rfl⟩ := List.getElem_of_mem hx
    have h5 := hq j hj
    have e : l.getD j 0 = l[j] := by simp [List.getD, hj]
    rw [e] at h5
    omega
theorem SmallP.row {k : Nat} (hS : SmallP ll l) (hk : k < ll.length) : SmallL (ll.getD k []) := hS.2.2.1 _ (getD_mem hk)
end
end Go.Proofs.YtkpibnhddhdooacDoor.L
namespace Go.Proofs
open Go.Shelf
def Tryd.layCut_ren : Go.Shelf.Ren := ⟨fun | 145 => 67 | 220 => 88 | 219 => 102 | 217 => 114 | 225 => 115 | 224 => 116 | 267 => 117 | 266 => 129 | 314 => 130 | n => n, fun | 9 => 9 | 4 => 4 | 59 => 86 | 3 => 3 | 5 => 5 | 46 => 96 | 146 => 148 | 51 => 147 | n => n, fun | 1 => 0 | n => n⟩
theorem Tryd.layCut : Go.Proofs.LaysM.n145 Tryd.prog Tryd.layCut_ren := {
  mixed := by kernel_rfl
  f145 := Tryd.func67.trans (congrArg some (by kernel_rfl))
  f217 := Tryd.func114.trans (congrArg some (by kernel_rfl))
  f219 := Tryd.func102.trans (congrArg some (by kernel_rfl))
  f220 := Tryd.func88.trans (congrArg some (by kernel_rfl))
  f224 := Tryd.func116.trans (congrArg some (by kernel_rfl))
  f225 := Tryd.func115.trans (congrArg some (by kernel_rfl))
  f266 := Tryd.func129.trans (congrArg some (by kernel_rfl))
  f267 := Tryd.func117.trans (congrArg some (by kernel_rfl))
  f314 := Tryd.func130.trans (congrArg some (by kernel_rfl))
  t3 := Tryd.underlying3
  a3 := Tryd.isAgg3
  z3 := Tryd.sizeOf3
  v3 := Tryd.zeroValue3
  t4 := Tryd.underlying4
  a4 := Tryd.isAgg4
  z4 := Tryd.sizeOf4
  v4 := Tryd.zeroValue4
  t5 := Tryd.underlying5
  a5 := Tryd.isAgg5
  z5 := Tryd.sizeOf5
  v5 := Tryd.zeroValue5
  t9 := Tryd.underlying9
  a9 := Tryd.isAgg9
  z9 := Tryd.sizeOf9
  v9 := Tryd.zeroValue9
  t46 := Tryd.underlying96
  a46 := Tryd.isAgg96
  z46 := Tryd.sizeOf96
  v46 := Tryd.zeroValue96
  t51 := Tryd.underlying147
  a51 := Tryd.isAgg147
  z51 := Tryd.sizeOf147
  v51 := Tryd.zeroValue147
  t59 := Tryd.underlying86
  a59 := Tryd.isAgg86
  z59 := Tryd.sizeOf86
  v59 := Tryd.zeroValue86
  t146 := Tryd.underlying148
  a146 := Tryd.isAgg148
  z146 := Tryd.sizeOf148
  v146 := Tryd.zeroValue148
  g1 := by kernel_rfl
  i3 := by kernel_rfl
  i4 := by kernel_rfl
  i5 := by kernel_rfl
  i9 := by kernel_rfl
  i46 := by kernel_rfl
  i51 := by kernel_rfl
  i59 := by kernel_rfl
  i146 := by kernel_rfl
  m1 := by kernel_rfl
  s1_3 := fun w h => Go.Proofs.cell_of_shapedOpen_int (zero := #[.int .i64 0]) (t := 3) h (of_decide_eq_true (by kernel_rfl)) (by kernel_rfl) rfl (by kernel_rfl) (by kernel_rfl) Tryd.underlying3 }
def Tryd.laySplit_ren : Go.Shelf.Ren := ⟨fun | 146 => 68 | 221 => 89 | 268 => 103 | 138 => 104 | 143 => 105 | 195 => 118 | 197 => 119 | 218 => 120 | 219 => 102 | 260 => 131 | 217 => 114 | 225 => 115 | 224 => 116 | 267 => 117 | 266 => 129 | 314 => 130 | n => n, fun | 9 => 9 | 31 => 88 | 3 => 3 | 4 => 4 | 0 => 0 | 105 => 135 | 21 => 21 | 5 => 5 | 46 => 96 | 119 => 161 | 139 => 164 | 138 => 163 | 146 => 148 | 51 => 147 | n => n, fun | 1 => 0 | 3 => 2 | 4 => 3 | n => n⟩
theorem Tryd.laySplit : Go.Proofs.LaysM.n146 Tryd.prog Tryd.laySplit_ren := {
  mixed := by kernel_rfl
  f138 := Tryd.func104.trans (congrArg some (by kernel_rfl))
  f143 := Tryd.func105.trans (congrArg some (by kernel_rfl))
  f146 := Tryd.func68.trans (congrArg some (by kernel_rfl))
  f195 := Tryd.func118.trans (congrArg some (by kernel_rfl))
  f197 := Tryd.func119.trans (congrArg some (by kernel_rfl))
  f217 := Tryd.func114.trans (congrArg some (by kernel_rfl))
  f218 := Tryd.func120.trans (congrArg some (by kernel_rfl))
  f219 := Tryd.func102.trans (congrArg some (by kernel_rfl))
  f221 := Tryd.func89.trans (congrArg some (by kernel_rfl))
  f224 := Tryd.func116.trans (congrArg some (by kernel_rfl))
  f225 := Tryd.func115.trans (congrArg some (by kernel_rfl))
  f260 := Tryd.func131.trans (congrArg some (by kernel_rfl))
  f266 := Tryd.func129.trans (congrArg some (by kernel_rfl))
  f267 := Tryd.func117.trans (congrArg some (by kernel_rfl))
  f268 := Tryd.func103.trans (congrArg some (by kernel_rfl))
  f314 := Tryd.func130.trans (congrArg some (by kernel_rfl))
  t0 := Tryd.underlying0
  a0 := Tryd.isAgg0
  z0 := Tryd.sizeOf0
  v0 := Tryd.zeroValue0
  t3 := Tryd.underlying3
  a3 := Tryd.isAgg3
  z3 := Tryd.sizeOf3
  v3 := Tryd.zeroValue3
  t4 := Tryd.underlying4
  a4 := Tryd.isAgg4
  z4 := Tryd.sizeOf4
  v4 := Tryd.zeroValue4
  t5 := Tryd.underlying5
  a5 := Tryd.isAgg5
  z5 := Tryd.sizeOf5
  v5 := Tryd.zeroValue5
  t9 := Tryd.underlying9
  a9 := Tryd.isAgg9
  z9 := Tryd.sizeOf9
  v9 := Tryd.zeroValue9
  t21 := Tryd.underlying21
  a21 := Tryd.isAgg21
  z21 := Tryd.sizeOf21
  v21 := Tryd.zeroValue21
  t31 := Tryd.underlying88
  a31 := Tryd.isAgg88
  z31 := Tryd.sizeOf88
  v31 := Tryd.zeroValue88
  t46 := Tryd.underlying96
  a46 := Tryd.isAgg96
  z46 := Tryd.sizeOf96
  v46 := Tryd.zeroValue96
  t51 := Tryd.underlying147
  a51 := Tryd.isAgg147
  z51 := Tryd.sizeOf147
  v51 := Tryd.zeroValue147
  t105 := Tryd.underlying135
  a105 := Tryd.isAgg135
  z105 := Tryd.sizeOf135
  v105 := Tryd.zeroValue135
  t119 := Tryd.underlying161
  a119 := Tryd.isAgg161
  z119 := Tryd.sizeOf161
  t138 := Tryd.underlying163
  a138 := Tryd.isAgg163
  z138 := Tryd.sizeOf163
  v138 := Tryd.zeroValue163
  t139 := Tryd.underlying164
  a139 := Tryd.isAgg164
  z139 := Tryd.sizeOf164
  v139 := Tryd.zeroValue164
  t146 := Tryd.underlying148
  a146 := Tryd.isAgg148
  z146 := Tryd.sizeOf148
  v146 := Tryd.zeroValue148
  g1 := by kernel_rfl
  g3 := by kernel_rfl
  g4 := by kernel_rfl
  i0 := by kernel_rfl
  i3 := by kernel_rfl
  i4 := by kernel_rfl
  i5 := by kernel_rfl
  i9 := by kernel_rfl
  i21 := by kernel_rfl
  i31 := by kernel_rfl
  i46 := by kernel_rfl
  i51 := by kernel_rfl
  i105 := by kernel_rfl
  i138 := by kernel_rfl
  i139 := by kernel_rfl
  i146 := by kernel_rfl
  m1 := by kernel_rfl
  s1_3 := fun w h => Go.Proofs.cell_of_shapedOpen_int (zero := #[.int .i64 0]) (t := 3) h (of_decide_eq_true (by kernel_rfl)) (by kernel_rfl) rfl (by kernel_rfl) (by kernel_rfl) Tryd.underlying3
  m3 := by kernel_rfl
  m4 := by kernel_rfl }
def Tryd.layParse_ren : Go.Shelf.Ren := ⟨fun | 174 => 106 | 247 => 121 | 245 => 122 | 287 => 132 | 279 => 133 | 280 => 134 | 281 => 135 | 282 => 136 | 321 => 142 | 322 => 143 | 316 => 144 | 171 => 146 | 205 => 145 | 243 => 149 | 246 => 107 | 283 => 123 | 284 => 124 | 285 => 125 | 286 => 126 | 129 => 138 | 317 => 137 | 318 => 139 | 319 => 140 | 320 => 141 | 337 => 147 | 338 => 148 | n => n, fun | 9 => 9 | 3 => 3 | 2 => 2 | 75 => 120 | 85 => 126 | 4 => 4 | 167 => 150 | 5 => 5 | 53 => 93 | 175 => 151 | 46 => 96 | 168 => 153 | 37 => 29 | 0 => 0 | 210 => 168 | 21 => 21 | 127 => 130 | 145 => 173 | 143 => 171 | 171 => 139 | 173 => 142 | 212 => 157 | 51 => 147 | 20 => 20 | 213 => 158 | 232 => 174 | 233 => 175 | 80 => 123 | n => n, fun | 15 => 4 | 16 => 5 | 17 => 1 | 18 => 6 | 19 => 7 | n => n⟩
theorem Tryd.layParse : Go.Proofs.LaysC.n174 Tryd.prog Tryd.layParse_ren := {
  mixed := by kernel_rfl
  f129 := Tryd.func138.trans (congrArg some (by kernel_rfl))
  f171 := Tryd.func146.trans (congrArg some (by kernel_rfl))
  f174 := Tryd.func106.trans (congrArg some (by kernel_rfl))
  f205 := Tryd.func145.trans (congrArg some (by kernel_rfl))
  f243 := Tryd.func149.trans (congrArg some (by kernel_rfl))
  f245 := Tryd.func122.trans (congrArg some (by kernel_rfl))
  f246 := Tryd.func107.trans (congrArg some (by kernel_rfl))
  f247 := Tryd.func121.trans (congrArg some (by kernel_rfl))
  f279 := Tryd.func133.trans (congrArg some (by kernel_rfl))
  f280 := Tryd.func134.trans (congrArg some (by kernel_rfl))
  f281 := Tryd.func135.trans (congrArg some (by kernel_rfl))
  f282 := Tryd.func136.trans (congrArg some (by kernel_rfl))
  f283 := Tryd.func123.trans (congrArg some (by kernel_rfl))
  f284 := Tryd.func124.trans (congrArg some (by kernel_rfl))
  f285 := Tryd.func125.trans (congrArg some (by kernel_rfl))
  f286 := Tryd.func126.trans (congrArg some (by kernel_rfl))
  f287 := Tryd.func132.trans (congrArg some (by kernel_rfl))
  f316 := Tryd.func144.trans (congrArg some (by kernel_rfl))
  f317 := Tryd.func137.trans (congrArg some (by kernel_rfl))
  f318 := Tryd.func139.trans (congrArg some (by kernel_rfl))
  f319 := Tryd.func140.trans (congrArg some (by kernel_rfl))
  f320 := Tryd.func141.trans (congrArg some (by kernel_rfl))
  f321 := Tryd.func142.trans (congrArg some (by kernel_rfl))
  f322 := Tryd.func143.trans (congrArg some (by kernel_rfl))
  f337 := Tryd.func147.trans (congrArg some (by kernel_rfl))
  f338 := Tryd.func148.trans (congrArg some (by kernel_rfl))
  t0 := Tryd.underlying0
  a0 := Tryd.isAgg0
  z0 := Tryd.sizeOf0
  v0 := Tryd.zeroValue0
  t2 := Tryd.underlying2
  a2 := Tryd.isAgg2
  z2 := Tryd.sizeOf2
  v2 := Tryd.zeroValue2
  t3 := Tryd.underlying3
  a3 := Tryd.isAgg3
  z3 := Tryd.sizeOf3
  v3 := Tryd.zeroValue3
  t4 := Tryd.underlying4
  a4 := Tryd.isAgg4
  z4 := Tryd.sizeOf4
  v4 := Tryd.zeroValue4
  t5 := Tryd.underlying5
  a5 := Tryd.isAgg5
  z5 := Tryd.sizeOf5
  v5 := Tryd.zeroValue5
  t9 := Tryd.underlying9
  a9 := Tryd.isAgg9
  z9 := Tryd.sizeOf9
  v9 := Tryd.zeroValue9
  t20 := Tryd.underlying20
  a20 := Tryd.isAgg20
  z20 := Tryd.sizeOf20
  v20 := Tryd.zeroValue20
  t21 := Tryd.underlying21
  a21 := Tryd.isAgg21
  z21 := Tryd.sizeOf21
  v21 := Tryd.zeroValue21
  t37 := Tryd.underlying29
  a37 := Tryd.isAgg29
  z37 := Tryd.sizeOf29
  v37 := Tryd.zeroValue29
  t46 := Tryd.underlying96
  a46 := Tryd.isAgg96
  z46 := Tryd.sizeOf96
  v46 := Tryd.zeroValue96
  t51 := Tryd.underlying147
  a51 := Tryd.isAgg147
  z51 := Tryd.sizeOf147
  v51 := Tryd.zeroValue147
  t53 := Tryd.underlying93
  a53 := Tryd.isAgg93
  z53 := Tryd.sizeOf93
  v53 := Tryd.zeroValue93
  t75 := Tryd.underlying120
  a75 := Tryd.isAgg120
  z75 := Tryd.sizeOf120
  v75 := Tryd.zeroValue120
  t85 := Tryd.underlying126
  a85 := Tryd.isAgg126
  z85 := Tryd.sizeOf126
  v85 := Tryd.zeroValue126
  t127 := Tryd.underlying130
  a127 := Tryd.isAgg130
  z127 := Tryd.sizeOf130
  v127 := Tryd.zeroValue130
  t143 := Tryd.underlying171
  a143 := Tryd.isAgg171
  z143 := Tryd.sizeOf171
  v143 := Tryd.zeroValue171
  t145 := Tryd.underlying173
  a145 := Tryd.isAgg173
  z145 := Tryd.sizeOf173
  v145 := Tryd.zeroValue173
  t167 := Tryd.underlying150
  a167 := Tryd.isAgg150
  z167 := Tryd.sizeOf150
  v167 := Tryd.zeroValue150
  t168 := Tryd.underlying153
  a168 := Tryd.isAgg153
  z168 := Tryd.sizeOf153
  v168 := Tryd.zeroValue153
  t171 := Tryd.underlying139
  a171 := Tryd.isAgg139
  z171 := Tryd.sizeOf139
  v171 := Tryd.zeroValue139
  t173 := Tryd.underlying142
  a173 := Tryd.isAgg142
  z173 := Tryd.sizeOf142
  v173 := Tryd.zeroValue142
  t175 := Tryd.underlying151
  a175 := Tryd.isAgg151
  z175 := Tryd.sizeOf151
  v175 := Tryd.zeroValue151
  t210 := Tryd.underlying168
  a210 := Tryd.isAgg168
  z210 := Tryd.sizeOf168
  v210 := Tryd.zeroValue168
  t212 := Tryd.underlying157
  a212 := Tryd.isAgg157
  z212 := Tryd.sizeOf157
  v212 := Tryd.zeroValue157
  t213 := Tryd.underlying158
  a213 := Tryd.isAgg158
  z213 := Tryd.sizeOf158
  t232 := Tryd.underlying174
  a232 := Tryd.isAgg174
  z232 := Tryd.sizeOf174
  v232 := Tryd.zeroValue174
  t233 := Tryd.underlying175
  a233 := Tryd.isAgg175
  z233 := Tryd.sizeOf175
  v233 := Tryd.zeroValue175
  g15 := by kernel_rfl
  g16 := by kernel_rfl
  g17 := by kernel_rfl
  g18 := by kernel_rfl
  g19 := by kernel_rfl
  t80 := Tryd.underlying123
  a80 := Tryd.isAgg123
  z80 := Tryd.sizeOf123
  v80 := Tryd.zeroValue123
  i0 := by kernel_rfl
  i2 := by kernel_rfl
  i3 := by kernel_rfl
  i4 := by kernel_rfl
  i5 := by kernel_rfl
  i9 := by kernel_rfl
  i20 := by kernel_rfl
  i21 := by kernel_rfl
  i37 := by kernel_rfl
  i46 := by kernel_rfl
  i51 := by kernel_rfl
  i53 := by kernel_rfl
  i75 := by kernel_rfl
  i80 := by kernel_rfl
  i85 := by kernel_rfl
  i127 := by kernel_rfl
  i143 := by kernel_rfl
  i145 := by kernel_rfl
  i167 := by kernel_rfl
  i168 := by kernel_rfl
  i171 := by kernel_rfl
  i173 := by kernel_rfl
  i175 := by kernel_rfl
  i210 := by kernel_rfl
  i212 := by kernel_rfl
  i232 := by kernel_rfl
  i233 := by kernel_rfl
  m15 := by kernel_rfl
  m16 := by kernel_rfl
  m17 := by kernel_rfl
  m18 := by kernel_rfl
  m19 := by kernel_rfl
  c0 := by kernel_rfl
  c2 := by kernel_rfl
  c3 := by kernel_rfl
  c4 := by kernel_rfl
  c5 := by kernel_rfl
  c9 := by kernel_rfl
  c20 := by kernel_rfl
  c21 := by kernel_rfl
  c37 := by kernel_rfl
  c46 := by kernel_rfl
  c51 := by kernel_rfl
  c53 := by kernel_rfl
  c75 := by kernel_rfl
  c80 := by kernel_rfl
  c85 := by kernel_rfl
  c127 := by kernel_rfl
  c143 := by kernel_rfl
  c145 := by kernel_rfl
  c167 := by kernel_rfl
  c168 := by kernel_rfl
  c171 := by kernel_rfl
  c173 := by kernel_rfl
  c175 := by kernel_rfl
  c210 := by kernel_rfl
  c212 := by kernel_rfl
  c213 := by kernel_rfl
  c232 := by kernel_rfl
  c233 := by kernel_rfl }
end Go.Proofs
namespace Go.Proofs.YtkpibnhddhdooacDoor.L
open Go Go.Proofs
def c_impl_readWhole : F := ⟨(.seq (.reg false [⟨some 2, .mv (.c (.int .i64 0)), none⟩, ⟨some 3, .mv (.c (.bool false)), none⟩]) (.seq (.reg false [⟨some 7, .mv (.t 0), none⟩, ⟨some 8, .call (.f 106) [(.t 7), (.c (.int .i64 10)), (.c (.int .i64 64))], none⟩, ⟨some 6, .mv (.t 8), none⟩, ⟨some 9, .ext (.t 6) 0, none⟩, ⟨some 10, .ext (.t 6) 1, none⟩, ⟨some 4, .mv (.t 9), none⟩, ⟨some 5, .mv (.t 10), none⟩]) (.seq (.reg false [⟨some 11, .mv (.t 4), none⟩, ⟨some 12, .mv (.t 5), none⟩, ⟨some 13, .nileq false (.t 12) (.c .nilif), none⟩, ⟨some 14, .mv (.t 13), none⟩, ⟨some 15, .mv (.t 4), some (14, true)⟩, ⟨some 16, .call (.f 75) [(.t 15)], some (14, true)⟩, ⟨some 17, .mv (.t 0), some (14, true)⟩, ⟨some 18, .bin .eql (.t 16) (.t 17), some (14, true)⟩, ⟨some 19, .pick (.t 14) (.t 18) (.c (.bool false)), none⟩, ⟨some 2, .mv (.t 11), none⟩, ⟨some 3, .mv (.t 19), none⟩]) .ret))), 20, [(.t 2), (.t 3)]⟩
theorem k_impl_readWhole : compF Tryd.prog Tryd.f90 = some c_impl_readWhole := by kernel_rfl

def gMax : Nat := 0
def gSyn : Nat := 4
def gRng : Nat := 5
structure Tabs (h : AH) : Prop where
  pow : Tab h
  max : ∃ m : Int, h 1 = some ⟨0, [.int .i64 m], false, gMax + 1⟩
  syn : h 2 = some ⟨0, [.iface], false, gSyn + 1⟩
  rng : h 3 = some ⟨0, [.iface], false, gRng + 1⟩
theorem Tabs.keep {h h' : AH} (t : Tabs h) (k : ∀ i, i < 4 → h' i = h i) : Tabs h' :=
  ⟨t.pow.keep (k 0 (by decide)), by obtain ⟨m, hm⟩ := t.max; exact ⟨m, by rw [k 1 (by decide)]; exact hm⟩, by rw [k 2 (by decide)]; exact t.syn, by rw [k 3 (by decide)]; exact t.rng⟩
theorem fix_cell {ρ : Rho} {h : AH} {w : World} {i g ty : Nat} {c : AV} (s : Sim ρ h w) (hb : h i = some ⟨ty, [c], false, g + 1⟩) : ∃ v, w.cell? ⟨g, 0, none⟩ = some v ∧ Is ρ c v := by
  obtain ⟨cs, t, z, h1, h2, h3⟩ := fix_row s hb (by simp)
  obtain ⟨v, h4, h5⟩ := h3 0 c rfl
  exact ⟨v, by rw [cell_of_row w g 0 cs _ _ h1]; exact h4, h5⟩
theorem grown_drew (w : World) (k : Nat) : Grown w (w.drewN k) := ⟨rfl, rfl, rfl, by simp [World.drewN], fun b hb => rfl⟩
theorem lib_Cut {h : AH} (t : Tabs h) (s sep : List UInt8) (hs : s.length < 4294967281) (n : Nat) : Q Tryd.prog 67 [.str (bs s), .str (bs sep)] h n (.tup [.str (bs (Lib.cut s sep).1), .str (bs (Lib.cut s sep).2.1), .bool (Lib.cut s sep).2.2]) := by
  refine lib_q (by kernel_rfl) fun ρ w vs hsim hi => ?_
  simp only [IsL, Is] at hi
  obtain ⟨_, _, rfl, rfl, _, _, rfl, rfl, rfl⟩ := hi
  obtain ⟨m, hm⟩ := t.max
  obtain ⟨v, hv, hi⟩ := fix_cell hsim hm
  simp only [Is] at hi
  subst hi
  refine (Any.strings_Cut { Tryd.layCut with } (bs s) (bs sep) m w (by rw [bs_size]; exact hs) hv).mono ?_
  rintro e w' ⟨rfl, k, rfl⟩
  rw [bs_list, bs_list]
  exact ⟨_, rfl, by simp only [Is, IsL]; exact ⟨_, rfl, _, _, rfl, rfl, _, _, rfl, rfl, _, _, rfl, rfl, rfl⟩, grown_drew _ _⟩
theorem alloc_new {ρ : Rho} {h : AH} {w : World} {n ty : Nat} {z : List AV} {rc : List Value} (hsim : Sim ρ h w) (hf : ∀ i, n ≤ i → i < n + 1 → ρ i = none) (hz : IsL ρ z rc) :
    ∃ ρ', ρ' n = some ⟨w.heap.size, 0, 0⟩ ∧ Sim ρ' (upd h n (some ⟨ty, z, true, 0⟩)) (w.alloc (.cells rc.toArray ty)) ∧ Cx ⟨ρ, w, none', n, n + 1⟩ ρ' (w.alloc (.cells rc.toArray ty)) := by
  let ρ' : Rho := fun i => if i = n then some ⟨w.heap.size, 0, 0⟩ else ρ i
  have e : Ext ρ ρ' := fun i r hi => by
    by_cases hn : i = n
    · subst hn; rw [hf i (Nat.le_refl _) (Nat.lt_succ_self _)] at hi; cases hi
    · simp [ρ', hn, hi]
  have hn : ρ' n = some ⟨w.heap.size, 0, 0⟩ := by simp [ρ']
  have hb : (w.alloc (.cells rc.toArray ty)).heap[w.heap.size]? = some (.cells rc.toArray ty (0, 0)) := heap_alloc_new w _
  have cx : Cx ⟨ρ, w, none', n, n + 1⟩ ρ' (w.alloc (.cells rc.toArray ty)) := by
    refine ⟨rfl, rfl, rfl, by simp, fun b hb' _ => heap_alloc_old w _ hb', fun i hi => ?_, fun i hi => ?_, fun i r h1 h2 h3 => ?_, dle_refl _⟩
    · simp only at hi; simp [ρ', Nat.ne_of_lt hi]
    · simp only at hi
      have : i ≠ n := by omega
      simp [ρ', this]
    · simp only at h1 h2
      obtain rfl : i = n := by omega
      rw [hn] at h3; cases h3
      exact .inl (Nat.le_refl _)
  have s2 : Sim ρ' (upd emp n (some ⟨ty, z, true, 0⟩)) (w.alloc (.cells rc.toArray ty)) := by
    refine ⟨fun i b hi => ?_, fun i j bi bj ri rj hi hj hij => ?_⟩
    · simp only [upd] at hi
      split at hi
      · rename_i hin
        subst hin
        cases hi
        refine ⟨_, hn, fun k c hk' => ?_, fun _ => ⟨rfl, _, hb, by simp [hz.length], fun _ => by simp [hz.length], fun h => absurd rfl h⟩, fun h => by cases h⟩
        obtain ⟨u, hu, hi⟩ := hz.get k c hk'
        exact ⟨u, by rw [cell_of_row _ _ _ _ _ _ hb]; simpa using hu, hi.mono e⟩
      · simp [L.emp] at hi
    · simp only [upd] at hi hj
      split at hi
      · split at hj
        · omega
        · simp [L.emp] at hj
      · simp [L.emp] at hi
  refine ⟨ρ', hn, ?_, cx⟩
  have := hsim.mix cx hf s2
  rwa [mix_upd] at this
theorem strs_is (ρ : Rho) : ∀ l : List (List UInt8), IsL ρ (strs l) ((l.map bs).map Value.string)
  | [] => IsL.nil _
  | x :: l => IsL.cons (by simp only [Is]) (strs_is ρ l)
theorem lib_Split {h : AH} (t : Tabs h) (c : UInt8) (s : List UInt8) (hs : s.length < 4294967281) (n : Nat) :
    FQ Tryd.prog 68 [.str (bs s), .str (bs [c])] h n fun v h' n' => n' = n + 1 ∧ v = .sl n 0 (splitL c s).length (splitL c s).length ∧ h' = upd h n (some ⟨9, strs (splitL c s), true, 0⟩) := by
  refine ⟨.sl n 0 (splitL c s).length (splitL c s).length, upd h n (some ⟨9, strs (splitL c s), true, 0⟩), n + 1, ⟨by kernel_rfl, Nat.le_succ n, fun ρ w vs hsim hi hf => ?_⟩, fun i hi => upd_other (by omega), rfl, rfl, rfl⟩
  simp only [IsL, Is] at hi
  obtain ⟨_, _, rfl, rfl, _, _, rfl, rfl, rfl⟩ := hi
  obtain ⟨m, hm⟩ := t.max
  obtain ⟨v, hv, hi⟩ := fix_cell hsim hm
  simp only [Is] at hi
  subst hi
  refine (Any.strings_Split { Tryd.laySplit with } Tryd.laySplit.i9 (bs s) (bs [c]) m w (by rw [bs_size]; exact hs) hv (by rw [bs_size]; exact Nat.le_refl 1)).mono ?_
  have e1 : (Lib.splitB (bs [c]) 0 (Lib.countB (bs s) (bs [c])) (bs s)) = (splitL c s).map bs := by
    have h1 := Lib.splitB_data (bs [c]) 0 (Lib.countB (bs s) (bs [c])) (bs s)
    have h2 := (lib_splitL c s.length s (Nat.le_refl _)).1
    unfold Lib.split at h2
    have h3 : Lib.countB (bs s) (bs [c]) = Lib.count s [c] := by unfold Lib.countB; rw [bs_list, bs_list]
    rw [bs_list, bs_list, h3, h2] at h1
    rw [h3, ← h1, List.map_map]
    conv => lhs; rw [← List.map_id (Lib.splitB (bs [c]) 0 (Lib.count s [c]) (bs s))]
    refine List.map_congr_left fun x _ => ?_
    apply ByteArray.ext
    simp [bs]
  have e2 : Lib.countB (bs s) (bs [c]) + 1 = (splitL c s).length := by
    rw [(lib_splitL c s.length s (Nat.le_refl _)).2]
    unfold Lib.countB; rw [bs_list, bs_list]
  rintro e w' ⟨rfl, rfl⟩
  rw [e1, e2]
  obtain ⟨ρ', h1, h2, h3⟩ := alloc_new (ty := 9) hsim hf (strs_is ρ (splitL c s))
  exact ⟨_, ρ', rfl, by simp only [Is]; exact ⟨_, h1, rfl⟩, h2, h3⟩
def parseX (s : List UInt8) : Int := match Lib.parseIntB 64 s with
  | .ok v => v
  | .range => Lib.intSat 64 s
  | _ => 0
def parseE (s : List UInt8) : AV := match Lib.parseIntB 64 s with
  | .ok _ => .nilif
  | _ => .iface
theorem lib_ParseInt {h : AH} (t : Tabs h) (s : List UInt8) (hs : s.length ≤ 281474976710656) (n : Nat) : Q Tryd.prog 106 [.str (bs s), .int .i64 10, .int .i64 64] h n (.tup [.int .i64 (parseX s), parseE s]) := by
  refine lib_q (by kernel_rfl) fun ρ w vs hsim hi => ?_
  simp only [IsL, Is] at hi
  obtain ⟨_, _, rfl, rfl, _, _, rfl, rfl, _, _, rfl, rfl, rfl⟩ := hi
  unfold parseX parseE
  rcases hp : Lib.parseIntB 64 s with v | _ | _
  · refine (Any.strconv_ParseInt_10_at64_ok Tryd.layParse (bs s) (by rw [bs_size]; omega) v (by rw [bs_list]; exact hp) w).mono ?_
    rintro e w' ⟨rfl, hw⟩
    refine ⟨_, rfl, by simp only [Is, IsL]; exact ⟨_, rfl, _, _, rfl, rfl, _, _, rfl, rfl, rfl⟩, ?_⟩
    rcases hw with rfl | ⟨t, rfl⟩
    · exact ⟨rfl, rfl, rfl, Nat.le_refl _, fun _ _ => rfl⟩
    · exact .of_below (Lib.bytesWorld_below _ _ _)
  · obtain ⟨v, hv, ty, u, rfl⟩ := fix_cell hsim t.syn
    refine (Any.strconv_ParseInt_10_at64_syntax Tryd.layParse (bs s) (by rw [bs_size]; omega) (by rw [bs_list]; exact hp) _ w hv (.inr ⟨ty, u, rfl⟩)).mono ?_
    rintro e w' ⟨N, rfl, _, _, hb⟩
    exact ⟨_, rfl, by simp only [Is, IsL, bs_list]; exact ⟨_, rfl, _, _, rfl, rfl, _, _, rfl, ⟨_, _, rfl⟩, rfl⟩, .of_below hb⟩
  · obtain ⟨v, hv, ty, u, rfl⟩ := fix_cell hsim t.rng
    refine (Any.strconv_ParseInt_10_at64_range Tryd.layParse (bs s) (by rw [bs_size]; omega) (by rw [bs_list]; exact hp) _ w hv (.inr ⟨ty, u, rfl⟩)).mono ?_
    rintro e w' ⟨N, rfl, _, _, hb⟩
    exact ⟨_, rfl, by simp only [Is, IsL, bs_list]; exact ⟨_, rfl, _, _, rfl, rfl, _, _, rfl, ⟨_, _, rfl⟩, rfl⟩, .of_below hb⟩
theorem parseX_in (s : List UInt8) : in64 (parseX s) := by
  unfold parseX in64
  rcases hp : Lib.parseIntB 64 s with v | _ | _
  · have := Lib.parseIntB_bounds hp
    simp only
    omega
  · simp only; omega
  · simp only [Lib.intSat]
    split <;> omega
theorem impl_readWhole {h : AH} (t : Tabs h) (s : List UInt8) (hs : s.length ≤ 281474976710656) (n : Nat) : ∃ x : Int, in64 x ∧ (∀ y, readW s = some y → x = y) ∧ Q Tryd.prog 90 [.str (bs s)] h n (.tup [.int .i64 x, .bool (readW s).isSome]) := by
  refine ⟨parseX s, ?_, ?_, ?_⟩
  · exact parseX_in s
  · intro y hy
    unfold readW at hy
    unfold parseX
    split at hy
    · rename_i v hv
      rw [hv]
      split at hy
      · simp only [Option.some.injEq] at hy; exact hy
      · cases hy
    · cases hy
  refine q_intro Tryd.func90 k_impl_readWhole ?_
  simp (maxSteps := 2000000) -implicitDefEqProofs (disch := omega) only [c_impl_readWhole, xsW, xsC, xsD, xsE, fillA, reduceCtorEq, Nat.reduceAdd, Nat.reduceSub, Nat.reduceLeDiff, Nat.reduceMul, Int.reduceLT, Int.reduceLE, Int.reduceEq, Int.reduceNe, Int.reduceAdd, Int.reduceSub, Int.reduceMul, Int.reduceNeg, Int.reduceToNat]
  refine q_use (lib_ParseInt t s hs _) fun n1 hn1 => ?_
  simp (maxSteps := 2000000) -implicitDefEqProofs (disch := omega) only [xsW, xsC, xsD, xsE, fillA, reduceCtorEq, Nat.reduceAdd, Nat.reduceSub, Nat.reduceLeDiff, Nat.reduceMul, Int.reduceLT, Int.reduceLE, Int.reduceEq, Int.reduceNe, Int.reduceAdd, Int.reduceSub, Int.reduceMul, Int.reduceNeg, Int.reduceToNat]
  unfold readW parseX parseE
  rcases hp : Lib.parseIntB 64 s with v | _ | _
  · simp only
    simp (maxSteps := 2000000) -implicitDefEqProofs (disch := omega) only [xsW, xsC, xsD, xsE, fillA, reduceCtorEq, Nat.reduceAdd, Nat.reduceSub, Nat.reduceLeDiff, Nat.reduceMul, Int.reduceLT, Int.reduceLE, Int.reduceEq, Int.reduceNe, Int.reduceAdd, Int.reduceSub, Int.reduceMul, Int.reduceNeg, Int.reduceToNat]
    have hv := parseX_in s
    unfold parseX at hv
    rw [hp] at hv
    refine q_use (impl_decimal t.pow hv _) fun n2 hn2 => ?_
    simp (maxSteps := 2000000) -implicitDefEqProofs (disch := omega) only [xsW, xsC, xsD, xsE, fillA, reduceCtorEq, Nat.reduceAdd, Nat.reduceSub, Nat.reduceLeDiff, Nat.reduceMul, Int.reduceLT, Int.reduceLE, Int.reduceEq, Int.reduceNe, Int.reduceAdd, Int.reduceSub, Int.reduceMul, Int.reduceNeg, Int.reduceToNat]
    rw [bs_toList, bs_toList]
    by_cases e : Lib.itoa v = s
    · rw [if_pos e, e]; simp
    · rw [if_neg e]; simpa using e
  · simp only
    simp (maxSteps := 2000000) -implicitDefEqProofs (disch := omega) only [xsW, xsC, xsD, xsE, fillA, reduceCtorEq, Nat.reduceAdd, Nat.reduceSub, Nat.reduceLeDiff, Nat.reduceMul, Int.reduceLT, Int.reduceLE, Int.reduceEq, Int.reduceNe, Int.reduceAdd, Int.reduceSub, Int.reduceMul, Int.reduceNeg, Int.reduceToNat]
    rfl
  · simp only
    simp (maxSteps := 2000000) -implicitDefEqProofs (disch := omega) only [xsW, xsC, xsD, xsE, fillA, reduceCtorEq, Nat.reduceAdd, Nat.reduceSub, Nat.reduceLeDiff, Nat.reduceMul, Int.reduceLT, Int.reduceLE, Int.reduceEq, Int.reduceNe, Int.reduceAdd, Int.reduceSub, Int.reduceMul, Int.reduceNeg, Int.reduceToNat]
    rfl
end Go.Proofs.YtkpibnhddhdooacDoor.L
namespace Go.Proofs.YtkpibnhddhdooacDoor.L
open Go Go.Proofs
def c_spec_l01Number : F := ⟨(.seq (.reg false [⟨some 2, .mv (.c (.int .i64 0)), none⟩]) (.seq (.seq (.reg false [⟨some 5, .mv (.t 0), none⟩, ⟨some 6, .lens (.t 5), none⟩, ⟨some 7, .bin .eql (.t 6) (.c (.int .i64 0)), none⟩, ⟨some 8, .mv (.t 7), none⟩, ⟨some 9, .mv (.t 0), some (8, false)⟩, ⟨some 10, .lens (.t 9), some (8, false)⟩, ⟨some 11, .bin .gtr (.t 10) (.c (.int .i64 9)), some (8, false)⟩, ⟨some 12, .pick (.t 8) (.c (.bool true)) (.t 11), none⟩, ⟨some 13, .mv (.t 12), none⟩, ⟨some 14, .mv (.t 0), some (13, false)⟩, ⟨some 15, .lens (.t 14), some (13, false)⟩, ⟨some 16, .bin .gtr (.t 15) (.c (.int .i64 1)), some (13, false)⟩, ⟨some 17, .mv (.t 16), some (13, false)⟩, ⟨some 18, .mv (.t 0), some (17, true)⟩, ⟨some 19, .ixs (.t 18) (.c (.int .i64 0)), some (17, true)⟩, ⟨some 20, .bin .eql (.t 19) (.c (.int .u8 48)), some (17, true)⟩, ⟨some 21, .pick (.t 17) (.t 20) (.c (.bool false)), some (13, false)⟩, ⟨some 22, .pick (.t 13) (.c (.bool true)) (.t 21), none⟩]) (.cond (.t 22) (.seq (.reg false [⟨some 2, .mv (.c (.int .i64 (-1))), none⟩]) .ret) .skip)) (.seq (.reg false [⟨some 3, .mv (.c (.int .i64 0)), none⟩]) (.seq (.seq (.reg false [⟨some 4, .mv (.c (.int .i64 0)), none⟩]) (.block 0 (.loop (.seq (.seq (.reg false [⟨some 23, .mv (.t 4), none⟩, ⟨some 24, .mv (.t 0), none⟩, ⟨some 25, .lens (.t 24), none⟩, ⟨some 26, .bin .lss (.t 23) (.t 25), none⟩]) (.cond (.t 26) .skip (.exit 0))) (.seq (.block 1 (.seq (.seq (.reg false [⟨some 29, .mv (.t 0), none⟩, ⟨some 30, .mv (.t 4), none⟩, ⟨some 31, .ixs (.t 29) (.t 30), none⟩, ⟨some 32, .bin .lss (.t 31) (.c (.int .u8 48)), none⟩, ⟨some 33, .mv (.t 32), none⟩, ⟨some 34, .mv (.t 0), some (33, false)⟩, ⟨some 35, .mv (.t 4), some (33, false)⟩, ⟨some 36, .ixs (.t 34) (.t 35), some (33, false)⟩, ⟨some 37, .bin .gtr (.t 36) (.c (.int .u8 57)), some (33, false)⟩, ⟨some 38, .pick (.t 33) (.c (.bool true)) (.t 37), none⟩]) (.cond (.t 38) (.seq (.reg false [⟨some 2, .mv (.c (.int .i64 (-1))), none⟩]) .ret) .skip)) (.reg false [⟨some 39, .mv (.t 3), none⟩, ⟨some 40, .bin .mul (.t 39) (.c (.int .i64 10)), none⟩, ⟨some 41, .mv (.t 0), none⟩, ⟨some 42, .mv (.t 4), none⟩, ⟨some 43, .ixs (.t 41) (.t 42), none⟩, ⟨some 44, .bin .sub (.t 43) (.c (.int .u8 48)), none⟩, ⟨some 45, .cvi .i64 (.t 44), none⟩, ⟨some 46, .bin .add (.t 40) (.t 45), none⟩, ⟨some 3, .mv (.t 46), none⟩]))) (.reg false [⟨some 27, .mv (.t 4), none⟩, ⟨some 28, .bin .add (.t 27) (.c (.int .i64 1)), none⟩, ⟨some 4, .mv (.t 28), none⟩])))))) (.seq (.reg false [⟨some 47, .mv (.t 3), none⟩, ⟨some 2, .mv (.t 47), none⟩]) .ret))))), 48, [(.t 2)]⟩
theorem k_spec_l01Number : compF Tryd.prog Tryd.f113 = some c_spec_l01Number := by kernel_rfl
def c_spec_l01Signed : F := ⟨(.seq (.reg false [⟨some 2, .mv (.c (.int .i64 0)), none⟩, ⟨some 3, .mv (.c (.bool false)), none⟩]) (.seq (.seq (.reg false [⟨some 6, .mv (.t 0), none⟩, ⟨some 7, .lens (.t 6), none⟩, ⟨some 8, .bin .gtr (.t 7) (.c (.int .i64 0)), none⟩, ⟨some 9, .mv (.t 8), none⟩, ⟨some 10, .mv (.t 0), some (9, true)⟩, ⟨some 11, .ixs (.t 10) (.c (.int .i64 0)), some (9, true)⟩, ⟨some 12, .bin .eql (.t 11) (.c (.int .u8 45)), some (9, true)⟩, ⟨some 13, .pick (.t 9) (.t 12) (.c (.bool false)), none⟩]) (.cond (.t 13) (.seq (.reg false [⟨some 14, .mv (.t 0), none⟩, ⟨some 15, .sls (.t 14) (some (.c (.int .i64 1))) none, none⟩, ⟨some 16, .call (.f 113) [(.t 15)], none⟩, ⟨some 4, .mv (.t 16), none⟩]) (.seq (.reg false [⟨some 17, .mv (.t 4), none⟩, ⟨some 18, .un .neg (.t 17), none⟩, ⟨some 19, .mv (.t 4), none⟩, ⟨some 20, .bin .gtr (.t 19) (.c (.int .i64 0)), none⟩, ⟨some 2, .mv (.t 18), none⟩, ⟨some 3, .mv (.t 20), none⟩]) .ret)) .skip)) (.seq (.reg false [⟨some 21, .mv (.t 0), none⟩, ⟨some 22, .call (.f 113) [(.t 21)], none⟩, ⟨some 5, .mv (.t 22), none⟩]) (.seq (.reg false [⟨some 23, .mv (.t 5), none⟩, ⟨some 24, .mv (.t 5), none⟩, ⟨some 25, .bin .geq (.t 24) (.c (.int .i64 0)), none⟩, ⟨some 2, .mv (.t 23), none⟩, ⟨some 3, .mv (.t 25), none⟩]) .ret)))), 26, [(.t 2), (.t 3)]⟩
theorem k_spec_l01Signed : compF Tryd.prog Tryd.f101 = some c_spec_l01Signed := by kernel_rfl
def c_spec_l01Split : F := ⟨(.seq (.reg false [⟨some 4, .mv (.c .nilsl), none⟩]) (.seq (.reg false [⟨(some 8), (.lit 9 1 0 [(.str ⟨#[]⟩)] []), none⟩, ⟨some 5, .mv (.t 8), none⟩]) (.seq (.reg false [⟨some 6, .mv (.c (.int .i64 0)), none⟩]) (.seq (.seq (.reg false [⟨some 7, .mv (.c (.int .i64 0)), none⟩]) (.block 0 (.loop (.seq (.seq (.reg false [⟨some 9, .mv (.t 7), none⟩, ⟨some 10, .mv (.t 0), none⟩, ⟨some 11, .lens (.t 10), none⟩, ⟨some 12, .bin .lss (.t 9) (.t 11), none⟩]) (.cond (.t 12) .skip (.exit 0))) (.seq (.block 1 (.seq (.reg false [⟨some 15, .mv (.t 0), none⟩, ⟨some 16, .mv (.t 7), none⟩, ⟨some 17, .ixs (.t 15) (.t 16), none⟩, ⟨some 18, .mv (.t 1), none⟩, ⟨some 19, .bin .eql (.t 17) (.t 18), none⟩]) (.cond (.t 19) (.seq (.reg false [⟨some 20, .mv (.t 5), none⟩, ⟨some 21, .mv (.t 0), none⟩, ⟨some 22, .mv (.t 6), none⟩, ⟨some 23, .mv (.t 7), none⟩, ⟨some 24, .sls (.t 21) (some (.t 22)) (some (.t 23)), none⟩, ⟨(some 25), (.lit 9 1 1 [(.str ⟨#[]⟩)] [(0, (.t 24))]), none⟩, ⟨(some 26), (.app 9 1 16 [(.str ⟨#[]⟩)] (.t 20) (.t 25)), none⟩, ⟨some 5, .mv (.t 26), none⟩]) (.reg false [⟨some 27, .mv (.t 7), none⟩, ⟨some 28, .bin .add (.t 27) (.c (.int .i64 1)), none⟩, ⟨some 6, .mv (.t 28), none⟩])) .skip))) (.reg false [⟨some 13, .mv (.t 7), none⟩, ⟨some 14, .bin .add (.t 13) (.c (.int .i64 1)), none⟩, ⟨some 7, .mv (.t 14), none⟩])))))) (.seq (.reg false [⟨some 29, .mv (.t 5), none⟩, ⟨some 30, .mv (.t 0), none⟩, ⟨some 31, .mv (.t 6), none⟩, ⟨some 32, .sls (.t 30) (some (.t 31)) none, none⟩, ⟨(some 33), (.lit 9 1 1 [(.str ⟨#[]⟩)] [(0, (.t 32))]), none⟩, ⟨(some 34), (.app 9 1 16 [(.str ⟨#[]⟩)] (.t 29) (.t 33)), none⟩, ⟨some 4, .mv (.t 34), none⟩]) .ret))))), 35, [(.t 4)]⟩
theorem k_spec_l01Split : compF Tryd.prog Tryd.f86 = some c_spec_l01Split := by kernel_rfl

theorem ix_bs {l : List UInt8} {k : IntKind} {j : Int} (h0 : 0 ≤ j) (h1 : j < l.length) (K : AV → AH → Nat → Prop) (h : AH) (n : Nat) : IX (.str (bs l)) (.int k j) K h n = K (.int .u8 ((l.getD j.toNat 0).toNat : Int)) h n := by
  have e : (bs l).data[j.toNat]? = some (l.getD j.toNat 0) := by
    have h2 : j.toNat < l.length := by omega
    simp [bs, List.getD, h2]
  refine propext ⟨?_, fun hk => ix h0 e hk⟩
  rintro ⟨c, _, hc, hk⟩
  rw [e] at hc
  simp only [Option.some.injEq] at hc
  rw [hc]
  exact hk
theorem numV_bad {s : List UInt8} {c : UInt8} (hc : c ∈ s) (hb : ¬ isDig c) : numV s = -1 := by
  unfold numV
  rw [if_neg fun h => hb (h.2.2.2 c hc)]
theorem head_get {s : List UInt8} (h : 0 < s.length) : s.head? = some (s.getD 0 0) := by
  cases s with
  | nil => simp at h
  | cons x r => rfl
theorem spec_l01Number (s : List UInt8) (hs : s.length ≤ 1048576) (h : AH) (n : Nat) : Q Tryd.prog 113 [.str (bs s)] h n (.int .i64 (numV s)) := by
  refine q_intro Tryd.func113 k_spec_l01Number ?_
  simp (maxSteps := 2000000) -implicitDefEqProofs (disch := omega) only [c_spec_l01Number, bs_size, xsW, xsC, xsD, xsE, fillA, reduceCtorEq, Nat.reduceAdd, Nat.reduceSub, Nat.reduceLeDiff, Nat.reduceMul, Int.reduceLT, Int.reduceLE, Int.reduceEq, Int.reduceNe, Int.reduceAdd, Int.reduceSub, Int.reduceMul, Int.reduceNeg, Int.reduceToNat]
  (refine gd_dec (fun c1 => ?_) (fun c1 => ?_) <;> simp (maxSteps := 2000000) -implicitDefEqProofs (disch := omega) only [xsW, xsC, xsD, xsE, fillA, reduceCtorEq, Nat.reduceAdd, Nat.reduceSub, Nat.reduceLeDiff, Nat.reduceMul, Int.reduceLT, Int.reduceLE, Int.reduceEq, Int.reduceNe, Int.reduceAdd, Int.reduceSub, Int.reduceMul, Int.reduceNeg, Int.reduceToNat,  c1])
  · have e : s = [] := List.eq_nil_of_length_eq_zero (by omega)
    subst e
    rfl
  have hne : s ≠ [] := by intro e; rw [e] at c1; simp at c1
  simp (maxSteps := 2000000) -implicitDefEqProofs (disch := omega) only [xsW, xsC, xsD, xsE, fillA, reduceCtorEq, Nat.reduceAdd, Nat.reduceSub, Nat.reduceLeDiff, Nat.reduceMul, Int.reduceLT, Int.reduceLE, Int.reduceEq, Int.reduceNe, Int.reduceAdd, Int.reduceSub, Int.reduceMul, Int.reduceNeg, Int.reduceToNat,  bs_size]
  (refine gd_dec (fun c2 => ?_) (fun c2 => ?_) <;> simp (maxSteps := 2000000) -implicitDefEqProofs (disch := omega) only [xsW, xsC, xsD, xsE, fillA, reduceCtorEq, Nat.reduceAdd, Nat.reduceSub, Nat.reduceLeDiff, Nat.reduceMul, Int.reduceLT, Int.reduceLE, Int.reduceEq, Int.reduceNe, Int.reduceAdd, Int.reduceSub, Int.reduceMul, Int.reduceNeg, Int.reduceToNat,  c2])
  · unfold numV
    rw [if_neg fun h => by have := h.2.1; omega]
  have h9 : s.length ≤ 9 := by omega
  have hh := head_get (s := s) (by omega)
  simp (maxSteps := 2000000) -implicitDefEqProofs (disch := omega) only [xsW, xsC, xsD, xsE, fillA, reduceCtorEq, Nat.reduceAdd, Nat.reduceSub, Nat.reduceLeDiff, Nat.reduceMul, Int.reduceLT, Int.reduceLE, Int.reduceEq, Int.reduceNe, Int.reduceAdd, Int.reduceSub, Int.reduceMul, Int.reduceNeg, Int.reduceToNat,  bs_size]
  (refine gd_dec (fun c3 => ?_) (fun c3 => ?_) <;> simp (maxSteps := 2000000) -implicitDefEqProofs (disch := omega) only [xsW, xsC, xsD, xsE, fillA, reduceCtorEq, Nat.reduceAdd, Nat.reduceSub, Nat.reduceLeDiff, Nat.reduceMul, Int.reduceLT, Int.reduceLE, Int.reduceEq, Int.reduceNe, Int.reduceAdd, Int.reduceSub, Int.reduceMul, Int.reduceNeg, Int.reduceToNat,  c3])
  · simp (maxSteps := 2000000) -implicitDefEqProofs (disch := omega) only [xsW, xsC, xsD, xsE, fillA, reduceCtorEq, Nat.reduceAdd, Nat.reduceSub, Nat.reduceLeDiff, Nat.reduceMul, Int.reduceLT, Int.reduceLE, Int.reduceEq, Int.reduceNe, Int.reduceAdd, Int.reduceSub, Int.reduceMul, Int.reduceNeg, Int.reduceToNat,  bs_size, ix_bs]
    (refine cd_dec (fun c4 => ?_) (fun c4 => ?_) <;> simp (maxSteps := 2000000) -implicitDefEqProofs (disch := omega) only [xsW, xsC, xsD, xsE, fillA, reduceCtorEq, Nat.reduceAdd, Nat.reduceSub, Nat.reduceLeDiff, Nat.reduceMul, Int.reduceLT, Int.reduceLE, Int.reduceEq, Int.reduceNe, Int.reduceAdd, Int.reduceSub, Int.reduceMul, Int.reduceNeg, Int.reduceToNat,  c4])
    · unfold numV
      have e48 : s.getD 0 0 = 48 := UInt8.toNat_inj.1 (by show _ = 48; omega)
      rw [if_neg fun h => h.2.2.1 (by omega) (by rw [hh, e48])]
    · have hz : 1 < s.length → s.head? ≠ some 48 := fun _ e => by
        rw [hh, Option.some.injEq] at e
        rw [e] at c4
        exact c4 rfl
      refine loop_for s.length 0 (fun k (_ : Unit) => [.str (bs s), .any, .int .i64 0, .int .i64 (digv 0 (s.take k)), .int .i64 k, .any, .any, .any, .any, .any, .any, .any, .any, .any, .any, .any, .any, .any, .any, .any, .any, .any, .any, .any, .any, .any, .any, .any, .any, .any, .any, .any, .any, .any, .any, .any, .any, .any, .any, .any, .any, .any, .any, .any, .any, .any, .any, .any]) (fun k _ => h)
        (fun k _ _ => ∀ c ∈ s.take k, isDig c) () (Nat.zero_le _) (by simp) (by simp [LeL, Le1, digv]) (fun _ _ h => h) ?_
      rintro k - n1 - hk hn1 hd
      simp (maxSteps := 2000000) -implicitDefEqProofs (disch := omega) only [xsW, xsC, xsD, xsE, fillA, reduceCtorEq, Nat.reduceAdd, Nat.reduceSub, Nat.reduceLeDiff, Nat.reduceMul, Int.reduceLT, Int.reduceLE, Int.reduceEq, Int.reduceNe, Int.reduceAdd, Int.reduceSub, Int.reduceMul, Int.reduceNeg, Int.reduceToNat,  bs_size]
      (refine cd_dec (fun c5 => ?_) (fun c5 => ?_) <;> simp (maxSteps := 2000000) -implicitDefEqProofs (disch := omega) only [xsW, xsC, xsD, xsE, fillA, reduceCtorEq, Nat.reduceAdd, Nat.reduceSub, Nat.reduceLeDiff, Nat.reduceMul, Int.reduceLT, Int.reduceLE, Int.reduceEq, Int.reduceNe, Int.reduceAdd, Int.reduceSub, Int.reduceMul, Int.reduceNeg, Int.reduceToNat,  c5])
      · have hk2 : k < s.length := by omega
        have hlt := digv_lt (s.take k) 0 hd
        have hle : 10 ^ (s.take k).length ≤ 10 ^ 8 := Nat.pow_le_pow_right (by decide) (by rw [List.length_take]; omega)
        have h8 : (10 : Nat) ^ 8 = 100000000 := by decide
        have etk : s.take (k + 1) = s.take k ++ [s.getD k 0] := take_succ_getD (d := 0) hk2
        obtain ⟨c, hc⟩ : ∃ c, c = s.getD k 0 := ⟨_, rfl⟩
        have hmem : c ∈ s := by rw [hc]; exact getD_mem hk2
        simp (maxSteps := 2000000) -implicitDefEqProofs (disch := omega) only [xsW, xsC, xsD, xsE, fillA, reduceCtorEq, Nat.reduceAdd, Nat.reduceSub, Nat.reduceLeDiff, Nat.reduceMul, Int.reduceLT, Int.reduceLE, Int.reduceEq, Int.reduceNe, Int.reduceAdd, Int.reduceSub, Int.reduceMul, Int.reduceNeg, Int.reduceToNat,  ix_bs]
        rw [← hc] at etk ⊢
        (refine gd_dec (fun c6 => ?_) (fun c6 => ?_) <;> simp (maxSteps := 2000000) -implicitDefEqProofs (disch := omega) only [xsW, xsC, xsD, xsE, fillA, reduceCtorEq, Nat.reduceAdd, Nat.reduceSub, Nat.reduceLeDiff, Nat.reduceMul, Int.reduceLT, Int.reduceLE, Int.reduceEq, Int.reduceNe, Int.reduceAdd, Int.reduceSub, Int.reduceMul, Int.reduceNeg, Int.reduceToNat,  c6])
        · rw [numV_bad hmem (by unfold isDig; omega)]
        · simp (maxSteps := 2000000) -implicitDefEqProofs (disch := omega) only [xsW, xsC, xsD, xsE, fillA, reduceCtorEq, Nat.reduceAdd, Nat.reduceSub, Nat.reduceLeDiff, Nat.reduceMul, Int.reduceLT, Int.reduceLE, Int.reduceEq, Int.reduceNe, Int.reduceAdd, Int.reduceSub, Int.reduceMul, Int.reduceNeg, Int.reduceToNat,  ix_bs]
          rw [← hc]
          (refine cd_dec (fun c7 => ?_) (fun c7 => ?_) <;> simp (maxSteps := 2000000) -implicitDefEqProofs (disch := omega) only [xsW, xsC, xsD, xsE, fillA, reduceCtorEq, Nat.reduceAdd, Nat.reduceSub, Nat.reduceLeDiff, Nat.reduceMul, Int.reduceLT, Int.reduceLE, Int.reduceEq, Int.reduceNe, Int.reduceAdd, Int.reduceSub, Int.reduceMul, Int.reduceNeg, Int.reduceToNat,  c7])
          · rw [numV_bad hmem (by unfold isDig; omega)]
          · simp (maxSteps := 2000000) -implicitDefEqProofs (disch := omega) only [xsW, xsC, xsD, xsE, fillA, reduceCtorEq, Nat.reduceAdd, Nat.reduceSub, Nat.reduceLeDiff, Nat.reduceMul, Int.reduceLT, Int.reduceLE, Int.reduceEq, Int.reduceNe, Int.reduceAdd, Int.reduceSub, Int.reduceMul, Int.reduceNeg, Int.reduceToNat,  ix_bs]
            rw [← hc]
            have hw : IntKind.u8.wrap ((c.toNat : Int) - 48) = ((c.toNat - 48 : Nat) : Int) := by
              simp [IntKind.wrap, IntKind.bits, IntKind.signed]; omega
            rw [hw]
            have hdv : digv 0 (s.take (k + 1)) = digv 0 (s.take k) * 10 + (c.toNat - 48) := by rw [etk, digv_snoc]
            refine ⟨by unfold in64; omega, by unfold in64; omega, (), fun x hx => ?_, by omega, by omega, by simp [LeL, Le1, hdv], (fun _ _ h => h)⟩
            rw [etk, List.mem_append, List.mem_singleton] at hx
            rcases hx with hx | rfl
            · exact hd x hx
            · unfold isDig; omega
      · have e : k = s.length := by omega
        subst e
        rw [List.take_length] at hd ⊢
        unfold numV
        rw [if_pos ⟨hne, h9, hz, hd⟩]
  · have hz : 1 < s.length → s.head? ≠ some 48 := fun h => by omega
    refine loop_for s.length 0 (fun k (_ : Unit) => [.str (bs s), .any, .int .i64 0, .int .i64 (digv 0 (s.take k)), .int .i64 k, .any, .any, .any, .any, .any, .any, .any, .any, .any, .any, .any, .any, .any, .any, .any, .any, .any, .any, .any, .any, .any, .any, .any, .any, .any, .any, .any, .any, .any, .any, .any, .any, .any, .any, .any, .any, .any, .any, .any, .any, .any, .any, .any]) (fun k _ => h)
      (fun k _ _ => ∀ c ∈ s.take k, isDig c) () (Nat.zero_le _) (by simp) (by simp [LeL, Le1, digv]) (fun _ _ h => h) ?_
    rintro k - n1 - hk hn1 hd
    simp (maxSteps := 2000000) -implicitDefEqProofs (disch := omega) only [xsW, xsC, xsD, xsE, fillA, reduceCtorEq, Nat.reduceAdd, Nat.reduceSub, Nat.reduceLeDiff, Nat.reduceMul, Int.reduceLT, Int.reduceLE, Int.reduceEq, Int.reduceNe, Int.reduceAdd, Int.reduceSub, Int.reduceMul, Int.reduceNeg, Int.reduceToNat,  bs_size]
    (refine cd_dec (fun c5 => ?_) (fun c5 => ?_) <;> simp (maxSteps := 2000000) -implicitDefEqProofs (disch := omega) only [xsW, xsC, xsD, xsE, fillA, reduceCtorEq, Nat.reduceAdd, Nat.reduceSub, Nat.reduceLeDiff, Nat.reduceMul, Int.reduceLT, Int.reduceLE, Int.reduceEq, Int.reduceNe, Int.reduceAdd, Int.reduceSub, Int.reduceMul, Int.reduceNeg, Int.reduceToNat,  c5])
    · have hk2 : k < s.length := by omega
      have hlt := digv_lt (s.take k) 0 hd
      have hle : 10 ^ (s.take k).length ≤ 10 ^ 8 := Nat.pow_le_pow_right (by decide) (by rw [List.length_take]; omega)
      have h8 : (10 : Nat) ^ 8 = 100000000 := by decide
      have etk : s.take (k + 1) = s.take k ++ [s.getD k 0] := take_succ_getD (d := 0) hk2
      obtain ⟨c, hc⟩ : ∃ c, c = s.getD k 0 := ⟨_, rfl⟩
      have hmem : c ∈ s := by rw [hc]; exact getD_mem hk2
      simp (maxSteps := 2000000) -implicitDefEqProofs (disch := omega) only [xsW, xsC, xsD, xsE, fillA, reduceCtorEq, Nat.reduceAdd, Nat.reduceSub, Nat.reduceLeDiff, Nat.reduceMul, Int.reduceLT, Int.reduceLE, Int.reduceEq, Int.reduceNe, Int.reduceAdd, Int.reduceSub, Int.reduceMul, Int.reduceNeg, Int.reduceToNat,  ix_bs]
      rw [← hc] at etk ⊢
      (refine gd_dec (fun c6 => ?_) (fun c6 => ?_) <;> simp (maxSteps := 2000000) -implicitDefEqProofs (disch := omega) only [xsW, xsC, xsD, xsE, fillA, reduceCtorEq, Nat.reduceAdd, Nat.reduceSub, Nat.reduceLeDiff, Nat.reduceMul, Int.reduceLT, Int.reduceLE, Int.reduceEq, Int.reduceNe, Int.reduceAdd, Int.reduceSub, Int.reduceMul, Int.reduceNeg, Int.reduceToNat,  c6])
      · rw [numV_bad hmem (by unfold isDig; omega)]
      · simp (maxSteps := 2000000) -implicitDefEqProofs (disch := omega) only [xsW, xsC, xsD, xsE, fillA, reduceCtorEq, Nat.reduceAdd, Nat.reduceSub, Nat.reduceLeDiff, Nat.reduceMul, Int.reduceLT, Int.reduceLE, Int.reduceEq, Int.reduceNe, Int.reduceAdd, Int.reduceSub, Int.reduceMul, Int.reduceNeg, Int.reduceToNat,  ix_bs]
        rw [← hc]
        (refine cd_dec (fun c7 => ?_) (fun c7 => ?_) <;> simp (maxSteps := 2000000) -implicitDefEqProofs (disch := omega) only [xsW, xsC, xsD, xsE, fillA, reduceCtorEq, Nat.reduceAdd, Nat.reduceSub, Nat.reduceLeDiff, Nat.reduceMul, Int.reduceLT, Int.reduceLE, Int.reduceEq, Int.reduceNe, Int.reduceAdd, Int.reduceSub, Int.reduceMul, Int.reduceNeg, Int.reduceToNat,  c7])
        · rw [numV_bad hmem (by unfold isDig; omega)]
        · simp (maxSteps := 2000000) -implicitDefEqProofs (disch := omega) only [xsW, xsC, xsD, xsE, fillA, reduceCtorEq, Nat.reduceAdd, Nat.reduceSub, Nat.reduceLeDiff, Nat.reduceMul, Int.reduceLT, Int.reduceLE, Int.reduceEq, Int.reduceNe, Int.reduceAdd, Int.reduceSub, Int.reduceMul, Int.reduceNeg, Int.reduceToNat,  ix_bs]
          rw [← hc]
          have hw : IntKind.u8.wrap ((c.toNat : Int) - 48) = ((c.toNat - 48 : Nat) : Int) := by
            simp [IntKind.wrap, IntKind.bits, IntKind.signed]; omega
          rw [hw]
          have hdv : digv 0 (s.take (k + 1)) = digv 0 (s.take k) * 10 + (c.toNat - 48) := by rw [etk, digv_snoc]
          refine ⟨by unfold in64; omega, by unfold in64; omega, (), fun x hx => ?_, by omega, by omega, by simp [LeL, Le1, hdv], (fun _ _ h => h)⟩
          rw [etk, List.mem_append, List.mem_singleton] at hx
          rcases hx with hx | rfl
          · exact hd x hx
          · unfold isDig; omega
    · have e : k = s.length := by omega
      subst e
      rw [List.take_length] at hd ⊢
      unfold numV
      rw [if_pos ⟨hne, h9, hz, hd⟩]
theorem bs_extract (l : List UInt8) (a b : Nat) : (bs l).extract a b = bs ((l.drop a).take (b - a)) := by
  apply ByteArray.ext
  apply Array.ext'
  simp [bs, ByteArray.data_extract, Array.toList_extract, List.extract]
theorem spec_l01Signed (s : List UInt8) (hs : s.length ≤ 1048576) (h : AH) (n : Nat) : Q Tryd.prog 101 [.str (bs s)] h n (.tup [.int .i64 (numS s).1, .bool (numS s).2]) := by
  refine q_intro Tryd.func101 k_spec_l01Signed ?_
  simp (maxSteps := 2000000) -implicitDefEqProofs (disch := omega) only [c_spec_l01Signed, bs_size, xsW, xsC, xsD, xsE, fillA, reduceCtorEq, Nat.reduceAdd, Nat.reduceSub, Nat.reduceLeDiff, Nat.reduceMul, Int.reduceLT, Int.reduceLE, Int.reduceEq, Int.reduceNe, Int.reduceAdd, Int.reduceSub, Int.reduceMul, Int.reduceNeg, Int.reduceToNat]
  have nl := numV_le s
  have nt := numV_le s.tail
  have plain : ¬ s.head? = some 45 → numS s = (numV s, decide (0 ≤ numV s)) := fun e => by unfold numS; rw [if_neg e]
  (refine gd_dec (fun c1 => ?_) (fun c1 => ?_) <;> simp (maxSteps := 2000000) -implicitDefEqProofs (disch := omega) only [xsW, xsC, xsD, xsE, fillA, reduceCtorEq, Nat.reduceAdd, Nat.reduceSub, Nat.reduceLeDiff, Nat.reduceMul, Int.reduceLT, Int.reduceLE, Int.reduceEq, Int.reduceNe, Int.reduceAdd, Int.reduceSub, Int.reduceMul, Int.reduceNeg, Int.reduceToNat,  c1])
  · have hh := head_get (s := s) (by omega)
    simp (maxSteps := 2000000) -implicitDefEqProofs (disch := omega) only [xsW, xsC, xsD, xsE, fillA, reduceCtorEq, Nat.reduceAdd, Nat.reduceSub, Nat.reduceLeDiff, Nat.reduceMul, Int.reduceLT, Int.reduceLE, Int.reduceEq, Int.reduceNe, Int.reduceAdd, Int.reduceSub, Int.reduceMul, Int.reduceNeg, Int.reduceToNat,  bs_size, ix_bs]
    (refine cd_dec (fun c2 => ?_) (fun c2 => ?_) <;> simp (maxSteps := 2000000) -implicitDefEqProofs (disch := omega) only [xsW, xsC, xsD, xsE, fillA, reduceCtorEq, Nat.reduceAdd, Nat.reduceSub, Nat.reduceLeDiff, Nat.reduceMul, Int.reduceLT, Int.reduceLE, Int.reduceEq, Int.reduceNe, Int.reduceAdd, Int.reduceSub, Int.reduceMul, Int.reduceNeg, Int.reduceToNat,  c2])
    · have e45 : s.getD 0 0 = 45 := UInt8.toNat_inj.1 (by show _ = 45; omega)
      have hn : numS s = (-numV s.tail, decide (0 < numV s.tail)) := by unfold numS; rw [hh, e45, if_pos rfl]
      have ex : (bs s).extract 1 s.length = bs s.tail := by
        rw [bs_extract, List.take_of_length_le (by simp)]
        simp
      simp (maxSteps := 2000000) -implicitDefEqProofs (disch := omega) only [xsW, xsC, xsD, xsE, fillA, reduceCtorEq, Nat.reduceAdd, Nat.reduceSub, Nat.reduceLeDiff, Nat.reduceMul, Int.reduceLT, Int.reduceLE, Int.reduceEq, Int.reduceNe, Int.reduceAdd, Int.reduceSub, Int.reduceMul, Int.reduceNeg, Int.reduceToNat,  bs_size, ex]
      refine ⟨by omega, ?_⟩
      refine q_use (spec_l01Number s.tail (by simp; omega) _ _) fun n1 hn1 => ?_
      simp (maxSteps := 2000000) -implicitDefEqProofs (disch := omega) only [xsW, xsC, xsD, xsE, fillA, reduceCtorEq, Nat.reduceAdd, Nat.reduceSub, Nat.reduceLeDiff, Nat.reduceMul, Int.reduceLT, Int.reduceLE, Int.reduceEq, Int.reduceNe, Int.reduceAdd, Int.reduceSub, Int.reduceMul, Int.reduceNeg, Int.reduceToNat]
      rw [hn]
      exact ⟨rfl, rfl⟩
    · have e45 : ¬ s.head? = some 45 := fun e => by
        rw [hh, Option.some.injEq] at e
        rw [e] at c2
        exact c2 rfl
      refine q_use (spec_l01Number s hs _ _) fun n1 hn1 => ?_
      simp (maxSteps := 2000000) -implicitDefEqProofs (disch := omega) only [xsW, xsC, xsD, xsE, fillA, reduceCtorEq, Nat.reduceAdd, Nat.reduceSub, Nat.reduceLeDiff, Nat.reduceMul, Int.reduceLT, Int.reduceLE, Int.reduceEq, Int.reduceNe, Int.reduceAdd, Int.reduceSub, Int.reduceMul, Int.reduceNeg, Int.reduceToNat]
      rw [plain e45]
      exact ⟨rfl, rfl⟩
  · have e : s = [] := List.eq_nil_of_length_eq_zero (by omega)
    refine q_use (spec_l01Number s hs _ _) fun n1 hn1 => ?_
    simp (maxSteps := 2000000) -implicitDefEqProofs (disch := omega) only [xsW, xsC, xsD, xsE, fillA, reduceCtorEq, Nat.reduceAdd, Nat.reduceSub, Nat.reduceLeDiff, Nat.reduceMul, Int.reduceLT, Int.reduceLE, Int.reduceEq, Int.reduceNe, Int.reduceAdd, Int.reduceSub, Int.reduceMul, Int.reduceNeg, Int.reduceToNat]
    rw [plain (by rw [e]; simp)]
    exact ⟨rfl, rfl⟩
theorem strs_snoc (l : List (List UInt8)) (x : List UInt8) : strs (l ++ [x]) = strs l ++ [.str (bs x)] := by simp [strs]
theorem app_str {lo n0 n : Nat} {W : Nat → Prop} {h : AH} {ty : Nat} {v x : AV} {l : List (List UInt8)} {y : List UInt8} {K : AV → AH → Nat → Prop} (a : Acc lo n h ty 1 v (strs l)) (hlo : n0 ≤ lo) (hln : lo ≤ n) (hx : Src h 1 x 1 [.str (bs y)]) (hl : l.length ≤ 1048577)
    (k : ∀ v' h' n', n ≤ n' → Acc lo n' h' ty 1 v' (strs (l ++ [y])) → (∀ j, j < lo → h' j = h j) → K v' h' n') : AppC n0 W ty 1 v x h n K := by
  have hs : slen v = l.length := by have := a.len; rw [strs_len] at this; omega
  exact app_acc a hlo hln hx rfl rfl (by omega) fun v' h' n' k1 _ k3 _ k5 _ => k v' h' n' k1 (by rw [strs_snoc]; exact k3) k5
theorem cut_step {s : List UInt8} {a k : Nat} (ha : a ≤ k) (hk : k < s.length) : (s.drop a).take (k - a) ++ [s.getD k 0] = (s.drop a).take (k + 1 - a) := by
  have h1 : k - a < (s.drop a).length := by simp; omega
  have h2 := take_succ_getD (d := 0) h1
  rw [show k + 1 - a = k - a + 1 by omega, h2]
  congr 2
  simp only [List.getD, List.getElem?_drop]
  rw [show a + (k - a) = k by omega]
set_option maxHeartbeats 1000000 in
theorem spec_l01Split (c : UInt8) (s : List UInt8) (hs : s.length ≤ 1048576) (h : AH) (n : Nat) : FQ Tryd.prog 86 [.str (bs s), .int .u8 (c.toNat : Int)] h n fun v h' n' => Sl true n n' h' 1 v (strs (splitL c s)) := by
  refine fq_intro Tryd.func86 k_spec_l01Split ?_
  simp (maxSteps := 2000000) -implicitDefEqProofs (disch := omega) only [c_spec_l01Split, xsW, xsC, xsD, xsE, fillA, reduceCtorEq, Nat.reduceAdd, Nat.reduceSub, Nat.reduceLeDiff, Nat.reduceMul, Int.reduceLT, Int.reduceLE, Int.reduceEq, Int.reduceNe, Int.reduceAdd, Int.reduceSub, Int.reduceMul, Int.reduceNeg, Int.reduceToNat]
  refine loop_for s.length 0 (fun k p => [.str (bs s), .int .u8 (c.toNat : Int), .any, .any, .nilsl, p.1, .int .i64 (p.2.2.1 : Nat), .int .i64 k, .any, .any, .any, .any, .any, .any, .any, .any, .any, .any, .any, .any, .any, .any, .any, .any, .any, .any, .any, .any, .any, .any, .any, .any, .any, .any, .any]) (fun k (p : AV × List (List UInt8) × Nat × AH) => p.2.2.2)
    (fun k p m => Acc n m p.2.2.2 9 1 p.1 (strs p.2.1) ∧ p.2.2.1 ≤ k ∧ splitL c (s.take k) = p.2.1 ++ [(s.drop p.2.2.1).take (k - p.2.2.1)] ∧ n ≤ m) (.sl n 0 0 0, [], 0, _) (Nat.zero_le _)
    ⟨Acc.empty (upd_same _ _ _) rfl (Nat.le_refl _) (by omega), Nat.le_refl _, by simp [splitL], by omega⟩ (by simp [LeL, Le1]) (fun _ _ h => h) ?_
  rintro k ⟨v, out, at_, hp⟩ m - hk hm ⟨a, ha, hsp, hnm⟩
  simp only at a ha hsp hnm
  have hol : out.length ≤ k := by
    have := (splitL_len c _ (s.take k) (Nat.le_refl _)).1
    rw [hsp, List.length_append, List.length_take] at this
    simp at this
    omega
  simp (maxSteps := 2000000) -implicitDefEqProofs (disch := omega) only [xsW, xsC, xsD, xsE, fillA, reduceCtorEq, Nat.reduceAdd, Nat.reduceSub, Nat.reduceLeDiff, Nat.reduceMul, Int.reduceLT, Int.reduceLE, Int.reduceEq, Int.reduceNe, Int.reduceAdd, Int.reduceSub, Int.reduceMul, Int.reduceNeg, Int.reduceToNat,  bs_size]
  (refine cd_dec (fun c1 => ?_) (fun c1 => ?_) <;> simp (maxSteps := 2000000) -implicitDefEqProofs (disch := omega) only [xsW, xsC, xsD, xsE, fillA, reduceCtorEq, Nat.reduceAdd, Nat.reduceSub, Nat.reduceLeDiff, Nat.reduceMul, Int.reduceLT, Int.reduceLE, Int.reduceEq, Int.reduceNe, Int.reduceAdd, Int.reduceSub, Int.reduceMul, Int.reduceNeg, Int.reduceToNat,  c1])
  · have hk2 : k < s.length := by omega
    have etk : s.take (k + 1) = s.take k ++ [s.getD k 0] := take_succ_getD (d := 0) hk2
    have hsn := splitL_snoc c (s.getD k 0) (s.take k) out _ hsp
    rw [← etk] at hsn
    simp (maxSteps := 2000000) -implicitDefEqProofs (disch := omega) only [xsW, xsC, xsD, xsE, fillA, reduceCtorEq, Nat.reduceAdd, Nat.reduceSub, Nat.reduceLeDiff, Nat.reduceMul, Int.reduceLT, Int.reduceLE, Int.reduceEq, Int.reduceNe, Int.reduceAdd, Int.reduceSub, Int.reduceMul, Int.reduceNeg, Int.reduceToNat,  ix_bs]
    (refine cd_dec (fun c2 => ?_) (fun c2 => ?_) <;> simp (maxSteps := 2000000) -implicitDefEqProofs (disch := omega) only [xsW, xsC, xsD, xsE, fillA, reduceCtorEq, Nat.reduceAdd, Nat.reduceSub, Nat.reduceLeDiff, Nat.reduceMul, Int.reduceLT, Int.reduceLE, Int.reduceEq, Int.reduceNe, Int.reduceAdd, Int.reduceSub, Int.reduceMul, Int.reduceNeg, Int.reduceToNat,  c2])
    · have ec : s.getD k 0 = c := UInt8.toNat_inj.1 (by omega)
      rw [if_pos ec] at hsn
      simp (maxSteps := 2000000) -implicitDefEqProofs (disch := omega) only [xsW, xsC, xsD, xsE, fillA, reduceCtorEq, Nat.reduceAdd, Nat.reduceSub, Nat.reduceLeDiff, Nat.reduceMul, Int.reduceLT, Int.reduceLE, Int.reduceEq, Int.reduceNe, Int.reduceAdd, Int.reduceSub, Int.reduceMul, Int.reduceNeg, Int.reduceToNat,  bs_size, bs_extract]
      refine ⟨by omega, by omega, by omega, by omega, ?_⟩
      refine app_str (y := (s.drop at_).take (k - at_)) ((a.keep (fun i _ hi9 => by simp (disch := omega) only [upd_other])).wide (Nat.le_refl _) (by omega)) (Nat.le_refl _) (by omega) ⟨rfl, _, upd_same _ _ _, by simp, by simp [cutA]⟩ (by omega) fun v' h' n' q1 q2 q3 => ?_
      simp (maxSteps := 2000000) -implicitDefEqProofs (disch := omega) only [xsW, xsC, xsD, xsE, fillA, reduceCtorEq, Nat.reduceAdd, Nat.reduceSub, Nat.reduceLeDiff, Nat.reduceMul, Int.reduceLT, Int.reduceLE, Int.reduceEq, Int.reduceNe, Int.reduceAdd, Int.reduceSub, Int.reduceMul, Int.reduceNeg, Int.reduceToNat]
      exact ⟨(v', out ++ [(s.drop at_).take (k - at_)], k + 1, h'), ⟨q2, Nat.le_refl _, by show splitL c (s.take (k + 1)) = _; rw [hsn]; simp, by omega⟩, by omega, by omega, (by simp [LeL, Le1]), fun _ _ h => h⟩
    · have ec : ¬ s.getD k 0 = c := fun e => c2 (by rw [e])
      rw [if_neg ec, cut_step ha hk2] at hsn
      exact ⟨(v, out, at_, hp), ⟨a, Nat.le_succ_of_le ha, hsn, hnm⟩, by omega, by omega, (by simp [LeL, Le1]), fun _ _ h => h⟩
  · have e : k = s.length := by omega
    subst e
    rw [List.take_length] at hsp
    simp (maxSteps := 2000000) -implicitDefEqProofs (disch := omega) only [xsW, xsC, xsD, xsE, fillA, reduceCtorEq, Nat.reduceAdd, Nat.reduceSub, Nat.reduceLeDiff, Nat.reduceMul, Int.reduceLT, Int.reduceLE, Int.reduceEq, Int.reduceNe, Int.reduceAdd, Int.reduceSub, Int.reduceMul, Int.reduceNeg, Int.reduceToNat,  bs_size, bs_extract]
    refine ⟨by omega, by omega, ?_⟩
    refine app_str (y := (s.drop at_).take (s.length - at_)) ((a.keep (fun i _ hi9 => by simp (disch := omega) only [upd_other])).wide (Nat.le_refl _) (by omega)) (Nat.le_refl _) (by omega) ⟨rfl, _, upd_same _ _ _, by simp, by simp [cutA]⟩ (by omega) fun v' h' n' q1 q2 q3 => ?_
    simp (maxSteps := 2000000) -implicitDefEqProofs (disch := omega) only [xsW, xsC, xsD, xsE, fillA, reduceCtorEq, Nat.reduceAdd, Nat.reduceSub, Nat.reduceLeDiff, Nat.reduceMul, Int.reduceLT, Int.reduceLE, Int.reduceEq, Int.reduceNe, Int.reduceAdd, Int.reduceSub, Int.reduceMul, Int.reduceNeg, Int.reduceToNat]
    intro _ h2 hh
    rw [hsp]
    exact q2.sl.keep fun i a b => hh i a b
end Go.Proofs.YtkpibnhddhdooacDoor.L
namespace Go.Proofs.YtkpibnhddhdooacDoor.L
open Go Go.Proofs
def c_spec_l01List : F := ⟨(.seq (.reg false [⟨some 2, .mv (.c .nilsl), none⟩, ⟨some 3, .mv (.c (.bool false)), none⟩]) (.seq (.reg false [⟨some 9, .mv (.t 0), none⟩, ⟨some 10, .call (.f 86) [(.t 9), (.c (.int .u8 44))], none⟩, ⟨some 11, .lit 2 1 0 [(.int .i64 0)] [], none⟩, ⟨some 4, .mv (.t 10), none⟩, ⟨some 5, .mv (.t 11), none⟩]) (.seq (.seq (.reg false [⟨some 6, .mv (.c (.int .i64 0)), none⟩]) (.block 0 (.loop (.seq (.seq (.reg false [⟨some 12, .mv (.t 6), none⟩, ⟨some 13, .mv (.t 4), none⟩, ⟨some 14, .len (.t 13), none⟩, ⟨some 15, .bin .lss (.t 12) (.t 14), none⟩]) (.cond (.t 15) .skip (.exit 0))) (.seq (.block 1 (.seq (.reg false [⟨some 19, .mv (.t 4), none⟩, ⟨some 20, .mv (.t 6), none⟩, ⟨some 21, .ia 1 (.t 19) (.t 20), none⟩, ⟨some 22, .ld1 (.t 21), none⟩, ⟨some 23, .call (.f 101) [(.t 22)], none⟩, ⟨some 18, .mv (.t 23), none⟩, ⟨some 24, .ext (.t 18) 0, none⟩, ⟨some 25, .ext (.t 18) 1, none⟩, ⟨some 7, .mv (.t 24), none⟩, ⟨some 8, .mv (.t 25), none⟩]) (.seq (.seq (.reg false [⟨some 26, .mv (.t 8), none⟩, ⟨some 27, .un .not (.t 26), none⟩]) (.cond (.t 27) (.seq (.reg false [⟨some 2, .mv (.c .nilsl), none⟩, ⟨some 3, .mv (.c (.bool false)), none⟩]) .ret) .skip)) (.reg false [⟨some 28, .mv (.t 5), none⟩, ⟨some 29, .mv (.t 7), none⟩, ⟨some 30, .lit 2 1 1 [(.int .i64 0)] [(0, (.t 29))], none⟩, ⟨some 31, .app 2 1 8 [(.int .i64 0)] (.t 28) (.t 30), none⟩, ⟨some 5, .mv (.t 31), none⟩])))) (.reg false [⟨some 16, .mv (.t 6), none⟩, ⟨some 17, .bin .add (.t 16) (.c (.int .i64 1)), none⟩, ⟨some 6, .mv (.t 17), none⟩])))))) (.seq (.reg false [⟨some 32, .mv (.t 5), none⟩, ⟨some 2, .mv (.t 32), none⟩, ⟨some 3, .mv (.c (.bool true)), none⟩]) .ret)))), 33, [(.t 2), (.t 3)]⟩
theorem k_spec_l01List : compF Tryd.prog Tryd.f87 = some c_spec_l01List := by kernel_rfl

theorem strs_get (l : List (List UInt8)) (k : Nat) (hk : k < l.length) : (strs l).getD k .any = .str (bs (l.getD k [])) := by simp [strs, List.getD, hk]
theorem allR_snoc {α β : Type} {f : α → Option β} : ∀ {l : List α} {r : List β} {x : α} {y : β}, allR f l = some r → f x = some y → allR f (l ++ [x]) = some (r ++ [y])
  | [], r, x, y, h, hx => by
    simp only [allR, Option.some.injEq] at h
    subst h
    simp [allR, hx]
  | a :: l, r, x, y, h, hx => by
    obtain ⟨b, z, h1, h2, rfl⟩ := allR_cons.1 h
    exact allR_cons.2 ⟨b, z ++ [y], h1, allR_snoc h2 hx, rfl⟩
theorem numS_none {s : List UInt8} (h : (numS s).2 = false) : readS s = none := by unfold readS; rw [h]; rfl
theorem numS_some {s : List UInt8} (h : (numS s).2 = true) : readS s = some (numS s).1 := by unfold readS; rw [h]; rfl
set_option maxHeartbeats 1000000 in
theorem spec_l01List (s : List UInt8) (hs : s.length ≤ 1048576) (h : AH) (n : Nat) : FQ Tryd.prog 87 [.str (bs s)] h n fun x h' n' =>
    (∃ l v, listR readS s = some l ∧ x = .tup [v, .bool true] ∧ Ints true n n' h' v l ∧ l.length ≤ s.length + 1) ∨ (listR readS s = none ∧ x = .tup [.nilsl, .bool false]) := by
  refine fq_intro Tryd.func87 k_spec_l01List ?_
  simp (maxSteps := 2000000) -implicitDefEqProofs (disch := omega) only [c_spec_l01List, xsW, xsC, xsD, xsE, fillA, reduceCtorEq, Nat.reduceAdd, Nat.reduceSub, Nat.reduceLeDiff, Nat.reduceMul, Int.reduceLT, Int.reduceLE, Int.reduceEq, Int.reduceNe, Int.reduceAdd, Int.reduceSub, Int.reduceMul, Int.reduceNeg, Int.reduceToNat]
  refine fq_use (spec_l01Split 44 s hs _ _) fun v1 h1 n1 hn1 hs1 s1 => ?_
  obtain ⟨hlen, hpc⟩ := splitL_len 44 _ s (Nat.le_refl _)
  obtain ⟨ps, hps⟩ : ∃ ps, ps = splitL 44 s := ⟨_, rfl⟩
  have hR : listR readS s = allR readS ps := by rw [hps]; rfl
  rw [hR]
  rw [← hps] at s1 hlen hpc
  have hsl : slen v1 = ps.length := by have := s1.len; rw [strs_len] at this; omega
  simp (maxSteps := 2000000) -implicitDefEqProofs (disch := omega) only [xsW, xsC, xsD, xsE, fillA, reduceCtorEq, Nat.reduceAdd, Nat.reduceSub, Nat.reduceLeDiff, Nat.reduceMul, Int.reduceLT, Int.reduceLE, Int.reduceEq, Int.reduceNe, Int.reduceAdd, Int.reduceSub, Int.reduceMul, Int.reduceNeg, Int.reduceToNat]
  refine loop_for ps.length 0 (fun k p => [.str (bs s), .any, .nilsl, .bool false, v1, p.1, .int .i64 k, .any, .any, .any, .any, .any, .any, .any, .any, .any, .any, .any, .any, .any, .any, .any, .any, .any, .any, .any, .any, .any, .any, .any, .any, .any, .any]) (fun k (p : AV × List Int × AH) => p.2.2)
    (fun k p m => Acc n1 m p.2.2 2 1 p.1 (ints p.2.1) ∧ allR readS (ps.take k) = some p.2.1 ∧ n1 ≤ m ∧ ∀ j, j < n1 → p.2.2 j = h1 j) (.sl n1 0 0 0, [], _) (Nat.zero_le _)
    ⟨Acc.empty (upd_same _ _ _) rfl (Nat.le_refl _) (by omega), rfl, by omega, fun j hj => upd_other (by omega)⟩ (by simp [LeL, Le1]) (fun _ _ h => h) ?_
  rintro k ⟨v, l, hp⟩ m - hk hm ⟨a, al, hnm, old⟩
  simp only at a al hnm old
  have s2 := s1.keep (h' := hp) fun j _ hj => old j hj
  have ll := (allR_mem al).2.2
  rw [List.length_take] at ll
  simp (maxSteps := 2000000) -implicitDefEqProofs (disch := omega) only [xsW, xsC, xsD, xsE, fillA, reduceCtorEq, Nat.reduceAdd, Nat.reduceSub, Nat.reduceLeDiff, Nat.reduceMul, Int.reduceLT, Int.reduceLE, Int.reduceEq, Int.reduceNe, Int.reduceAdd, Int.reduceSub, Int.reduceMul, Int.reduceNeg, Int.reduceToNat,  s2.ln, hsl]
  (refine cd_dec (fun c1 => ?_) (fun c1 => ?_) <;> simp (maxSteps := 2000000) -implicitDefEqProofs (disch := omega) only [xsW, xsC, xsD, xsE, fillA, reduceCtorEq, Nat.reduceAdd, Nat.reduceSub, Nat.reduceLeDiff, Nat.reduceMul, Int.reduceLT, Int.reduceLE, Int.reduceEq, Int.reduceNe, Int.reduceAdd, Int.reduceSub, Int.reduceMul, Int.reduceNeg, Int.reduceToNat,  c1])
  · have hk2 : k < ps.length := by omega
    have hld := fun (K : AV → AH → Nat → Prop) (h' : AH) (n : Nat) => s2.ld (k := k) (by rw [strs_len]; exact hk2) K h' n
    rw [strs_get ps k hk2] at hld
    have hm2 : ps.getD k [] ∈ ps := getD_mem hk2
    have hw := hpc _ hm2
    have etk : ps.take (k + 1) = ps.take k ++ [ps.getD k []] := take_succ_getD (d := []) hk2
    simp (maxSteps := 2000000) -implicitDefEqProofs (disch := omega) only [xsW, xsC, xsD, xsE, fillA, reduceCtorEq, Nat.reduceAdd, Nat.reduceSub, Nat.reduceLeDiff, Nat.reduceMul, Int.reduceLT, Int.reduceLE, Int.reduceEq, Int.reduceNe, Int.reduceAdd, Int.reduceSub, Int.reduceMul, Int.reduceNeg, Int.reduceToNat,  s2.ia, hsl, hld]
    refine q_use (spec_l01Signed (ps.getD k []) (by omega) _ _) fun n2 hn2 => ?_
    cases hb : (numS (ps.getD k [])).2
    · simp (maxSteps := 2000000) -implicitDefEqProofs (disch := omega) only [xsW, xsC, xsD, xsE, fillA, reduceCtorEq, Nat.reduceAdd, Nat.reduceSub, Nat.reduceLeDiff, Nat.reduceMul, Int.reduceLT, Int.reduceLE, Int.reduceEq, Int.reduceNe, Int.reduceAdd, Int.reduceSub, Int.reduceMul, Int.reduceNeg, Int.reduceToNat]
      exact fun _ _ _ => .inr (allR_none hm2 (numS_none hb))
    · simp (maxSteps := 2000000) -implicitDefEqProofs (disch := omega) only [xsW, xsC, xsD, xsE, fillA, reduceCtorEq, Nat.reduceAdd, Nat.reduceSub, Nat.reduceLeDiff, Nat.reduceMul, Int.reduceLT, Int.reduceLE, Int.reduceEq, Int.reduceNe, Int.reduceAdd, Int.reduceSub, Int.reduceMul, Int.reduceNeg, Int.reduceToNat]
      refine app_int (y := (numS (ps.getD k [])).1) ((a.keep (fun i _ hi9 => by simp (disch := omega) only [upd_other])).wide (Nat.le_refl _) (by omega)) (by omega) (by omega) ⟨rfl, _, upd_same _ _ _, by simp, by simp [cutA]⟩ (by omega) fun v' h' n' q1 q2 q3 => ?_
      simp (maxSteps := 2000000) -implicitDefEqProofs (disch := omega) only [xsW, xsC, xsD, xsE, fillA, reduceCtorEq, Nat.reduceAdd, Nat.reduceSub, Nat.reduceLeDiff, Nat.reduceMul, Int.reduceLT, Int.reduceLE, Int.reduceEq, Int.reduceNe, Int.reduceAdd, Int.reduceSub, Int.reduceMul, Int.reduceNeg, Int.reduceToNat]
      exact ⟨(v', l ++ [(numS (ps.getD k [])).1], h'), ⟨q2, by show allR readS (ps.take (k + 1)) = _; rw [etk]; exact allR_snoc al (numS_some hb), by omega, fun j hj => by show h' j = h1 j; rw [q3 j hj, upd_other (by omega)]; exact old j hj⟩, by omega, by omega, (by simp [LeL, Le1]), fun _ _ h => h⟩
  · have e : k = ps.length := by omega
    subst e
    rw [List.take_length] at al
    intro _ h2 hh
    exact .inl ⟨l, v, al, rfl, (a.sl.keep fun j q1 q2 => hh j (by omega) q2).wide (by omega) (Nat.le_refl _), by omega⟩
end Go.Proofs.YtkpibnhddhdooacDoor.L
namespace Go.Proofs.YtkpibnhddhdooacDoor.L
open Go Go.Proofs
def c_spec_l01Read : F := ⟨(.seq (.reg false [⟨some 2, .alloc 50 [.nilsl, .nilsl], none⟩, ⟨some 3, .mv (.c (.bool false)), none⟩]) (.seq (.reg false [⟨some 12, .mv (.t 0), none⟩, ⟨some 13, .call (.f 86) [(.t 12), (.c (.int .u8 47))], none⟩, ⟨some 4, .mv (.t 13), none⟩]) (.seq (.seq (.reg false [⟨some 14, .mv (.t 4), none⟩, ⟨some 15, .len (.t 14), none⟩, ⟨some 16, .bin .neq (.t 15) (.c (.int .i64 2)), none⟩]) (.cond (.t 16) (.seq (.reg false [⟨some 17, .build [.nilsl, .nilsl] [], none⟩, ⟨none, .st 2 (.t 2) (.t 17), none⟩, ⟨some 3, .mv (.c (.bool false)), none⟩]) .ret) .skip)) (.seq (.reg false [⟨some 19, .mv (.t 4), none⟩, ⟨some 20, .ia 1 (.t 19) (.c (.int .i64 1)), none⟩, ⟨some 21, .ld1 (.t 20), none⟩, ⟨some 22, .call (.f 87) [(.t 21)], none⟩, ⟨some 18, .mv (.t 22), none⟩, ⟨some 23, .ext (.t 18) 0, none⟩, ⟨some 24, .ext (.t 18) 1, none⟩, ⟨some 5, .mv (.t 23), none⟩, ⟨some 6, .mv (.t 24), none⟩]) (.seq (.reg false [⟨some 25, .mv (.t 4), none⟩, ⟨some 26, .ia 1 (.t 25) (.c (.int .i64 0)), none⟩, ⟨some 27, .ld1 (.t 26), none⟩, ⟨some 28, .call (.f 86) [(.t 27), (.c (.int .u8 59))], none⟩, ⟨some 29, .lit 45 1 0 [.nilsl] [], none⟩, ⟨some 30, .mv (.t 5), none⟩, ⟨some 31, .build [.nilsl, .nilsl] [(0, (1, (.t 29))), (1, (1, (.t 30)))], none⟩, ⟨some 8, .alloc 50 [.nilsl, .nilsl], none⟩, ⟨some 7, .mv (.t 28), none⟩, ⟨none, .st 2 (.t 8) (.t 31), none⟩]) (.seq (.seq (.reg false [⟨some 9, .mv (.c (.int .i64 0)), none⟩]) (.block 0 (.loop (.seq (.seq (.reg false [⟨some 32, .mv (.t 9), none⟩, ⟨some 33, .mv (.t 7), none⟩, ⟨some 34, .len (.t 33), none⟩, ⟨some 35, .bin .lss (.t 32) (.t 34), none⟩, ⟨some 36, .mv (.t 35), none⟩, ⟨some 37, .mv (.t 6), some (36, true)⟩, ⟨some 38, .pick (.t 36) (.t 37) (.c (.bool false)), none⟩]) (.cond (.t 38) .skip (.exit 0))) (.seq (.block 1 (.seq (.reg false [⟨some 42, .mv (.t 7), none⟩, ⟨some 43, .mv (.t 9), none⟩, ⟨some 44, .ia 1 (.t 42) (.t 43), none⟩, ⟨some 45, .ld1 (.t 44), none⟩, ⟨some 46, .call (.f 87) [(.t 45)], none⟩, ⟨some 41, .mv (.t 46), none⟩, ⟨some 47, .ext (.t 41) 0, none⟩, ⟨some 48, .ext (.t 41) 1, none⟩, ⟨some 10, .mv (.t 47), none⟩, ⟨some 11, .mv (.t 48), none⟩]) (.seq (.reg false [⟨some 49, .mv (.t 11), none⟩, ⟨some 6, .mv (.t 49), none⟩]) (.reg false [⟨some 50, .fa 0 (.t 8), none⟩, ⟨some 51, .ld1 (.t 50), none⟩, ⟨some 52, .mv (.t 10), none⟩, ⟨some 53, .lit 45 1 1 [.nilsl] [(0, (.t 52))], none⟩, ⟨some 54, .app 45 1 24 [.nilsl] (.t 51) (.t 53), none⟩, ⟨some 55, .fa 0 (.t 8), none⟩, ⟨none, .st 1 (.t 55) (.t 54), none⟩])))) (.reg false [⟨some 39, .mv (.t 9), none⟩, ⟨some 40, .bin .add (.t 39) (.c (.int .i64 1)), none⟩, ⟨some 9, .mv (.t 40), none⟩])))))) (.seq (.seq (.reg false [⟨some 56, .mv (.t 6), none⟩, ⟨some 57, .un .not (.t 56), none⟩, ⟨some 58, .mv (.t 57), none⟩, ⟨some 59, .ld 2 (.t 8), some (58, false)⟩, ⟨some 60, .call (.f 57) [(.t 59)], some (58, false)⟩, ⟨some 61, .un .not (.t 60), some (58, false)⟩, ⟨some 62, .pick (.t 58) (.c (.bool true)) (.t 61), none⟩]) (.cond (.t 62) (.seq (.reg false [⟨some 63, .build [.nilsl, .nilsl] [], none⟩, ⟨none, .st 2 (.t 2) (.t 63), none⟩, ⟨some 3, .mv (.c (.bool false)), none⟩]) .ret) .skip)) (.seq (.reg false [⟨some 64, .ld 2 (.t 8), none⟩, ⟨none, .st 2 (.t 2) (.t 64), none⟩, ⟨some 3, .mv (.c (.bool true)), none⟩]) .ret)))))))), 65, [(.ca 2 2), (.t 3)]⟩
theorem k_spec_l01Read : compF Tryd.prog Tryd.f66 = some c_spec_l01Read := by kernel_rfl
def c_spec_ParseProblem : F := ⟨(.seq (.reg false [⟨some 2, .alloc 50 [.nilsl, .nilsl], none⟩, ⟨some 3, .mv (.c (.int .i64 0)), none⟩]) (.seq (.reg false [⟨some 7, .mv (.t 0), none⟩, ⟨some 8, .call (.f 66) [(.t 7)], none⟩, ⟨some 6, .mv (.t 8), none⟩, ⟨some 9, .ext (.t 6) 0, none⟩, ⟨some 10, .ext (.t 6) 1, none⟩, ⟨some 4, .alloc 50 [.nilsl, .nilsl], none⟩, ⟨none, .st 2 (.t 4) (.t 9), none⟩, ⟨some 5, .mv (.t 10), none⟩]) (.seq (.seq (.reg false [⟨some 11, .mv (.t 5), none⟩, ⟨some 12, .un .not (.t 11), none⟩]) (.cond (.t 12) (.seq (.reg false [⟨some 13, .build [.nilsl, .nilsl] [], none⟩, ⟨none, .st 2 (.t 2) (.t 13), none⟩, ⟨some 3, .mv (.c (.int .i64 6)), none⟩]) .ret) .skip)) (.seq (.reg false [⟨some 14, .ld 2 (.t 4), none⟩, ⟨none, .st 2 (.t 2) (.t 14), none⟩, ⟨some 3, .mv (.c (.int .i64 0)), none⟩]) .ret)))), 15, [(.ca 2 2), (.t 3)]⟩
theorem k_spec_ParseProblem : compF Tryd.prog Tryd.f31 = some c_spec_ParseProblem := by kernel_rfl

theorem Acc.lift {lo lo' hi : Nat} {h : AH} {ty es : Nat} {v : AV} {cs : List AV} (a : Acc lo hi h ty es v cs) (hne : cs ≠ []) (hb : lo' ≤ bid v) : Acc lo' hi h ty es v cs := by
  have hl := a.len
  rcases a.shape with rfl | ⟨i, b, rfl, g1, g2, g⟩ | ⟨i, m, rfl, g1, g2, g⟩
  · simp [slen] at hl; exact absurd hl hne
  · simp [slen] at hl; exact absurd hl hne
  · exact ⟨hl, .inr (.inr ⟨i, m, rfl, hb, g2, g⟩)⟩
theorem Grow.re2 {n m : Nat} {h hp h' : AH} {ty : Nat} {out : AV} {ws : List AV} {ll : List (List Int)} (g : Grow n m h hp ty out ws ll) (k : ∀ i, n ≤ i → i < m → h' i = hp i) : Grow n m h' h' ty out ws ll :=
  ⟨g.le, fun _ _ => rfl, g.acc.keep k, g.rows.keep k, g.apart⟩
theorem first_row {na nb m1 mB : Nat} {hB : AH} {ty : Nat} {b : Blk} (hb : hB na = some b) (hw : b.wr = true) (hna : na < nb) {lo : Nat} (hlo : nb ≤ lo) {v1 : AV} {l : List Int} (hv1 : Ints true lo m1 hB v1 l) (h2 : m1 ≤ mB) (h1 : lo ≤ mB)
    {n0 : Nat} {W : Nat → Prop} {x : AV} {K : AV → AH → Nat → Prop} (h0 : n0 ≤ na) (hx : Src hB 1 x 1 [v1])
    (k : ∀ out' h' n', mB ≤ n' → Grow nb n' h' h' ty out' [v1] [l] → (∀ j, j < mB → j ≠ na → h' j = hB j) → K out' h' n') : AppC n0 W ty 1 (.sl na 0 0 0) x hB mB K := by
  have a : Acc na mB hB ty 1 (.sl na 0 0 0) [] := Acc.empty hb hw (Nat.le_refl _) (by omega)
  refine app_acc a h0 (by omega) hx rfl (by simp [one_any (Sl.any hv1)]) (by simp [slen]) fun v' h' n' k1 k2 k3 k4 k5 k6 => ?_
  have hv : isSl v' = true ∧ bid v' = mB := by
    rcases k6 with ⟨rfl, _⟩ | h
    · have := k3.len; simp [slen] at this
    · exact h
  have keep : ∀ j, j < mB → j ≠ na → h' j = hB j := fun j hj hne => k4 j hj fun _ => (show j ≠ bid (.sl na 0 0 0) from hne)
  have hv2 : Ints true lo n' h' v1 l := (hv1.keep fun i q1 q2 => keep i (by omega) (by omega)).wide (Nat.le_refl _) (by omega)
  refine k v' h' n' k1 ⟨by omega, fun i hi => rfl, k3.lift (by simp) (by omega), ?_, fun j hj hs1 hs2 => ?_⟩ keep
  · exact (RowsV.nil (w := true) (lo := nb) (hi := lo) (h := h')).snoc (fun _ _ _ => rfl) hv2 hlo (by omega)
  · have e : j = 0 := by simp at hj; omega
    subst e
    have e1 : ([v1] : List AV).getD 0 .any = v1 := rfl
    rw [e1] at hs1 ⊢
    have := Sl.own hv1 hs1
    omega
theorem specP_two {ok : List (List Int) → List Int → Bool} {t a b : List UInt8} (h : splitL 47 t = [a, b]) : specP ok t = bothR ok (rowsR readS a) (listR readS b) := by unfold specP; rw [h]
theorem specP_not {ok : List (List Int) → List Int → Bool} {t : List UInt8} (h : (splitL 47 t).length ≠ 2) : specP ok t = none := by
  unfold specP
  split
  · rename_i e; rw [e] at h; simp at h
  · rfl
theorem split_two {t a b : List UInt8} (h : splitL 47 t = [a, b]) : a.length + b.length + 1 = t.length := by
  rcases cut_split 47 t with ⟨_, h2, _⟩ | ⟨a', b', _, h2, h3⟩
  · rw [h2] at h; simp at h
  · rw [h2] at h
    simp only [List.cons.injEq] at h
    obtain ⟨rfl, h⟩ := h
    rcases cut_split 47 b' with ⟨_, g2, _⟩ | ⟨x, y, _, g2, _⟩
    · rw [g2] at h
      simp only [List.cons.injEq, and_true] at h
      subst h
      rw [h3]; simp; omega
    · rw [g2] at h
      simp only [List.cons.injEq] at h
      exact absurd h.2 (splitL_ne _ _)
set_option maxHeartbeats 2000000 in
theorem spec_l01Read (s : List UInt8) (hs : s.length ≤ 1048576) (h : AH) (n : Nat) : FQ Tryd.prog 66 [.str (bs s)] h n fun x h' n' =>
    (∃ m q v u vs, specP isProb s = some (m, q) ∧ x = .tup [.agg [v, u], .bool true] ∧ Prob true n n' h' v u vs m q) ∨ (specP isProb s = none ∧ x = .tup [.agg [.nilsl, .nilsl], .bool false]) := by
  refine fq_intro Tryd.func66 k_spec_l01Read ?_
  simp (maxSteps := 2000000) -implicitDefEqProofs (disch := omega) only [c_spec_l01Read, xsW, xsC, xsD, xsE, fillA, reduceCtorEq, Nat.reduceAdd, Nat.reduceSub, Nat.reduceLeDiff, Nat.reduceMul, Int.reduceLT, Int.reduceLE, Int.reduceEq, Int.reduceNe, Int.reduceAdd, Int.reduceSub, Int.reduceMul, Int.reduceNeg, Int.reduceToNat]
  refine fq_use (spec_l01Split 47 s hs _ _) fun v1 h1 n1 hn1 hs1 s1 => ?_
  have e1 : h1 n = some ⟨50, [.nilsl, .nilsl], true, 0⟩ := by rw [hs1 n (by omega), upd_same]
  obtain ⟨hlen, hpc⟩ := splitL_len 47 _ s (Nat.le_refl _)
  have hsl : slen v1 = (splitL 47 s).length := by have := s1.len; rw [strs_len] at this; omega
  simp (maxSteps := 2000000) -implicitDefEqProofs (disch := omega) only [xsW, xsC, xsD, xsE, fillA, reduceCtorEq, Nat.reduceAdd, Nat.reduceSub, Nat.reduceLeDiff, Nat.reduceMul, Int.reduceLT, Int.reduceLE, Int.reduceEq, Int.reduceNe, Int.reduceAdd, Int.reduceSub, Int.reduceMul, Int.reduceNeg, Int.reduceToNat,  s1.ln, hsl]
  (refine cd_dec (fun c1 => ?_) (fun c1 => ?_) <;> simp (maxSteps := 2000000) -implicitDefEqProofs (disch := omega) only [xsW, xsC, xsD, xsE, fillA, reduceCtorEq, Nat.reduceAdd, Nat.reduceSub, Nat.reduceLeDiff, Nat.reduceMul, Int.reduceLT, Int.reduceLE, Int.reduceEq, Int.reduceNe, Int.reduceAdd, Int.reduceSub, Int.reduceMul, Int.reduceNeg, Int.reduceToNat,  c1])
  · simp (maxSteps := 2000000) -implicitDefEqProofs (disch := omega) only [xsW, xsC, xsD, xsE, fillA, reduceCtorEq, Nat.reduceAdd, Nat.reduceSub, Nat.reduceLeDiff, Nat.reduceMul, Int.reduceLT, Int.reduceLE, Int.reduceEq, Int.reduceNe, Int.reduceAdd, Int.reduceSub, Int.reduceMul, Int.reduceNeg, Int.reduceToNat,  e1]
    exact fun _ _ _ => .inr (specP_not (by omega))
  obtain ⟨a, b, hab⟩ : ∃ a b, splitL 47 s = [a, b] := by
    match splitL 47 s, c1 with
    | [], h => simp at h
    | [a], h => simp at h
    | [a, b], _ => exact ⟨a, b, rfl⟩
    | a :: b :: c :: d, h => simp at h; omega
  have hl2 := split_two hab
  rw [specP_two hab]
  rw [hab] at s1 hsl
  replace hsl : slen v1 = 2 := hsl
  have hld0 := fun (K : AV → AH → Nat → Prop) (h' : AH) (n : Nat) => s1.ld (k := 0) (by rw [strs_len]; simp) K h' n
  have hld1 := fun (K : AV → AH → Nat → Prop) (h' : AH) (n : Nat) => s1.ld (k := 1) (by rw [strs_len]; simp) K h' n
  rw [strs_get _ 0 (by simp)] at hld0
  rw [strs_get _ 1 (by simp)] at hld1
  simp only [List.getD_cons_zero, List.getD_cons_succ, Nat.add_zero] at hld0 hld1
  simp (maxSteps := 2000000) -implicitDefEqProofs (disch := omega) only [xsW, xsC, xsD, xsE, fillA, reduceCtorEq, Nat.reduceAdd, Nat.reduceSub, Nat.reduceLeDiff, Nat.reduceMul, Int.reduceLT, Int.reduceLE, Int.reduceEq, Int.reduceNe, Int.reduceAdd, Int.reduceSub, Int.reduceMul, Int.reduceNeg, Int.reduceToNat,  s1.ia, hsl, hld1, hld0]
  refine fq_use (spec_l01List b (by omega) _ _) fun x2 h2 n2 hn2 hs2 hx2 => ?_
  obtain ⟨vq, fq, q, hxq, hq1, hq0, sq⟩ : ∃ (vq : AV) (fq : Bool) (q : List Int), x2 = .tup [vq, .bool fq] ∧ (fq = true → listR readS b = some q ∧ q.length ≤ b.length + 1) ∧ (fq = false → listR readS b = none) ∧ Ints true n1 n2 h2 vq q := by
    rcases hx2 with ⟨l, v, g1, g2, g3, g4⟩ | ⟨g1, g2⟩
    · exact ⟨v, true, l, g2, fun _ => ⟨g1, g4⟩, (fun h => by cases h), g3⟩
    · exact ⟨.nilsl, false, [], g2, (fun h => by cases h), fun _ => g1, Sl.nil⟩
  subst hxq
  have s2 := s1.keep (h' := h2) fun j _ hj => hs2 j (by omega)
  have hld2 := fun (K : AV → AH → Nat → Prop) (h' : AH) (n : Nat) => s2.ld (k := 0) (by rw [strs_len]; simp) K h' n
  rw [strs_get _ 0 (by simp)] at hld2
  simp only [List.getD_cons_zero, Nat.add_zero] at hld2
  simp (maxSteps := 2000000) -implicitDefEqProofs (disch := omega) only [xsW, xsC, xsD, xsE, fillA, reduceCtorEq, Nat.reduceAdd, Nat.reduceSub, Nat.reduceLeDiff, Nat.reduceMul, Int.reduceLT, Int.reduceLE, Int.reduceEq, Int.reduceNe, Int.reduceAdd, Int.reduceSub, Int.reduceMul, Int.reduceNeg, Int.reduceToNat,  s2.ia, hsl, hld2]
  refine fq_use (spec_l01Split 59 a (by omega) _ _) fun v3 h3 n3 hn3 hs3 s3 => ?_
  obtain ⟨hlen3, hpc3⟩ := splitL_len 59 _ a (Nat.le_refl _)
  obtain ⟨ps, hps⟩ : ∃ ps, ps = splitL 59 a := ⟨_, rfl⟩
  have hR : rowsR readS a = allR (listR readS) ps := by rw [hps]; rfl
  rw [hR]
  rw [← hps] at s3 hlen3 hpc3
  have hsl3 : slen v3 = ps.length := by have := s3.len; rw [strs_len] at this; omega
  have sq3 := sq.keep (h' := h3) fun j _ hj => hs3 j (by omega)
  have o1 := one_any (Sl.any sq)
  have o2 := sto_any (Sl.any sq)
  have o3 := cel_any (Sl.any sq)
  simp (maxSteps := 2000000) -implicitDefEqProofs (disch := omega) only [xsW, xsC, xsD, xsE, fillA, reduceCtorEq, Nat.reduceAdd, Nat.reduceSub, Nat.reduceLeDiff, Nat.reduceMul, Int.reduceLT, Int.reduceLE, Int.reduceEq, Int.reduceNe, Int.reduceAdd, Int.reduceSub, Int.reduceMul, Int.reduceNeg, Int.reduceToNat,  o1, o2, o3]
  have none_of : listR readS b = none → bothR isProb (allR (listR readS) ps) (listR readS b) = none := fun e => by rw [e]; cases allR (listR readS) ps <;> rfl
  refine loop_for ps.length 0 (fun k p => [.str (bs s), .any, .ptr n 0, .bool false, v1, vq, .bool p.2.2.2.1, v3, .ptr (n3 + 1) 0, .int .i64 k, .any, .any, .any, .any, .any, .any, .any, .any, .any, .any, .any, .any, .any, .any, .any, .any, .any, .any, .any, .any, .any, .any, .any, .any, .any, .any, .any, .any, .any, .any, .any, .any, .any, .any, .any, .any, .any, .any, .any, .any, .any, .any, .any, .any, .any, .any, .any, .any, .any, .any, .any, .any, .any, .any, .any]) (fun k (p : AV × List AV × List (List Int) × Bool × AH) => p.2.2.2.2)
    (fun k p m => (p.2.2.2.2 (n3 + 1) = some ⟨50, [p.1, vq], true, 0⟩ ∧ (∀ j, j < n3 → p.2.2.2.2 j = h3 j) ∧ n3 + 2 ≤ m ∧ p.2.2.1.length = k ∧ (∀ l ∈ p.2.2.1, l.length ≤ 1048576)) ∧
      ((k = 0 ∧ p.1 = .sl n3 0 0 0 ∧ p.2.1 = [] ∧ p.2.2.1 = [] ∧ ∃ b, p.2.2.2.2 n3 = some b ∧ b.wr = true) ∨ (1 ≤ k ∧ Grow (n3 + 2) m p.2.2.2.2 p.2.2.2.2 45 p.1 p.2.1 p.2.2.1)) ∧
      (p.2.2.2.1 = true → fq = true ∧ allR (listR readS) (ps.take k) = some p.2.2.1) ∧ (p.2.2.2.1 = false → bothR isProb (allR (listR readS) ps) (listR readS b) = none)) (.sl n3 0 0 0, [], [], fq, _) (Nat.zero_le _)
    ⟨⟨upd_same _ _ _, fun j hj => (upd_other (by omega)).trans (upd_other (by omega)), by omega, rfl, by simp⟩, .inl ⟨rfl, rfl, rfl, rfl, _, (upd_other (by omega)).trans (upd_same _ _ _), rfl⟩, fun e => ⟨e, rfl⟩, fun e => none_of (hq0 e)⟩ (by simp [LeL, Le1]) (fun _ _ h => h) ?_
  rintro k ⟨out, ws, ll, fine, hp⟩ m - hk hm ⟨⟨pP, old, hnm, hll, hbd⟩, grow, fT, fF⟩
  simp only at pP old hnm hll hbd grow fT fF
  have s4 := s3.keep (h' := hp) fun j _ hj => old j hj
  have ehp : hp n = some ⟨50, [.nilsl, .nilsl], true, 0⟩ := by rw [old n (by omega), hs3 n (by omega), hs2 n (by omega), e1]
  simp (maxSteps := 2000000) -implicitDefEqProofs (disch := omega) only [xsW, xsC, xsD, xsE, fillA, reduceCtorEq, Nat.reduceAdd, Nat.reduceSub, Nat.reduceLeDiff, Nat.reduceMul, Int.reduceLT, Int.reduceLE, Int.reduceEq, Int.reduceNe, Int.reduceAdd, Int.reduceSub, Int.reduceMul, Int.reduceNeg, Int.reduceToNat,  s4.ln, hsl3]
  (refine gd_dec (fun c2 => ?_) (fun c2 => ?_) <;> simp (maxSteps := 2000000) -implicitDefEqProofs (disch := omega) only [xsW, xsC, xsD, xsE, fillA, reduceCtorEq, Nat.reduceAdd, Nat.reduceSub, Nat.reduceLeDiff, Nat.reduceMul, Int.reduceLT, Int.reduceLE, Int.reduceEq, Int.reduceNe, Int.reduceAdd, Int.reduceSub, Int.reduceMul, Int.reduceNeg, Int.reduceToNat,  c2])
  · have hk2 : k < ps.length := by omega
    cases fine
    · simp (maxSteps := 2000000) -implicitDefEqProofs (disch := omega) only [xsW, xsC, xsD, xsE, fillA, reduceCtorEq, Nat.reduceAdd, Nat.reduceSub, Nat.reduceLeDiff, Nat.reduceMul, Int.reduceLT, Int.reduceLE, Int.reduceEq, Int.reduceNe, Int.reduceAdd, Int.reduceSub, Int.reduceMul, Int.reduceNeg, Int.reduceToNat,  ehp]
      exact fun _ _ _ => .inr (fF rfl)
    · simp (maxSteps := 2000000) -implicitDefEqProofs (disch := omega) only [xsW, xsC, xsD, xsE, fillA, reduceCtorEq, Nat.reduceAdd, Nat.reduceSub, Nat.reduceLeDiff, Nat.reduceMul, Int.reduceLT, Int.reduceLE, Int.reduceEq, Int.reduceNe, Int.reduceAdd, Int.reduceSub, Int.reduceMul, Int.reduceNeg, Int.reduceToNat]
      obtain ⟨f1, f2⟩ := fT rfl
      have hld := fun (K : AV → AH → Nat → Prop) (h' : AH) (n : Nat) => s4.ld (k := k) (by rw [strs_len]; exact hk2) K h' n
      rw [strs_get ps k hk2] at hld
      have hm2 : ps.getD k [] ∈ ps := getD_mem hk2
      have hw := hpc3 _ hm2
      have etk : ps.take (k + 1) = ps.take k ++ [ps.getD k []] := take_succ_getD (d := []) hk2
      simp (maxSteps := 2000000) -implicitDefEqProofs (disch := omega) only [xsW, xsC, xsD, xsE, fillA, reduceCtorEq, Nat.reduceAdd, Nat.reduceSub, Nat.reduceLeDiff, Nat.reduceMul, Int.reduceLT, Int.reduceLE, Int.reduceEq, Int.reduceNe, Int.reduceAdd, Int.reduceSub, Int.reduceMul, Int.reduceNeg, Int.reduceToNat,  s4.ia, hsl3, hld]
      refine fq_use (spec_l01List (ps.getD k []) (by omega) _ _) fun x5 h5 n5 hn5 hs5 hx5 => ?_
      obtain ⟨v5, f5, l5, hxl, gl1, gl0, s5, hl5⟩ : ∃ (v5 : AV) (f5 : Bool) (l5 : List Int), x5 = .tup [v5, .bool f5] ∧ (f5 = true → listR readS (ps.getD k []) = some l5) ∧ (f5 = false → listR readS (ps.getD k []) = none) ∧ Ints true m n5 h5 v5 l5 ∧ l5.length ≤ 1048576 := by
        rcases hx5 with ⟨l, v, g1, g2, g3, g4⟩ | ⟨g1, g2⟩
        · exact ⟨v, true, l, g2, fun _ => g1, (fun h => by cases h), g3, by omega⟩
        · exact ⟨.nilsl, false, [], g2, (fun h => by cases h), fun _ => g1, Sl.nil, by simp⟩
      subst hxl
      have pP5 := (hs5 (n3 + 1) (by omega)).trans pP
      have o4 := one_any (Sl.any s5)
      have o5 := sto_any (Sl.any s5)
      have o6 := cel_any (Sl.any s5)
      have fT2 : f5 = true → fq = true ∧ allR (listR readS) (ps.take (k + 1)) = some (ll ++ [l5]) := fun e => ⟨f1, by rw [etk]; exact allR_snoc f2 (gl1 e)⟩
      have fF2 : f5 = false → bothR isProb (allR (listR readS) ps) (listR readS b) = none := fun e => by rw [allR_none hm2 (gl0 e)]; rfl
      have hbd2 : ∀ l ∈ ll ++ [l5], l.length ≤ 1048576 := fun l hl => by
        rw [List.mem_append, List.mem_singleton] at hl
        rcases hl with hl | rfl
        · exact hbd l hl
        · exact hl5
      simp (maxSteps := 2000000) -implicitDefEqProofs (disch := omega) only [xsW, xsC, xsD, xsE, fillA, reduceCtorEq, Nat.reduceAdd, Nat.reduceSub, Nat.reduceLeDiff, Nat.reduceMul, Int.reduceLT, Int.reduceLE, Int.reduceEq, Int.reduceNe, Int.reduceAdd, Int.reduceSub, Int.reduceMul, Int.reduceNeg, Int.reduceToNat,  pP5, o4, o5, o6]
      rcases grow with ⟨rfl, rfl, rfl, rfl, bb, hbb, hbw⟩ | ⟨hk1, g⟩
      · refine first_row (na := n3) (nb := n3 + 2) (lo := m) (m1 := n5) (l := l5) (by rw [upd_other (by omega), hs5 n3 (by omega)]; exact hbb) hbw (by omega) hnm (s5.keep (fun i _ hi9 => by simp (disch := omega) only [upd_other])) (by omega) (by omega) (by omega) ⟨rfl, _, upd_same _ _ _, by simp, by simp [cutA]⟩ fun out' h' n' q1 q2 q3 => ?_
        have pP6 : h' (n3 + 1) = some ⟨50, [.sl n3 0 0 0, vq], true, 0⟩ := by rw [q3 _ (by omega) (by omega), upd_other (by omega), pP5]
        have o7 := one_any q2.acc.any
        have o8 := sto_any q2.acc.any
        have o9 := cel_any q2.acc.any
        simp (maxSteps := 2000000) -implicitDefEqProofs (disch := omega) only [xsW, xsC, xsD, xsE, fillA, reduceCtorEq, Nat.reduceAdd, Nat.reduceSub, Nat.reduceLeDiff, Nat.reduceMul, Int.reduceLT, Int.reduceLE, Int.reduceEq, Int.reduceNe, Int.reduceAdd, Int.reduceSub, Int.reduceMul, Int.reduceNeg, Int.reduceToNat,  pP6, o7, o8, o9]
        exact ⟨(out', [v5], [l5], f5, upd h' (n3 + 1) (some ⟨50, [out', vq], true, 0⟩)), ⟨⟨upd_same _ _ _, fun j hj => (upd_other (by omega)).trans ((q3 j (by omega) (by omega)).trans ((upd_other (by omega)).trans ((hs5 j (by omega)).trans (old j hj)))), by omega, rfl, hbd2⟩, .inr (q2.re2 fun i a b => upd_other (by omega)), fT2, fF2⟩, by omega, by omega, (by simp [LeL, Le1]), fun _ _ h => h⟩
      · refine g.app (hB := upd h5 n5 (some ⟨45, [v5], true, 0⟩)) (m1 := n5) (l := l5) (s5.keep (fun i _ hi9 => by simp (disch := omega) only [upd_other])) (fun i hi => by rw [upd_other (by omega), hs5 i hi]) (by omega) (by omega) (by omega) ⟨rfl, _, upd_same _ _ _, by simp, by simp [cutA]⟩ (by omega) fun out' h' n' q1 q2 => ?_
        have qold := q2.old
        have pP6 : h' (n3 + 1) = some ⟨50, [out, vq], true, 0⟩ := by rw [qold _ (by omega), pP]
        have o7 := one_any q2.acc.any
        have o8 := sto_any q2.acc.any
        have o9 := cel_any q2.acc.any
        simp (maxSteps := 2000000) -implicitDefEqProofs (disch := omega) only [xsW, xsC, xsD, xsE, fillA, reduceCtorEq, Nat.reduceAdd, Nat.reduceSub, Nat.reduceLeDiff, Nat.reduceMul, Int.reduceLT, Int.reduceLE, Int.reduceEq, Int.reduceNe, Int.reduceAdd, Int.reduceSub, Int.reduceMul, Int.reduceNeg, Int.reduceToNat,  pP6, o7, o8, o9]
        exact ⟨(out', ws ++ [v5], ll ++ [l5], f5, upd h' (n3 + 1) (some ⟨50, [out', vq], true, 0⟩)), ⟨⟨upd_same _ _ _, fun j hj => (upd_other (by omega)).trans ((qold j (by omega)).trans (old j hj)), by omega, by simp [hll], hbd2⟩, .inr (q2.re2 fun i a b => upd_other (by omega)), fT2, fF2⟩, by omega, by omega, (by simp [LeL, Le1]), fun _ _ h => h⟩
  · have e : k = ps.length := by omega
    subst e
    cases fine
    · simp (maxSteps := 2000000) -implicitDefEqProofs (disch := omega) only [xsW, xsC, xsD, xsE, fillA, reduceCtorEq, Nat.reduceAdd, Nat.reduceSub, Nat.reduceLeDiff, Nat.reduceMul, Int.reduceLT, Int.reduceLE, Int.reduceEq, Int.reduceNe, Int.reduceAdd, Int.reduceSub, Int.reduceMul, Int.reduceNeg, Int.reduceToNat,  ehp]
      exact fun _ _ _ => .inr (fF rfl)
    · obtain ⟨f1, f2⟩ := fT rfl
      obtain ⟨hqb, hql⟩ := hq1 f1
      rw [List.take_length] at f2
      have hpos : 1 ≤ ps.length := by
        rcases Nat.eq_zero_or_pos ps.length with h | h
        · exact absurd (List.eq_nil_of_length_eq_zero h) (by rw [hps]; exact splitL_ne _ _)
        · exact h
      have g : Grow (n3 + 2) m hp hp 45 out ws ll := by
        rcases grow with ⟨h, _⟩ | ⟨_, g⟩
        · omega
        · exact g
      have hqv := one_any (Sl.any sq)
      have hgv := one_any g.acc.any
      have P : Prob true n1 m hp out vq ws ll q := ⟨(g.rowsOf fun _ _ _ => rfl).wide (by omega) (Nat.le_refl _), (sq3.keep fun j _ hj => old j (by omega)).wide (Nat.le_refl _) (by omega), fun _ h0 => by
        have b2 := Sl.own sq3 h0
        refine ⟨fun h1 => ?_, fun k hk h1 => ?_⟩
        · have b1 := g.acc.own h1
          omega
        · have b1 := Sl.own (g.rows.row k hk) h1
          omega⟩
      simp (maxSteps := 2000000) -implicitDefEqProofs (disch := omega) only [xsW, xsC, xsD, xsE, fillA, reduceCtorEq, Nat.reduceAdd, Nat.reduceSub, Nat.reduceLeDiff, Nat.reduceMul, Int.reduceLT, Int.reduceLE, Int.reduceEq, Int.reduceNe, Int.reduceAdd, Int.reduceSub, Int.reduceMul, Int.reduceNeg, Int.reduceToNat,  pP, hqv, hgv]
      refine q_use (spec_l01Is P (by omega) hbd (by omega) _ (by omega)) fun n6 hn6 => ?_
      rw [hqb, f2]
      cases hf : isProb ll q
      · simp (maxSteps := 2000000) -implicitDefEqProofs (disch := omega) only [xsW, xsC, xsD, xsE, fillA, reduceCtorEq, Nat.reduceAdd, Nat.reduceSub, Nat.reduceLeDiff, Nat.reduceMul, Int.reduceLT, Int.reduceLE, Int.reduceEq, Int.reduceNe, Int.reduceAdd, Int.reduceSub, Int.reduceMul, Int.reduceNeg, Int.reduceToNat,  ehp]
        exact fun _ _ _ => .inr (by simp [bothR, hf])
      · simp (maxSteps := 2000000) -implicitDefEqProofs (disch := omega) only [xsW, xsC, xsD, xsE, fillA, reduceCtorEq, Nat.reduceAdd, Nat.reduceSub, Nat.reduceLeDiff, Nat.reduceMul, Int.reduceLT, Int.reduceLE, Int.reduceEq, Int.reduceNe, Int.reduceAdd, Int.reduceSub, Int.reduceMul, Int.reduceNeg, Int.reduceToNat,  ehp, pP, hqv, hgv]
        intro _ h9 hh
        exact .inl ⟨ll, q, out, vq, ws, by simp [bothR, hf], ⟨rfl, rfl⟩, (P.keep fun i a b => by rw [hh i (by omega) (by omega), upd_other (by omega)]).wide (by omega) (by omega)⟩
theorem spec_ParseProblem (s : List UInt8) (hs : s.length ≤ 1048576) (h : AH) (n : Nat) : FQ Tryd.prog 31 [.str (bs s)] h n fun x h' n' =>
    (∃ m q v u vs, specP isProb s = some (m, q) ∧ x = .tup [.agg [v, u], .int .i64 0] ∧ Prob true n n' h' v u vs m q) ∨ (specP isProb s = none ∧ x = .tup [.agg [.nilsl, .nilsl], .int .i64 6]) := by
  refine fq_intro Tryd.func31 k_spec_ParseProblem ?_
  simp (maxSteps := 2000000) -implicitDefEqProofs (disch := omega) only [c_spec_ParseProblem, xsW, xsC, xsD, xsE, fillA, reduceCtorEq, Nat.reduceAdd, Nat.reduceSub, Nat.reduceLeDiff, Nat.reduceMul, Int.reduceLT, Int.reduceLE, Int.reduceEq, Int.reduceNe, Int.reduceAdd, Int.reduceSub, Int.reduceMul, Int.reduceNeg, Int.reduceToNat]
  refine fq_use (spec_l01Read s hs _ _) fun x1 h1 n1 hn1 hs1 hx1 => ?_
  have e1 : h1 n = some ⟨50, [.nilsl, .nilsl], true, 0⟩ := by rw [hs1 n (by omega), upd_same]
  rcases hx1 with ⟨m, q, v, u, vs, g1, g2, g3⟩ | ⟨g1, g2⟩
  · subst g2
    have o1 := one_any (Sl.any g3.M.out)
    have o2 := one_any (Sl.any g3.Q)
    simp (maxSteps := 2000000) -implicitDefEqProofs (disch := omega) only [xsW, xsC, xsD, xsE, fillA, reduceCtorEq, Nat.reduceAdd, Nat.reduceSub, Nat.reduceLeDiff, Nat.reduceMul, Int.reduceLT, Int.reduceLE, Int.reduceEq, Int.reduceNe, Int.reduceAdd, Int.reduceSub, Int.reduceMul, Int.reduceNeg, Int.reduceToNat,  e1, o1, o2]
    intro _ h9 hh
    exact .inl ⟨m, q, v, u, vs, g1, ⟨rfl, rfl⟩, (g3.keep fun i a b => by rw [hh i (by omega) (by omega), upd_other (by omega), upd_other (by omega)]).wide (by omega) (by omega)⟩
  · subst g2
    simp (maxSteps := 2000000) -implicitDefEqProofs (disch := omega) only [xsW, xsC, xsD, xsE, fillA, reduceCtorEq, Nat.reduceAdd, Nat.reduceSub, Nat.reduceLeDiff, Nat.reduceMul, Int.reduceLT, Int.reduceLE, Int.reduceEq, Int.reduceNe, Int.reduceAdd, Int.reduceSub, Int.reduceMul, Int.reduceNeg, Int.reduceToNat,  e1]
    exact fun _ _ _ => .inr g1
end Go.Proofs.YtkpibnhddhdooacDoor.L
