/- The way from a contract of ours to a row that lists variables, the world's shape told. -/
import Derived.Test.YtkpibnhddhdooacDoorJ4
import Derived.HandedShaped
import Derived.Lib.ParseIntBCases
import Derived.Lib.ItoaNum
import Derived.Lib.Split
import Derived.Test.YtkpibnhddhdooacDoorProg
set_option linter.unusedSimpArgs false
set_option linter.unusedVariables false
namespace Go.Proofs.YtkpibnhddhdooacDoor.L
open Go
open Go.RowKit Go.ChangeShapes Go.WideShapes Go.ChangeAt Go.Joins
section
variable {H : Type} {enc : TypeId × Value → H}
theorem law_laid_shaped {C : Checked} {os : Os} {f : FuncId} {fn : Func} {s : ChangeSpec} {conds : List PathCond} {a : Assume} {tb : TypeId} {X : World → Array Value → Prop} (hX : ∀ (w w' : World) (args : Array Value), w.heap = w'.heap → X w args → X w' args)
    (hl : laidOutB C.prog = true) (own : ownKnob C.prog.godebug = none) (started : os.Started)
    (noInit : C.prog.inits.idxOf? f = none) (hfn : C.prog.funcs[f]? = some fn)
    (witness : ∃ (w : World) (tape : Tape) (i : Input), w.os = os ∧ (w.forCall tape i).Shaped C.prog ∧ i.vars = [] ∧ Input.okWide C.prog (w.forCall tape i) .any w.heap.size f i ∧
      ((s.pre enc C.prog fn conds false (w.forCall tape i).memory i.args ∧ X (w.forCall tape i).memory i.args) ∧ sizedMet enc C.prog fn (OpenSpec.ofChange s) false (w.forCall tape i).memory i.args) ∧ a.holds C.prog (lone (Frame.enter C.prog f i.args .normal) [] (w.forCall tape i)))
    (hts : fn.params.toList.all (fun t => C.prog.readableRec t && decide (t < C.prog.types.size)) = true)
    (hres : fn.resultTypes = #[tb]) (hbool : C.prog.underlying tb = some .bool) (hvars : s.vars = [])
    (hspec : ∀ ds : List (DataW H), ds.length = fn.params.size → (s.fn H ds).results = [.lit (.bool true)] ∧ (s.fn H ds).args = ds ∧ (s.fn H ds).vars = [])
    (core : ∀ (W : World) (base : Nat) (args : List Value) (ds : List (DataW H)) (ps : List MemPlace), DataW.TrodAll enc C.prog W 0 (fun _ => true) true fn.params.toList args ds ps →
      (∀ (j : Nat) t v, fn.params[j]? = some t → args[j]? = some v → Value.okWide C.prog W .any base t v) → (DataW.weightsEach C.prog fn.params.toList ds).all (· ≤ reachBytes) = true → X W args.toArray → W.ShapedOpen C.prog →
      ∃ avs h n ρ, Sim ρ h W ∧ IsL ρ avs args ∧ (∀ i, n ≤ i → ρ i = none) ∧ Q C.prog f avs h n (.bool true)) :
    ReturnsInHanded a C os f .any (fun w args => (s.pre enc C.prog fn conds false w args ∧ X w args) ∧ sizedMet enc C.prog fn (OpenSpec.ofChange s) false w args) (s.post enc C.prog fn false true false false) := by
  refine returnsInHanded_of_calls own started noInit witness ?_
  intro w tape i _ hsh _ hok hpre _
  obtain ⟨_, _, _, fn', hfn', _, _, _, _, hval⟩ := hok
  have e : fn = fn' := Option.some.inj (hfn.symm.trans hfn')
  subst e
  obtain ⟨⟨⟨ds, gs, before, hw, hc⟩, hx0⟩, hz⟩ := hpre
  have hW := DataW.Whole.of_heap (w' := w.forCall tape i) (by rfl) hw
  have hsz : (DataW.weightsEach C.prog (fn.params.toList ++ s.plain.varTypes C.prog) (ds ++ gs)).all (· ≤ reachBytes) = true := hz.weights hw
  have hx : X (w.forCall tape i) i.args := hX _ _ _ (by rfl) hx0
  obtain ⟨W, hWW⟩ : ∃ W, W = w.forCall tape i := ⟨_, rfl⟩
  obtain ⟨args, hargs⟩ : ∃ args, args = i.args := ⟨_, rfl⟩
  rw [← hWW] at hW hx hsh hval
  rw [← hargs] at hW hx hval
  suffices hcalls : Calls C.prog f args W fun e W' => ∃ v, e = .returned v ∧ s.post enc C.prog fn false true false false W args v W' by
    rw [hWW, hargs] at hcalls
    refine hcalls.mono fun e W' ⟨v, he, hp⟩ => ?_
    subst he
    exact ChangeSpec.post_blind hp
  have hW' := hW
  obtain ⟨p, q, hA, hV, rfl, hfz, hnd⟩ := hW
  have hgs : gs = [] ∧ q = [] := by
    rw [hvars] at hV
    cases gs with
    | nil => exact ⟨rfl, hV⟩
    | cons _ _ => exact hV.elim
  obtain ⟨rfl, rfl⟩ := hgs
  have hvt : s.plain.varTypes C.prog = [] := by
    have hv : s.plain.vars = [] := hvars
    unfold DataSpec.varTypes; rw [hv]; rfl
  simp only [List.append_nil, hvt] at hsz hW'
  obtain ⟨avs, h, n, ρ, h1, h2, h3, h4⟩ := core W w.heap.size args.toList ds p hA (fun j t v hj hv => hval j t v hj (by simpa using hv)) hsz (by simpa using hx) hsh
  have hlen : ds.length = fn.params.size := by
    have : ∀ {ts : List TypeId} {vs : List Value} {ds : List (DataW H)} {ps : List MemPlace}, DataW.TrodAll enc C.prog W 0 (fun _ => true) true ts vs ds ps → ds.length = ts.length := by
      intro ts
      induction ts with
      | nil => intro vs ds ps h; cases vs <;> cases ds <;> first | rfl | exact h.elim
      | cons t ts ih =>
        intro vs ds ps h
        cases vs with
        | nil => exact h.elim
        | cons v vs =>
          cases ds with
          | nil => exact h.elim
          | cons d ds => obtain ⟨p, q, _, h2, _⟩ := h; simp [ih h2]
    simpa using this hA
  obtain ⟨e1, e2, e3⟩ := hspec ds hlen
  refine (h4.link h1 h2 h3).mono fun e W' ⟨rv, ρ', he, hrv, bel⟩ => ?_
  simp only [Is] at hrv
  subst he hrv
  refine ⟨_, rfl, ds, [], p, [], p, [], hW', ?_, ?_, ?_, bel.frame _, fun h => by cases h⟩
  · rw [hres]
    simp only [List.append_nil, e1]
    exact trodAll_mk1 (shut_bool hbool _)
  · simp only [List.append_nil, e2]
    exact trodAll_below hl bel hts hA (fun x hx => hW'.lt x (by simpa using hx))
  · simp only [List.append_nil, e3, hvars]
    rfl
end
end Go.Proofs.YtkpibnhddhdooacDoor.L
namespace Go.Proofs.YtkpibnhddhdooacDoor.L
open Go Go.Lib
def isDig (c : UInt8) : Prop := 48 ≤ c.toNat ∧ c.toNat ≤ 57
instance (c : UInt8) : Decidable (isDig c) := by unfold isDig; infer_instance
def digv (n : Nat) (l : List UInt8) : Nat := l.foldl (fun n c => n * 10 + (c.toNat - 48)) n
theorem digv_nil (n : Nat) : digv n [] = n := rfl
theorem digv_cons (n : Nat) (c : UInt8) (l : List UInt8) : digv n (c :: l) = digv (n * 10 + (c.toNat - 48)) l := by simp only [digv, List.foldl_cons]
theorem digv_snoc (n : Nat) (l : List UInt8) (c : UInt8) : digv n (l ++ [c]) = digv n l * 10 + (c.toNat - 48) := by simp [digv]
theorem digv_lt : ∀ (l : List UInt8) (n : Nat), (∀ c ∈ l, isDig c) → digv n l < (n + 1) * 10 ^ l.length
  | [], n, _ => by simp [digv]
  | c :: l, n, h => by
    have h1 := h c (by simp)
    have h2 := digv_lt l (n * 10 + (c.toNat - 48)) fun x hx => h x (by simp [hx])
    rw [digv_cons, List.length_cons, Nat.pow_succ]
    have h3 : (n * 10 + (c.toNat - 48) + 1) * 10 ^ l.length ≤ (n + 1) * 10 * 10 ^ l.length := Nat.mul_le_mul_right _ (by have := h1.2; omega)
    have h4 : (n + 1) * (10 ^ l.length * 10) = (n + 1) * 10 * 10 ^ l.length := by rw [Nat.mul_comm (10 ^ l.length) 10, Nat.mul_assoc]
    omega
theorem digv_ge : ∀ (l : List UInt8) (n : Nat), n * 10 ^ l.length ≤ digv n l
  | [], n => by simp [digv]
  | c :: l, n => by
    have h2 := digv_ge l (n * 10 + (c.toNat - 48))
    rw [digv_cons, List.length_cons, Nat.pow_succ]
    have h3 : n * 10 * 10 ^ l.length ≤ (n * 10 + (c.toNat - 48)) * 10 ^ l.length := Nat.mul_le_mul_right _ (by omega)
    have h4 : n * (10 ^ l.length * 10) = n * 10 * 10 ^ l.length := by rw [Nat.mul_comm (10 ^ l.length) 10, Nat.mul_assoc]
    omega
theorem dig_of {d : Nat} (h : d < 10) : (UInt8.ofNat (48 + d)).toNat = 48 + d := by
  rw [UInt8.toNat_ofNat']; omega
theorem dig_back {c : UInt8} (h : isDig c) : UInt8.ofNat (48 + (c.toNat - 48)) = c := by
  rw [show 48 + (c.toNat - 48) = c.toNat by have := h.1; omega]
  exact UInt8.ofNat_toNat
theorem decd_small {u : Nat} (h : u < 10) : decDigits u = [UInt8.ofNat (48 + u)] := by rw [decDigits, dif_pos h]
theorem decd_big {u : Nat} (h : ¬ u < 10) : decDigits u = decDigits (u / 10) ++ [UInt8.ofNat (48 + u % 10)] := by rw [decDigits, dif_neg h]
def Lead (l : List UInt8) : Prop := l ≠ [] ∧ (1 < l.length → l.head? ≠ some 48)
theorem dec_spec : ∀ (k u : Nat), u ≤ k → (∀ c ∈ decDigits u, isDig c) ∧ decDigits u ≠ [] ∧ (1 ≤ u → (decDigits u).head? ≠ some 48) ∧ digv 0 (decDigits u) = u
  | k, u, hk => by
    by_cases h : u < 10
    · rw [decd_small h]
      have e := dig_of h
      refine ⟨fun c hc => ?_, by simp, fun h1 e2 => ?_, ?_⟩
      · rw [List.mem_singleton] at hc
        subst hc
        unfold isDig; omega
      · simp only [List.head?_cons, Option.some.injEq] at e2
        rw [e2] at e
        have : (48 : UInt8).toNat = 48 := rfl
        omega
      · rw [digv_cons, digv_nil, e]; omega
    · match k, hk with
      | 0, hk => omega
      | k + 1, hk =>
      obtain ⟨h1, h2, h3, h4⟩ := dec_spec k (u / 10) (by omega)
      have e := dig_of (d := u % 10) (by omega)
      rw [decd_big h]
      refine ⟨fun c hc => ?_, by simp, fun _ => ?_, ?_⟩
      · rw [List.mem_append, List.mem_singleton] at hc
        rcases hc with hc | hc
        · exact h1 c hc
        · subst hc
          unfold isDig; omega
      · cases hl : decDigits (u / 10) with
        | nil => exact absurd hl h2
        | cons x r =>
          have := h3 (by omega)
          rw [hl] at this
          simpa using this
      · rw [digv_snoc, h4, e]; omega
theorem dec_back : ∀ (k : Nat) (l : List UInt8), l.length ≤ k → (∀ c ∈ l, isDig c) → Lead l → decDigits (digv 0 l) = l
  | k, l, hk, hd, hl => by
    obtain ⟨l', c, rfl⟩ : ∃ l' c, l = l' ++ [c] := ⟨l.dropLast, l.getLast hl.1, (List.dropLast_concat_getLast hl.1).symm⟩
    have hc := hd c (by simp)
    rw [digv_snoc]
    by_cases h0 : l' = []
    · subst h0
      rw [digv_nil, Nat.zero_mul, Nat.zero_add, decd_small (by have := hc.2; omega), dig_back hc]
      rfl
    · match k, hk with
      | 0, hk => simp at hk
      | k + 1, hk =>
      have hlen : 0 < l'.length := List.length_pos_iff.2 h0
      have hd' : ∀ c ∈ l', isDig c := fun x hx => hd x (by simp [hx])
      have hh : (l' ++ [c]).head? = l'.head? := by cases l' with | nil => exact absurd rfl h0 | cons x r => rfl
      have hnz : l'.head? ≠ some 48 := by rw [← hh]; exact hl.2 (by simp; omega)
      have ih := dec_back k l' (by simp at hk; omega) hd' ⟨h0, fun _ => hnz⟩
      have hpos : 1 ≤ digv 0 l' := by
        cases l' with
        | nil => exact absurd rfl h0
        | cons x r =>
          have hx := hd' x (by simp)
          have hx2 : x.toNat ≠ 48 := by
            intro e
            apply hnz
            have : x = 48 := UInt8.toNat_inj.1 e
            rw [this]; rfl
          have := digv_ge r (0 * 10 + (x.toNat - 48))
          rw [digv_cons]
          have h1 : 1 ≤ (0 * 10 + (x.toNat - 48)) * 10 ^ r.length := Nat.mul_pos (by have := hx.1; omega) (Nat.pow_pos (by decide))
          omega
      have hu : ¬ digv 0 l' * 10 + (c.toNat - 48) < 10 := by omega
      have hc2 := hc.2
      rw [decd_big hu, show (digv 0 l' * 10 + (c.toNat - 48)) / 10 = digv 0 l' by omega, show (digv 0 l' * 10 + (c.toNat - 48)) % 10 = c.toNat - 48 by omega, ih, dig_back hc]
theorem parse_digits : ∀ (l : List UInt8) (acc : Nat), (∀ c ∈ l, isDig c) → (acc + 1) * 10 ^ l.length ≤ 10 ^ 18 → parseUintM (2 ^ 64 - 1) acc l = .ok (digv acc l)
  | [], acc, _, _ => rfl
  | c :: l, acc, hd, hb => by
    have hc := hd c (by simp)
    rw [List.length_cons, Nat.pow_succ] at hb
    have hp : 1 ≤ 10 ^ l.length := Nat.pow_pos (by decide)
    have h1 : (acc + 1) * (10 ^ l.length * 10) = (acc * 10 + 10) * 10 ^ l.length := by rw [Nat.mul_comm (10 ^ l.length) 10, ← Nat.mul_assoc]; congr 1; omega
    have h2 : (acc * 10 + (c.toNat - 48) + 1) * 10 ^ l.length ≤ (acc * 10 + 10) * 10 ^ l.length := Nat.mul_le_mul_right _ (by have := hc.2; omega)
    have h3 : (acc * 10 + 10) * 1 ≤ (acc * 10 + 10) * 10 ^ l.length := Nat.mul_le_mul_left _ hp
    have h4 : (10 : Nat) ^ 18 = 1000000000000000000 := by decide
    have h5 : (2 : Nat) ^ 64 - 1 = 18446744073709551615 := by decide
    have hc2 := hc.2
    rw [parseUintM, if_pos (show 48 ≤ c.toNat ∧ c.toNat ≤ 57 from hc), if_neg (by omega), if_neg (by omega), parse_digits l _ (fun x hx => hd x (by simp [hx])) (by omega), digv_cons]
def numV (l : List UInt8) : Int := if l ≠ [] ∧ l.length ≤ 9 ∧ (1 < l.length → l.head? ≠ some 48) ∧ ∀ c ∈ l, isDig c then (digv 0 l : Int) else -1
def numS (l : List UInt8) : Int × Bool := if l.head? = some 45 then (-numV l.tail, decide (0 < numV l.tail)) else (numV l, decide (0 ≤ numV l))
def readS (l : List UInt8) : Option Int := if (numS l).2 = true then some (numS l).1 else none
def readW (l : List UInt8) : Option Int := match parseIntB 64 l with
  | .ok n => if itoa n = l then some n else none
  | _ => none
theorem numV_pos {l : List UInt8} (h : 0 ≤ numV l) : (l ≠ [] ∧ l.length ≤ 9 ∧ (1 < l.length → l.head? ≠ some 48) ∧ ∀ c ∈ l, isDig c) ∧ numV l = digv 0 l := by
  unfold numV at h ⊢
  split
  · rename_i h1; exact ⟨h1, rfl⟩
  · rename_i h1; rw [if_neg h1] at h; omega
theorem numV_le (l : List UInt8) : -1 ≤ numV l ∧ numV l ≤ 999999999 := by
  by_cases h : 0 ≤ numV l
  · obtain ⟨⟨_, h1, _, h2⟩, h3⟩ := numV_pos h
    have h4 := digv_lt l 0 h2
    have h5 : 10 ^ l.length ≤ 10 ^ 9 := Nat.pow_le_pow_right (by decide) h1
    have h6 : (10 : Nat) ^ 9 = 1000000000 := by decide
    omega
  · have : numV l = -1 := by
      unfold numV at h ⊢
      split
      · rename_i h1; rw [if_pos h1] at h; omega
      · rfl
    omega
theorem parse_num {l : List UInt8} (h : 0 ≤ numV l) : parseUintB 64 l = .ok (digv 0 l) := by
  obtain ⟨⟨h0, h1, _, h2⟩, _⟩ := numV_pos h
  unfold parseUintB
  rw [if_neg h0]
  refine parse_digits l 0 h2 ?_
  have h5 : 10 ^ l.length ≤ 10 ^ 9 := Nat.pow_le_pow_right (by decide) h1
  have h6 : (10 : Nat) ^ 9 ≤ 10 ^ 18 := by decide
  omega
theorem readS_W {l : List UInt8} {n : Int} (h : readS l = some n) : readW l = some n ∧ -999999999 ≤ n ∧ n ≤ 999999999 := by
  unfold readS at h
  split at h
  · rename_i hb
    simp only [Option.some.injEq] at h
    unfold numS at h hb
    split at h
    · rename_i h45
      rw [if_pos h45] at hb
      simp only [decide_eq_true_eq] at hb h
      obtain ⟨c, r, rfl⟩ : ∃ c r, l = c :: r := by cases l with | nil => simp at h45 | cons c r => exact ⟨c, r, rfl⟩
      simp only [List.head?_cons, Option.some.injEq] at h45
      subst h45
      simp only [List.tail_cons] at hb h
      obtain ⟨⟨h0, h1, h2, h3⟩, h4⟩ := numV_pos (l := r) (by omega)
      have hle := numV_le r
      have hd := dec_back r.length r (Nat.le_refl _) h3 ⟨h0, h2⟩
      subst h
      refine ⟨?_, by omega, by omega⟩
      unfold readW
      rw [parseIntB_minus, parse_num (by omega)]
      have h63 : (2 : Nat) ^ (64 - 1) = 9223372036854775808 := by decide
      simp only [signedC, h63]
      rw [if_neg (by omega)]
      simp only
      rw [h4]
      have e : itoa (-(digv 0 r : Int)) = 45 :: r := by
        unfold itoa
        rw [if_pos (by omega), show (-(digv 0 r : Int)).natAbs = digv 0 r by omega, hd]
      rw [if_pos e]
    · rename_i h45
      rw [if_neg h45] at hb
      simp only [decide_eq_true_eq] at hb h
      obtain ⟨⟨h0, h1, h2, h3⟩, h4⟩ := numV_pos (l := l) hb
      have hle := numV_le l
      have hd := dec_back l.length l (Nat.le_refl _) h3 ⟨h0, h2⟩
      obtain ⟨c, r, rfl⟩ : ∃ c r, l = c :: r := by cases l with | nil => exact absurd rfl h0 | cons c r => exact ⟨c, r, rfl⟩
      have hc := h3 c (by simp)
      subst h
      refine ⟨?_, by omega, by omega⟩
      unfold readW
      rw [parseIntB_plain _ _ _ (by have := hc.1; omega) (by have := hc.1; omega), parse_num hb]
      have h63 : (2 : Nat) ^ (64 - 1) = 9223372036854775808 := by decide
      simp only [signlessC, h63]
      rw [if_neg (by omega)]
      simp only
      rw [h4]
      have e : itoa (digv 0 (c :: r) : Int) = c :: r := by
        unfold itoa
        rw [if_neg (by omega), show ((digv 0 (c :: r) : Int)).toNat = digv 0 (c :: r) by omega, hd]
      rw [if_pos e]
  · cases h
theorem readW_itoa {l : List UInt8} {n : Int} (h : readW l = some n) : itoa n = l := by
  unfold readW at h
  split at h
  · split at h
    · simp only [Option.some.injEq] at h
      subst h
      assumption
    · cases h
  · cases h
theorem dec_len {u : Nat} (h : u ≤ 999999999) : (decDigits u).length ≤ 9 := by
  obtain ⟨h1, h2, h3, h4⟩ := dec_spec u u (Nat.le_refl _)
  by_cases h0 : u = 0
  · subst h0; rw [decd_small (by decide)]; simp
  have h3 := h3 (by omega)
  cases hl : decDigits u with
  | nil => simp
  | cons x r =>
    rw [hl] at h1 h3 h4
    have hx := h1 x (by simp)
    have hx2 : x.toNat ≠ 48 := by
      intro e
      apply h3
      have : x = 48 := UInt8.toNat_inj.1 e
      rw [this]; rfl
    have hg := digv_ge r (0 * 10 + (x.toNat - 48))
    rw [digv_cons] at h4
    rw [h4] at hg
    have h5 : 1 * 10 ^ r.length ≤ (0 * 10 + (x.toNat - 48)) * 10 ^ r.length := Nat.mul_le_mul_right _ (by have := hx.1; omega)
    have h6 : r.length < 9 := by
      rcases Nat.lt_or_ge r.length 9 with h | h
      · exact h
      · have h7 : 10 ^ 9 ≤ 10 ^ r.length := Nat.pow_le_pow_right (by decide) h
        have h8 : (10 : Nat) ^ 9 = 1000000000 := by decide
        omega
    simp only [List.length_cons]; omega
theorem numV_dec {u : Nat} (h : u ≤ 999999999) : numV (decDigits u) = u := by
  obtain ⟨h1, h2, h3, h4⟩ := dec_spec u u (Nat.le_refl _)
  have hx : 1 < (decDigits u).length → (decDigits u).head? ≠ some 48 := fun hl => by
    by_cases h0 : u = 0
    · subst h0; rw [decd_small (by decide)] at hl; simp at hl
    · exact h3 (by omega)
  unfold numV
  rw [if_pos ⟨h2, dec_len h, hx, h1⟩, h4]
theorem readW_S {l : List UInt8} {n : Int} (h : readW l = some n) (h1 : -999999999 ≤ n) (h2 : n ≤ 999999999) : readS l = some n := by
  have e := readW_itoa h
  subst e
  unfold readS numS itoa
  by_cases hn : n < 0
  · rw [if_pos hn]
    simp only [List.head?_cons, List.tail_cons, if_true]
    have e := numV_dec (u := n.natAbs) (by omega)
    simp only [e]
    rw [if_pos (decide_eq_true (by omega))]
    congr 1; omega
  · rw [if_neg hn]
    obtain ⟨g1, g2, _, _⟩ := dec_spec n.toNat n.toNat (Nat.le_refl _)
    have hh : (decDigits n.toNat).head? ≠ some 45 := by
      intro e
      have := g1 45 (List.mem_of_head? e)
      exact absurd this (by decide)
    have e := numV_dec (u := n.toNat) (by omega)
    rw [if_neg hh]
    simp only [e]
    rw [if_pos (decide_eq_true (by omega))]
    congr 1; omega
theorem readW_clean {l : List UInt8} {n : Int} (h : readW l = some n) : ∀ c ∈ l, isDig c ∨ c = 45 := by
  have e := readW_itoa h
  subst e
  intro c hc
  unfold itoa at hc
  split at hc
  · rw [List.mem_cons] at hc
    rcases hc with hc | hc
    · exact .inr hc
    · exact .inl ((dec_spec _ _ (Nat.le_refl _)).1 c hc)
  · exact .inl ((dec_spec _ _ (Nat.le_refl _)).1 c hc)
end Go.Proofs.YtkpibnhddhdooacDoor.L
namespace Go.Proofs.YtkpibnhddhdooacDoor.L
open Go Go.Lib
def cutL (c : UInt8) : List UInt8 → Option (List UInt8 × List UInt8)
  | [] => none
  | x :: r => if x = c then some ([], r) else match cutL c r with
    | none => none
    | some p => some (x :: p.1, p.2)
def splitL (c : UInt8) : List UInt8 → List (List UInt8)
  | [] => [[]]
  | x :: r => if x = c then [] :: splitL c r else match splitL c r with
    | [] => [[x]]
    | p :: q => (x :: p) :: q
theorem splitL_ne (c : UInt8) (l : List UInt8) : splitL c l ≠ [] := by
  cases l with
  | nil => simp [splitL]
  | cons x r =>
    simp only [splitL]
    split
    · simp
    · split <;> simp
theorem cut_split (c : UInt8) : ∀ l : List UInt8, (cutL c l = none ∧ splitL c l = [l] ∧ c ∉ l) ∨ ∃ a b, cutL c l = some (a, b) ∧ splitL c l = a :: splitL c b ∧ l = a ++ c :: b
  | [] => .inl ⟨rfl, rfl, by simp⟩
  | x :: r => by
    by_cases h : x = c
    · subst h
      exact .inr ⟨[], r, by simp [cutL], by simp [splitL], rfl⟩
    · rcases cut_split c r with ⟨h1, h2, h3⟩ | ⟨a, b, h1, h2, h3⟩
      · refine .inl ⟨by simp [cutL, h, h1], by simp [splitL, h, h2], ?_⟩
        rw [List.mem_cons]
        rintro (e | e)
        · exact h e.symm
        · exact h3 e
      · exact .inr ⟨x :: a, b, by simp [cutL, h, h1], by simp [splitL, h, h2], by rw [h3]; rfl⟩
theorem splitL_snoc (c y : UInt8) : ∀ (l : List UInt8) (out : List (List UInt8)) (cur : List UInt8), splitL c l = out ++ [cur] → splitL c (l ++ [y]) = if y = c then out ++ [cur] ++ [[]] else out ++ [cur ++ [y]]
  | [], out, cur, h => by
    cases out with
    | nil =>
      simp only [splitL, List.nil_append, List.cons.injEq, and_true] at h
      subst h
      by_cases e : y = c <;> simp [splitL, e]
    | cons o r => simp [splitL] at h
  | x :: r, out, cur, h => by
    obtain ⟨out', cur', h'⟩ : ∃ out' cur', splitL c r = out' ++ [cur'] := ⟨(splitL c r).dropLast, (splitL c r).getLast (splitL_ne c r), (List.dropLast_concat_getLast _).symm⟩
    have ih := splitL_snoc c y r out' cur' h'
    simp only [splitL, List.cons_append] at h ⊢
    by_cases hx : x = c
    · rw [if_pos hx] at h ⊢
      rw [ih]
      rw [h'] at h
      cases out with
      | nil =>
        simp only [List.nil_append, List.cons.injEq] at h
        have := congrArg List.length h.2
        simp at this
      | cons o q =>
        simp only [List.cons_append, List.cons.injEq] at h
        obtain ⟨rfl, h2⟩ := h
        obtain ⟨rfl, e⟩ := List.append_inj' h2 rfl
        simp only [List.cons.injEq, and_true] at e
        subst e
        split <;> simp
    · rw [if_neg hx] at h ⊢
      rw [ih]
      cases out' with
      | nil =>
        simp only [h', List.nil_append] at h
        cases out with
        | nil =>
          simp only [List.nil_append, List.cons.injEq, and_true] at h
          subst h
          by_cases e : y = c <;> simp [e]
        | cons o q => simp at h
      | cons o' q' =>
        simp only [h', List.cons_append] at h
        cases out with
        | nil => simp at h
        | cons o q =>
          simp only [List.cons_append, List.cons.injEq] at h
          obtain ⟨rfl, h2⟩ := h
          obtain ⟨rfl, e⟩ := List.append_inj' h2 rfl
          simp only [List.cons.injEq, and_true] at e
          subst e
          by_cases e : y = c <;> simp [e]
theorem splitL_len (c : UInt8) : ∀ (n : Nat) (l : List UInt8), l.length ≤ n → (splitL c l).length ≤ l.length + 1 ∧ ∀ p ∈ splitL c l, p.length ≤ l.length
  | n, l, hn => by
    rcases cut_split c l with ⟨_, h2, _⟩ | ⟨a, b, _, h2, h3⟩
    · rw [h2]; simp
    · have hl : l.length = a.length + 1 + b.length := by rw [h3]; simp; omega
      match n, hn with
      | 0, hn => omega
      | n + 1, hn =>
      obtain ⟨g1, g2⟩ := splitL_len c n b (by omega)
      rw [h2]
      refine ⟨by simp only [List.length_cons]; omega, fun p hp => ?_⟩
      rw [List.mem_cons] at hp
      rcases hp with rfl | hp
      · omega
      · have := g2 p hp; omega
theorem splitL_mem (c : UInt8) {z : UInt8} (hz : z ≠ c) : ∀ (n : Nat) (l : List UInt8), l.length ≤ n → z ∈ l → ∃ p ∈ splitL c l, z ∈ p
  | n, l, hn, h => by
    rcases cut_split c l with ⟨_, h2, _⟩ | ⟨a, b, _, h2, h3⟩
    · rw [h2]; exact ⟨l, by simp, h⟩
    · have hl : l.length = a.length + 1 + b.length := by rw [h3]; simp; omega
      rw [h3, List.mem_append, List.mem_cons] at h
      rw [h2]
      rcases h with h | h | h
      · exact ⟨a, by simp, h⟩
      · exact absurd h hz
      · match n, hn with
        | 0, hn => omega
        | n + 1, hn =>
        obtain ⟨p, hp, hz⟩ := splitL_mem c hz n b (by omega) h
        exact ⟨p, by simp [hp], hz⟩
def allR {α β : Type} (f : α → Option β) : List α → Option (List β)
  | [] => some []
  | x :: r => match f x, allR f r with
    | some y, some z => some (y :: z)
    | _, _ => none
section
variable {α β : Type} {f g : α → Option β}
theorem allR_cons {x : α} {r : List α} {q : List β} : allR f (x :: r) = some q ↔ ∃ y z, f x = some y ∧ allR f r = some z ∧ q = y :: z := by
  simp only [allR]
  constructor
  · intro h
    split at h
    · rename_i y z h1 h2
      simp only [Option.some.injEq] at h
      exact ⟨y, z, h1, h2, h.symm⟩
    · cases h
  · rintro ⟨y, z, h1, h2, rfl⟩
    rw [h1, h2]
theorem allR_up : ∀ {l : List α} {r : List β}, (∀ x y, y ∈ r → f x = some y → g x = some y) → allR f l = some r → allR g l = some r
  | [], r, _, h => h
  | x :: l, r, hfg, h => by
    obtain ⟨y, z, h1, h2, rfl⟩ := allR_cons.1 h
    exact allR_cons.2 ⟨y, z, hfg x y (by simp) h1, allR_up (fun a b hb => hfg a b (by simp [hb])) h2, rfl⟩
theorem allR_mem : ∀ {l : List α} {r : List β}, allR f l = some r → (∀ x ∈ l, ∃ y ∈ r, f x = some y) ∧ (∀ y ∈ r, ∃ x ∈ l, f x = some y) ∧ r.length = l.length
  | [], r, h => by simp only [allR, Option.some.injEq] at h; subst h; simp
  | x :: l, r, h => by
    obtain ⟨y, z, h1, h2, rfl⟩ := allR_cons.1 h
    obtain ⟨g1, g2, g3⟩ := allR_mem h2
    refine ⟨fun a ha => ?_, fun b hb => ?_, by simp [g3]⟩
    · rw [List.mem_cons] at ha
      rcases ha with rfl | ha
      · exact ⟨y, by simp, h1⟩
      · obtain ⟨b, hb, e⟩ := g1 a ha
        exact ⟨b, by simp [hb], e⟩
    · rw [List.mem_cons] at hb
      rcases hb with rfl | hb
      · exact ⟨x, by simp, h1⟩
      · obtain ⟨a, ha, e⟩ := g2 b hb
        exact ⟨a, by simp [ha], e⟩
theorem allR_none : ∀ {l : List α} {x : α}, x ∈ l → f x = none → allR f l = none := fun {l x} hx h => by
  cases e : allR f l with
  | none => rfl
  | some r =>
    obtain ⟨y, _, hy⟩ := (allR_mem e).1 x hx
    rw [h] at hy; cases hy
end
def listR (rd : List UInt8 → Option Int) (l : List UInt8) : Option (List Int) := allR rd (splitL 44 l)
def rowsR (rd : List UInt8 → Option Int) (l : List UInt8) : Option (List (List Int)) := allR (listR rd) (splitL 59 l)
def bothR (ok : List (List Int) → List Int → Bool) : Option (List (List Int)) → Option (List Int) → Option (List (List Int) × List Int)
  | some m, some q => if ok m q then some (m, q) else none
  | _, _ => none
def specP (ok : List (List Int) → List Int → Bool) (t : List UInt8) : Option (List (List Int) × List Int) := match splitL 47 t with
  | [a, b] => bothR ok (rowsR readS a) (listR readS b)
  | _ => none
def implP (ok : List (List Int) → List Int → Bool) (t : List UInt8) : Option (List (List Int) × List Int) := match cutL 47 t with
  | some (a, b) => bothR ok (rowsR readW a) (listR readW b)
  | none => none
def Mild (l : List Int) : Prop := ∀ x ∈ l, -999999999 ≤ x ∧ x ≤ 999999999
theorem listR_SW {l : List UInt8} {r : List Int} (h : listR readS l = some r) : listR readW l = some r := allR_up (fun x y _ hx => (readS_W hx).1) h
theorem listR_WS {l : List UInt8} {r : List Int} (h : listR readW l = some r) (hm : Mild r) : listR readS l = some r := allR_up (fun x y hy hx => readW_S hx (hm y hy).1 (hm y hy).2) h
theorem bothR_some {ok : List (List Int) → List Int → Bool} {a : Option (List (List Int))} {b : Option (List Int)} {p : List (List Int) × List Int} : bothR ok a b = some p ↔ a = some p.1 ∧ b = some p.2 ∧ ok p.1 p.2 = true := by
  constructor
  · intro h
    unfold bothR at h
    split at h
    · split at h
      · simp only [Option.some.injEq] at h
        subst h
        exact ⟨rfl, rfl, by assumption⟩
      · cases h
    · cases h
  · rintro ⟨rfl, rfl, h⟩
    simp [bothR, h]
theorem parse_same {ok : List (List Int) → List Int → Bool} (hok : ∀ m q, ok m q = true → (∀ r ∈ m, Mild r) ∧ Mild q) (t : List UInt8) : specP ok t = implP ok t := by
  unfold specP implP
  rcases cut_split 47 t with ⟨h1, h2, _⟩ | ⟨a, b, h1, h2, _⟩
  · rw [h1, h2]
  · rw [h1, h2]
    simp only
    rcases cut_split 47 b with ⟨_, g2, _⟩ | ⟨b1, b2, _, g2, g3⟩
    · rw [g2]
      simp only
      refine Option.ext fun p => ?_
      rw [bothR_some, bothR_some]
      constructor
      · rintro ⟨e1, e2, e3⟩
        exact ⟨allR_up (fun x y _ hx => listR_SW hx) e1, listR_SW e2, e3⟩
      · rintro ⟨e1, e2, e3⟩
        obtain ⟨m1, m2⟩ := hok _ _ e3
        exact ⟨allR_up (fun x y hy hx => listR_WS hx (m1 y hy)) e1, listR_WS e2 m2, e3⟩
    · obtain ⟨c, d, e⟩ : ∃ c d, splitL 47 b2 = c :: d := by
        cases h : splitL 47 b2 with
        | nil => exact absurd h (splitL_ne _ _)
        | cons c d => exact ⟨c, d, rfl⟩
      rw [g2, e]
      simp only
      have hn : listR readW b = none := by
        obtain ⟨p, hp, hz⟩ := splitL_mem 44 (z := 47) (by decide) b.length b (Nat.le_refl _) (by rw [g3]; simp)
        refine allR_none hp ?_
        cases hr : readW p with
        | none => rfl
        | some n =>
          rcases readW_clean hr 47 hz with h | h
          · exact absurd h (by decide)
          · exact absurd h (by decide)
      rw [hn]
      cases rowsR readW a <;> rfl
theorem index_one (c x : UInt8) (r : List UInt8) : index (x :: r) [c] = if x = c then 0 else if index r [c] = -1 then -1 else index r [c] + 1 := by
  by_cases h : x = c
  · subst h; simp [index]
  · have h2 : ¬ c = x := fun e => h e.symm
    simp [index, h, h2]
theorem idx_cut (c : UInt8) : ∀ s : List UInt8, (index s [c] = -1 ∧ cutL c s = none) ∨ ∃ i : Nat, index s [c] = i ∧ cutL c s = some (s.take i, s.drop (i + 1)) ∧ i < s.length
  | [] => .inl ⟨rfl, rfl⟩
  | x :: r => by
    rw [index_one]
    by_cases h : x = c
    · exact .inr ⟨0, by simp [h], by simp [cutL, h], by simp⟩
    · rcases idx_cut c r with ⟨h1, h2⟩ | ⟨i, h1, h2, h3⟩
      · exact .inl ⟨by simp [h, h1], by simp [cutL, h, h2]⟩
      · refine .inr ⟨i + 1, ?_, by simp [cutL, h, h2], by simp; omega⟩
        rw [if_neg h, if_neg (by omega), h1]
        omega
theorem lib_cutL (c : UInt8) (s : List UInt8) : Lib.cut s [c] = match cutL c s with
    | none => (s, [], false)
    | some p => (p.1, p.2, true) := by
  unfold Lib.cut
  rcases idx_cut c s with ⟨h1, h2⟩ | ⟨i, h1, h2, _⟩
  · rw [h2, if_neg (by omega)]
  · rw [h2, if_pos (by omega), h1]
    simp
theorem lib_splitL (c : UInt8) : ∀ (n : Nat) (s : List UInt8), s.length ≤ n → Lib.split s [c] = splitL c s ∧ (splitL c s).length = Lib.count s [c] + 1
  | n, s, hn => by
    unfold Lib.split
    rcases idx_cut c s with ⟨h1, h2⟩ | ⟨i, h1, h2, h3⟩
    · rcases cut_split c s with ⟨g1, g2, _⟩ | ⟨a, b, g1, g2, _⟩
      · rw [count_miss h1, g2]; exact ⟨rfl, rfl⟩
      · rw [g1] at h2; cases h2
    · rcases cut_split c s with ⟨g1, g2, _⟩ | ⟨a, b, g1, g2, g3⟩
      · rw [g1] at h2; cases h2
      · rw [h2] at g1
        simp only [Option.some.injEq, Prod.mk.injEq] at g1
        obtain ⟨rfl, rfl⟩ := g1
        match n, hn with
        | 0, hn => omega
        | n + 1, hn =>
        obtain ⟨ih, ih2⟩ := lib_splitL c n (s.drop (i + 1)) (by simp; omega)
        rw [count_hit (by simp) h1, g2]
        unfold Lib.split at ih
        have hne : ¬ (index s [c] == -1) = true := by rw [beq_iff_eq]; omega
        rw [show 1 + count (s.drop (i + [c].length)) [c] = count (s.drop (i + 1)) [c] + 1 by rw [Nat.add_comm]; rfl]
        refine ⟨?_, by simp [ih2]⟩
        rw [splitK, if_neg hne, h1]
        simp only [Int.toNat_natCast, Nat.add_zero, List.length_cons, List.length_nil, Nat.zero_add]
        rw [ih]
def c_impl_within : F := ⟨(.seq (.reg false [⟨some 6, .mv (.c (.bool false)), none⟩]) (.seq (.reg false [⟨some 7, .mv (.t 0), none⟩, ⟨some 8, .mv (.t 1), none⟩, ⟨some 9, .bin .geq (.t 7) (.t 8), none⟩, ⟨some 10, .mv (.t 9), none⟩, ⟨some 11, .mv (.t 0), some (10, true)⟩, ⟨some 12, .mv (.t 2), some (10, true)⟩, ⟨some 13, .bin .leq (.t 11) (.t 12), some (10, true)⟩, ⟨some 14, .pick (.t 10) (.t 13) (.c (.bool false)), none⟩, ⟨some 6, .mv (.t 14), none⟩]) .ret)), 15, [(.t 6)]⟩
theorem k_impl_within : compF Tryd.prog Tryd.f47 = some c_impl_within := by kernel_rfl
def c_impl_upTo : F := ⟨(.seq (.reg false [⟨some 4, .mv (.c (.bool false)), none⟩]) (.seq (.reg false [⟨some 5, .mv (.t 0), none⟩, ⟨some 6, .mv (.t 1), none⟩, ⟨some 7, .un .neg (.t 6), none⟩, ⟨some 8, .mv (.t 1), none⟩, ⟨some 9, .call (.f 47) [(.t 5), (.t 7), (.t 8)], none⟩, ⟨some 4, .mv (.t 9), none⟩]) .ret)), 10, [(.t 4)]⟩
theorem k_impl_upTo : compF Tryd.prog Tryd.f48 = some c_impl_upTo := by kernel_rfl
def c_spec_l01In : F := ⟨(.seq (.reg false [⟨some 6, .mv (.c (.bool false)), none⟩]) (.seq (.reg false [⟨some 7, .mv (.t 0), none⟩, ⟨some 8, .mv (.t 1), none⟩, ⟨some 9, .bin .geq (.t 7) (.t 8), none⟩, ⟨some 10, .mv (.t 9), none⟩, ⟨some 11, .mv (.t 0), some (10, true)⟩, ⟨some 12, .mv (.t 2), some (10, true)⟩, ⟨some 13, .bin .leq (.t 11) (.t 12), some (10, true)⟩, ⟨some 14, .pick (.t 10) (.t 13) (.c (.bool false)), none⟩, ⟨some 6, .mv (.t 14), none⟩]) .ret)), 15, [(.t 6)]⟩
theorem k_spec_l01In : compF Tryd.prog Tryd.f54 = some c_spec_l01In := by kernel_rfl
theorem impl_within (a b c : Int) (h : AH) (n : Nat) : Q Tryd.prog 47 [.int .i64 a, .int .i64 b, .int .i64 c] h n (.bool (decide (b ≤ a ∧ a ≤ c))) := by
  refine q_intro Tryd.func47 k_impl_within ?_
  simp (maxSteps := 2000000) -implicitDefEqProofs (disch := omega) only [c_impl_within, xsW, xsC, xsD, xsE, fillA, reduceCtorEq, Nat.reduceAdd, Nat.reduceSub, Nat.reduceLeDiff, Nat.reduceMul, Int.reduceLT, Int.reduceLE, Int.reduceEq, Int.reduceNe, Int.reduceAdd, Int.reduceSub, Int.reduceMul, Int.reduceNeg, Int.reduceToNat]
  (refine gd_dec (fun h1 => ?_) (fun h1 => ?_) <;> simp (maxSteps := 2000000) -implicitDefEqProofs (disch := omega) only [xsW, xsC, xsD, xsE, fillA, reduceCtorEq, Nat.reduceAdd, Nat.reduceSub, Nat.reduceLeDiff, Nat.reduceMul, Int.reduceLT, Int.reduceLE, Int.reduceEq, Int.reduceNe, Int.reduceAdd, Int.reduceSub, Int.reduceMul, Int.reduceNeg, Int.reduceToNat,  h1]) <;> (first | rfl | omega | (rw [Bool.eq_iff_iff]; simp only [decide_eq_true_eq, Bool.false_eq_true, iff_true, true_iff, false_iff, iff_false, ne_eq, isFr]; omega))
theorem spec_l01In (a b c : Int) (h : AH) (n : Nat) : Q Tryd.prog 54 [.int .i64 a, .int .i64 b, .int .i64 c] h n (.bool (decide (b ≤ a ∧ a ≤ c))) := by
  refine q_intro Tryd.func54 k_spec_l01In ?_
  simp (maxSteps := 2000000) -implicitDefEqProofs (disch := omega) only [c_spec_l01In, xsW, xsC, xsD, xsE, fillA, reduceCtorEq, Nat.reduceAdd, Nat.reduceSub, Nat.reduceLeDiff, Nat.reduceMul, Int.reduceLT, Int.reduceLE, Int.reduceEq, Int.reduceNe, Int.reduceAdd, Int.reduceSub, Int.reduceMul, Int.reduceNeg, Int.reduceToNat]
  (refine gd_dec (fun h1 => ?_) (fun h1 => ?_) <;> simp (maxSteps := 2000000) -implicitDefEqProofs (disch := omega) only [xsW, xsC, xsD, xsE, fillA, reduceCtorEq, Nat.reduceAdd, Nat.reduceSub, Nat.reduceLeDiff, Nat.reduceMul, Int.reduceLT, Int.reduceLE, Int.reduceEq, Int.reduceNe, Int.reduceAdd, Int.reduceSub, Int.reduceMul, Int.reduceNeg, Int.reduceToNat,  h1]) <;> (first | rfl | omega | (rw [Bool.eq_iff_iff]; simp only [decide_eq_true_eq, Bool.false_eq_true, iff_true, true_iff, false_iff, iff_false, ne_eq, isFr]; omega))
theorem impl_upTo (a c : Int) (hc : in64 (-c)) (h : AH) (n : Nat) : Q Tryd.prog 48 [.int .i64 a, .int .i64 c] h n (.bool (decide (-c ≤ a ∧ a ≤ c))) := by
  refine q_intro Tryd.func48 k_impl_upTo ?_
  simp (maxSteps := 2000000) -implicitDefEqProofs (disch := omega) only [c_impl_upTo, xsW, xsC, xsD, xsE, fillA, reduceCtorEq, Nat.reduceAdd, Nat.reduceSub, Nat.reduceLeDiff, Nat.reduceMul, Int.reduceLT, Int.reduceLE, Int.reduceEq, Int.reduceNe, Int.reduceAdd, Int.reduceSub, Int.reduceMul, Int.reduceNeg, Int.reduceToNat]
  refine ⟨hc, q_use (impl_within _ _ _ _ _) fun n' hn => ?_⟩
  simp (maxSteps := 2000000) -implicitDefEqProofs (disch := omega) only [xsW, xsC, xsD, xsE, fillA, reduceCtorEq, Nat.reduceAdd, Nat.reduceSub, Nat.reduceLeDiff, Nat.reduceMul, Int.reduceLT, Int.reduceLE, Int.reduceEq, Int.reduceNe, Int.reduceAdd, Int.reduceSub, Int.reduceMul, Int.reduceNeg, Int.reduceToNat]
def c_laws_eqInt64S : F := ⟨(.seq (.reg false [⟨some 4, .mv (.c (.bool false)), none⟩]) (.seq (.seq (.reg false [⟨some 6, .mv (.t 0), none⟩, ⟨some 7, .len (.t 6), none⟩, ⟨some 8, .mv (.t 1), none⟩, ⟨some 9, .len (.t 8), none⟩, ⟨some 10, .bin .neq (.t 7) (.t 9), none⟩]) (.cond (.t 10) (.seq (.reg false [⟨some 4, .mv (.c (.bool false)), none⟩]) .ret) .skip)) (.seq (.seq (.reg false [⟨some 5, .mv (.c (.int .i64 0)), none⟩]) (.block 0 (.loop (.seq (.seq (.reg false [⟨some 11, .mv (.t 5), none⟩, ⟨some 12, .mv (.t 0), none⟩, ⟨some 13, .len (.t 12), none⟩, ⟨some 14, .bin .lss (.t 11) (.t 13), none⟩]) (.cond (.t 14) .skip (.exit 0))) (.seq (.block 1 (.seq (.reg true [⟨some 17, .mv (.t 0), none⟩, ⟨some 18, .mv (.t 5), none⟩, ⟨some 19, .ia 1 (.t 17) (.t 18), none⟩, ⟨some 20, .ld1 (.t 19), none⟩, ⟨some 21, .mv (.t 1), none⟩, ⟨some 22, .mv (.t 5), none⟩, ⟨some 23, .ia 1 (.t 21) (.t 22), none⟩, ⟨some 24, .ld1 (.t 23), none⟩, ⟨some 25, .bin .neq (.t 20) (.t 24), none⟩]) (.cond (.t 25) (.seq (.reg false [⟨some 4, .mv (.c (.bool false)), none⟩]) .ret) .skip))) (.reg false [⟨some 15, .mv (.t 5), none⟩, ⟨some 16, .bin .add (.t 15) (.c (.int .i64 1)), none⟩, ⟨some 5, .mv (.t 16), none⟩])))))) (.seq (.reg false [⟨some 4, .mv (.c (.bool true)), none⟩]) .ret)))), 26, [(.t 4)]⟩
theorem k_laws_eqInt64S : compF Tryd.prog Tryd.f65 = some c_laws_eqInt64S := by kernel_rfl

theorem laws_eqInt64S {w w' : Bool} {lo hi lo' hi' : Nat} {h : AH} {v v' : AV} {l l' : List Int} (s : Ints w lo hi h v l) (s' : Ints w' lo' hi' h v' l') (hl : l.length ≤ 1048576) (n : Nat) :
    Q Tryd.prog 65 [v, v'] h n (.bool (decide (l = l'))) := by
  refine q_intro Tryd.func65 k_laws_eqInt64S ?_
  simp (maxSteps := 2000000) -implicitDefEqProofs (disch := omega) only [c_laws_eqInt64S, s.ln, s'.ln, xsW, xsC, xsD, xsE, fillA, reduceCtorEq, Nat.reduceAdd, Nat.reduceSub, Nat.reduceLeDiff, Nat.reduceMul, Int.reduceLT, Int.reduceLE, Int.reduceEq, Int.reduceNe, Int.reduceAdd, Int.reduceSub, Int.reduceMul, Int.reduceNeg, Int.reduceToNat]
  (refine cd_dec (fun h1 => ?_) (fun h1 => ?_) <;> simp (maxSteps := 2000000) -implicitDefEqProofs (disch := omega) only [xsW, xsC, xsD, xsE, fillA, reduceCtorEq, Nat.reduceAdd, Nat.reduceSub, Nat.reduceLeDiff, Nat.reduceMul, Int.reduceLT, Int.reduceLE, Int.reduceEq, Int.reduceNe, Int.reduceAdd, Int.reduceSub, Int.reduceMul, Int.reduceNeg, Int.reduceToNat,  h1])
  · rw [decide_eq_false fun e => h1 (by rw [e])]
  refine loop_for l.length 0 (fun k (_ : Unit) => [v, v', .any, .any, .bool false, .int .i64 k, .any, .any, .any, .any, .any, .any, .any, .any, .any, .any, .any, .any, .any, .any, .any, .any, .any, .any, .any, .any]) (fun k _ => h)
    (fun k _ _ => ∀ j, j < k → l.getD j 0 = l'.getD j 0) () (Nat.zero_le _) (fun j hj => absurd hj (Nat.not_lt_zero _)) (by simp [LeL, Le1]) (fun _ _ h => h) ?_
  rintro k - n1 - hk hn1 he
  simp (maxSteps := 2000000) -implicitDefEqProofs (disch := omega) only [xsW, xsC, xsD, xsE, fillA, reduceCtorEq, Nat.reduceAdd, Nat.reduceSub, Nat.reduceLeDiff, Nat.reduceMul, Int.reduceLT, Int.reduceLE, Int.reduceEq, Int.reduceNe, Int.reduceAdd, Int.reduceSub, Int.reduceMul, Int.reduceNeg, Int.reduceToNat,  s.ln, s'.ln]
  (refine cd_dec (fun h2 => ?_) (fun h2 => ?_) <;> simp (maxSteps := 2000000) -implicitDefEqProofs (disch := omega) only [xsW, xsC, xsD, xsE, fillA, reduceCtorEq, Nat.reduceAdd, Nat.reduceSub, Nat.reduceLeDiff, Nat.reduceMul, Int.reduceLT, Int.reduceLE, Int.reduceEq, Int.reduceNe, Int.reduceAdd, Int.reduceSub, Int.reduceMul, Int.reduceNeg, Int.reduceToNat,  h2])
  · have hk' : k < l.length := by omega
    have hk2 : k < l'.length := by omega
    simp (maxSteps := 2000000) -implicitDefEqProofs (disch := omega) only [xsW, xsC, xsD, xsE, fillA, reduceCtorEq, Nat.reduceAdd, Nat.reduceSub, Nat.reduceLeDiff, Nat.reduceMul, Int.reduceLT, Int.reduceLE, Int.reduceEq, Int.reduceNe, Int.reduceAdd, Int.reduceSub, Int.reduceMul, Int.reduceNeg, Int.reduceToNat,  s.ia, s.ld, s'.ia, s'.ld]
    (refine cd_dec (fun h3 => ?_) (fun h3 => ?_) <;> simp (maxSteps := 2000000) -implicitDefEqProofs (disch := omega) only [xsW, xsC, xsD, xsE, fillA, reduceCtorEq, Nat.reduceAdd, Nat.reduceSub, Nat.reduceLeDiff, Nat.reduceMul, Int.reduceLT, Int.reduceLE, Int.reduceEq, Int.reduceNe, Int.reduceAdd, Int.reduceSub, Int.reduceMul, Int.reduceNeg, Int.reduceToNat,  h3])
    · rw [decide_eq_false fun e => h3 (by rw [e])]
    · exact ⟨(), fun j hj => (Nat.lt_succ_iff_lt_or_eq.1 hj).elim (he j) (fun e => by rw [e]; omega), by omega, by omega, (by simp [LeL, Le1])⟩
  · rw [decide_eq_true (getD_ext (d := 0) (by omega) fun j hj => he j (by omega))]

def c_slices_IndexFunc_Sint64_int64 : F := ⟨(.seq (.reg false [⟨some 4, .mv (.c (.int .i64 0)), none⟩]) (.seq (.seq (.reg false [⟨some 6, .mv (.t 0), none⟩, ⟨some 7, .len (.t 6), none⟩, ⟨some 8, .mv (.c (.int .i64 0)), none⟩]) (.block 0 (.loop (.seq (.reg false [⟨some 9, .bin .lss (.t 8) (.t 7), none⟩]) (.seq (.cond (.t 9) .skip (.exit 0)) (.seq (.block 1 (.seq (.reg false [⟨some 10, .mv (.t 8), none⟩, ⟨some 5, .mv (.t 10), none⟩]) (.seq (.reg false [⟨some 11, .mv (.t 1), none⟩, ⟨some 12, .mv (.t 0), none⟩, ⟨some 13, .mv (.t 5), none⟩, ⟨some 14, .ia 1 (.t 12) (.t 13), none⟩, ⟨some 15, .ld1 (.t 14), none⟩, ⟨some 16, .call (.t 11) [(.t 15)], none⟩]) (.cond (.t 16) (.seq (.reg false [⟨some 17, .mv (.t 5), none⟩, ⟨some 4, .mv (.t 17), none⟩]) .ret) .skip)))) (.reg false [⟨some 18, .bin .add (.t 8) (.c (.int .i64 1)), none⟩, ⟨some 8, .mv (.t 18), none⟩]))))))) (.seq (.reg false [⟨some 4, .mv (.c (.int .i64 (-1))), none⟩]) .ret))), 19, [(.t 4)]⟩
theorem k_slices_IndexFunc_Sint64_int64 : compF Tryd.prog Tryd.f110 = some c_slices_IndexFunc_Sint64_int64 := by kernel_rfl
def c_slices_ContainsFunc_Sint64_int64 : F := ⟨(.seq (.reg false [⟨some 4, .mv (.c (.bool false)), none⟩]) (.seq (.reg false [⟨some 5, .mv (.t 0), none⟩, ⟨some 6, .mv (.t 1), none⟩, ⟨some 7, .call (.f 110) [(.t 5), (.t 6)], none⟩, ⟨some 8, .bin .geq (.t 7) (.c (.int .i64 0)), none⟩, ⟨some 4, .mv (.t 8), none⟩]) .ret)), 9, [(.t 4)]⟩
theorem k_slices_ContainsFunc_Sint64_int64 : compF Tryd.prog Tryd.f96 = some c_slices_ContainsFunc_Sint64_int64 := by kernel_rfl
theorem idx_ints {w : Bool} {lo hi : Nat} {h : AH} {v : AV} {cs : List AV} (s : Sl w lo hi h 1 v cs) (hl : slen v ≤ 4611686018427387904) (g : Nat) (ds : List AV) (p : Nat → Bool) (n : Nat)
    (hp : ∀ k n', k < slen v → n ≤ n' → Q Tryd.prog g (cs.getD k .any :: ds) h n' (.bool (p k))) :
    ∃ r : Int, (r = -1 ∧ (∀ k, k < slen v → p k = false) ∨ ∃ k : Nat, r = k ∧ k < slen v ∧ p k = true ∧ ∀ j, j < k → p j = false) ∧ Q Tryd.prog 110 [v, .fn g ds] h n (.int .i64 r) := by
  suffices hx : ∃ x, (∃ r : Int, x = .int .i64 r ∧ (r = -1 ∧ (∀ k, k < slen v → p k = false) ∨ ∃ k : Nat, r = k ∧ k < slen v ∧ p k = true ∧ ∀ j, j < k → p j = false)) ∧ Q Tryd.prog 110 [v, .fn g ds] h n x by
    obtain ⟨_, ⟨r, rfl, hr⟩, hq⟩ := hx
    exact ⟨r, hr, hq⟩
  refine eq_intro Tryd.func110 k_slices_IndexFunc_Sint64_int64 ?_
  have hlen := s.len
  simp (maxSteps := 2000000) -implicitDefEqProofs (disch := omega) only [c_slices_IndexFunc_Sint64_int64, s.ln, xsW, xsC, xsD, xsE, fillA, reduceCtorEq, Nat.reduceAdd, Nat.reduceSub, Nat.reduceLeDiff, Nat.reduceMul, Int.reduceLT, Int.reduceLE, Int.reduceEq, Int.reduceNe, Int.reduceAdd, Int.reduceSub, Int.reduceMul, Int.reduceNeg, Int.reduceToNat]
  refine loop_for (slen v) 0 (fun k (_ : Unit) => [v, .fn g ds, .any, .any, .int .i64 0, .any, .any, .int .i64 (slen v), .int .i64 k, .any, .any, .any, .any, .any, .any, .any, .any, .any, .any]) (fun k _ => h)
    (fun k _ _ => ∀ j, j < k → p j = false) () (Nat.zero_le _) (fun j hj => absurd hj (Nat.not_lt_zero _)) (by simp [LeL, Le1]) (fun _ _ h => h) ?_
  rintro k - n1 - hk hn1 he
  simp (maxSteps := 2000000) -implicitDefEqProofs (disch := omega) only [xsW, xsC, xsD, xsE, fillA, reduceCtorEq, Nat.reduceAdd, Nat.reduceSub, Nat.reduceLeDiff, Nat.reduceMul, Int.reduceLT, Int.reduceLE, Int.reduceEq, Int.reduceNe, Int.reduceAdd, Int.reduceSub, Int.reduceMul, Int.reduceNeg, Int.reduceToNat]
  (refine cd_dec (fun h1 => ?_) (fun h1 => ?_) <;> simp (maxSteps := 2000000) -implicitDefEqProofs (disch := omega) only [xsW, xsC, xsD, xsE, fillA, reduceCtorEq, Nat.reduceAdd, Nat.reduceSub, Nat.reduceLeDiff, Nat.reduceMul, Int.reduceLT, Int.reduceLE, Int.reduceEq, Int.reduceNe, Int.reduceAdd, Int.reduceSub, Int.reduceMul, Int.reduceNeg, Int.reduceToNat,  h1])
  · have hk' : k < slen v := by omega
    simp (maxSteps := 2000000) -implicitDefEqProofs (disch := omega) only [xsW, xsC, xsD, xsE, fillA, reduceCtorEq, Nat.reduceAdd, Nat.reduceSub, Nat.reduceLeDiff, Nat.reduceMul, Int.reduceLT, Int.reduceLE, Int.reduceEq, Int.reduceNe, Int.reduceAdd, Int.reduceSub, Int.reduceMul, Int.reduceNeg, Int.reduceToNat,  s.ia, s.ld]
    refine q_use (hp k n1 hk' hn1) fun n2 hn2 => ?_
    simp (maxSteps := 2000000) -implicitDefEqProofs (disch := omega) only [xsW, xsC, xsD, xsE, fillA, reduceCtorEq, Nat.reduceAdd, Nat.reduceSub, Nat.reduceLeDiff, Nat.reduceMul, Int.reduceLT, Int.reduceLE, Int.reduceEq, Int.reduceNe, Int.reduceAdd, Int.reduceSub, Int.reduceMul, Int.reduceNeg, Int.reduceToNat]
    cases hpk : p k
    · simp (maxSteps := 2000000) -implicitDefEqProofs (disch := omega) only [xsW, xsC, xsD, xsE, fillA, reduceCtorEq, Nat.reduceAdd, Nat.reduceSub, Nat.reduceLeDiff, Nat.reduceMul, Int.reduceLT, Int.reduceLE, Int.reduceEq, Int.reduceNe, Int.reduceAdd, Int.reduceSub, Int.reduceMul, Int.reduceNeg, Int.reduceToNat]
      exact ⟨(), fun j hj => (Nat.lt_succ_iff_lt_or_eq.1 hj).elim (he j) (fun e => by rw [e, hpk]), by omega, by omega, (by simp [LeL, Le1])⟩
    · simp (maxSteps := 2000000) -implicitDefEqProofs (disch := omega) only [xsW, xsC, xsD, xsE, fillA, reduceCtorEq, Nat.reduceAdd, Nat.reduceSub, Nat.reduceLeDiff, Nat.reduceMul, Int.reduceLT, Int.reduceLE, Int.reduceEq, Int.reduceNe, Int.reduceAdd, Int.reduceSub, Int.reduceMul, Int.reduceNeg, Int.reduceToNat]
      exact ⟨k, rfl, .inr ⟨k, rfl, hk', hpk, he⟩⟩
  · exact ⟨-1, rfl, .inl ⟨rfl, fun j hj => he j (by omega)⟩⟩
theorem has_ints {w : Bool} {lo hi : Nat} {h : AH} {v : AV} {cs : List AV} (s : Sl w lo hi h 1 v cs) (hl : slen v ≤ 4611686018427387904) (g : Nat) (ds : List AV) (p : Nat → Bool) (n : Nat)
    (hp : ∀ k n', k < slen v → n ≤ n' → Q Tryd.prog g (cs.getD k .any :: ds) h n' (.bool (p k))) :
    Q Tryd.prog 96 [v, .fn g ds] h n (.bool ((List.range (slen v)).any p)) := by
  obtain ⟨r, hr, hq⟩ := idx_ints s hl g ds p n hp
  refine q_intro Tryd.func96 k_slices_ContainsFunc_Sint64_int64 ?_
  simp (maxSteps := 2000000) -implicitDefEqProofs (disch := omega) only [c_slices_ContainsFunc_Sint64_int64, xsW, xsC, xsD, xsE, fillA, reduceCtorEq, Nat.reduceAdd, Nat.reduceSub, Nat.reduceLeDiff, Nat.reduceMul, Int.reduceLT, Int.reduceLE, Int.reduceEq, Int.reduceNe, Int.reduceAdd, Int.reduceSub, Int.reduceMul, Int.reduceNeg, Int.reduceToNat]
  refine q_use hq fun n1 hn1 => ?_
  simp (maxSteps := 2000000) -implicitDefEqProofs (disch := omega) only [xsW, xsC, xsD, xsE, fillA, reduceCtorEq, Nat.reduceAdd, Nat.reduceSub, Nat.reduceLeDiff, Nat.reduceMul, Int.reduceLT, Int.reduceLE, Int.reduceEq, Int.reduceNe, Int.reduceAdd, Int.reduceSub, Int.reduceMul, Int.reduceNeg, Int.reduceToNat]
  rcases hr with ⟨rfl, hr⟩ | ⟨k, rfl, hk, hpk, _⟩
  · rw [Bool.eq_iff_iff]; simp; exact hr
  · rw [Bool.eq_iff_iff]; simp; exact ⟨k, hk, hpk⟩
def c_slices_IndexFunc_SSint64_Sint64 : F := ⟨(.seq (.reg false [⟨some 4, .mv (.c (.int .i64 0)), none⟩]) (.seq (.seq (.reg false [⟨some 6, .mv (.t 0), none⟩, ⟨some 7, .len (.t 6), none⟩, ⟨some 8, .mv (.c (.int .i64 0)), none⟩]) (.block 0 (.loop (.seq (.reg false [⟨some 9, .bin .lss (.t 8) (.t 7), none⟩]) (.seq (.cond (.t 9) .skip (.exit 0)) (.seq (.block 1 (.seq (.reg false [⟨some 10, .mv (.t 8), none⟩, ⟨some 5, .mv (.t 10), none⟩]) (.seq (.reg false [⟨some 11, .mv (.t 1), none⟩, ⟨some 12, .mv (.t 0), none⟩, ⟨some 13, .mv (.t 5), none⟩, ⟨some 14, .ia 1 (.t 12) (.t 13), none⟩, ⟨some 15, .ld1 (.t 14), none⟩, ⟨some 16, .call (.t 11) [(.t 15)], none⟩]) (.cond (.t 16) (.seq (.reg false [⟨some 17, .mv (.t 5), none⟩, ⟨some 4, .mv (.t 17), none⟩]) .ret) .skip)))) (.reg false [⟨some 18, .bin .add (.t 8) (.c (.int .i64 1)), none⟩, ⟨some 8, .mv (.t 18), none⟩]))))))) (.seq (.reg false [⟨some 4, .mv (.c (.int .i64 (-1))), none⟩]) .ret))), 19, [(.t 4)]⟩
theorem k_slices_IndexFunc_SSint64_Sint64 : compF Tryd.prog Tryd.f109 = some c_slices_IndexFunc_SSint64_Sint64 := by kernel_rfl
def c_slices_ContainsFunc_SSint64_Sint64 : F := ⟨(.seq (.reg false [⟨some 4, .mv (.c (.bool false)), none⟩]) (.seq (.reg false [⟨some 5, .mv (.t 0), none⟩, ⟨some 6, .mv (.t 1), none⟩, ⟨some 7, .call (.f 109) [(.t 5), (.t 6)], none⟩, ⟨some 8, .bin .geq (.t 7) (.c (.int .i64 0)), none⟩, ⟨some 4, .mv (.t 8), none⟩]) .ret)), 9, [(.t 4)]⟩
theorem k_slices_ContainsFunc_SSint64_Sint64 : compF Tryd.prog Tryd.f94 = some c_slices_ContainsFunc_SSint64_Sint64 := by kernel_rfl
theorem idx_rows {w : Bool} {lo hi : Nat} {h : AH} {v : AV} {cs : List AV} (s : Sl w lo hi h 1 v cs) (hl : slen v ≤ 4611686018427387904) (g : Nat) (ds : List AV) (p : Nat → Bool) (n : Nat)
    (hp : ∀ k n', k < slen v → n ≤ n' → Q Tryd.prog g (cs.getD k .any :: ds) h n' (.bool (p k))) :
    ∃ r : Int, (r = -1 ∧ (∀ k, k < slen v → p k = false) ∨ ∃ k : Nat, r = k ∧ k < slen v ∧ p k = true ∧ ∀ j, j < k → p j = false) ∧ Q Tryd.prog 109 [v, .fn g ds] h n (.int .i64 r) := by
  suffices hx : ∃ x, (∃ r : Int, x = .int .i64 r ∧ (r = -1 ∧ (∀ k, k < slen v → p k = false) ∨ ∃ k : Nat, r = k ∧ k < slen v ∧ p k = true ∧ ∀ j, j < k → p j = false)) ∧ Q Tryd.prog 109 [v, .fn g ds] h n x by
    obtain ⟨_, ⟨r, rfl, hr⟩, hq⟩ := hx
    exact ⟨r, hr, hq⟩
  refine eq_intro Tryd.func109 k_slices_IndexFunc_SSint64_Sint64 ?_
  have hlen := s.len
  simp (maxSteps := 2000000) -implicitDefEqProofs (disch := omega) only [c_slices_IndexFunc_SSint64_Sint64, s.ln, xsW, xsC, xsD, xsE, fillA, reduceCtorEq, Nat.reduceAdd, Nat.reduceSub, Nat.reduceLeDiff, Nat.reduceMul, Int.reduceLT, Int.reduceLE, Int.reduceEq, Int.reduceNe, Int.reduceAdd, Int.reduceSub, Int.reduceMul, Int.reduceNeg, Int.reduceToNat]
  refine loop_for (slen v) 0 (fun k (_ : Unit) => [v, .fn g ds, .any, .any, .int .i64 0, .any, .any, .int .i64 (slen v), .int .i64 k, .any, .any, .any, .any, .any, .any, .any, .any, .any, .any]) (fun k _ => h)
    (fun k _ _ => ∀ j, j < k → p j = false) () (Nat.zero_le _) (fun j hj => absurd hj (Nat.not_lt_zero _)) (by simp [LeL, Le1]) (fun _ _ h => h) ?_
  rintro k - n1 - hk hn1 he
  simp (maxSteps := 2000000) -implicitDefEqProofs (disch := omega) only [xsW, xsC, xsD, xsE, fillA, reduceCtorEq, Nat.reduceAdd, Nat.reduceSub, Nat.reduceLeDiff, Nat.reduceMul, Int.reduceLT, Int.reduceLE, Int.reduceEq, Int.reduceNe, Int.reduceAdd, Int.reduceSub, Int.reduceMul, Int.reduceNeg, Int.reduceToNat]
  (refine cd_dec (fun h1 => ?_) (fun h1 => ?_) <;> simp (maxSteps := 2000000) -implicitDefEqProofs (disch := omega) only [xsW, xsC, xsD, xsE, fillA, reduceCtorEq, Nat.reduceAdd, Nat.reduceSub, Nat.reduceLeDiff, Nat.reduceMul, Int.reduceLT, Int.reduceLE, Int.reduceEq, Int.reduceNe, Int.reduceAdd, Int.reduceSub, Int.reduceMul, Int.reduceNeg, Int.reduceToNat,  h1])
  · have hk' : k < slen v := by omega
    simp (maxSteps := 2000000) -implicitDefEqProofs (disch := omega) only [xsW, xsC, xsD, xsE, fillA, reduceCtorEq, Nat.reduceAdd, Nat.reduceSub, Nat.reduceLeDiff, Nat.reduceMul, Int.reduceLT, Int.reduceLE, Int.reduceEq, Int.reduceNe, Int.reduceAdd, Int.reduceSub, Int.reduceMul, Int.reduceNeg, Int.reduceToNat,  s.ia, s.ld]
    refine q_use (hp k n1 hk' hn1) fun n2 hn2 => ?_
    simp (maxSteps := 2000000) -implicitDefEqProofs (disch := omega) only [xsW, xsC, xsD, xsE, fillA, reduceCtorEq, Nat.reduceAdd, Nat.reduceSub, Nat.reduceLeDiff, Nat.reduceMul, Int.reduceLT, Int.reduceLE, Int.reduceEq, Int.reduceNe, Int.reduceAdd, Int.reduceSub, Int.reduceMul, Int.reduceNeg, Int.reduceToNat]
    cases hpk : p k
    · simp (maxSteps := 2000000) -implicitDefEqProofs (disch := omega) only [xsW, xsC, xsD, xsE, fillA, reduceCtorEq, Nat.reduceAdd, Nat.reduceSub, Nat.reduceLeDiff, Nat.reduceMul, Int.reduceLT, Int.reduceLE, Int.reduceEq, Int.reduceNe, Int.reduceAdd, Int.reduceSub, Int.reduceMul, Int.reduceNeg, Int.reduceToNat]
      exact ⟨(), fun j hj => (Nat.lt_succ_iff_lt_or_eq.1 hj).elim (he j) (fun e => by rw [e, hpk]), by omega, by omega, (by simp [LeL, Le1])⟩
    · simp (maxSteps := 2000000) -implicitDefEqProofs (disch := omega) only [xsW, xsC, xsD, xsE, fillA, reduceCtorEq, Nat.reduceAdd, Nat.reduceSub, Nat.reduceLeDiff, Nat.reduceMul, Int.reduceLT, Int.reduceLE, Int.reduceEq, Int.reduceNe, Int.reduceAdd, Int.reduceSub, Int.reduceMul, Int.reduceNeg, Int.reduceToNat]
      exact ⟨k, rfl, .inr ⟨k, rfl, hk', hpk, he⟩⟩
  · exact ⟨-1, rfl, .inl ⟨rfl, fun j hj => he j (by omega)⟩⟩
theorem has_rows {w : Bool} {lo hi : Nat} {h : AH} {v : AV} {cs : List AV} (s : Sl w lo hi h 1 v cs) (hl : slen v ≤ 4611686018427387904) (g : Nat) (ds : List AV) (p : Nat → Bool) (n : Nat)
    (hp : ∀ k n', k < slen v → n ≤ n' → Q Tryd.prog g (cs.getD k .any :: ds) h n' (.bool (p k))) :
    Q Tryd.prog 94 [v, .fn g ds] h n (.bool ((List.range (slen v)).any p)) := by
  obtain ⟨r, hr, hq⟩ := idx_rows s hl g ds p n hp
  refine q_intro Tryd.func94 k_slices_ContainsFunc_SSint64_Sint64 ?_
  simp (maxSteps := 2000000) -implicitDefEqProofs (disch := omega) only [c_slices_ContainsFunc_SSint64_Sint64, xsW, xsC, xsD, xsE, fillA, reduceCtorEq, Nat.reduceAdd, Nat.reduceSub, Nat.reduceLeDiff, Nat.reduceMul, Int.reduceLT, Int.reduceLE, Int.reduceEq, Int.reduceNe, Int.reduceAdd, Int.reduceSub, Int.reduceMul, Int.reduceNeg, Int.reduceToNat]
  refine q_use hq fun n1 hn1 => ?_
  simp (maxSteps := 2000000) -implicitDefEqProofs (disch := omega) only [xsW, xsC, xsD, xsE, fillA, reduceCtorEq, Nat.reduceAdd, Nat.reduceSub, Nat.reduceLeDiff, Nat.reduceMul, Int.reduceLT, Int.reduceLE, Int.reduceEq, Int.reduceNe, Int.reduceAdd, Int.reduceSub, Int.reduceMul, Int.reduceNeg, Int.reduceToNat]
  rcases hr with ⟨rfl, hr⟩ | ⟨k, rfl, hk, hpk, _⟩
  · rw [Bool.eq_iff_iff]; simp; exact hr
  · rw [Bool.eq_iff_iff]; simp; exact ⟨k, hk, hpk⟩
end Go.Proofs.YtkpibnhddhdooacDoor.L
