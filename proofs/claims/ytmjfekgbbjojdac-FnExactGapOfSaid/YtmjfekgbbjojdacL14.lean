/- The way from a contract of ours to a row: the arguments told, the frame behind the call. -/
import Derived.Test.YtmjfekgbbjojdacL13
import Derived.OpenShut
import Derived.ShutString
import Derived.ChangeOld
import Derived.Below
import Derived.Carry
import Derived.SizedLaws
import Derived.JoinedOf
import Derived.Lib.SmallJoins
namespace Go.Proofs.Ytmjfekgbbjojdac.L
open Go
open Go.RowKit Go.ChangeShapes Go.WideShapes Go.ChangeAt

theorem Cx.below {ρ ρ' : Rho} {w w' : World} {n n' : Nat} (c : Cx ⟨ρ, w, none', n, n'⟩ ρ' w') : Below w.heap.size w w' :=
  ⟨c.os, c.tape, c.output, c.size, fun k hk => c.blk k hk (fun _ _ _ h => h.elim)⟩

theorem Q.link {P : Program} {f : Nat} {args : List AV} {h : AH} {n : Nat} {v : AV} (q : Q P f args h n v) {ρ : Rho} {w : World} {vs : List Value} (hs : Sim ρ h w) (ha : IsL ρ args vs) (hf : ∀ i, n ≤ i → ρ i = none) :
    Calls P f vs.toArray w fun e w' => ∃ rv ρ', e = .returned rv ∧ Is ρ' v rv ∧ Below w.heap.size w w' := by
  obtain ⟨n', c⟩ := q
  refine (c.2.2 ρ w vs hs ha fun i h1 _ => hf i h1).mono fun e w' ⟨rv, ρ', h1, h2, _, h4⟩ => ⟨rv, ρ', h1, h2, h4.below⟩

section
variable {H : Type} {enc : TypeId × Value → H} {P : Program}
theorem trodAll_below (hl : laidOutB P = true) {W W' : World} (hb : Below W.heap.size W W') : ∀ {ts : List TypeId} {vs : List Value} {ds : List (DataW H)} {ps : List MemPlace},
    ts.all (fun t => P.readableRec t && decide (t < P.types.size)) = true → DataW.TrodAll enc P W 0 (fun _ => true) true ts vs ds ps → (∀ x ∈ ps, x.block < W.heap.size) →
    DataW.TrodAll enc P W' 0 (fun b => decide (b < W.heap.size)) true ts vs ds ps
  | [], [], [], _, _, h, _ => h
  | t :: ts, v :: vs, d :: ds, ps, ht, ⟨p, q, h1, h2, e⟩, hlt => by
    simp only [List.all_cons, Bool.and_eq_true, decide_eq_true_eq] at ht
    subst e
    exact ⟨p, q, Below.trod hl ht.1.1 ht.1.2 h1 hb (fun x hx => hlt x (List.mem_append_left _ hx)),
      trodAll_below hl hb ht.2 h2 (fun x hx => hlt x (List.mem_append_right _ hx)), rfl⟩
  | [], _ :: _, _, _, _, h, _ => h.elim
  | [], [], _ :: _, _, _, h, _ => h.elim
  | _ :: _, [], _, _, _, h, _ => h.elim
  | _ :: _, _ :: _, [], _, _, h, _ => h.elim

/-- A LAW OVER ARGUMENTS THAT ARE ONLY READ. -/
theorem law_lifted {C : Checked} {os : Os} {f : FuncId} {fn : Func} {s : ChangeSpec} {conds : List PathCond} {a : Assume} {tb : TypeId} (hl : laidOutB C.prog = true) (own : ownKnob C.prog.godebug = none) (started : os.Started)
    (noInit : C.prog.inits.idxOf? f = none) (hfn : C.prog.funcs[f]? = some fn)
    (witness : ∃ (w : World) (tape : Tape) (i : Input), w.os = os ∧ (w.forCall tape i).Shaped C.prog ∧ i.vars = [] ∧ Input.okWide C.prog (w.forCall tape i) .any w.heap.size f i ∧
      s.pre6 enc C.prog fn conds false (w.forCall tape i).memory i.args ∧ a.holds C.prog (lone (Frame.enter C.prog f i.args .normal) [] (w.forCall tape i)))
    (hts : fn.params.toList.all (fun t => C.prog.readableRec t && decide (t < C.prog.types.size)) = true)
    (hres : fn.resultTypes = #[tb]) (hbool : C.prog.underlying tb = some .bool) (hvars : s.vars = [])
    (hspec : ∀ ds : List (DataW H), ds.length = fn.params.size → (s.fn H ds).results = [.lit (.bool true)] ∧ (s.fn H ds).args = ds ∧ (s.fn H ds).vars = [])
    (core : ∀ (W : World) (base : Nat) (args : List Value) (ds : List (DataW H)) (ps : List MemPlace), DataW.TrodAll enc C.prog W 0 (fun _ => true) true fn.params.toList args ds ps →
      (∀ (j : Nat) t v, fn.params[j]? = some t → args[j]? = some v → Value.okWide C.prog W .any base t v) → (DataW.weightsEach C.prog fn.params.toList ds).all (· ≤ reachBytes) = true →
      ∃ avs h n ρ, Sim ρ h W ∧ IsL ρ avs args ∧ (∀ i, n ≤ i → ρ i = none) ∧ Q C.prog f avs h n (.bool true)) :
    ReturnsInHanded a C os f .any (s.pre6 enc C.prog fn conds false) (s.post enc C.prog fn false true false false) := by
  refine returnsInHanded_of_change_sized own started noInit hfn witness ?_
  intro W base args ds gs before hval hW _ hsz _
  have hW' := hW
  obtain ⟨p, q, hA, hV, rfl, hfz, hnd⟩ := hW
  have hgs : gs = [] ∧ q = [] := by
    rw [hvars] at hV
    cases gs with
    | nil => exact ⟨rfl, hV⟩
    | cons _ _ => exact hV.elim
  obtain ⟨rfl, rfl⟩ := hgs
  have hvt : s.plain.varTypes C.prog = [] := by
    have hv : s.plain.vars = [] := hvars
    unfold DataSpec.varTypes; rw [hv]; rfl
  simp only [List.append_nil, hvt] at hsz hW'
  obtain ⟨avs, h, n, ρ, h1, h2, h3, h4⟩ := core W base args.toList ds p hA (fun j t v hj hv => hval j t v hj (by simpa using hv)) hsz
  have hlen : ds.length = fn.params.size := by
    have : ∀ {ts : List TypeId} {vs : List Value} {ds : List (DataW H)} {ps : List MemPlace}, DataW.TrodAll enc C.prog W 0 (fun _ => true) true ts vs ds ps → ds.length = ts.length := by
      intro ts
      induction ts with
      | nil => intro vs ds ps h; cases vs <;> cases ds <;> first | rfl | exact h.elim
      | cons t ts ih =>
        intro vs ds ps h
        cases vs with
        | nil => exact h.elim
        | cons v vs =>
          cases ds with
          | nil => exact h.elim
          | cons d ds => obtain ⟨p, q, _, h2, _⟩ := h; simp [ih h2]
    simpa using this hA
  obtain ⟨e1, e2, e3⟩ := hspec ds hlen
  refine (h4.link h1 h2 h3).mono fun e W' ⟨rv, ρ', he, hrv, bel⟩ => ?_
  simp only [Is] at hrv
  subst he hrv
  refine ⟨_, rfl, ds, [], p, [], p, [], hW', ?_, ?_, ?_, bel.frame _, fun h => by cases h⟩
  · rw [hres]
    simp only [List.append_nil, e1]
    exact trodAll_mk1 (shut_bool hbool _)
  · simp only [List.append_nil, e2]
    exact trodAll_below hl bel hts hA (fun x hx => hW'.lt x (by simpa using hx))
  · simp only [List.append_nil, e3, hvars]
    rfl
end
end Go.Proofs.Ytmjfekgbbjojdac.L
