/- What the statements' texts share: sizes, marks. -/
import Derived.Test.YtkpibnhddhdooaaA7
import Derived.Test.YtkpibnhddhdooaaA11
namespace Go.Proofs.Ytkpibnhddhdooaa.L
open Go
set_option linter.unusedSimpArgs false
set_option linter.unusedVariables false

theorem q_use_ex {P : Program} {n0 : Nat} {W : Nat → Prop} {d : Bool} {f : Nat} {args : List AV} {h : AH} {n : Nat} {K : AV → AH → Nat → Prop} {R : Int → Prop} (q : ∃ r : Int, R r ∧ Q P f args h n (.int .i64 r)) (hk : ∀ r n', n ≤ n' → R r → K (.int .i64 r) h n') :
    CallC P n0 W d f args h n K := by
  obtain ⟨r, hr, q⟩ := q
  exact q_use q fun n' hn => hk r n' hn hr
theorem sz_len2 {left r : Int} {ll : List (List Int)} (hle : left ≤ 1048576) (hr : 0 ≤ r → (ll.length : Int) ≤ left ∧ ∀ k, k < ll.length → ((ll.getD k []).length : Int) ≤ left) (h0 : ¬ r < 0) : ll.length ≤ 1048576 ∧ ∀ l ∈ ll, l.length ≤ 1048576 :=
  sz_len (fun h => by obtain ⟨h1, h2⟩ := hr h; exact ⟨by omega, fun k hk => by have := h2 k hk; omega⟩) h0
theorem laws_szInt64S_ex {w : Bool} {lo hi : Nat} {h : AH} {v : AV} {l : List Int} (s : Ints w lo hi h v l) (hl : l.length ≤ 9223372036854775807) (left : Int) (h0 : 0 ≤ left) (h1 : left ≤ 1048576) (n : Nat) :
    ∃ r : Int, (-1 ≤ r ∧ r ≤ left ∧ (0 ≤ r → (l.length : Int) ≤ left)) ∧ Q Try.prog 55 [v, .int .i64 left] h n (.int .i64 r) := by
  refine ⟨_, ?_, laws_szInt64S s hl left h0 h1 n⟩
  split <;> omega
theorem laws_markInt64S2 {lo hi : Nat} {h : AH} {v : AV} {l : List Int} (s : Ints true lo hi h v l) (k : Int) (h0 : 0 ≤ k) (hb : k + l.length ≤ 4611686018427387904) (n : Nat) (hn : hi ≤ n) :
    MQ Try.prog 16 [v, .int .i64 k] h n lo hi fun x h' n' => x = .int .i64 (k + l.length) ∧ Ints true lo hi h' v (markL k l.length) ∧ (∀ i, i < n → (i < lo ∨ hi ≤ i) → h' i = h i) := by
  obtain ⟨x, h', n', c, e1, e2, e3, e4⟩ := laws_markInt64S s k h0 hb n hn
  refine ⟨x, h', n', c, e1, e2, fun i _ hi' => ?_⟩
  by_cases e0 : v = .nilsl
  · rw [e4]
    have := s.slen
    rw [e0] at this
    exact List.eq_nil_of_length_eq_zero this.symm
  · have := Sl.own s (Sl.isReal s e0)
    exact e3 i (by omega)
end Go.Proofs.Ytkpibnhddhdooaa.L
