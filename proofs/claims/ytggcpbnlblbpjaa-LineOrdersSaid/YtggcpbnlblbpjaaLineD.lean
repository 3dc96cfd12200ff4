/- Cases of operations: what may be, what is light, what is cut. -/
import Derived.Test.YtggcpbnlblbpjaaLineC
import Derived.Test.YtggcpbnlblbpjaaLineJ
namespace Go.Proofs.Ytggcpbnlblbpjaa.L
open Go Go.RowKit Go.Proofs.Ytggcpbnlblbpjaa.K Go.Proofs.Ytggcpbnlblbpjaa.H Go.Proofs.YtggcpbnlblbpjaaW.PrintLast
set_option linter.unusedVariables false
set_option linter.unusedSimpArgs false
theorem real_ways (o : HOp) : o.a < 1 ∨ (1 ≤ o.a ∧ o.d > 0 ∧ o.d ≤ o.a) ∨ (1 ≤ o.a ∧ ¬ o.d > 0 ∧ ¬ o.t > 0) ∨ (1 ≤ o.a ∧ ¬ o.d > 0 ∧ o.t > 0 ∧ o.d = 0) ∨ (1 ≤ o.a ∧ ¬ o.d > 0 ∧ o.t > 0 ∧ o.d ≠ 0) ∨ (1 ≤ o.a ∧ o.d > 0 ∧ o.a < o.d ∧ ¬ o.t > 0) ∨ (1 ≤ o.a ∧ o.d > 0 ∧ o.a < o.d ∧ o.t > 0 ∧ o.t ≤ o.d) ∨ (1 ≤ o.a ∧ o.d > 0 ∧ o.a < o.d ∧ o.t > 0 ∧ o.d < o.t) := by omega
theorem cut_ways (o : HOp) (q : Int) : ¬ o.a ≤ q ∨ (o.a ≤ q ∧ o.t > q ∧ o.d > q) ∨ (o.a ≤ q ∧ o.t > q ∧ ¬ o.d > q) ∨ (o.a ≤ q ∧ ¬ o.t > q ∧ o.d > q) ∨ (o.a ≤ q ∧ ¬ o.t > q ∧ ¬ o.d > q) := by omega
/-- An operation's cells by name, the answer to its spec, and how many pods its reply has. -/
def opLits (W : World) (o : HOp) (r : Bool) (n : Nat) : Prop := ∃ (x0 x1 x2 x3 x4 x5 x6 x7 x8 x9 x10 x11 x12 x13 x14 x15 y0 y1 y2 y3 y4 y6 : Value) (A : Option Addr) (c : Nat), o.cl.1 = [x0, x1, x2, x3, x4, x5, x6, x7, x8, x9, x10, x11, x12, x13, x14, x15] ∧ o.rp.1 = [y0, y1, y2, y3, y4, .slice A n c, y6] ∧ SpecR W [x3, x4, x5, x6, x7, x8, x9] r
theorem opLits_of {W : World} {o : HOp} (h : okO W o) : ∃ r n, opLits W o r n := by
  obtain ⟨x0, x1, x2, x3, x4, x5, x6, x7, x8, x9, x10, x11, x12, x13, x14, x15, y0, y1, y2, y3, y4, y6, A, n, c, r, h1, h2, h3⟩ := call_lits h
  exact ⟨r, n, x0, x1, x2, x3, x4, x5, x6, x7, x8, x9, x10, x11, x12, x13, x14, x15, y0, y1, y2, y3, y4, y6, A, c, h1, h2, h3⟩
theorem all_lits {W : World} {L : List HOp} (h : ∀ o ∈ L, okO W o) : ∃ (rs : Nat → Bool) (ns : Nat → Nat), ∀ i o, L[i]? = some o → opLits W o (rs i) (ns i) := by
  have hex : ∀ i : Nat, ∃ p : Bool × Nat, ∀ o, L[i]? = some o → opLits W o p.1 p.2 := by
    intro i
    cases hi : L[i]? with
    | none => exact ⟨(false, 0), fun o h => by cases h⟩
    | some o =>
      obtain ⟨r, n, hl⟩ := opLits_of (h o (List.mem_of_getElem? hi))
      exact ⟨(r, n), fun p hp => by injection hp with hp; subst hp; exact hl⟩
  obtain ⟨f, hf⟩ := Classical.axiomOfChoice hex
  exact ⟨fun i => (f i).1, fun i => (f i).2, fun i o ho => hf i o ho⟩
theorem SpecR.from_ {W w' : World} {cs : List Value} {r : Bool} (h : SpecR W cs r) (hb : Below W.heap.size W w') : SpecR w' cs r := fun w2 h2 => h w2 (hb.trans (h2.mono hb.size))
theorem opLits.from_ {W w' : World} {o : HOp} {r : Bool} {n : Nat} (h : opLits W o r n) (hb : Below W.heap.size W w') : opLits w' o r n := by
  obtain ⟨x0, x1, x2, x3, x4, x5, x6, x7, x8, x9, x10, x11, x12, x13, x14, x15, y0, y1, y2, y3, y4, y6, A, c, h1, h2, h3⟩ := h
  exact ⟨x0, x1, x2, x3, x4, x5, x6, x7, x8, x9, x10, x11, x12, x13, x14, x15, y0, y1, y2, y3, y4, y6, A, c, h1, h2, h3.from_ hb⟩
/-- Are operations light? -/
def lightP (L : List HOp) (rs : Nat → Bool) (ns : Nat → Nat) : Prop := L.length ≤ 30 ∧ ∀ i o, i < 30 → L[i]? = some o → posO o ∧ rs i = true ∧ ns i = 0
theorem light_ways {L : List HOp} {k : Nat} (h : k ≤ L.length) (h30 : k ≤ 30) (rs : Nat → Bool) (ns : Nat → Nat) : (∃ o, (k < L.length ∧ k < 30) ∧ L[k]? = some o ∧ (o.a < 0 ∨ (0 ≤ o.a ∧ o.d < 0) ∨ (0 ≤ o.a ∧ 0 ≤ o.d ∧ o.t < 0) ∨ (0 ≤ o.a ∧ 0 ≤ o.d ∧ 0 ≤ o.t ∧ rs k = false) ∨ (0 ≤ o.a ∧ 0 ≤ o.d ∧ 0 ≤ o.t ∧ rs k = true ∧ 0 < ns k) ∨ (0 ≤ o.a ∧ 0 ≤ o.d ∧ 0 ≤ o.t ∧ rs k = true ∧ ns k = 0))) ∨ (k < L.length ∧ k = 30) ∨ k = L.length := by
  rcases Nat.lt_or_ge k L.length with h1 | h1
  · rcases Nat.lt_or_ge k 30 with h2 | h2
    · refine .inl ⟨_, ⟨h1, h2⟩, List.getElem?_eq_getElem h1, ?_⟩
      cases hr : rs k with
      | false => simp only [Bool.false_eq_true, false_and, and_false, or_false, and_true]; omega
      | true => simp only [Bool.true_eq_false, and_false, false_or, true_and]; omega
    · exact .inr (.inl ⟨h1, by omega⟩)
  · exact .inr (.inr (by omega))
theorem light_good {L : List HOp} {rs : Nat → Bool} {ns : Nat → Nat} (h : lightP L rs ns) : ∀ o ∈ L, posO o := fun o ho => by
  obtain ⟨i, hi, rfl⟩ := List.mem_iff_getElem.1 ho
  exact (h.2 i _ (by have := h.1; omega) (List.getElem?_eq_getElem hi)).1
end Go.Proofs.Ytggcpbnlblbpjaa.L
