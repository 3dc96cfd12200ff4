/- What package line says of orders, and of cuts, as lists. -/
import Derived.Test.YtggcpbnlblbpjaaLineN
namespace Go.Proofs.Ytggcpbnlblbpjaa.L
open Go Go.RowKit Go.Proofs.Ytggcpbnlblbpjaa.K Go.Proofs.Ytggcpbnlblbpjaa.H Go.Proofs.YtggcpbnlblbpjaaW.PrintLast
set_option linter.unusedVariables false
set_option linter.unusedSimpArgs false
theorem rise_ahead {X : List Int} (h : X.Pairwise (· < ·)) (k : Nat) : ahead (X.take k) (X.drop k) := by
  have h2 : (X.take k ++ X.drop k).Pairwise (· < ·) := by rw [List.take_append_drop]; exact h
  exact (List.pairwise_append.1 h2).2.2
theorem own_zero {w : World} {base e sz : Nat} {v : Value} {X : List Int} (h : OwnS w base e sz v X.length (X.map vi)) (hz : X = []) : OwnS w base e sz v ([] : List Int).length (([] : List Int).map vi) := by
  subst hz
  exact h
theorem own_len {w : World} {base e sz n m : Nat} {v : Value} {xs : List Value} (h : OwnS w base e sz v n xs) (hm : n = m) : OwnS w base e sz v m xs := by
  subst hm
  exact h
/-- Is all that was told in an order? -/
def wholeP (L : List HOp) (M : List Int) : Prop := ∀ (i : Nat) (o : HOp), L[i]? = some o → o.t > 0 → (i : Int) ∈ M
theorem whole_nil (M : List Int) : wholeP (([] : List HOp)) M := fun i o h => by simp at h
theorem whole_snoc {L : List HOp} {M : List Int} {k : Nat} {o : HOp} (h : L[k]? = some o) (hw : wholeP (L.take k) M) (ho : o.t > 0 → (k : Int) ∈ M) : wholeP (L.take (k + 1)) M := by
  intro i p hi hp
  rw [List.getElem?_take] at hi
  split at hi
  · rcases Nat.lt_or_ge i k with h1 | h1
    · exact hw i p (by rw [List.getElem?_take, if_pos h1]; exact hi) hp
    · obtain rfl : i = k := by omega
      rw [h] at hi
      injection hi with hi
      subst hi
      exact ho hp
  · cases hi
theorem whole_ways (t : Int) (M : List Int) (k : Nat) : ¬ t > 0 ∨ (t > 0 ∧ (k : Int) ∈ M) ∨ (t > 0 ∧ ¬ (k : Int) ∈ M) := by
  by_cases h : t > 0
  · by_cases h2 : (k : Int) ∈ M
    · exact .inr (.inl ⟨h, h2⟩)
    · exact .inr (.inr ⟨h, h2⟩)
  · exact .inl h
end Go.Proofs.Ytggcpbnlblbpjaa.L
