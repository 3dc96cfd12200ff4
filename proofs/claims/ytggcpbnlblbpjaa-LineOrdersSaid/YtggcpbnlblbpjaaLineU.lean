/- What the document's answer says of orders, as lists. -/
import Derived.Test.YtggcpbnlblbpjaaLineC
namespace Go.Proofs.Ytggcpbnlblbpjaa.L
open Go Go.RowKit Go.Proofs.Ytggcpbnlblbpjaa.K Go.Proofs.Ytggcpbnlblbpjaa.H Go.Proofs.YtggcpbnlblbpjaaW.PrintLast
set_option linter.unusedVariables false
set_option linter.unusedSimpArgs false
/-- The places of an order are places. -/
def rngP (n : Nat) (M : List Int) : Prop := ∀ z ∈ M, 0 ≤ z ∧ z < n
theorem rng_nil (n : Nat) : rngP n [] := fun z hz => by simp at hz
theorem rng_snoc {n : Nat} {M : List Int} {k : Nat} {z : Int} (h : M[k]? = some z) (hr : rngP n (M.take k)) (h0 : 0 ≤ z ∧ z < n) : rngP n (M.take (k + 1)) := by
  rw [take_snoc h]
  intro y hy
  rcases List.mem_append.1 hy with hy | hy
  · exact hr y hy
  · rw [List.mem_singleton.1 hy]
    exact h0
theorem rng_at {L : List HOp} {M : List Int} (h : rngP L.length M) {k : Nat} (hk : k < M.length) : ∃ (y : Nat) (a : HOp), M[k]? = some (y : Int) ∧ L[y]? = some a ∧ y < L.length := by
  have h1 := h M[k] (List.getElem_mem hk)
  refine ⟨M[k].toNat, L[M[k].toNat]'(by omega), by rw [List.getElem?_eq_getElem hk]; congr 1; omega, List.getElem?_eq_getElem _, by omega⟩
/-- A pair of an order is one. -/
def pairOK (L : List HOp) (M : List Int) (j i : Nat) : Prop := ∀ y z : Int, M[j]? = some y → M[i]? = some z → y ≠ z ∧ ∀ a b, L[y.toNat]? = some a → L[z.toNat]? = some b → mayB a b = true
def rowQ (L : List HOp) (M : List Int) (i k : Nat) : Prop := ∀ j, j < k → pairOK L M j i
def pairQ (L : List HOp) (M : List Int) (i : Nat) : Prop := ∀ j i', j < i' → i' < i → pairOK L M j i'
theorem rowQ_nil (L : List HOp) (M : List Int) (i : Nat) : rowQ L M i 0 := fun j h => absurd h (by omega)
theorem pairQ_nil (L : List HOp) (M : List Int) : pairQ L M 0 := fun j i' _ h => absurd h (by omega)
theorem pair_yes {L : List HOp} {M : List Int} {j i : Nat} {y z : Nat} {a b : HOp} (hy : M[j]? = some (y : Int)) (hz : M[i]? = some (z : Int)) (ha : L[y]? = some a) (hb : L[z]? = some b) (hn : y ≠ z) (hm : mayB a b = true) : pairOK L M j i := by
  intro y' z' e1 e2
  rw [hy] at e1
  rw [hz] at e2
  injection e1 with e1
  injection e2 with e2
  subst e1 e2
  refine ⟨by omega, fun a' b' e3 e4 => ?_⟩
  rw [Int.toNat_natCast, ha] at e3
  rw [Int.toNat_natCast, hb] at e4
  injection e3 with e3
  injection e4 with e4
  subst e3 e4
  exact hm
theorem rowQ_succ {L : List HOp} {M : List Int} {i k : Nat} (h : rowQ L M i k) (hp : pairOK L M k i) : rowQ L M i (k + 1) := fun j hj => by
  rcases Nat.lt_or_ge j k with h1 | h1
  · exact h j h1
  · obtain rfl : j = k := by omega
    exact hp
theorem pairQ_succ {L : List HOp} {M : List Int} {i : Nat} (h : pairQ L M i) (hr : rowQ L M i i) : pairQ L M (i + 1) := fun j i' h1 h2 => by
  rcases Nat.lt_or_ge i' i with h3 | h3
  · exact h j i' h1 h3
  · obtain rfl : i' = i := by omega
    exact hr j h1
theorem respQ_iff {L : List HOp} {M : List Int} : (rngP L.length M ∧ pairQ L M M.length) ↔ respP L M := by
  constructor
  · rintro ⟨hr, hp⟩
    refine ⟨⟨hr, ?_⟩, fun i j h1 h2 y z e1 e2 a b e3 e4 => ?_⟩
    · rw [List.Nodup, List.pairwise_iff_getElem]
      intro i j hi hj hij
      exact (hp i j hij hj M[i] M[j] (List.getElem?_eq_getElem hi) (List.getElem?_eq_getElem hj)).1
    · exact (hp i j h2 (List.getElem?_eq_some_iff.1 e2).1 y z e1 e2).2 a b e3 e4
  · rintro ⟨⟨hr, hn⟩, hp⟩
    refine ⟨hr, fun j i h1 h2 y z e1 e2 => ⟨fun he => ?_, fun a b e3 e4 => hp j i (by omega) h1 y z e1 e2 a b e3 e4⟩⟩
    obtain ⟨l1, r1⟩ := List.getElem?_eq_some_iff.1 e1
    obtain ⟨l2, r2⟩ := List.getElem?_eq_some_iff.1 e2
    have := (List.getElem_inj hn).1 (r1.trans (he.trans r2.symm))
    omega
theorem pair_ways (y z : Nat) (a b : HOp) : y = z ∨ (y ≠ z ∧ mayB a b = false) ∨ (y ≠ z ∧ mayB a b = true) := by
  by_cases h : y = z
  · exact .inl h
  · cases hm : mayB a b with
    | false => exact .inr (.inl ⟨h, rfl⟩)
    | true => exact .inr (.inr ⟨h, rfl⟩)
/-- Two orders of the same places, each sorted, are one. -/
theorem lx_asymm {L : List HOp} {x y : Int} (h : lx L x y) (k : lx L y x) : False := by unfold lx at *; omega
theorem sorted_eq {L : List HOp} : ∀ {X Y : List Int}, X.Perm Y → srt L X → srt L Y → X = Y
  | [], Y, hp, _, _ => by rw [List.Perm.eq_nil (hp.symm)]
  | x :: X, [], hp, _, _ => by simpa using hp.length_eq
  | x :: X, y :: Y, hp, hx, hy => by
    have hxy : x = y := by
      have h1 : x ∈ y :: Y := hp.mem_iff.1 (by simp)
      have h2 : y ∈ x :: X := hp.mem_iff.2 (by simp)
      rcases List.mem_cons.1 h1 with h1 | h1
      · exact h1
      · rcases List.mem_cons.1 h2 with h2 | h2
        · exact h2.symm
        · exact absurd ((List.pairwise_cons.1 hx).1 y h2) (fun h3 => lx_asymm h3 ((List.pairwise_cons.1 hy).1 x h1))
    subst hxy
    rw [sorted_eq (List.perm_cons x |>.1 hp) (List.pairwise_cons.1 hx).2 (List.pairwise_cons.1 hy).2]
end Go.Proofs.Ytggcpbnlblbpjaa.L
