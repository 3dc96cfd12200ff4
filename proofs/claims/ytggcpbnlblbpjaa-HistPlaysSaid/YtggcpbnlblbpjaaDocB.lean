/- The document's book, as lists. -/
import Derived.Test.YtggcpbnlblbpjaaHistA
import Derived.Test.YtggcpbnlblbpjaaLineJ
namespace Go.Proofs.Ytggcpbnlblbpjaa.L
open Go Go.RowKit Go.Proofs.Ytggcpbnlblbpjaa.K Go.Proofs.Ytggcpbnlblbpjaa.H Go.Proofs.YtggcpbnlblbpjaaW.PrintLast
set_option linter.unusedVariables false
set_option linter.unusedSimpArgs false
/-- An index, as the document writes it. -/
def ixZ : Option Nat → Int
  | some i => (i : Int)
  | none => -1
theorem ix_end {c n : Int} {L : List HOp} {k : Nat} (h : idx c n 0 L = idx c n k (L.drop k)) (hk : k = L.length) : ixZ (idx c n 0 L) = -1 := by
  rw [h, hk, List.drop_length]
  rfl
theorem ix_hit {c n : Int} {L : List HOp} {k : Nat} {o : HOp} (h : idx c n 0 L = idx c n k (L.drop k)) (ho : L[k]? = some o) (h1 : o.c = c) (h2 : o.n = n) : ixZ (idx c n 0 L) = k := by
  obtain ⟨hl, rfl⟩ := List.getElem?_eq_some_iff.1 ho
  rw [h, List.drop_eq_getElem_cons hl]
  simp [idx, h1, h2, ixZ]
theorem ix_next {c n : Int} {L : List HOp} {k : Nat} {o : HOp} (h : idx c n 0 L = idx c n k (L.drop k)) (ho : L[k]? = some o) (h1 : ¬ (o.c = c ∧ o.n = n)) : idx c n 0 L = idx c n (k + 1) (L.drop (k + 1)) := by
  obtain ⟨hl, rfl⟩ := List.getElem?_eq_some_iff.1 ho
  rw [h, List.drop_eq_getElem_cons hl]
  simp only [idx, if_neg h1]
theorem vi_one (X : List Int) : ∀ u ∈ X.map (Value.int .i64), u.oneCell' = true := fun u hu => by
  obtain ⟨z, _, rfl⟩ := List.mem_map.1 hu
  rfl
abbrev vi : Int → Value := Value.int .i64
theorem info59 : (Try.prog.info? 59).map (fun i => (i.zero, i.size, i.bytes)) = some (some (.agg (opC ⟨0, 0, 0, 0, 0, ZC, ZR⟩).toArray), 28, 344) := by kernel_rfl
theorem ix_ways (o : HOp) (c n : Int) : ¬ o.c = c ∨ (o.c = c ∧ ¬ o.n = n) ∨ (o.c = c ∧ o.n = n) := by omega
end Go.Proofs.Ytggcpbnlblbpjaa.L
