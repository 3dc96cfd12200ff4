/- An operation, as a list of cells. -/
import Derived.Test.YtggcpbnlblbpjaaRows
import Derived.Test.YtggcpbnlblbpjaaWeaveM
import Derived.Deep.Slices
import Derived.Deep.Fields
import Derived.ChangeSame
namespace Go.Proofs.Ytggcpbnlblbpjaa.H
open Go Go.RowKit Go.Proofs.Ytggcpbnlblbpjaa.K
set_option linter.unusedVariables false
set_option linter.unusedSimpArgs false
set_option maxRecDepth 100000
/-- Cells of a struct: so many, each one cell wide. -/
abbrev Cs (n : Nat) := { l : List Value // l.length = n ∧ ∀ u ∈ l, u.oneCell' = true }
/-- An operation. -/
structure HOp where
  c : Int
  n : Int
  a : Int
  d : Int
  t : Int
  cl : Cs 16
  rp : Cs 7
def opC (o : HOp) : List Value := [.int .i64 o.c, .int .i64 o.n, .int .i64 o.a, .int .i64 o.d, .int .i64 o.t] ++ (o.cl.1 ++ o.rp.1)
theorem opC_len (o : HOp) : (opC o).length = 28 := by simp [opC, o.cl.2.1, o.rp.2.1]
theorem opC_one (o : HOp) : ∀ u ∈ opC o, u.oneCell' = true := by
  intro u hu
  simp only [opC, List.mem_append, List.mem_cons, List.not_mem_nil, or_false] at hu
  rcases hu with (rfl | rfl | rfl | rfl | rfl) | h | h
  · rfl
  · rfl
  · rfl
  · rfl
  · rfl
  · exact o.cl.2.2 u h
  · exact o.rp.2.2 u h
def ZC : Cs 16 := ⟨[.int .i64 0, .int .i64 0, .int .u64 0, .string ⟨#[]⟩, .slice none 0 0, .slice none 0 0, .slice none 0 0, .int .i64 0, .int .i64 0, .int .i64 0, .int .i64 0, .int .i64 0, .int .i64 0, .int .i64 0, .string ⟨#[]⟩, .slice none 0 0], rfl, by simp [Value.oneCell']⟩
def ZR : Cs 7 := ⟨[.int .i64 0, .int .i64 0, .int .i64 0, .int .u64 0, .string ⟨#[]⟩, .slice none 0 0, .slice none 0 0], rfl, by simp [Value.oneCell']⟩
theorem info49 : (Try.prog.info? 49).map (fun i => (i.zero, i.size, i.bytes)) = some (some (.agg (opC ⟨0, 0, 0, 0, 0, ZC, ZR⟩).toArray), 28, 344) := by kernel_rfl
theorem info3 : (Try.prog.info? 3).map (fun i => (i.zero, i.size, i.bytes)) = some (some (.int .i64 0), 1, 8) := by kernel_rfl
theorem sz49 (o : HOp) : (Try.prog.info? 49).map (·.size) = some (opC o).toArray.size := by rw [List.size_toArray, opC_len]; kernel_rfl
theorem chB {w w' : World} (h : Below w.heap.size w w') : Ch [] w w' := ⟨h.os, h.tape, h.output, h.size, fun k hk _ => h.block k hk⟩
end Go.Proofs.Ytggcpbnlblbpjaa.H
