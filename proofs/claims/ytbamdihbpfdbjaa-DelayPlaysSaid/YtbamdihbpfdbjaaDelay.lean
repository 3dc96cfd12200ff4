/- The contracts of package delay: a book is a list of slots with their failures, in the order in which they first failed. -/
import Derived.Test.YtbamdihbpfdbjaaRows
import Derived.Test.YtbamdihbpfdbjaaMaps2
import Derived.DeepKeys4
import Derived.LaidOnce
namespace Go.Proofs.Ytbamdihbpfdbjaa.R
open Go Go.RowKit Go.Proofs.Ytbamdihbpfdbjaa.K
set_option linter.unusedVariables false
set_option linter.unusedSimpArgs false
def kv (p : Int × Int) : Value := .agg #[.int .i64 p.1, .int .i64 p.2]
def okK (p : Int × Int) : Prop := (Lit.int .i64 p.1).wf = true ∧ (Lit.int .i64 p.2).wf = true
theorem laidOut : laidOutB Try.prog = true := by kernel_rfl
theorem law52 : Maps.Keyed Try.prog 52 := .of_law (deep_law_laid laidOut (m := 2) (by omega) (of_decide_eq_true (by kernel_rfl)) (by kernel_rfl) (by rw [Try.underlying52]))
theorem two52 : (Try.prog.underlying 52).map (fun t => match t with | .struct fs => fs.toList.map (fun f => (f.type, f.offset, f.name != "_")) | _ => []) = some [(3, 0, true), (3, 1, true)] := by kernel_rfl
theorem keyType52 : Try.prog.keyType 52 = true := by kernel_rfl
theorem cells52 : Try.prog.cellsOf 52 = 2 := by kernel_rfl
theorem cells3 : Try.prog.cellsOf 3 = 1 := by kernel_rfl
theorem lits3 (d : Nat) (a : Int) (h : (Lit.int .i64 a).wf = true) : Try.prog.keyLits (d + 1) 3 [.int .i64 a] = some [.int .i64 a] := by
  unfold Program.keyLits
  rw [Try.underlying3]
  exact if_pos ⟨rfl, h⟩
theorem lits52 (d : Nat) (p : Int × Int) (h : okK p) : ∃ l, Try.prog.keyLits (d + 1 + 1) 52 [.int .i64 p.1, .int .i64 p.2] = some l := by
  have h1 := lits3 d p.1 h.1
  have h2 := lits3 d p.2 h.2
  generalize hk : Try.prog.keyLits (d + 1) = kl at *
  unfold Program.keyLits
  rw [Try.underlying52, hk]
  simp [cells52, cells3, h1, h2]
theorem size2 : ∃ n, Try.prog.types.size + 1 = n + 1 + 1 := ⟨Try.prog.types.size - 1, by have : 1 ≤ Try.prog.types.size := of_decide_eq_true (by kernel_rfl); omega⟩
theorem formed52 (p : Int × Int) : (kv p).formed Try.prog 52 = true := by
  simp [kv, Value.formed, Try.underlying52, cells52]
theorem key52 (p : Int × Int) (h : okK p) : ∃ l, keyOf Try.prog 52 (kv p) = some l := by
  obtain ⟨n, hn⟩ := size2
  obtain ⟨l, hl⟩ := lits52 n p h
  unfold keyOf
  rw [Try.underlying52]
  simp only [keyType52, formed52, hn, Bool.and_self, if_true]
  rw [show (kv p).cells.toList = [.int .i64 p.1, .int .i64 p.2] from rfl, hl]
  exact ⟨_, rfl⟩
theorem k52 : MK Try.prog 52 kv okK := MK.of law52 kv okK key52 (fun {x y} _ _ h => by
  simp [kv] at h
  exact Prod.ext h.1 h.2)
end Go.Proofs.Ytbamdihbpfdbjaa.R
