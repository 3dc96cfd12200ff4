/- A book of operations, as lists: what package hist keeps. -/
import Derived.Test.YtggcpbnlblbpjaaRows
import Derived.Test.YtggcpbnlblbpjaaMapsW
import Derived.Test.YtggcpbnlblbpjaaLineZ
import Derived.DeepKeys4
import Derived.LaidOnce
namespace Go.Proofs.Ytggcpbnlblbpjaa.H
open Go Go.RowKit Go.Proofs.Ytggcpbnlblbpjaa.K
set_option linter.unusedVariables false
set_option linter.unusedSimpArgs false
def kv (p : Int × Int) : Value := .agg #[.int .i64 p.1, .int .i64 p.2]
def okK (p : Int × Int) : Prop := (Lit.int .i64 p.1).wf = true ∧ (Lit.int .i64 p.2).wf = true
theorem laidOut : laidOutB Try.prog = true := by kernel_rfl
theorem law87 : Maps.Keyed Try.prog 87 := .of_law (deep_law_laid laidOut (m := 2) (by omega) (of_decide_eq_true (by kernel_rfl)) (by kernel_rfl) (by rw [Try.underlying87]))
theorem keyType87 : Try.prog.keyType 87 = true := by kernel_rfl
theorem cells87 : Try.prog.cellsOf 87 = 2 := by kernel_rfl
theorem cells3 : Try.prog.cellsOf 3 = 1 := by kernel_rfl
theorem lits3 (d : Nat) (a : Int) (h : (Lit.int .i64 a).wf = true) : Try.prog.keyLits (d + 1) 3 [.int .i64 a] = some [.int .i64 a] := by
  unfold Program.keyLits
  rw [Try.underlying3]
  exact if_pos ⟨rfl, h⟩
theorem lits87 (d : Nat) (p : Int × Int) (h : okK p) : ∃ l, Try.prog.keyLits (d + 1 + 1) 87 [.int .i64 p.1, .int .i64 p.2] = some l := by
  have h1 := lits3 d p.1 h.1
  have h2 := lits3 d p.2 h.2
  generalize hk : Try.prog.keyLits (d + 1) = kl at *
  unfold Program.keyLits
  rw [Try.underlying87, hk]
  simp [cells87, cells3, h1, h2, List.range, List.range.loop]
theorem size2 : ∃ n, Try.prog.types.size + 1 = n + 1 + 1 := ⟨Try.prog.types.size - 1, by have : 1 ≤ Try.prog.types.size := of_decide_eq_true (by kernel_rfl); omega⟩
theorem formed87 (p : Int × Int) : (kv p).formed Try.prog 87 = true := by
  simp [kv, Value.formed, Try.underlying87, cells87]
theorem key87 (p : Int × Int) (h : okK p) : ∃ l, keyOf Try.prog 87 (kv p) = some l := by
  obtain ⟨n, hn⟩ := size2
  obtain ⟨l, hl⟩ := lits87 n p h
  unfold keyOf
  rw [Try.underlying87]
  simp only [keyType87, formed87, hn, Bool.and_self, if_true]
  rw [show (kv p).cells.toList = [.int .i64 p.1, .int .i64 p.2] from rfl, hl]
  exact ⟨_, rfl⟩
theorem k87 : MK Try.prog 87 kv okK := MK.of law87 kv okK key87 (fun {x y} _ _ h => by
  simp [kv] at h
  exact Prod.ext h.1 h.2)
/-- The places of the operations, by their connection and number. -/
def keysOf : Nat → List HOp → List ((Int × Int) × Int)
  | _, [] => []
  | i, o :: L => ((o.c, o.n), (i : Int)) :: keysOf (i + 1) L
/-- Where an operation stands. -/
def idx (c n : Int) : Nat → List HOp → Option Nat
  | _, [] => none
  | i, o :: L => if o.c = c ∧ o.n = n then some i else idx c n (i + 1) L
theorem mlook_keys (c n : Int) : ∀ (L : List HOp) (i : Nat), mlook (keysOf i L) (c, n) = (idx c n i L).map (fun j : Nat => (j : Int))
  | [], i => rfl
  | o :: L, i => by
    have ih := mlook_keys c n L (i + 1)
    unfold keysOf idx
    by_cases h : o.c = c ∧ o.n = n
    · rw [if_pos h]
      simp [mlook, h.1, h.2]
    · rw [if_neg h, ← ih]
      unfold mlook
      rw [List.find?_cons_of_neg (by simpa using h)]
theorem keys_append (o : HOp) : ∀ (L : List HOp) (i : Nat), keysOf i (L ++ [o]) = keysOf i L ++ [((o.c, o.n), ((i + L.length : Nat) : Int))]
  | [], i => by simp [keysOf]
  | x :: L, i => by
    rw [List.cons_append, keysOf, keysOf, keys_append o L (i + 1), List.cons_append, List.length_cons]
    simp only [List.cons.injEq, true_and, List.append_cancel_left_eq, and_true, Prod.mk.injEq]
    omega
theorem keys_put (o : HOp) (L : List HOp) (h : idx o.c o.n 0 L = none) : mput (keysOf 0 L) (o.c, o.n) ((L.length : Nat) : Int) = keysOf 0 (L ++ [o]) := by
  unfold mput
  rw [mlook_keys, h]
  simp [keys_append]
theorem idx_some {c n : Int} : ∀ {L : List HOp} {i j : Nat}, idx c n i L = some j → ∃ o, i ≤ j ∧ L[j - i]? = some o ∧ o.c = c ∧ o.n = n
  | [], i, j, h => by simp [idx] at h
  | o :: L, i, j, h => by
    unfold idx at h
    split at h
    next hc =>
      injection h with h
      subst h
      exact ⟨o, by omega, by simp, hc.1, hc.2⟩
    next hc =>
      obtain ⟨o', h1, h2, h3⟩ := idx_some h
      exact ⟨o', by omega, by rw [show j - i = (j - (i + 1)) + 1 by omega]; simpa using h2, h3⟩
/-- Keys keep where an operation keeps its connection and number. -/
theorem keys_set {f : HOp → HOp} (hf : ∀ o, (f o).c = o.c ∧ (f o).n = o.n) : ∀ (L : List HOp) (i j : Nat), keysOf i (L.modify j f) = keysOf i L
  | [], i, j => by simp [keysOf]
  | o :: L, i, 0 => by simp [keysOf, hf]
  | o :: L, i, j + 1 => by simp [keysOf, keys_set hf L (i + 1) j]
end Go.Proofs.Ytggcpbnlblbpjaa.H
