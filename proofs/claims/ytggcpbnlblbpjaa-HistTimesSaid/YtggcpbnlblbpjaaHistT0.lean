/- The walk of the law HistTimes: each operation's times rise, and each time up to the clock is one's. -/
import Derived.Test.YtggcpbnlblbpjaaHistD
import Derived.Test.YtggcpbnlblbpjaaWeaveM
namespace Go.Proofs.Ytggcpbnlblbpjaa.H
open Go Go.RowKit Go.Proofs.Ytggcpbnlblbpjaa.K Go.Proofs.YtggcpbnlblbpjaaW.PrintLast
set_option linter.unusedVariables false
set_option linter.unusedSimpArgs false
set_option maxRecDepth 100000
set_option maxHeartbeats 3200000
theorem kinds4 (k : Int) : k = 0 ∨ k = 1 ∨ k = 2 ∨ (k ≠ 0 ∧ k ≠ 1 ∧ k ≠ 2) := by omega
theorem times_cases {n : Nat} {o : HOp} (h : OpT n o) : ∃ ka kd kt : Nat, o.a = ka ∧ o.d = kd ∧ o.t = kt ∧ 1 ≤ ka ∧ ka ≤ n ∧ ((kd = 0 ∧ kt = 0) ∨ (ka < kd ∧ kd ≤ n ∧ kt = 0) ∨ (ka < kd ∧ kd ≤ n ∧ kd < kt ∧ kt ≤ n)) := by
  unfold OpT at h
  refine ⟨o.a.toNat, o.d.toNat, o.t.toNat, ?_, ?_, ?_, ?_, ?_, ?_⟩ <;> omega
theorem cnt_le (M : List Int) (x : Int) : M.count x ≤ M.length := List.count_le_length
theorem tms_len (L : List HOp) : (L.flatMap tm).length = L.length * 3 := by
  induction L with
  | nil => rfl
  | cons o L ih => rw [List.flatMap_cons, List.length_append, ih, List.length_cons]; simp [tm]; omega
theorem tms_succ {L : List HOp} {k : Nat} {o : HOp} (h : L[k]? = some o) : (L.take (k + 1)).flatMap tm = (((L.take k).flatMap tm ++ [o.a]) ++ [o.d]) ++ [o.t] := by
  obtain ⟨hlt, rfl⟩ := List.getElem?_eq_some_iff.1 h
  rw [List.take_succ_eq_append_getElem hlt, List.flatMap_append]
  simp [tm]
theorem ints_succ {I : List Int} {k : Nat} {x : Int} (h : I[k]? = some x) : I.take (k + 1) = I.take k ++ [x] := by
  obtain ⟨hlt, rfl⟩ := List.getElem?_eq_some_iff.1 h
  exact List.take_succ_eq_append_getElem hlt
theorem loop2_ways {S : HB} (h : TI S) {k : Nat} (hk : k ≤ S.L.length) : k = S.L.length ∨ ∃ o, S.L[k]? = some o ∧ k < S.L.length ∧ ∃ ka kd kt : Nat, o.a = ka ∧ o.d = kd ∧ o.t = kt ∧ 1 ≤ ka ∧ ka ≤ S.now ∧ ((kd = 0 ∧ kt = 0) ∨ (ka < kd ∧ kd ≤ S.now ∧ kt = 0) ∨ (ka < kd ∧ kd ≤ S.now ∧ kd < kt ∧ kt ≤ S.now)) := by
  rcases Nat.lt_or_ge k S.L.length with h1 | h1
  · exact .inr ⟨_, List.getElem?_eq_getElem h1, h1, times_cases (h.ops _ (List.getElem_mem _))⟩
  · exact .inl (by omega)
theorem loop3_ways {S : HB} (h : TI S) {k : Nat} (hk : k ≤ S.I.length) : k = S.I.length ∨ ∃ kx : Nat, S.I[k]? = some (kx : Int) ∧ k < S.I.length ∧ 1 ≤ kx ∧ kx ≤ S.now := by
  rcases Nat.lt_or_ge k S.I.length with h1 | h1
  · have := h.inn _ (List.getElem_mem h1)
    exact .inr ⟨S.I[k].toNat, by rw [List.getElem?_eq_getElem h1]; congr 1; omega, h1, by omega, by omega⟩
  · exact .inl (by omega)
theorem actA_size (kz cz nz mz : Int) (cl : Cs 16) : (actA kz cz nz mz cl).size = 20 := by simp [actA, cl.2.1]
theorem sz34 (kz cz nz mz : Int) (cl : Cs 16) : (Try.prog.info? 34).map (·.size) = some (actA kz cz nz mz cl).size := by rw [actA_size]; kernel_rfl
theorem actA_one (kz cz nz mz : Int) (cl : Cs 16) : ∀ u ∈ (actA kz cz nz mz cl).toList, u.oneCell' = true := by
  intro u hu
  simp only [actA, List.mem_cons] at hu
  rcases hu with rfl | rfl | rfl | rfl | h
  · rfl
  · rfl
  · rfl
  · rfl
  · exact cl.2.2 u h
end Go.Proofs.Ytggcpbnlblbpjaa.H
