/- A row of operations, of which one part is stored anew. -/
import Derived.Test.YtggcpbnlblbpjaaHistB
namespace Go.Proofs.Ytggcpbnlblbpjaa.H
open Go Go.RowKit Go.Proofs.Ytggcpbnlblbpjaa.K
set_option linter.unusedVariables false
set_option linter.unusedSimpArgs false
theorem split_at {α : Type} {L : List α} {j : Nat} {o : α} (h : L[j]? = some o) (o' : α) : ∃ p q, L = p ++ o :: q ∧ p.length = j ∧ L.set j o' = p ++ o' :: q := by
  obtain ⟨hlt, rfl⟩ := List.getElem?_eq_some_iff.1 h
  refine ⟨L.take j, L.drop (j + 1), ?_, by rw [List.length_take]; omega, ?_⟩
  · rw [← List.drop_eq_getElem_cons hlt, List.take_append_drop]
  · rw [List.set_eq_take_append_cons_drop, if_pos hlt]
variable {L : List HOp} {j : Nat} {o : HOp}
theorem put_d (h : L[j]? = some o) (z : Int) : (L.flatMap opC).set (j * 28 + 3) (.int .i64 z) = (L.set j { o with d := z }).flatMap opC := by
  obtain ⟨p, q, rfl, rfl, e⟩ := split_at h { o with d := z }
  rw [e, List.flatMap_append, List.set_append, if_neg (by rw [flat_len opC_len]; omega), flat_len opC_len, show p.length * 28 + 3 - p.length * 28 = 3 by omega, List.flatMap_append, List.flatMap_cons, List.flatMap_cons]
  rfl
theorem put_t (h : L[j]? = some o) (z : Int) : (L.flatMap opC).set (j * 28 + 4) (.int .i64 z) = (L.set j { o with t := z }).flatMap opC := by
  obtain ⟨p, q, rfl, rfl, e⟩ := split_at h { o with t := z }
  rw [e, List.flatMap_append, List.set_append, if_neg (by rw [flat_len opC_len]; omega), flat_len opC_len, show p.length * 28 + 4 - p.length * 28 = 4 by omega, List.flatMap_append, List.flatMap_cons, List.flatMap_cons]
  rfl
theorem put_c (h : L[j]? = some o) (C : Cs 16) : (L.flatMap opC).take (j * 28 + 5) ++ C.1 ++ (L.flatMap opC).drop (j * 28 + 5 + 16) = (L.set j { o with cl := C }).flatMap opC := by
  obtain ⟨p, q, rfl, rfl, e⟩ := split_at h { o with cl := C }
  rw [e, List.flatMap_append, show p.length * 28 = (p.flatMap opC).length from (flat_len opC_len p).symm, List.take_length_add_append, Nat.add_assoc, List.drop_length_add_append, List.flatMap_append, List.flatMap_cons, List.flatMap_cons]
  have h1 : (opC o ++ q.flatMap opC).take 5 = [.int .i64 o.c, .int .i64 o.n, .int .i64 o.a, .int .i64 o.d, .int .i64 o.t] := rfl
  have h2 : (opC o ++ q.flatMap opC).drop (5 + 16) = o.rp.1 ++ q.flatMap opC := by
    show ((o.cl.1 ++ o.rp.1) ++ q.flatMap opC).drop 16 = _
    rw [List.append_assoc, List.drop_left' o.cl.2.1]
  rw [h1, h2]
  simp [opC]
theorem put_r (h : L[j]? = some o) (R : Cs 7) : (L.flatMap opC).take (j * 28 + 21) ++ R.1 ++ (L.flatMap opC).drop (j * 28 + 21 + 7) = (L.set j { o with rp := R }).flatMap opC := by
  obtain ⟨p, q, rfl, rfl, e⟩ := split_at h { o with rp := R }
  rw [e, List.flatMap_append, show p.length * 28 = (p.flatMap opC).length from (flat_len opC_len p).symm, List.take_length_add_append, Nat.add_assoc, List.drop_length_add_append, List.flatMap_append, List.flatMap_cons, List.flatMap_cons]
  have h1 : (opC o ++ q.flatMap opC).take 21 = [.int .i64 o.c, .int .i64 o.n, .int .i64 o.a, .int .i64 o.d, .int .i64 o.t] ++ o.cl.1 := by
    show [_, _, _, _, _] ++ ((o.cl.1 ++ o.rp.1) ++ q.flatMap opC).take 16 = _
    rw [List.append_assoc, List.take_left' o.cl.2.1]
  have h2 : (opC o ++ q.flatMap opC).drop (21 + 7) = q.flatMap opC := by rw [List.drop_left' (opC_len o)]
  rw [h1, h2]
  simp [opC]
theorem op_at (h : L[j]? = some o) {w : World} {base g n c : Nat} (ho : OwnS w base 49 28 (.slice (some ⟨g, 0, none⟩) n c) n (L.flatMap opC)) (i : Nat) {u : Value} (hu : (opC o)[i]? = some u) : w.cell? ⟨g, j * 28 + i, none⟩ = some u := by
  obtain ⟨hlt, rfl⟩ := List.getElem?_eq_some_iff.1 h
  have hn : 0 < n := by
    have := ho.1
    rw [flat_len opC_len] at this
    omega
  obtain ⟨g', c', he, _, _, _, hc, _⟩ := ho.some_ hn
  injection he with e1 _ _
  injection e1 with e1
  injection e1 with e1 _ _
  subst e1
  have := (hc.elem opC_len j hlt) i u hu
  rwa [add_plain, Nat.zero_add] at this
theorem szC (C : Cs 16) : (Try.prog.info? 32).map (·.size) = some C.1.toArray.size := by rw [List.size_toArray, C.2.1]; kernel_rfl
theorem szR (R : Cs 7) : (Try.prog.info? 42).map (·.size) = some R.1.toArray.size := by rw [List.size_toArray, R.2.1]; kernel_rfl
end Go.Proofs.Ytggcpbnlblbpjaa.H
