/- The times of a book of operations, as lists: each time up to the clock is one's. -/
import Derived.Test.YtggcpbnlblbpjaaHistW
namespace Go.Proofs.Ytggcpbnlblbpjaa.H
open Go Go.RowKit Go.Proofs.Ytggcpbnlblbpjaa.K Go.Proofs.YtggcpbnlblbpjaaW.PrintLast
set_option linter.unusedVariables false
set_option linter.unusedSimpArgs false
def tm (o : HOp) : List Int := [o.a, o.d, o.t]
def noted (S : HB) : List Int := S.L.flatMap tm ++ S.I
/-- What holds of an operation at a time. -/
def OpT (n : Nat) (o : HOp) : Prop := 1 ≤ o.a ∧ o.a ≤ n ∧ (o.d = 0 ∨ o.a < o.d ∧ o.d ≤ n) ∧ (o.t = 0 ∨ 0 < o.d ∧ o.d < o.t ∧ o.t ≤ n)
structure TI (S : HB) : Prop where
  ops : ∀ o ∈ S.L, OpT S.now o
  inn : ∀ x ∈ S.I, 1 ≤ x ∧ x ≤ (S.now : Int)
  cnt : ∀ x : Int, 1 ≤ x → (noted S).count x = if x ≤ S.now then 1 else 0
  len : S.L.length ≤ S.now ∧ S.I.length ≤ S.now
theorem ti_new : TI ⟨0, [], []⟩ := ⟨by simp, by simp, fun x hx => by simp [noted]; omega, by simp⟩
theorem OpT.up {n m : Nat} {o : HOp} (h : OpT n o) (hm : n ≤ m) : OpT m o := by
  unfold OpT at *
  omega
theorem count_set {L : List HOp} {j : Nat} {o : HOp} (h : L[j]? = some o) (o' : HOp) (x : Int) : ((L.set j o').flatMap tm).count x + (tm o).count x = (L.flatMap tm).count x + (tm o').count x := by
  induction L generalizing j with
  | nil => simp at h
  | cons y L ih =>
    cases j with
    | zero =>
      have : y = o := by simpa using h
      subst this
      simp only [List.set_cons_zero, List.flatMap_cons, List.count_append]
      omega
    | succ j =>
      have := ih (j := j) (by simpa using h)
      simp only [List.set_cons_succ, List.flatMap_cons, List.count_append]
      omega
theorem set_len {L : List HOp} {j : Nat} {o o' : HOp} : (L.set j o').length = L.length := by simp
theorem ti_set {S : HB} (h : TI S) {j : Nat} {o o' : HOp} (ho : S.L[j]? = some o) (h1 : OpT (S.now + 1) o') (hc : ∀ x : Int, 1 ≤ x → (tm o').count x = (tm o).count x + if x = S.now + 1 then 1 else 0) : TI ⟨S.now + 1, S.L.set j o', S.I⟩ := by
  refine ⟨fun p hp => ?_, fun x hx => ?_, fun x hx => ?_, ?_⟩
  · rcases List.mem_or_eq_of_mem_set hp with hp | rfl
    · exact (h.ops p hp).up (by simp)
    · exact h1
  · have := h.inn x hx
    simp only
    omega
  · have h2 := h.cnt x hx
    have h3 := count_set ho o' x
    have h4 := hc x hx
    simp only [noted, List.count_append] at h2 ⊢
    have h5 : (if x ≤ ((S.now + 1 : Nat) : Int) then 1 else 0) = (if x ≤ (S.now : Int) then 1 else 0) + (if x = S.now + 1 then 1 else 0) := by
      split <;> split <;> split <;> omega
    rw [h5]
    omega
  · have := h.len
    simp only [List.length_set]
    omega
theorem ti_ask {S : HB} (h : TI S) (c n : Int) : TI (askS S c n) := by
  unfold askS
  split
  · refine ⟨fun p hp => ?_, fun x hx => ?_, fun x hx => ?_, ?_⟩
    · rcases List.mem_append.1 hp with hp | hp
      · exact (h.ops p hp).up (by simp)
      · rw [List.mem_singleton] at hp
        subst hp
        exact ⟨by show (1 : Int) ≤ ((S.now + 1 : Nat) : Int); omega, Int.le_refl _, .inl rfl, .inl rfl⟩
    · have := h.inn x hx
      simp only
      omega
    · have h2 := h.cnt x hx
      simp only [noted, List.count_append, List.flatMap_append, List.flatMap_cons, List.flatMap_nil, List.append_nil, tm, List.count_cons, List.count_nil] at h2 ⊢
      have h5 : (if x ≤ ((S.now + 1 : Nat) : Int) then 1 else 0) = (if x ≤ (S.now : Int) then 1 else 0) + (if (S.now + 1 : Nat) = x then 1 else 0) := by
        split <;> split <;> split <;> omega
      rw [h5]
      simp only [beq_iff_eq]
      split <;> split <;> omega
    · have := h.len
      simp only [List.length_append, List.length_singleton]
      omega
  · exact h
theorem ti_do {S : HB} (h : TI S) (c n : Int) (CA : Cs 16) (RA : Cs 7) : TI (doS S c n CA RA) := by
  unfold doS
  split
  · exact h
  · split
    · exact h
    · rename_i j _ o ho
      split
      · exact h
      · rename_i hd
        have hd' : ¬ o.d > 0 := by simpa using hd
        have hm := h.ops o (List.mem_of_getElem? ho)
        refine ti_set h ho ?_ ?_
        · unfold OpT at *
          simp only
          omega
        · intro x hx
          unfold OpT at hm
          have hd0 : o.d = 0 := by omega
          have ht0 : o.t = 0 := by omega
          have hx0 : ¬ (0 : Int) = x := by omega
          have hx1 : (((S.now + 1 : Nat) : Int) = x) = (x = (S.now : Int) + 1) := propext ⟨fun h => by omega, fun h => by omega⟩
          simp only [tm, List.count_cons, List.count_nil, hd0, ht0, beq_iff_eq, hx0, hx1, if_false]
          omega
theorem ti_tell {S : HB} (h : TI S) (c n : Int) : TI (tellS S c n) := by
  unfold tellS
  split
  · exact h
  · split
    · exact h
    · rename_i j _ o ho
      split
      · exact h
      · rename_i hd
        have hd' : ¬ o.d = 0 ∧ ¬ o.t > 0 := by simpa using hd
        have hm := h.ops o (List.mem_of_getElem? ho)
        refine ti_set h ho ?_ ?_
        · unfold OpT at *
          simp only
          omega
        · intro x hx
          unfold OpT at hm
          have ht0 : o.t = 0 := by omega
          have hx0 : ¬ (0 : Int) = x := by omega
          have hx1 : (((S.now + 1 : Nat) : Int) = x) = (x = (S.now : Int) + 1) := propext ⟨fun h => by omega, fun h => by omega⟩
          simp only [tm, List.count_cons, List.count_nil, ht0, beq_iff_eq, hx0, hx1, if_false]
          omega
theorem ti_inner {S : HB} (h : TI S) : TI ⟨S.now + 1, S.L, S.I ++ [((S.now + 1 : Nat) : Int)]⟩ := by
  refine ⟨fun p hp => (h.ops p hp).up (by simp), fun x hx => ?_, fun x hx => ?_, ?_⟩
  · rcases List.mem_append.1 hx with hx | hx
    · have := h.inn x hx
      simp only
      omega
    · rw [List.mem_singleton] at hx
      subst hx
      simp only
      omega
  · have h2 := h.cnt x hx
    simp only [noted, List.count_append, List.count_cons, List.count_nil, beq_iff_eq] at h2 ⊢
    have h5 : (if x ≤ ((S.now + 1 : Nat) : Int) then 1 else 0) = (if x ≤ (S.now : Int) then 1 else 0) + (if (S.now + 1 : Nat) = x then 1 else 0) := by
      split <;> split <;> split <;> omega
    rw [h5]
    omega
  · have := h.len
    simp only [List.length_append, List.length_singleton]
    omega
theorem now_ask (S : HB) (c n : Int) : (askS S c n).now ≤ S.now + 1 := by unfold askS; split <;> simp
theorem now_do (S : HB) (c n : Int) (CA : Cs 16) (RA : Cs 7) : (doS S c n CA RA).now ≤ S.now + 1 := by
  unfold doS
  split
  · simp
  · split
    · simp
    · split <;> simp
theorem now_tell (S : HB) (c n : Int) : (tellS S c n).now ≤ S.now + 1 := by
  unfold tellS
  split
  · simp
  · split
    · simp
    · split <;> simp
/-! A row of counts. -/
def cnts (M : List Int) : List Value := (List.range 100).map fun i : Nat => .int .i64 (M.count (i : Int) : Nat)
theorem cnts_len (M : List Int) : (cnts M).length = 100 := by simp [cnts]
theorem cnts_at (M : List Int) {i : Nat} (h : i < 100) : (cnts M)[i]? = some (.int .i64 (M.count (i : Int) : Nat)) := by
  simp [cnts, List.getElem?_range h]
theorem cnts_set (M : List Int) (i : Nat) : (cnts M).set i (.int .i64 (M.count (i : Int) + 1 : Nat)) = cnts (M ++ [(i : Int)]) := by
  refine List.ext_getElem? fun k => ?_
  rw [List.getElem?_set]
  by_cases hk : k < 100
  · rw [cnts_at M hk, cnts_at (M ++ [(i : Int)]) hk]
    by_cases hi : i = k
    · subst hi
      rw [if_pos rfl, if_pos (by rw [cnts_len]; exact hk)]
      simp
    · rw [if_neg hi]
      have : ¬ ((i : Int) = (k : Int)) := by omega
      simp [List.count_append, List.count_cons, this]
  · rw [List.getElem?_eq_none (by rw [cnts_len]; omega), List.getElem?_eq_none (by rw [cnts_len]; omega)]
    split
    · split
      · rename_i h1 h2
        rw [cnts_len] at h2
        omega
      · rfl
    · rfl
theorem cnts_nil : cnts [] = List.replicate 100 (.int .i64 0) := by
  refine List.ext_getElem? fun k => ?_
  by_cases hk : k < 100
  · rw [cnts_at _ hk, List.getElem?_replicate, if_pos hk]
    rfl
  · rw [List.getElem?_eq_none (by rw [cnts_len]; omega), List.getElem?_replicate, if_neg hk]
end Go.Proofs.Ytggcpbnlblbpjaa.H
