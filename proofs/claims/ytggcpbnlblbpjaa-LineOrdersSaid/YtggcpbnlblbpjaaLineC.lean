/- What a cut leaves; and why the order in which all was done respects time. -/
import Derived.Test.YtggcpbnlblbpjaaLineR
namespace Go.Proofs.Ytggcpbnlblbpjaa.L
open Go Go.RowKit Go.Proofs.Ytggcpbnlblbpjaa.K Go.Proofs.Ytggcpbnlblbpjaa.H Go.Proofs.YtggcpbnlblbpjaaW.PrintLast
set_option linter.unusedVariables false
set_option linter.unusedSimpArgs false
set_option maxRecDepth 100000
/-- Cells, each by name. -/
theorem lits16 (C : Cs 16) : ∃ (x0 x1 x2 x3 x4 x5 x6 x7 x8 x9 x10 x11 x12 x13 x14 x15 : Value), C.1 = [x0, x1, x2, x3, x4, x5, x6, x7, x8, x9, x10, x11, x12, x13, x14, x15] := by
  obtain ⟨l, hl, _⟩ := C
  match l, hl with
  | [x0, x1, x2, x3, x4, x5, x6, x7, x8, x9, x10, x11, x12, x13, x14, x15], _ => exact ⟨_, _, _, _, _, _, _, _, _, _, _, _, _, _, _, _, rfl⟩
theorem lits7 (C : Cs 7) : ∃ (y0 y1 y2 y3 y4 y5 y6 : Value), C.1 = [y0, y1, y2, y3, y4, y5, y6] := by
  obtain ⟨l, hl, _⟩ := C
  match l, hl with
  | [y0, y1, y2, y3, y4, y5, y6], _ => exact ⟨_, _, _, _, _, _, _, rfl⟩
/-- Operations that may be. -/
def posO (o : HOp) : Prop := 0 ≤ o.a ∧ 0 ≤ o.d ∧ 0 ≤ o.t
def realO (o : HOp) : Prop := 1 ≤ o.a ∧ (o.d > 0 → o.a < o.d) ∧ (o.t > 0 → o.d ≠ 0 ∧ o.d < o.t)
/-- An operation, as it was at a time. -/
def cutO (o : HOp) (at_ : Int) : HOp :=
  let p : HOp := if o.t > at_ then { o with t := 0 } else o
  if o.d > at_ then { p with d := 0, cl := ZC, rp := ZR } else p
def cutL (L : List HOp) (at_ : Int) : List HOp := (L.filter (fun o => decide (o.a ≤ at_))).map (cutO · at_)
theorem cut_yes {L : List HOp} {k : Nat} {o : HOp} {at_ : Int} (h : L[k]? = some o) (ha : o.a ≤ at_) : cutL (L.take (k + 1)) at_ = cutL (L.take k) at_ ++ [cutO o at_] := by
  rw [take_snoc h]
  simp [cutL, List.filter_append, ha]
theorem cut_no {L : List HOp} {k : Nat} {o : HOp} {at_ : Int} (h : L[k]? = some o) (ha : ¬ o.a ≤ at_) : cutL (L.take (k + 1)) at_ = cutL (L.take k) at_ := by
  rw [take_snoc h]
  simp [cutL, List.filter_append, ha]
theorem cut_len (L : List HOp) (at_ : Int) : (cutL L at_).length ≤ L.length := by unfold cutL; rw [List.length_map]; exact List.length_filter_le _ _
theorem cutO_a (o : HOp) (at_ : Int) : (cutO o at_).a = o.a := by
  unfold cutO
  by_cases h1 : o.t > at_ <;> by_cases h2 : o.d > at_ <;> simp [h1, h2]
theorem cutO_d (o : HOp) (at_ : Int) : (cutO o at_).d = if o.d > at_ then 0 else o.d := by
  unfold cutO
  by_cases h1 : o.t > at_ <;> by_cases h2 : o.d > at_ <;> simp [h1, h2]
theorem cutO_t (o : HOp) (at_ : Int) : (cutO o at_).t = if o.t > at_ then 0 else o.t := by
  unfold cutO
  by_cases h1 : o.t > at_ <;> by_cases h2 : o.d > at_ <;> simp [h1, h2]
theorem cutO_real {o : HOp} {at_ : Int} (hr : realO o) (hp : posO o) (hat : 0 ≤ at_) : realO (cutO o at_) ∧ posO (cutO o at_) := by
  unfold realO posO at *
  rw [cutO_a, cutO_d, cutO_t]
  split <;> split <;> omega
/-- How many are done. -/
def dn (L : List HOp) : Nat := (L.filter (fun o => decide (o.d > 0))).length
theorem dn_take {L : List HOp} : ∀ k, k ≤ L.length → (doneI L k).length = dn (L.take k)
  | 0, _ => by simp [doneI, dn]
  | k + 1, h => by
    have hk : k < L.length := by omega
    have ho : L[k]? = some L[k] := List.getElem?_eq_getElem hk
    have ih := dn_take (L := L) k (by omega)
    unfold dn at ih ⊢
    rw [take_snoc ho, List.filter_append, List.length_append, ← ih]
    by_cases hd : L[k].d > 0
    · rw [done_yes ho hd]
      simp [hd]
    · rw [done_no ho hd]
      simp [hd]
theorem dn_all (L : List HOp) : (doneI L L.length).length = dn L := by rw [dn_take L.length (Nat.le_refl _), List.take_length]
theorem dn_cut (L : List HOp) (at_ : Int) : dn (cutL L at_) ≤ dn L := by
  induction L with
  | nil => exact Nat.le_refl _
  | cons o L ih =>
    have h1 : dn (o :: L) = dn L + if o.d > 0 then 1 else 0 := by
      unfold dn
      by_cases h : o.d > 0 <;> simp [h]
    by_cases ha : o.a ≤ at_
    · have h2 : dn (cutL (o :: L) at_) = dn (cutL L at_) + if (cutO o at_).d > 0 then 1 else 0 := by
        unfold dn cutL
        simp only [ha, decide_true, List.filter_cons, if_true, List.map_cons]
        by_cases h : (cutO o at_).d > 0 <;> simp [h]
      have h3 : (cutO o at_).d > 0 → o.d > 0 := by
        intro h9
        rw [cutO_d] at h9
        split at h9 <;> omega
      rw [h1, h2]
      by_cases h4 : (cutO o at_).d > 0
      · rw [if_pos h4, if_pos (h3 h4)]
        omega
      · rw [if_neg h4]
        omega
    · have h2 : cutL (o :: L) at_ = cutL L at_ := by
        unfold cutL
        simp [ha]
      rw [h1, h2]
      omega
/-- As they were done: the order respects time, and is whole. -/
theorem done_resp {L : List HOp} {X : List Int} (hs : sorts L (doneI L L.length) X) (hr : ∀ o ∈ L, realO o ∧ posO o) : respP L X := by
  have hin : ∀ z ∈ X, ∃ (i : Nat) (o : HOp), z = i ∧ i < L.length ∧ L[i]? = some o ∧ o.d > 0 := fun z hz => done_mem (hs.1.mem_iff.1 hz)
  refine ⟨⟨fun z hz => ?_, ?_⟩, fun i j h1 h2 y z e1 e2 a b e3 e4 => ?_⟩
  · obtain ⟨i, o, rfl, hi, _⟩ := hin z hz
    omega
  · have : (doneI L L.length).Nodup := (done_rise L L.length).imp fun h => Int.ne_of_lt h
    exact (hs.1.nodup_iff).2 this
  · obtain ⟨hi, rfl⟩ := List.getElem?_eq_some_iff.1 e1
    obtain ⟨hj, rfl⟩ := List.getElem?_eq_some_iff.1 e2
    have hle := srt_le hs.2 (Nat.le_of_lt h2) hj
    obtain ⟨p, o, hp, _, hpo, hod⟩ := hin X[i] (List.getElem_mem hi)
    obtain ⟨q, r, hq, _, hqr, hrd⟩ := hin X[j] (List.getElem_mem hj)
    rw [hp, Int.toNat_natCast, hpo] at e3
    rw [hq, Int.toNat_natCast, hqr] at e4
    injection e3 with e3
    injection e4 with e4
    subst e3 e4
    rw [hp, hq] at hle
    unfold kd at hle
    rw [Int.toNat_natCast, Int.toNat_natCast, hpo, hqr] at hle
    simp only at hle
    have ho := hr o (List.mem_of_getElem? hpo)
    have hr2 := hr r (List.mem_of_getElem? hqr)
    unfold realO posO at ho hr2
    unfold mayB
    by_cases h0 : r.t = 0
    · simp [h0]
    · rw [decide_eq_true (by omega)]
      simp
theorem done_whole {L : List HOp} {X : List Int} (hs : sorts L (doneI L L.length) X) (hr : ∀ o ∈ L, realO o ∧ posO o) : wholeP L X := by
  intro i o hi ht
  refine hs.1.mem_iff.2 ?_
  have ho := hr o (List.mem_of_getElem? hi)
  unfold realO posO at ho
  have hl := (List.getElem?_eq_some_iff.1 hi).1
  suffices h : ∀ k, i < k → k ≤ L.length → (i : Int) ∈ doneI L k from h L.length hl (Nat.le_refl _)
  intro k
  induction k with
  | zero => intro h; omega
  | succ k ih =>
    intro h1 h2
    unfold doneI
    rw [List.mem_append]
    rcases Nat.lt_or_ge i k with h3 | h3
    · exact .inl (ih h3 (by omega))
    · obtain rfl : i = k := by omega
      rw [hi]
      simp only
      rw [if_pos (by omega)]
      exact .inr (by simp)
theorem cut_all {L : List HOp} {at_ : Int} (hr : ∀ o ∈ L, realO o ∧ posO o) (hat : 0 ≤ at_) : ∀ o ∈ cutL L at_, realO o ∧ posO o := by
  intro o ho
  unfold cutL at ho
  obtain ⟨p, hp, rfl⟩ := List.mem_map.1 ho
  have := hr p (List.mem_filter.1 hp).1
  exact cutO_real this.1 this.2 hat
end Go.Proofs.Ytggcpbnlblbpjaa.L
