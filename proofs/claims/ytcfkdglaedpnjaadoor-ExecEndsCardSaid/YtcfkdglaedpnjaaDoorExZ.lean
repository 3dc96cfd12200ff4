/- How many sessions there are behind each call, and the last number. -/
import Derived.Test.YtcfkdglaedpnjaaDoorExV
namespace Go.Proofs.YtcfkdglaedpnjaaDoor.V
open Go Go.RowKit Go.Proofs.YtcfkdglaedpnjaaDoor.K Go.Proofs.YtcfkdglaedpnjaaDoor.R
set_option linter.unusedVariables false
set_option linter.unusedSimpArgs false
/-- At most eight, of numbers up to k. -/
def Few (E : HX) (k : Nat) : Prop := E.L.length ≤ 8 ∧ E.last ≤ k
theorem few_set {E : HX} {k j : Nat} {s : HS} (h : Few E k) : Few (setE E j s) (k + 1) := ⟨by show (E.L.set j s).length ≤ 8; rw [List.length_set]; exact h.1, by have := h.2; show E.last ≤ k + 1; omega⟩
theorem few_up {E : HX} {k : Nat} (h : Few E k) : Few E (k + 1) := ⟨h.1, by have := h.2; omega⟩
theorem few_write {E : HX} {k : Nat} (h : Few E k) (id : Int) (t : ByteArray) : Few (writeS E id t) (k + 1) := by
  unfold writeS
  split
  · exact few_up h
  · split
    · exact few_up h
    · split
      · exact few_set h
      · exact few_up h
theorem few_read {E : HX} {k : Nat} (h : Few E k) (id m : Int) : Few (readS E id m) (k + 1) := by
  unfold readS
  split
  · exact few_up h
  · split
    · exact few_up h
    · exact few_set h
theorem few_turn {E : HX} {k : Nat} (h : Few E k) (id m : Int) : Few (turnS E id m) (k + 1) := by
  unfold turnS
  split
  · exact few_up h
  · split
    · exact few_up h
    · split
      · exact few_set h
      · exact few_up h
theorem few_close {E : HX} {k : Nat} (h : Few E k) (id : Int) : Few (closeS E id) (k + 1) := by
  unfold closeS
  split
  · exact few_up h
  · rename_i j _
    refine ⟨?_, by have := h.2; show E.last ≤ k + 1; omega⟩
    show (E.L.eraseIdx j).length ≤ 8
    rw [List.length_eraseIdx]
    have := h.1
    split <;> omega
theorem few_end {E : HX} {k : Nat} (h : Few E k) (bx ct : Int) : Few (endSS E bx ct) (k + 1) := ⟨by show (E.L.map _).length ≤ 8; rw [List.length_map]; exact h.1, by have := h.2; show E.last ≤ k + 1; omega⟩
theorem few_open {E : HX} {k : Nat} (h : Few E k) (bx ct : Int) : Few (openS E bx ct) (k + 1) := by
  unfold openS
  split
  · exact few_up h
  · refine ⟨?_, by have := h.2; show E.last + 1 ≤ k + 1; omega⟩
    show (E.L ++ [_]).length ≤ 8
    rw [List.length_append, List.length_singleton]
    omega
/-- A number that a call knows is one of 1 .. last. -/
theorem write_id {E : HX} {W R : Nat → List UInt8} (h : PInv E W R) {id : Int} {t : ByteArray} (he : (writeR E id t).2 = 0) : 1 ≤ id ∧ id ≤ E.last := by
  unfold writeR at he
  cases hf : fx id E.L with
  | none => rw [hf] at he; simp at he
  | some j =>
    obtain ⟨s, hs, hi⟩ := fx_at hf
    rw [← hi]
    exact h.ids j s hs
theorem read_id {E : HX} {W R : Nat → List UInt8} (h : PInv E W R) {id m : Int} (he : (readR E id m).2 = 0) : 1 ≤ id ∧ id ≤ E.last := by
  unfold readR at he
  cases hf : fx id E.L with
  | none => rw [hf] at he; simp at he
  | some j =>
    obtain ⟨s, hs, hi⟩ := fx_at hf
    rw [← hi]
    exact h.ids j s hs
/-- How much is written: a number of bytes of the text. -/
theorem write_n (E : HX) (id : Int) (t : ByteArray) : ∃ n : Nat, (writeR E id t).1 = n ∧ n ≤ t.size := by
  unfold writeR
  split
  · exact ⟨0, rfl, Nat.zero_le _⟩
  · split
    · exact ⟨0, rfl, Nat.zero_le _⟩
    · split
      · exact ⟨_, rfl, Nat.min_le_left _ _⟩
      · exact ⟨0, rfl, Nat.zero_le _⟩
theorem wrW_no {E : HX} {id : Int} {t : ByteArray} {W : Nat → List UInt8} (h : (writeR E id t).2 ≠ 0) : wrW E id t W = W := if_neg h
theorem wrW_yes {E : HX} {id : Int} {t : ByteArray} {W : Nat → List UInt8} (h : (writeR E id t).2 = 0) : wrW E id t W = updF W id.toNat (t.data.toList.take (writeR E id t).1.toNat) := if_pos h
theorem rdW_no {E : HX} {id m : Int} {R : Nat → List UInt8} (h : (readR E id m).2 ≠ 0) : rdW E id m R = R := if_neg h
theorem rdW_yes {E : HX} {id m : Int} {R : Nat → List UInt8} (h : (readR E id m).2 = 0) : rdW E id m R = updF R id.toNat (readR E id m).1.data.toList := if_pos h
end Go.Proofs.YtcfkdglaedpnjaaDoor.V
