/- How slices of structs that came in read: cells, row by row. -/
import Derived.Test.YtanlbnipbbjheaaKit
import Derived.Deep.Slices
import Derived.Deep.Fields
import Derived.ChangeSame
namespace Go.Proofs.Ytanlbnipbbjheaa.K
open Go Go.RowKit Go.ChangeShapes Go.WideShapes Go.Deep
section
variable {H : Type} {enc : TypeId × Value → H} {P : Program} {w : World} {base : Nat} {spare : Nat → Bool} {held : Bool}
theorem spot_none {x : Addr} {v : Value} (h : w.cell? (x.add 0) = some v) : x.spot = none := by
  rcases hx : x.spot with _ | s
  · rfl
  · simp [Addr.add, World.cell?, hx] at h
    split at h <;> simp at h
/-- A slice of structs whose fields are a cell each. -/
theorem open_rows {t e : TypeId} {fs : Array Field} {fuel : Nat} {a : Option Addr} {len cap : Nat} {x : DataW H × List MemPlace} (ht : P.underlying t = some (.slice e)) (he : P.underlying e = some (.struct fs))
    (hone : oneCellFields P fs = true) (hC : P.cellsOf e = fs.size) (h0 : 0 < fs.size) (h : DataW.trod enc P w base spare held fuel t [.slice a len cap] = some x) :
    len = 0 ∨ ∃ b off, a = some ⟨b, off, none⟩ ∧ b < w.heap.size ∧ ∀ i, i < len → ∃ n, ∀ (j : Nat) (f : Field), fs[j]? = some f → ∃ v y, w.cell? ⟨b, off + (i * fs.size + j), none⟩ = some v ∧ DataW.trod enc P w base spare held n f.type [v] = some y := by
  rcases open_slice ht h with ⟨hcs, _⟩ | ⟨x0, len', cap', m, n, D, Pl, hcs, _, hl, _, hm, _, hel⟩
  · simp at hcs
    exact .inl hcs.2.1
  · simp at hcs
    obtain ⟨rfl, rfl, rfl⟩ := hcs
    have hlm : len ≤ m := by rw [hm]; split <;> omega
    by_cases hz : len = 0
    · exact .inl hz
    · right
      have hrow : ∀ i, i < len → ∃ n, ∀ (j : Nat) (f : Field), fs[j]? = some f → ∃ v y, w.cell? (x0.add (i * fs.size + j)) = some v ∧ DataW.trod enc P w base spare held n f.type [v] = some y := by
        intro i hi
        obtain ⟨cs', hc, htr⟩ := hel i (by omega)
        rw [hC] at hc
        obtain ⟨_, hlen, hat⟩ := World.cells?_some hc
        obtain ⟨xs, n', _, _, _, hxl, hf⟩ := DataW.trod_struct he htr
        refine ⟨n', fun j f hj => ?_⟩
        have hjl : j < fs.size := (Array.getElem?_eq_some_iff.1 hj).1
        obtain ⟨ho, hk⟩ := hone_of hone j f hj
        have h1 := hf j f hj
        rw [ho, hk, List.drop_eq_getElem_cons (by omega), List.take_succ_cons, List.take_zero, List.getElem?_eq_getElem (by omega)] at h1
        refine ⟨cs'[j]'(by omega), _, ?_, h1⟩
        rw [← Go.Deep.add_add, hat j hjl, List.getElem?_eq_getElem (by omega)]
      have hs : x0.spot = none := by
        obtain ⟨n', hr⟩ := hrow 0 (by omega)
        obtain ⟨v, _, hv, _⟩ := hr 0 fs[0] (Array.getElem?_eq_getElem h0)
        exact spot_none (by simpa using hv)
      have hadd : ∀ k, x0.add k = ⟨x0.block, x0.off + k, none⟩ := fun k => by
        unfold Addr.add
        split
        · rename_i hk; subst hk; cases x0; simp_all
        · rfl
      have hb : x0.block < w.heap.size := by
        obtain ⟨n', hr⟩ := hrow 0 (by omega)
        obtain ⟨v, _, hv, _⟩ := hr 0 fs[0] (Array.getElem?_eq_getElem h0)
        rw [hadd] at hv
        exact World.block_lt_of_cell? w ⟨x0.block, x0.off + (0 * fs.size + 0), none⟩ hv
      refine ⟨x0.block, x0.off, by cases x0; simp_all, hb, fun i hi => ?_⟩
      obtain ⟨n', hr⟩ := hrow i hi
      exact ⟨n', fun j f hj => by rw [← hadd]; exact hr j f hj⟩
theorem cell_int {k : IntKind} {t : TypeId} {n : Nat} {v : Value} {y : DataW H × List MemPlace} (ht : P.underlying t = some (.int k)) (h : DataW.trod enc P w base spare held n t [v] = some y) : ∃ z, v = .int k z ∧ (Lit.int k z).wf = true := by
  obtain ⟨z, h1, _, h2⟩ := DataW.trod_int ht h
  exact ⟨z, by simpa using h1, h2⟩
theorem cell_str {t : TypeId} {n : Nat} {v : Value} {y : DataW H × List MemPlace} (ht : P.underlying t = some .string) (h : DataW.trod enc P w base spare held n t [v] = some y) : ∃ s, v = .string s ∧ s.size ≤ maxLen := by
  obtain ⟨s, h1, _, h2⟩ := DataW.trod_string ht h
  exact ⟨s, by simpa using h1, h2⟩
theorem cell_bool {t : TypeId} {n : Nat} {v : Value} {y : DataW H × List MemPlace} (ht : P.underlying t = some .bool) (h : DataW.trod enc P w base spare held n t [v] = some y) : ∃ s, v = .bool s := by
  obtain ⟨s, h1, _⟩ := DataW.trod_bool ht h
  exact ⟨s, by simpa using h1⟩
end
/-- A slice of strings. -/
def IsStrs (w : World) (a : Option Addr) (len : Nat) : Prop := len = 0 ∨ ∃ b off, a = some ⟨b, off, none⟩ ∧ b < w.heap.size ∧ ∀ i, i < len → ∃ s : ByteArray, w.cell? ⟨b, off + i, none⟩ = some (.string s) ∧ s.size ≤ maxLen
theorem open_strs {H : Type} {enc : TypeId × Value → H} {P : Program} {w : World} {base : Nat} {spare : Nat → Bool} {held : Bool} {t e : TypeId} {fuel : Nat} {a : Option Addr} {len cap : Nat} {x : DataW H × List MemPlace} (ht : P.underlying t = some (.slice e)) (he : P.underlying e = some .string) (hc : P.cellsOf e = 1)
    (h : DataW.trod enc P w base spare held fuel t [.slice a len cap] = some x) : IsStrs w a len := by
  rcases open_slice1 ht hc h with ⟨hcs, _⟩ | ⟨x0, len', cap', m, n, V, D, Pl, hcs, _, hl, _, hm, _, hel⟩
  · simp at hcs
    exact .inl hcs.2.1
  · simp at hcs
    obtain ⟨rfl, rfl, rfl⟩ := hcs
    have hlm : len ≤ m := by rw [hm]; split <;> omega
    by_cases hz : len = 0
    · exact .inl hz
    · right
      have hs : x0.spot = none := spot_none (hel 0 (by omega)).1
      have hadd : ∀ k, x0.add k = ⟨x0.block, x0.off + k, none⟩ := fun k => by
        unfold Addr.add
        split
        · rename_i hk; subst hk; cases x0; simp_all
        · rfl
      have hb : x0.block < w.heap.size := by
        have hv := (hel 0 (by omega)).1
        rw [hadd] at hv
        exact World.block_lt_of_cell? w ⟨x0.block, x0.off + 0, none⟩ hv
      refine ⟨x0.block, x0.off, by cases x0; simp_all, hb, fun i hi => ?_⟩
      obtain ⟨hv, htr⟩ := hel i (by omega)
      obtain ⟨s, hsv, hsz⟩ := cell_str he htr
      exact ⟨s, by rw [← hadd, hv, hsv], hsz⟩
end Go.Proofs.Ytanlbnipbbjheaa.K
