/- The walk of the law OrphanGoes, of what comes in as the row reads it. -/
import Derived.Test.YtanlbnipbbjheaaOrphG
import Derived.Test.YtanlbnipbbjheaaOrphanKinds
namespace Go.Proofs.Ytanlbnipbbjheaa.orphanGoesWalk
open Go Go.RowKit Go.Proofs.Ytanlbnipbbjheaa.K Go.Proofs.YtanlbnipbbjheaaW.PrintWords Go.Proofs.Ytanlbnipbbjheaa.POrphanFinds Go.Proofs.Ytanlbnipbbjheaa.R Go.Proofs.Ytanlbnipbbjheaa.O
/-- What is told of the sandboxes, and of the pods, that come in. -/
def InB (w : World) (a : Option Addr) (len cap : Nat) : Prop := ∃ l : List S28, l.length = len ∧ l.length ≤ cap ∧ Kd.C k28 w a l.length l ∧ l.length ≤ maxLen ∧ (a = none → cap = 0)
def InU (w : World) (a : Option Addr) (len cap : Nat) : Prop := ∃ l : List Int, l.length = len ∧ l.length ≤ cap ∧ Kd.C (Kd.int .i64) w a l.length l ∧ l.length ≤ maxLen
/-- A slice that stands at nil has no room. -/
theorem nil_cap {P : Program} {T e : TypeId} {H : Type} {enc : TypeId × Value → H} {w : World} {base : Nat} {spare : Nat → Bool} {held : Bool} {fuel : Nat} {a : Option Addr} {len cap : Nat} {x : DataW H × List MemPlace} (ht : P.underlying T = some (.slice e))
    (h : DataW.trod enc P w base spare held fuel T [.slice a len cap] = some x) : a = none → cap = 0 := by
  rintro rfl
  rcases Go.Deep.open_slice ht h with ⟨hcs, _⟩ | ⟨a, l, c, m, n, D, Pl, hcs, _⟩
  · simp at hcs
    exact hcs.2
  · simp at hcs
theorem inB_of {w : World} {a : Option Addr} {len cap : Nat} (h : ∃ l : List S28, l.length = len ∧ l.length ≤ cap ∧ Kd.C k28 w a l.length l ∧ l.length ≤ maxLen) (z : a = none → cap = 0) : InB w a len cap := by
  obtain ⟨l, h1, h2, h3, h4⟩ := h
  exact ⟨l, h1, h2, h3, h4, z⟩
/-- Sandboxes that there are none of may stand at nil, or not. -/
theorem src_in {w : World} {A : Option Addr} {n c : Nat} {B : List Bx} (hn : n = B.length) (hc : n ≤ c) (h : 0 < n → ∃ ad, A = some ad ∧ CellsAt w ad (B.flatMap bxC)) (h0 : A = none → n = 0 ∧ c = 0) : SrcIs w (.slice A n c) n (B.flatMap bxC) 4 := by
  refine ⟨by rw [flat_len bxC_len, hn], ?_⟩
  cases A with
  | none =>
    obtain ⟨rfl, rfl⟩ := h0 rfl
    exact .inl ⟨rfl, rfl⟩
  | some a =>
    refine .inr ⟨a, c, rfl, ?_⟩
    rcases Nat.eq_zero_or_pos n with h1 | h1
    · have : B = [] := List.eq_nil_of_length_eq_zero (by omega)
      subst this
      exact CellsAt.nil _ _
    · obtain ⟨ad, e, hcell⟩ := h h1
      injection e with e
      subst e
      exact hcell
theorem walk (a0 : Option Addr) (len0 cap0 : Nat) (a1 : Option Addr) (len1 cap1 : Nat) (w : World) (w0 : InB w a0 len0 cap0) (w1 : InU w a1 len1 cap1) :
    Calls Try.prog 4 #[.slice a0 len0 cap0, .slice a1 len1 cap1] w fun e w' => e = .returned (.bool true) ∧ Below w.heap.size w w' := by
  obtain ⟨l, rfl, hc, hC, _, hz⟩ := w0
  obtain ⟨m, rfl, hd, hD, _⟩ := w1
  obtain ⟨B, hB, hk, hs⟩ := boxes_of hC
  have hl : l.length = B.length := by rw [← hB, List.length_map]
  refine (goes w a0 l.length cap0 B a1 m.length cap1 m (Lib.hid (src_in hl hc hs ?_)) (Lib.hid hl) (Lib.hid hk) (Lib.hid ⟨rfl, hD, hd⟩)).mono fun _ _ ⟨h, c⟩ => ⟨h, c.below0⟩
  rintro rfl
  refine ⟨?_, hz rfl⟩
  rcases Nat.eq_zero_or_pos l.length with h | h
  · exact h
  · obtain ⟨ad, e, _⟩ := hs h
    cases e
end Go.Proofs.Ytanlbnipbbjheaa.orphanGoesWalk
