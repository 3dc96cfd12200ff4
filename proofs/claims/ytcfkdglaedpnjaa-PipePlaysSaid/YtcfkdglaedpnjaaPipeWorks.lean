/- The chapter's example of package pipe. -/
import Derived.Test.YtcfkdglaedpnjaaPipe2
namespace Go.Proofs.Ytcfkdglaedpnjaa.R
open Go Go.RowKit Go.Proofs.Ytcfkdglaedpnjaa.K
set_option linter.unusedVariables false
set_option linter.unusedSimpArgs false
theorem in1 {w : World} {b : Nat} (h : w.heap.size ≤ b) : ∀ z : Nat, z ∈ [b] → z ∈ ([] : List Nat) ∨ w.heap.size ≤ z := fun z hz => .inr (by
  have hz' : z = b := by simpa using hz
  omega)
theorem works_any (w : World) : Calls Try.prog 6 #[] w fun e w' => e = .returned (.bool true) ∧ Ch [] w w' := by
  go_enter Try.func6, Try.ntmps6
  go_wp2_with fail
  refine (New_any _).mono ?_
  rintro e w1 ⟨b, rfl, hb, hge, hc⟩
  have B1 := Lib.hid hb
  have C1 := Lib.hid hc
  have N4 := Lib.hid (in1 hge)
  clear hb hc hge
  go_wp2_with fail
  refine (Write_any b [] 0 0 false ⟨#[97, 98, 99]⟩ _ B1.out (by omega) (by decide)).mono ?_
  rintro e w2 ⟨rfl, hb, hc⟩
  have B2 : Hid (PipeIs w2 b [97, 98, 99] 3 0 false) := hb
  have C2 := Lib.hid (C1.out.trans' hc N4.out)
  clear hb hc
  rw [show ((min (⟨#[97, 98, 99]⟩ : ByteArray).size (room [] false) : Nat) : Int) = 3 from rfl]
  go_wp2_with fail
  refine (Read_any b [97, 98, 99] 3 0 false 2 _ B2.out (by omega) (by omega) (by omega)).mono ?_
  rintro e w3 ⟨rfl, hb, hc⟩
  have B3 : Hid (PipeIs w3 b [99] 3 2 false) := hb
  have C3 := Lib.hid (C2.out.trans' hc N4.out)
  clear hb hc
  rw [show str (([97, 98, 99] : List UInt8).take (min (max (2 : Int) 0).toNat ([97, 98, 99] : List UInt8).length)) = ⟨#[97, 98]⟩ from rfl]
  go_wp2_with fail
  refine (Len_any b [99] 3 2 false _ B3.out (by omega)).mono ?_
  rintro e w4 ⟨rfl, nq, rfl⟩
  rw [show (([99] : List UInt8).length : Int) = 1 from rfl]
  have B4 : Hid (PipeIs (w3.drewN nq) b [99] 3 2 false) := chPipe ((Ch.refl [] _).drewN nq) B3.out (by simp)
  have C4 := Lib.hid (C3.out.drewN nq)
  go_wp2_with fail
  refine (Peek_any b [99] 3 2 false 9 _ B4.out (by omega) (by omega) (by omega)).mono ?_
  rintro e w5 ⟨rfl, hc⟩
  have C5 := Lib.hid (C4.out.trans hc)
  clear hc
  rw [show str (([99] : List UInt8).take (min (max (9 : Int) 0).toNat ([99] : List UInt8).length)) = ⟨#[99]⟩ from rfl]
  go_wp2_with fail
  go_ret
  exact ⟨rfl, C5.out⟩
end Go.Proofs.Ytcfkdglaedpnjaa.R
