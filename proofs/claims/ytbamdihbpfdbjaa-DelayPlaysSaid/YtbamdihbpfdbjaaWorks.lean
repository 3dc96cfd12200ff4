/- The chapter's example of package delay; the law DelayAfters. -/
import Derived.Test.YtbamdihbpfdbjaaNext
namespace Go.Proofs.Ytbamdihbpfdbjaa.R
open Go Go.RowKit Go.Proofs.Ytbamdihbpfdbjaa.K
set_option linter.unusedVariables false
set_option linter.unusedSimpArgs false
theorem works_any (w : World) : Calls Try.prog 8 #[] w fun e w' => e = .returned (.bool true) ∧ Ch [] w w' := by
  go_enter Try.func8, Try.ntmps8
  go_wp2_with fail
  refine (New_any _).mono ?_
  rintro e w1 ⟨b, mb, rfl, hb, hge, hge2, hc⟩
  have B1 := Lib.hid hb
  have C1 := Lib.hid hc
  have N1 := Lib.hid hge
  have N2 := Lib.hid hge2
  clear hb hc hge hge2
  go_wp2_with fail
  refine (After_any 3 _ (by omega) (by omega)).mono ?_
  rintro e w2 ⟨rfl, q2, rfl⟩
  rw [show aft 3 = 4 from rfl]
  go_wp2_with fail
  refine (After_any 99 _ (by omega) (by omega)).mono ?_
  rintro e w2 ⟨rfl, q3, rfl⟩
  rw [show aft 99 = 32 from rfl]
  go_wp2_with fail
  refine (Fail_any b mb [] 1 0 5 0 _ (B1.out.keep ((Ch.refl [] w1).drewN _) (by simp) (by simp)) ⟨by decide, by decide⟩ (by omega) (by omega) rfl (by omega) (by omega)).mono ?_
  rintro e w3 ⟨rfl, hb, hc⟩
  have B3 : Hid (BookIs w3 b mb [((1, 0), (1, 6))]) := hb
  have C3 := Lib.hid ((C1.out.drewN (q2 + q3)).trans' hc (in1 N2.out))
  clear hb hc
  rw [show (5 + aft (min (0 + 1) 100) : Int) = 6 from rfl]
  go_wp2_with fail
  refine (Ready_any b mb _ 1 0 5 _ B3.out ⟨by decide, by decide⟩ (by omega) (by omega) (by decide) (by decide)).mono ?_
  rintro e w4 ⟨rfl, hc⟩
  have B4 := Lib.hid (B3.out.keep hc (by simp) (by simp))
  have C4 := Lib.hid (C3.out.trans hc)
  clear hc
  rw [show (leftF [((1, 0), (1, 6))] (1, 0) 5 == 0) = false from rfl]
  go_wp2_with fail
  refine (Ready_any b mb _ 1 0 6 _ B4.out ⟨by decide, by decide⟩ (by omega) (by omega) (by decide) (by decide)).mono ?_
  rintro e w5 ⟨rfl, hc⟩
  have C5 := Lib.hid (C4.out.trans hc)
  clear hc
  rw [show (leftF [((1, 0), (1, 6))] (1, 0) 6 == 0) = true from rfl]
  go_wp2_with fail
  go_ret
  exact ⟨rfl, C5.out⟩
theorem refAfter_f (n : Int) : PDelayPlays.provostref25_After.f n = some (aft n) := by
  unfold PDelayPlays.provostref25_After.f
  simp only [Option.bind_some]
  by_cases h1 : n < 0
  · rw [if_pos h1]; congr 1; unfold aft; omega
  · rw [if_neg h1]
    by_cases h2 : n > 6
    · rw [if_pos h2]; congr 1; unfold aft; omega
    · rw [if_neg h2]
      have hc : n = 0 ∨ n = 1 ∨ n = 2 ∨ n = 3 ∨ n = 4 ∨ n = 5 ∨ n = 6 := by omega
      rcases hc with rfl | rfl | rfl | rfl | rfl | rfl | rfl <;> rfl
end Go.Proofs.Ytbamdihbpfdbjaa.R
