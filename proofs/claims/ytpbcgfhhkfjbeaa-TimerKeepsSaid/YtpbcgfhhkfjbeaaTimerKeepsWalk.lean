/- The walk of the law TimerKeeps: the program's Keep and the reference's answer alike. -/
import Derived.Test.YtpbcgfhhkfjbeaaTimer
namespace Go.Proofs.Ytpbcgfhhkfjbeaa.timerKeepsWalk
open Go.RowKit Go.Proofs.Ytpbcgfhhkfjbeaa.K Go.Proofs.Ytpbcgfhhkfjbeaa.T
theorem walk (a0 a1 a2 : Int) (w : World) (w0 : (Lit.int .u64 a0).wf = true) (w1 : (Lit.int .u64 a1).wf = true) (w2 : (Lit.int .i64 a2).wf = true) :
    Calls Try.prog 6 #[.int .u64 a0, .int .u64 a1, .int .i64 a2] w fun e w' => e = .returned (.bool true) ∧ Below w.heap.size w w' := by
  have b0 := bounds_u64 w0
  have b1 := bounds_u64 w1
  have b2 := bounds_i64 w2
  go_enter Try.func6, Try.ntmps6
  go_wp2_with fail
  refine (Keep_any _ _ _ _ (by omega) (by omega) (by omega) (by omega) (by omega) (by omega)).mono ?_
  rintro e w1 ⟨rfl, rfl⟩
  go_wp2_with fail
  refine (RefKeep_any _ _ _ _ (by omega) (by omega) (by omega) (by omega) (by omega) (by omega)).mono ?_
  rintro e w1 ⟨rfl, rfl⟩
  go_wp2_with fail
  refine (works_any _).mono ?_
  rintro e w1 ⟨rfl, hc⟩
  go_wp2_with fail
  go_ret
  exact ⟨rfl, hc.below0⟩
end Go.Proofs.Ytpbcgfhhkfjbeaa.timerKeepsWalk
