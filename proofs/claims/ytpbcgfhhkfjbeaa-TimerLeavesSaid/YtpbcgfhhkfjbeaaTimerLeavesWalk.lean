/- The walk of the law TimerLeaves: behind a compaction up to what Keep tells just the last n revisions are kept, and there is nothing more to be done. -/
import Derived.Test.YtpbcgfhhkfjbeaaTimer
namespace Go.Proofs.Ytpbcgfhhkfjbeaa.timerLeavesWalk
open Go.RowKit Go.Proofs.Ytpbcgfhhkfjbeaa.K Go.Proofs.Ytpbcgfhhkfjbeaa.T
theorem walk (a0 a1 a2 : Int) (w : World) (w0 : (Lit.int .u64 a0).wf = true) (w1 : (Lit.int .u64 a1).wf = true) (w2 : (Lit.int .i64 a2).wf = true) :
    Calls Try.prog 7 #[.int .u64 a0, .int .u64 a1, .int .i64 a2] w fun e w' => e = .returned (.bool true) ∧ Below w.heap.size w w' := by
  obtain ⟨b01, b02⟩ := bounds_u64 w0
  obtain ⟨b11, b12⟩ := bounds_u64 w1
  obtain ⟨b21, b22⟩ := bounds_i64 w2
  clear w0 w1 w2
  by_cases c : 0 < a2
  · by_cases c1 : a0 < a2
    · have HK := Lib.hid (show keepF a0 a1 a2 = (0, false) from by unfold keepF; first | rw [if_pos (by omega)] | rw [if_neg (by omega), if_pos (by omega)])
      go_enter Try.func7, Try.ntmps7
      go_wp2_with fail
      refine (works_any _).mono ?_
      rintro e w1 ⟨rfl, hc⟩
      have HC := Lib.hid hc
      clear hc
      go_wp2_with fail
      refine (Keep_any _ _ _ _ (by omega) (by omega) (by omega) (by omega) (by omega) (by omega)).mono ?_
      rintro e w1 ⟨rfl, rfl⟩
      rw [HK.out]
      go_wp2_with fail
      all_goals (go_ret; exact ⟨rfl, HC.out.below0⟩)
    · have c1' : a2 ≤ a0 := by omega
      clear c1
      by_cases c2 : a0 - a2 ≤ a1
      · have HK := Lib.hid (show keepF a0 a1 a2 = (0, false) from by unfold keepF; first | rw [if_pos (by omega)] | rw [if_neg (by omega), if_pos (by omega)])
        go_enter Try.func7, Try.ntmps7
        go_wp2_with fail
        refine (works_any _).mono ?_
        rintro e w1 ⟨rfl, hc⟩
        have HC := Lib.hid hc
        clear hc
        go_wp2_with fail
        refine (Keep_any _ _ _ _ (by omega) (by omega) (by omega) (by omega) (by omega) (by omega)).mono ?_
        rintro e w1 ⟨rfl, rfl⟩
        rw [HK.out]
        go_wp2_with fail
        all_goals (go_ret; exact ⟨rfl, HC.out.below0⟩)
      · have c2' : a1 < a0 - a2 := by omega
        clear c2
        have HK := Lib.hid (show keepF a0 a1 a2 = (a0 - a2, true) from by unfold keepF; rw [if_neg (by omega), if_neg (by omega)]; congr 1; omega)
        have HK2 := Lib.hid (show keepF a0 (a0 - a2) a2 = (0, false) from by unfold keepF; first | rw [if_pos (by omega)] | rw [if_neg (by omega), if_pos (by omega)])
        go_enter Try.func7, Try.ntmps7
        go_wp2_with fail
        refine (works_any _).mono ?_
        rintro e w1 ⟨rfl, hc⟩
        have HC := Lib.hid hc
        clear hc
        go_wp2_with fail
        refine (Keep_any _ _ _ _ (by omega) (by omega) (by omega) (by omega) (by omega) (by omega)).mono ?_
        rintro e w1 ⟨rfl, rfl⟩
        rw [HK.out]
        go_wp2_with fail
        refine (Keep_any _ _ _ _ (by omega) (by omega) (by omega) (by omega) (by omega) (by omega)).mono ?_
        rintro e w1 ⟨rfl, rfl⟩
        rw [HK2.out]
        go_wp2_with fail
        all_goals (go_ret; exact ⟨rfl, HC.out.below0⟩)
  · have c' : a2 ≤ 0 := by omega
    by_cases c2 : a0 ≤ a1
    · have HK := Lib.hid (show keepF a0 a1 a2 = (0, false) from by unfold keepF; first | rw [if_pos (by omega)] | rw [if_neg (by omega), if_pos (by omega)])
      go_enter Try.func7, Try.ntmps7
      go_wp2_with fail
      refine (works_any _).mono ?_
      rintro e w1 ⟨rfl, hc⟩
      have HC := Lib.hid hc
      clear hc
      go_wp2_with fail
      refine (Keep_any _ _ _ _ (by omega) (by omega) (by omega) (by omega) (by omega) (by omega)).mono ?_
      rintro e w1 ⟨rfl, rfl⟩
      rw [HK.out]
      go_wp2_with fail
      all_goals (go_ret; exact ⟨rfl, HC.out.below0⟩)
    · have c2' : a1 < a0 := by omega
      clear c2
      have HK := Lib.hid (show keepF a0 a1 a2 = (a0, true) from by unfold keepF; rw [if_neg (by omega), if_neg (by omega)]; congr 1; omega)
      have HK2 := Lib.hid (show keepF a0 a0 a2 = (0, false) from by unfold keepF; first | rw [if_pos (by omega)] | rw [if_neg (by omega), if_pos (by omega)])
      go_enter Try.func7, Try.ntmps7
      go_wp2_with fail
      refine (works_any _).mono ?_
      rintro e w1 ⟨rfl, hc⟩
      have HC := Lib.hid hc
      clear hc
      go_wp2_with fail
      refine (Keep_any _ _ _ _ (by omega) (by omega) (by omega) (by omega) (by omega) (by omega)).mono ?_
      rintro e w1 ⟨rfl, rfl⟩
      rw [HK.out]
      go_wp2_with fail
      refine (Keep_any _ _ _ _ (by omega) (by omega) (by omega) (by omega) (by omega) (by omega)).mono ?_
      rintro e w1 ⟨rfl, rfl⟩
      rw [HK2.out]
      go_wp2_with fail
      all_goals (go_ret; exact ⟨rfl, HC.out.below0⟩)
end Go.Proofs.Ytpbcgfhhkfjbeaa.timerLeavesWalk
