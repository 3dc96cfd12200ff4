/- The walk of the law DelayAfters: how long one waits behind any number of failures is as the document has it. -/
import Derived.Test.YtbamdihbpfdbjaaWorks
namespace Go.Proofs.Ytbamdihbpfdbjaa.delayAftersWalk
open Go Go.RowKit Go.Proofs.Ytbamdihbpfdbjaa.K Go.Proofs.Ytbamdihbpfdbjaa.R
set_option linter.unusedVariables false
theorem walk (n : Int) (w : World) (hw : (Lit.int .i64 n).wf = true) : Calls Try.prog 3 #[.int .i64 n] w fun e w' => e = .returned (.bool true) ∧ Below w.heap.size w w' := by
  obtain ⟨h1, h2⟩ := bounds_i64 hw
  clear hw
  go_enter Try.func3, Try.ntmps3
  go_wp2_with fail
  refine (After_any n _ (by omega) (by omega)).mono ?_
  rintro e w1 ⟨rfl, q, rfl⟩
  have e0 : (aft n == aft n) = true := by simp
  go_wp2_with fail
  refine (PDelayPlays.provostref25_After.calls n (aft n) _ (refAfter_f n)).mono ?_
  rintro e w2 ⟨rfl, hb⟩
  have B2 := Lib.hid (((Ch.refl [] w).drewN q).below0.trans hb)
  clear hb
  go_wp2_with fail
  refine (works_any _).mono ?_
  rintro e w3 ⟨rfl, hc⟩
  have B3 := Lib.hid (B2.out.trans (hc.below B2.out.size (by simp)))
  clear hc
  go_wp2_with fail
  go_ret
  exact ⟨rfl, B3.out⟩
end Go.Proofs.Ytbamdihbpfdbjaa.delayAftersWalk
