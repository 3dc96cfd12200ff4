/- The walk of the law FrameOnce: the printed contract, and what was proved of its answers. -/
import Derived.Test.YtfbecehinloldaaPureFrameOnce
import Derived.Test.YtfbecehinloldaaFits
import Derived.Test.YtfbecehinloldaaKit
namespace Go.Proofs.Ytfbecehinloldaa.frameOnceWalk
set_option linter.unusedVariables false
open Go Go.RowKit Go.Proofs.Ytfbecehinloldaa.PFrameOnce Go.Proofs.YtfbecehinloldaaW.PrintWords Go.Proofs.Ytfbecehinloldaa.F
theorem fit (T : TypeId) (hT : Try.prog.underlying T = some (.slice 9)) : Fits Try.prog T (Kd.slice 9 Kd.string) (fun l => l.length ≤ maxLen ∧ ∀ v ∈ l, v.size ≤ maxLen) := fits_slice ByteArray.empty hT (by kernel_rfl) (fits_str Try.underlying9)
/-- What is told of the texts that come in. -/
def In (w : World) (a : Option Addr) (len cap : Nat) : Prop := ∃ l : List ByteArray, l.length = len ∧ l.length ≤ cap ∧ Kd.C Kd.string w a l.length l ∧ (l.length ≤ maxLen ∧ ∀ v ∈ l, v.size ≤ maxLen)
theorem walk (a1 : Option Addr) (len1 cap1 : Nat) (w : World) (w1 : In w a1 len1 cap1) :
    Calls Try.prog 4 #[.slice a1 len1 cap1] w fun e w' => e = .returned (.bool true) ∧ Below w.heap.size w w' := by
  obtain ⟨l, rfl, hc, hC, _⟩ := w1
  exact provostlaw05_FrameOnce.calls 1000 a1 cap1 l true w hC hc (PureO.FrameOnce l)
end Go.Proofs.Ytfbecehinloldaa.frameOnceWalk
