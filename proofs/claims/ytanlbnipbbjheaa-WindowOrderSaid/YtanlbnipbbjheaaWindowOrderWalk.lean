/- The walk of the law WindowOrder, of what comes in as the row reads it. -/
import Derived.Test.YtanlbnipbbjheaaWinO
namespace Go.Proofs.Ytanlbnipbbjheaa.windowOrderWalk
open Go Go.RowKit Go.Proofs.Ytanlbnipbbjheaa.K Go.Proofs.Ytanlbnipbbjheaa.V
theorem walk (a0 : Option Addr) (len0 cap0 : Nat) (w : World) (w0 : Acts w a0 len0) :
    Calls Try.prog 6 #[.slice a0 len0 cap0] w fun e w' => e = .returned (.bool true) ∧ Below w.heap.size w w' :=
  (orders w a0 len0 cap0 w0).mono fun _ _ ⟨h, c⟩ => ⟨h, c.below0⟩
end Go.Proofs.Ytanlbnipbbjheaa.windowOrderWalk
