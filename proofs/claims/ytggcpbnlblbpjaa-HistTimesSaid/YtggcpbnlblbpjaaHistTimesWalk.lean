/- The walk of the law HistTimes, for its row. -/
import Derived.Test.YtggcpbnlblbpjaaHistT
namespace Go.Proofs.Ytggcpbnlblbpjaa.histTimesWalk
open Go Go.RowKit Go.Proofs.Ytggcpbnlblbpjaa.K Go.Proofs.Ytggcpbnlblbpjaa.H
theorem walk (a : Option Addr) (len cap : Nat) (W : World) (h : In W a len cap) : Calls Try.prog 3 #[.slice a len cap] W fun e W' => e = .returned (.bool true) ∧ Below W.heap.size W W' :=
  (times W a len cap (acts_of h)).mono fun _ _ ⟨he, c⟩ => ⟨he, c.below0⟩
end Go.Proofs.Ytggcpbnlblbpjaa.histTimesWalk
