/- The walk of the law HistPlays, for its row. -/
import Derived.Test.YtggcpbnlblbpjaaHistV
namespace Go.Proofs.Ytggcpbnlblbpjaa.histPlaysWalk
open Go Go.RowKit Go.Proofs.Ytggcpbnlblbpjaa.K Go.Proofs.Ytggcpbnlblbpjaa.H Go.Proofs.Ytggcpbnlblbpjaa.L
theorem in_of {H : Type} {enc : TypeId × Value → H} {w : World} {base : Nat} {spare : Nat → Bool} {held : Bool} {fuel : Nat} {a : Option Addr} {len cap : Nat} {x : DataW H × List MemPlace}
    (h : DataW.trod enc Try.prog w base spare held fuel 22 [.slice a len cap] = some x) : In22 w a len cap := ⟨H, enc, base, spare, held, fuel, x, h⟩
theorem walk (a : Option Addr) (len cap : Nat) (c n : Int) (W : World) (h : In22 W a len cap) (hc : (Lit.int .i64 c).wf = true) (hn : (Lit.int .i64 n).wf = true) : Calls Try.prog 4 #[.slice a len cap, .int .i64 c, .int .i64 n] W fun e W' => e = .returned (.bool true) ∧ Below W.heap.size W W' :=
  (plays a len cap c n (actsR_of h) ⟨hc, hn⟩).mono fun _ _ ⟨he, c⟩ => ⟨he, c.below0⟩
end Go.Proofs.Ytggcpbnlblbpjaa.histPlaysWalk
