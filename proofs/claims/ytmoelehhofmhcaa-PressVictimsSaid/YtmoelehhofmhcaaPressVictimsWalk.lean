/- The walk of the law PressVictims, for its row. -/
import Derived.Test.YtmoelehhofmhcaaPrF
namespace Go.Proofs.Ytmoelehhofmhcaa.pressVictimsWalk
set_option linter.unusedVariables false
open Go Go.RowKit Go.Proofs.Ytmoelehhofmhcaa.K Go.Proofs.Ytmoelehhofmhcaa.V
def InR (_ : World) (a : Array Value) : Prop := ∃ c m p : Int, a = #[.int .i64 c, .int .i64 m, .int .i64 p]
theorem inR_of {H : Type} {enc : TypeId × Value → H} {w : World} {base : Nat} {spare : Nat → Bool} {held : Bool} {fuel : Nat} {a : Array Value} {x : DataW H × List MemPlace}
    (h : DataW.trod enc Try.prog w base spare held fuel 23 a.toList = some x) : InR w a := by
  obtain ⟨c, m, p, e, _⟩ := res_in ⟨H, enc, base, spare, held, fuel, x, h⟩
  exact ⟨c, m, p, by rw [← Array.toList_inj, e]⟩
theorem in_of {H : Type} {enc : TypeId × Value → H} {w : World} {base : Nat} {spare : Nat → Bool} {held : Bool} {fuel : Nat} {a : Option Addr} {len cap : Nat} {x : DataW H × List MemPlace}
    (h : DataW.trod enc Try.prog w base spare held fuel 28 [.slice a len cap] = some x) : In28 w a len cap := ⟨H, enc, base, spare, held, fuel, x, h⟩
theorem walk (a : Option Addr) (len cap : Nat) (a1 : Array Value) (pc : Int) (W : World) (h : In28 W a len cap) (h1 : InR W a1) (_ : (Lit.int .i64 pc).wf = true) : Calls Try.prog 4 #[.slice a len cap, .agg a1, .int .i64 pc] W fun e W' => e = .returned (.bool true) ∧ Below W.heap.size W W' := by
  obtain ⟨c, m, e, rfl⟩ := h1
  obtain ⟨L, rfl, _, hs, hl⟩ := loads_of2 h
  obtain ⟨lr, hlr⟩ := lr_of (fun x hx => (hl x hx).1)
  exact (victims_ (Lib.hid hlr) (Lib.hid (fun x hx => sameS_of (hl x hx).2)) (Lib.hid hs)).mono fun _ _ ⟨he, c⟩ => ⟨he, c.below0⟩
end Go.Proofs.Ytmoelehhofmhcaa.pressVictimsWalk
