/- The walk of the law PressLimits, for its row. -/
import Derived.Test.YtmoelehhofmhcaaPrM
import Derived.Deep.Fields
namespace Go.Proofs.Ytmoelehhofmhcaa.pressLimitsWalk
set_option linter.unusedVariables false
open Go Go.RowKit Go.Proofs.Ytmoelehhofmhcaa.K Go.Proofs.Ytmoelehhofmhcaa.V
def InR (_ : World) (a : Array Value) : Prop := ∃ c m p : Int, a = #[.int .i64 c, .int .i64 m, .int .i64 p]
theorem list3 {l : List Value} (h : l.length = 3) : ∃ (y0 y1 y2 : Value), l = [y0, y1, y2] := by
  match l, h with
  | [y0, y1, y2], _ => exact ⟨_, _, _, rfl⟩
theorem inR_of {H : Type} {enc : TypeId × Value → H} {w : World} {base : Nat} {spare : Nat → Bool} {held : Bool} {fuel : Nat} {a : Array Value} {x : DataW H × List MemPlace}
    (h : DataW.trod enc Try.prog w base spare held fuel 23 a.toList = some x) : InR w a := by
  obtain ⟨xs, n, _, _, hl, hxl, hf⟩ := DataW.trod_struct Try.underlying23 h
  rw [show Try.prog.cellsOf 23 = 3 by kernel_rfl] at hl
  obtain ⟨y0, y1, y2, hy⟩ := list3 hl
  rw [hy] at hf
  have z1 : Try.prog.cellsOf 3 = 1 := by kernel_rfl
  have get : ∀ (i : Nat) (v : Value), i < 3 → (([y0, y1, y2] : List Value).drop i).take 1 = [v] → (∀ f, (#[⟨"CPU", 3, 0, false, "", "", 0⟩, ⟨"Mem", 3, 1, false, "", "", 8⟩, ⟨"Pids", 3, 2, false, "", "", 16⟩] : Array Field)[i]? = some f → f.type = 3 ∧ f.offset = i) → ∃ z : Int, v = .int .i64 z := by
    intro i v hi hv hfi
    have hlt : i < (#[⟨"CPU", 3, 0, false, "", "", 0⟩, ⟨"Mem", 3, 1, false, "", "", 8⟩, ⟨"Pids", 3, 2, false, "", "", 16⟩] : Array Field).size := hi
    have h1 := hf i _ (Array.getElem?_eq_getElem hlt)
    have h2 := hfi _ (Array.getElem?_eq_getElem hlt)
    rw [h2.1, h2.2, z1, hv] at h1
    rw [List.getElem?_eq_getElem (by rw [hxl]; exact hlt)] at h1
    obtain ⟨z, e, _⟩ := DataW.trod_int Try.underlying3 h1
    exact ⟨z, by simpa using e⟩
  obtain ⟨c, rfl⟩ := get 0 y0 (by omega) rfl (fun f hf => by simp at hf; subst hf; exact ⟨rfl, rfl⟩)
  obtain ⟨m, rfl⟩ := get 1 y1 (by omega) rfl (fun f hf => by simp at hf; subst hf; exact ⟨rfl, rfl⟩)
  obtain ⟨p, rfl⟩ := get 2 y2 (by omega) rfl (fun f hf => by simp at hf; subst hf; exact ⟨rfl, rfl⟩)
  exact ⟨c, m, p, by rw [← Array.toList_inj, hy]⟩
theorem walk (a0 a1 : Array Value) (pc : Int) (W : World) (h0 : InR W a0) (h1 : InR W a1) (_ : (Lit.int .i64 pc).wf = true) : Calls Try.prog 3 #[.agg a0, .agg a1, .int .i64 pc] W fun e W' => e = .returned (.bool true) ∧ Below W.heap.size W W' := by
  obtain ⟨a, b, c, rfl⟩ := h0
  obtain ⟨d, m, e, rfl⟩ := h1
  exact limits_.mono fun _ _ ⟨he, c⟩ => ⟨he, c.below0⟩
end Go.Proofs.Ytmoelehhofmhcaa.pressLimitsWalk
