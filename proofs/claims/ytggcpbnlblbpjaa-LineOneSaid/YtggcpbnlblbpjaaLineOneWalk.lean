/- The walk of the law LineOne, for its row. -/
import Derived.Test.YtggcpbnlblbpjaaLineO
namespace Go.Proofs.Ytggcpbnlblbpjaa.lineOneWalk
open Go Go.RowKit Go.Proofs.Ytggcpbnlblbpjaa.K Go.Proofs.Ytggcpbnlblbpjaa.L
theorem src_of {W : World} {a : Option Addr} {len cap : Nat} {zs : List Int} (h : IsRow .i64 W a len cap zs) : ∃ M : List Int, M.length = len ∧ (M.length ≤ cap ∧ cap ≤ maxLen) ∧ SrcIs W (.slice a M.length cap) M.length (M.map (Value.int .i64)) 1 := by
  rcases h with ⟨rfl, rfl, rfl, rfl⟩ | ⟨x, rfl, hl, hm, hz, hc, _⟩
  · exact ⟨[], rfl, ⟨Nat.le_refl _, by decide⟩, rfl, .inl ⟨rfl, rfl⟩⟩
  · have h1 : (zs.take len).length = len := by rw [List.length_take]; omega
    refine ⟨zs.take len, h1, ⟨by omega, hm⟩, by rw [List.length_map, Nat.mul_one], .inr ⟨x, cap, rfl, fun j u hu => ?_⟩⟩
    rw [List.getElem?_map, List.getElem?_take] at hu
    split at hu
    · rename_i hj
      rw [hc j (by omega), ← hu, List.getD_eq_getElem?_getD, List.getElem?_eq_getElem (by omega)]
      rfl
    · simp at hu
theorem walk (n : Int) (a : Option Addr) (len cap : Nat) (zs : List Int) (W : World) (_ : (Lit.int .i64 n).wf = true) (h : IsRow .i64 W a len cap zs) : Calls Try.prog 5 #[.int .i64 n, .slice a len cap] W fun e W' => e = .returned (.bool true) ∧ Below W.heap.size W W' := by
  obtain ⟨M, rfl, hd, hs⟩ := src_of h
  exact (one_ n (Lib.hid hd) (Lib.hid hs)).mono fun _ _ ⟨he, c⟩ => ⟨he, c.below0⟩
end Go.Proofs.Ytggcpbnlblbpjaa.lineOneWalk
