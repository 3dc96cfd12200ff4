/- The walk of the law LineDone, for its row. -/
import Derived.Test.YtggcpbnlblbpjaaLineG
import Derived.SizedLaws
namespace Go.Proofs.Ytggcpbnlblbpjaa.lineDoneWalk
open Go Go.RowKit Go.Proofs.Ytggcpbnlblbpjaa.K Go.Proofs.Ytggcpbnlblbpjaa.L Go.WideShapes
theorem in_of {H : Type} {enc : TypeId × Value → H} {w : World} {base : Nat} {spare : Nat → Bool} {held : Bool} {fuel : Nat} {a : Option Addr} {len cap : Nat} {x : DataW H × List MemPlace}
    (h : DataW.trod enc Try.prog w base spare held fuel 51 [.slice a len cap] = some x) : In59 w a len cap := by
  refine ⟨⟨H, enc, base, spare, held, fuel, x, h⟩, ?_⟩
  rcases Go.Deep.open_slice Try.underlying51 h with ⟨hcs, _⟩ | ⟨a', l, c, m, n, D, Pl, hcs, _, hl, hm, _⟩
  · simp at hcs
    obtain ⟨rfl, rfl, rfl⟩ := hcs
    exact ⟨fun _ => ⟨rfl, rfl⟩, Nat.zero_le _⟩
  · simp at hcs
    obtain ⟨rfl, rfl, rfl⟩ := hcs
    exact ⟨fun h9 => (by cases h9), Nat.le_trans hl hm⟩
theorem bytes_of {H : Type} {enc : TypeId × Value → H} {W : World} {base : Nat} {spare : Nat → Bool} {held : Bool} {a : Option Addr} {len cap : Nat} {d : DataW H} {ps : List MemPlace} {ts : List TypeId} {ds : List (DataW H)} {j : Nat}
    (hsz : (DataW.weightsEach Try.prog ts ds).all (· ≤ reachBytes) = true) (ht : ts[j]? = some 51) (hd : ds[j]? = some d) (h : DataW.Trod enc Try.prog W base spare held 51 (.slice a len cap) d ps) : len * 344 ≤ 140737488351232 := by
  obtain ⟨fuel, hf⟩ := h
  rcases Go.Deep.open_slice Try.underlying51 hf with ⟨hcs, _⟩ | ⟨x, l, c, m, n, D, Pl, hcs, _, hl, _, hmm, hx, _⟩
  · simp [Value.cells] at hcs
    obtain ⟨rfl, rfl, rfl⟩ := hcs
    simp
  · simp [Value.cells] at hcs
    obtain ⟨rfl, rfl, rfl⟩ := hcs
    obtain ⟨hx, _⟩ := Prod.mk.inj hx
    subst hx
    have z := sized_slice hsz ht hd Try.underlying51
    rw [show Try.prog.bytesOf 59 = 344 by kernel_rfl, List.length_map, List.length_map, List.length_range, List.length_range] at z
    exact Nat.le_trans (Nat.mul_le_mul_right _ (Nat.le_add_right _ _)) z
theorem walk (a : Option Addr) (len cap : Nat) (q : Int) (W : World) (h : In59 W a len cap) (hb : len * 344 ≤ 140737488351232) (_ : (Lit.int .i64 q).wf = true) : Calls Try.prog 7 #[.slice a len cap, .int .i64 q] W fun e W' => e = .returned (.bool true) ∧ Below W.heap.size W W' := by
  obtain ⟨L, rfl, hm, hs, hok⟩ := ops_of h
  obtain ⟨rs, ns, hl⟩ := all_lits hok
  exact (done_ (Lib.hid hm) (Lib.hid hb) (Lib.hid hl) (Lib.hid hs)).mono fun _ _ ⟨he, c⟩ => ⟨he, c.below0⟩
end Go.Proofs.Ytggcpbnlblbpjaa.lineDoneWalk
