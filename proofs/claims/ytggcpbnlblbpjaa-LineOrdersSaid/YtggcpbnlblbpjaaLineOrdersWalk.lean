/- The walk of the law LineOrders, for its row. -/
import Derived.Test.YtggcpbnlblbpjaaLineT
import Derived.Test.YtggcpbnlblbpjaaLineI
import Derived.Test.YtggcpbnlblbpjaaLineJ
import Derived.SizedLaws
namespace Go.Proofs.Ytggcpbnlblbpjaa.lineOrdersWalk
open Go Go.RowKit Go.Proofs.Ytggcpbnlblbpjaa.K Go.Proofs.Ytggcpbnlblbpjaa.L Go.WideShapes
theorem in_of {H : Type} {enc : TypeId × Value → H} {w : World} {base : Nat} {spare : Nat → Bool} {held : Bool} {fuel : Nat} {a : Option Addr} {len cap : Nat} {x : DataW H × List MemPlace}
    (h : DataW.trod enc Try.prog w base spare held fuel 51 [.slice a len cap] = some x) : In59 w a len cap := by
  refine ⟨⟨H, enc, base, spare, held, fuel, x, h⟩, ?_⟩
  rcases Go.Deep.open_slice Try.underlying51 h with ⟨hcs, _⟩ | ⟨a', l, c, m, n, D, Pl, hcs, _, hl, hm, _⟩
  · simp at hcs
    obtain ⟨rfl, rfl, rfl⟩ := hcs
    exact ⟨fun _ => ⟨rfl, rfl⟩, Nat.zero_le _⟩
  · simp at hcs
    obtain ⟨rfl, rfl, rfl⟩ := hcs
    exact ⟨fun h9 => (by cases h9), Nat.le_trans hl hm⟩
theorem bytes_of {H : Type} {enc : TypeId × Value → H} {W : World} {base : Nat} {spare : Nat → Bool} {held : Bool} {a : Option Addr} {len cap : Nat} {d : DataW H} {ps : List MemPlace} {ts : List TypeId} {ds : List (DataW H)} {j : Nat}
    (hsz : (DataW.weightsEach Try.prog ts ds).all (· ≤ reachBytes) = true) (ht : ts[j]? = some 51) (hd : ds[j]? = some d) (h : DataW.Trod enc Try.prog W base spare held 51 (.slice a len cap) d ps) : len * 344 ≤ 140737488351232 := by
  obtain ⟨fuel, hf⟩ := h
  rcases Go.Deep.open_slice Try.underlying51 hf with ⟨hcs, _⟩ | ⟨x, l, c, m, n, D, Pl, hcs, _, hl, _, hmm, hx, _⟩
  · simp [Value.cells] at hcs
    obtain ⟨rfl, rfl, rfl⟩ := hcs
    simp
  · simp [Value.cells] at hcs
    obtain ⟨rfl, rfl, rfl⟩ := hcs
    obtain ⟨hx, _⟩ := Prod.mk.inj hx
    subst hx
    have z := sized_slice hsz ht hd Try.underlying51
    rw [show Try.prog.bytesOf 59 = 344 by kernel_rfl, List.length_map, List.length_map, List.length_range, List.length_range] at z
    exact Nat.le_trans (Nat.mul_le_mul_right _ (Nat.le_add_right _ _)) z
theorem src_of {W : World} {a : Option Addr} {len cap : Nat} {zs : List Int} (h : IsRow .i64 W a len cap zs) : ∃ M : List Int, M.length = len ∧ (M.length ≤ cap ∧ cap ≤ maxLen) ∧ SrcIs W (.slice a M.length cap) M.length (M.map (Value.int .i64)) 1 := by
  rcases h with ⟨rfl, rfl, rfl, rfl⟩ | ⟨x, rfl, hl, hm, hz, hc, _⟩
  · exact ⟨[], rfl, ⟨Nat.le_refl _, by decide⟩, rfl, .inl ⟨rfl, rfl⟩⟩
  · have h1 : (zs.take len).length = len := by rw [List.length_take]; omega
    refine ⟨zs.take len, h1, ⟨by omega, hm⟩, by rw [List.length_map, Nat.mul_one], .inr ⟨x, cap, rfl, fun j u hu => ?_⟩⟩
    rw [List.getElem?_map, List.getElem?_take] at hu
    split at hu
    · rename_i hj
      rw [hc j (by omega), ← hu, List.getD_eq_getElem?_getD, List.getElem?_eq_getElem (by omega)]
      rfl
    · simp at hu
theorem walk (a : Option Addr) (len cap : Nat) (b : Option Addr) (ln cp : Nat) (zs : List Int) (W : World) (h : In59 W a len cap) (hb : len * 344 ≤ 140737488351232) (hz : IsRow .i64 W b ln cp zs) : Calls Try.prog 6 #[.slice a len cap, .slice b ln cp] W fun e W' => e = .returned (.bool true) ∧ Below W.heap.size W W' := by
  obtain ⟨L, rfl, hm, hs, hok⟩ := ops_of h
  obtain ⟨rs, ns, hl⟩ := all_lits hok
  obtain ⟨M, rfl, hd2, hs2⟩ := src_of hz
  exact (orders_ (Lib.hid hm) (Lib.hid hb) (Lib.hid hl) (Lib.hid hd2) (Lib.hid hs) (Lib.hid hs2)).mono fun _ _ ⟨he, c⟩ => ⟨he, c.below0⟩
end Go.Proofs.Ytggcpbnlblbpjaa.lineOrdersWalk
