/- The walk of the law FrameStream, for its row: how texts and numbers that come in are read. -/
import Derived.Test.YtfbecehinloldaaFrC
import Derived.ChangeSame
namespace Go.Proofs.Ytfbecehinloldaa.frameStreamWalk
set_option linter.unusedVariables false
set_option linter.unusedSimpArgs false
open Go Go.RowKit Go.ChangeShapes Go.WideShapes Go.Proofs.Ytfbecehinloldaa.K Go.Proofs.Ytfbecehinloldaa.V
/-- Cells that read at a type. -/
def Rd (w : World) (T : TypeId) (cs : List Value) : Prop := ∃ (H : Type) (enc : TypeId × Value → H) (base : Nat) (spare : Nat → Bool) (held : Bool) (fuel : Nat) (x : DataW H × List MemPlace), DataW.trod enc Try.prog w base spare held fuel T cs = some x
theorem Rd.int {w : World} {T : TypeId} {cs : List Value} {k : IntKind} (ht : Try.prog.underlying T = some (.int k)) (h : Rd w T cs) : ∃ n, cs = [.int k n] := by
  obtain ⟨H, enc, base, spare, held, fuel, x, h⟩ := h
  obtain ⟨n, h1, _⟩ := DataW.trod_int ht h
  exact ⟨n, h1⟩
theorem Rd.str {w : World} {T : TypeId} {cs : List Value} (ht : Try.prog.underlying T = some .string) (h : Rd w T cs) : ∃ s : ByteArray, cs = [.string s] := by
  obtain ⟨H, enc, base, spare, held, fuel, x, h⟩ := h
  obtain ⟨n, h1, _⟩ := DataW.trod_string ht h
  exact ⟨n, h1⟩
theorem Rd.slice2 {w : World} {T e : TypeId} {cs : List Value} (ht : Try.prog.underlying T = some (.slice e)) (h : Rd w T cs) : ∃ A len cap, cs = [.slice A len cap] ∧ (A = none → len = 0 ∧ cap = 0) ∧ ∀ i, i < len → ∃ a c, A = some a ∧ c.length = Try.prog.cellsOf e ∧ Rd w e c ∧ CellsAt w (a.add (i * Try.prog.cellsOf e)) c := by
  obtain ⟨H, enc, base, spare, held, fuel, x, h⟩ := h
  rcases Go.Deep.open_slice ht h with ⟨hcs, _⟩ | ⟨a, len, cap, m, n, D, Pl, hcs, _, hl, hm, hmm, _, hel⟩
  · exact ⟨none, 0, 0, hcs, fun _ => ⟨rfl, rfl⟩, fun i hi => absurd hi (by omega)⟩
  · refine ⟨some a, len, cap, hcs, (fun h => by cases h), fun i hi => ?_⟩
    obtain ⟨cs', hc, htr⟩ := hel i (by rw [hmm]; split <;> omega)
    obtain ⟨_, hlen, hat⟩ := World.cells?_some hc
    exact ⟨a, cs', rfl, hlen, ⟨H, enc, base, spare, held, n, _, htr⟩, fun j u hu => by
      have hj : j < cs'.length := (List.getElem?_eq_some_iff.1 hu).1
      rw [hat j (by omega), hu]⟩
theorem row_of {α : Type} {f : α → List Value} (hf : ∀ x, (f x).length = 1) (d : α) {W : World} {T e : TypeId} (ht : Try.prog.underlying T = some (.slice e)) (he : Try.prog.cellsOf e = 1) (hr : ∀ cs, Rd W e cs → ∃ x, cs = f x) {a : Option Addr} {len cap : Nat} (h : Rd W T [.slice a len cap]) : ∃ L : List α, L.length = len ∧ SrcIs W (.slice a L.length cap) L.length (L.flatMap f) 1 := by
  obtain ⟨A, n, c, e1, hz, hel⟩ := Rd.slice2 ht h
  have he2 : a = A ∧ len = n ∧ cap = c := by simpa using e1
  obtain ⟨rfl, rfl, rfl⟩ := he2
  cases a with
  | none =>
    obtain ⟨rfl, rfl⟩ := hz rfl
    exact ⟨[], rfl, ⟨rfl, .inl ⟨rfl, rfl⟩⟩⟩
  | some ad =>
    have hex : ∀ i, ∃ x : α, i < len → CellsAt W (ad.add (i * 1)) (f x) := by
      intro i
      by_cases hi : i < len
      · obtain ⟨a', c', e', hl, hrd, hc⟩ := hel i hi
        injection e' with e'
        subst e'
        rw [he] at hc
        obtain ⟨x, rfl⟩ := hr _ hrd
        exact ⟨x, fun _ => hc⟩
      · exact ⟨d, fun h => absurd h hi⟩
    obtain ⟨g, hg⟩ := Classical.axiomOfChoice hex
    have hlen : ((List.range len).map g).length = len := by simp
    refine ⟨(List.range len).map g, hlen, ⟨by rw [V.flat_len hf], .inr ⟨ad, cap, rfl, fun j u hu => ?_⟩⟩⟩
    have hl : j < (((List.range len).map g).flatMap f).length := (List.getElem?_eq_some_iff.1 hu).1
    rw [V.flat_len hf, hlen] at hl
    have hi : j < len := by omega
    obtain ⟨u', hu'⟩ : ∃ u', (f (g j))[0]? = some u' := ⟨_, List.getElem?_eq_getElem (by rw [hf]; omega)⟩
    have h1 := V.flat_get hf ((List.range len).map g) j (g j) (by rw [List.getElem?_map, List.getElem?_range hi]; rfl) 0 u' hu'
    rw [show j * 1 + 0 = j by omega, hu] at h1
    injection h1 with h1
    have h2 := hg j hi 0 u' hu'
    rw [Go.Deep.add_add, show j * 1 + 0 = j by omega] at h2
    rw [h1]
    exact h2
def InS (W : World) (a : Option Addr) (len cap : Nat) : Prop := Rd W 29 [.slice a len cap]
def InI (W : World) (a : Option Addr) (len cap : Nat) : Prop := Rd W 36 [.slice a len cap]
theorem in_of {H : Type} {enc : TypeId × Value → H} {w : World} {base : Nat} {spare : Nat → Bool} {held : Bool} {fuel : Nat} {a : Option Addr} {len cap : Nat} {x : DataW H × List MemPlace} {T : TypeId}
    (h : DataW.trod enc Try.prog w base spare held fuel T [.slice a len cap] = some x) : Rd w T [.slice a len cap] := ⟨H, enc, base, spare, held, fuel, x, h⟩
theorem walk (a : Option Addr) (len cap : Nat) (b : Option Addr) (len2 cap2 : Nat) (W : World) (h : InS W a len cap) (h2 : InI W b len2 cap2) : Calls Try.prog 5 #[.slice a len cap, .slice b len2 cap2] W fun e W' => e = .returned (.bool true) ∧ Below W.heap.size W W' := by
  obtain ⟨L, rfl, hs⟩ := row_of strC_len ByteArray.empty Try.underlying29 (by kernel_rfl) (fun cs h => by obtain ⟨s, rfl⟩ := h.str Try.underlying9; exact ⟨s, rfl⟩) h
  obtain ⟨U, rfl, hu⟩ := row_of intC_len (0 : Int) Try.underlying36 (by kernel_rfl) (fun cs h => by obtain ⟨s, rfl⟩ := h.int Try.underlying3; exact ⟨s, rfl⟩) h2
  exact (stream_ (Lib.hid hs) (Lib.hid hu)).mono fun _ _ ⟨he, c⟩ => ⟨he, c.below0⟩
end Go.Proofs.Ytfbecehinloldaa.frameStreamWalk
