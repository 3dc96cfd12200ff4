/- Acts that come in; the two rows of texts, as functions of a session's number. -/
import Derived.Test.YtcfkdglaedpnjaaDoorExQ
import Derived.ChangeSame
namespace Go.Proofs.YtcfkdglaedpnjaaDoor.V
open Go Go.RowKit Go.ChangeShapes Go.WideShapes Go.Proofs.YtcfkdglaedpnjaaDoor.K Go.Proofs.YtcfkdglaedpnjaaDoor.R
set_option linter.unusedVariables false
set_option linter.unusedSimpArgs false
set_option maxRecDepth 100000
structure HA where
  kind : Int
  id : Int
  box : Int
  ctr : Int
  n : Int
  s : ByteArray
def actC (a : HA) : List Value := [.int .i64 a.kind, .int .i64 a.id, .int .i64 a.box, .int .i64 a.ctr, .int .i64 a.n, .string a.s]
theorem actC_len (a : HA) : (actC a).length = 6 := rfl
def strC (b : ByteArray) : List Value := [.string b]
theorem strC_len (b : ByteArray) : (strC b).length = 1 := rfl
/-- A row of texts, as a function. -/
def fW (l : List ByteArray) (i : Nat) : List UInt8 := (l.getD i ⟨#[]⟩).data.toList
theorem fW_at {l : List ByteArray} {i : Nat} {b : ByteArray} (h : l[i]? = some b) : fW l i = b.data.toList := by
  unfold fW
  rw [List.getD_eq_getElem?_getD, h]
  rfl
theorem fW_set {l : List ByteArray} {i : Nat} {b t : ByteArray} (h : l[i]? = some b) : fW (l.set i (b ++ t)) = updF (fW l) i t.data.toList := by
  funext k
  by_cases hk : k = i
  · subst hk
    rw [updF_same, fW_at h, fW_at (List.getElem?_set_self (List.getElem?_eq_some_iff.1 h).1), ByteArray.data_append, Array.toList_append]
  · rw [updF_ne hk]
    unfold fW
    rw [List.getD_eq_getElem?_getD, List.getD_eq_getElem?_getD, List.getElem?_set_ne (Ne.symm hk)]
theorem fW_new (n : Nat) : fW (List.replicate n ⟨#[]⟩) = fun _ => [] := by
  funext k
  unfold fW
  rw [List.getD_eq_getElem?_getD, List.getElem?_replicate]
  split <;> rfl
/-- Cells that read at a type. -/
def Rd (w : World) (T : TypeId) (cs : List Value) : Prop := ∃ (H : Type) (enc : TypeId × Value → H) (base : Nat) (spare : Nat → Bool) (held : Bool) (fuel : Nat) (x : DataW H × List MemPlace), DataW.trod enc Tryd.prog w base spare held fuel T cs = some x
theorem Rd.int {w : World} {T : TypeId} {cs : List Value} {k : IntKind} (ht : Tryd.prog.underlying T = some (.int k)) (h : Rd w T cs) : ∃ n, cs = [.int k n] ∧ (Lit.int k n).wf = true := by
  obtain ⟨H, enc, base, spare, held, fuel, x, h⟩ := h
  obtain ⟨n, h1, _, h2⟩ := DataW.trod_int ht h
  exact ⟨n, h1, h2⟩
theorem Rd.str {w : World} {T : TypeId} {cs : List Value} (ht : Tryd.prog.underlying T = some .string) (h : Rd w T cs) : ∃ s : ByteArray, cs = [.string s] := by
  obtain ⟨H, enc, base, spare, held, fuel, x, h⟩ := h
  obtain ⟨n, h1, _⟩ := DataW.trod_string ht h
  exact ⟨n, h1⟩
theorem Rd.slice2 {w : World} {T e : TypeId} {cs : List Value} (ht : Tryd.prog.underlying T = some (.slice e)) (h : Rd w T cs) : ∃ A len cap, cs = [.slice A len cap] ∧ (A = none → len = 0 ∧ cap = 0) ∧ ∀ i, i < len → ∃ a c, A = some a ∧ c.length = Tryd.prog.cellsOf e ∧ Rd w e c ∧ CellsAt w (a.add (i * Tryd.prog.cellsOf e)) c := by
  obtain ⟨H, enc, base, spare, held, fuel, x, h⟩ := h
  rcases Go.Deep.open_slice ht h with ⟨hcs, _⟩ | ⟨a, len, cap, m, n, D, Pl, hcs, _, hl, hm, hmm, _, hel⟩
  · exact ⟨none, 0, 0, hcs, fun _ => ⟨rfl, rfl⟩, fun i hi => absurd hi (by omega)⟩
  · refine ⟨some a, len, cap, hcs, (fun h => by cases h), fun i hi => ?_⟩
    obtain ⟨cs', hc, htr⟩ := hel i (by rw [hmm]; split <;> omega)
    obtain ⟨_, hlen, hat⟩ := World.cells?_some hc
    exact ⟨a, cs', rfl, hlen, ⟨H, enc, base, spare, held, n, _, htr⟩, fun j u hu => by
      have hj : j < cs'.length := (List.getElem?_eq_some_iff.1 hu).1
      rw [hat j (by omega), hu]⟩
theorem Rd.struct {w : World} {T : TypeId} {cs : List Value} {fs : Array Field} (ht : Tryd.prog.underlying T = some (.struct fs)) (h : Rd w T cs) : cs.length = Tryd.prog.cellsOf T ∧ ∀ (i : Nat) (f : Field), fs[i]? = some f → Rd w f.type ((cs.drop f.offset).take (Tryd.prog.cellsOf f.type)) := by
  obtain ⟨H, enc, base, spare, held, fuel, x, h⟩ := h
  obtain ⟨xs, n, _, _, hl, hxl, hf⟩ := DataW.trod_struct ht h
  refine ⟨hl, fun i f hi => ?_⟩
  have := hf i f hi
  have hlt : i < fs.size := (Array.getElem?_eq_some_iff.1 hi).1
  rw [List.getElem?_eq_getElem (by omega)] at this
  exact ⟨H, enc, base, spare, held, n, _, this⟩
def IntOk (z : Int) : Prop := -9223372036854775808 ≤ z ∧ z ≤ 9223372036854775807
theorem fld {w : World} {fs : Array Field} {cs : List Value} (h : ∀ (i : Nat) (f : Field), fs[i]? = some f → Rd w f.type ((cs.drop f.offset).take (Tryd.prog.cellsOf f.type))) (i T off n : Nat) (hi : (fs[i]?).map (fun f => (f.type, f.offset)) = some (T, off)) (hn : Tryd.prog.cellsOf T = n) : Rd w T ((cs.drop off).take n) := by
 cases hf : fs[i]? with
 | none => simp [hf] at hi
 | some f =>
  have h1 : f.type = T ∧ f.offset = off := by simpa [hf] using hi
  have h2 := h i f hf
  rw [h1.1, h1.2, hn] at h2
  exact h2
theorem zI : Tryd.prog.cellsOf 3 = 1 := by kernel_rfl
theorem zS : Tryd.prog.cellsOf 9 = 1 := by kernel_rfl
theorem list6 {l : List Value} (h : l.length = 6) : ∃ y0 y1 y2 y3 y4 y5 : Value, l = [y0, y1, y2, y3, y4, y5] := by
  match l, h with
  | [y0, y1, y2, y3, y4, y5], _ => exact ⟨y0, y1, y2, y3, y4, y5, rfl⟩
theorem wf64 {n : Int} (h : (Lit.int .i64 n).wf = true) : IntOk n := by
  simp [Lit.wf, IntKind.min, IntKind.max, IntKind.bits, IntKind.signed] at h
  unfold IntOk
  omega
theorem act_in {w : World} {cs : List Value} (h : Rd w 28 cs) : ∃ a : HA, cs = actC a ∧ IntOk a.n := by
  obtain ⟨hl, hf⟩ := h.struct Tryd.underlying28
  rw [show Tryd.prog.cellsOf 28 = 6 by kernel_rfl] at hl
  obtain ⟨y0, y1, y2, y3, y4, y5, rfl⟩ := list6 hl
  obtain ⟨a, e0, w0⟩ := (fld hf 0 3 0 1 rfl zI).int Tryd.underlying3
  obtain ⟨b, e1, w1⟩ := (fld hf 1 3 1 1 rfl zI).int Tryd.underlying3
  obtain ⟨c, e2, w2⟩ := (fld hf 2 3 2 1 rfl zI).int Tryd.underlying3
  obtain ⟨d, e3, w3⟩ := (fld hf 3 3 3 1 rfl zI).int Tryd.underlying3
  obtain ⟨n, e4, w4⟩ := (fld hf 4 3 4 1 rfl zI).int Tryd.underlying3
  obtain ⟨s, e5⟩ := (fld hf 5 9 5 1 rfl zS).str Tryd.underlying9
  simp at e0 e1 e2 e3 e4 e5
  subst e0 e1 e2 e3 e4 e5
  exact ⟨⟨a, b, c, d, n, s⟩, rfl, wf64 w4⟩
theorem acts_of {W : World} {a : Option Addr} {len cap : Nat} (h : Rd W 22 [.slice a len cap]) : ∃ L : List HA, L.length = len ∧ SrcIs W (.slice a L.length cap) L.length (L.flatMap actC) 6 ∧ ∀ x ∈ L, IntOk x.n := by
  obtain ⟨A, n, c, he, hz, hel⟩ := Rd.slice2 Tryd.underlying22 h
  have he2 : a = A ∧ len = n ∧ cap = c := by simpa using he
  obtain ⟨rfl, rfl, rfl⟩ := he2
  cases a with
  | none =>
    obtain ⟨rfl, rfl⟩ := hz rfl
    exact ⟨[], rfl, ⟨rfl, .inl ⟨rfl, rfl⟩⟩, by simp⟩
  | some ad =>
    have hex : ∀ i, ∃ x : HA, i < len → CellsAt W (ad.add (i * 6)) (actC x) ∧ IntOk x.n := by
      intro i
      by_cases hi : i < len
      · obtain ⟨a', c', e', hl, hrd, hc⟩ := hel i hi
        injection e' with e'
        subst e'
        rw [show Tryd.prog.cellsOf 28 = 6 by kernel_rfl] at hc
        obtain ⟨x, rfl, hx⟩ := act_in hrd
        exact ⟨x, fun _ => ⟨hc, hx⟩⟩
      · exact ⟨⟨0, 0, 0, 0, 0, ⟨#[]⟩⟩, fun h => absurd h hi⟩
    obtain ⟨f, hf⟩ := Classical.axiomOfChoice hex
    have hlen : ((List.range len).map f).length = len := by simp
    refine ⟨(List.range len).map f, hlen, ⟨by rw [V.flat_len actC_len], .inr ⟨ad, cap, rfl, fun j u hu => ?_⟩⟩, fun x hx => ?_⟩
    · have hl : j < (((List.range len).map f).flatMap actC).length := (List.getElem?_eq_some_iff.1 hu).1
      rw [V.flat_len actC_len, hlen] at hl
      have hi : j / 6 < len := by omega
      obtain ⟨u', hu'⟩ : ∃ u', (actC (f (j / 6)))[j % 6]? = some u' := ⟨_, List.getElem?_eq_getElem (by rw [actC_len]; omega)⟩
      have h1 := V.flat_get actC_len ((List.range len).map f) (j / 6) (f (j / 6)) (by rw [List.getElem?_map, List.getElem?_range hi]; rfl) (j % 6) u' hu'
      rw [show j / 6 * 6 + j % 6 = j by omega, hu] at h1
      injection h1 with h1
      have h2 := (hf (j / 6) hi).1 (j % 6) u' hu'
      rw [Go.Deep.add_add, show j / 6 * 6 + j % 6 = j by omega] at h2
      rw [h1]
      exact h2
    · obtain ⟨i, hi, rfl⟩ := List.mem_map.1 hx
      exact (hf i (List.mem_range.1 hi)).2
end Go.Proofs.YtcfkdglaedpnjaaDoor.V
