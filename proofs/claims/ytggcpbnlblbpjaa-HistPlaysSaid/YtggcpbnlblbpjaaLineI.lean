/- What comes in, of the laws of package line: operations, read cell by cell. -/
import Derived.Test.YtggcpbnlblbpjaaLineB
namespace Go.Proofs.Ytggcpbnlblbpjaa.L
open Go Go.RowKit Go.Proofs.Ytggcpbnlblbpjaa.K Go.Proofs.Ytggcpbnlblbpjaa.H Go.Proofs.YtggcpbnlblbpjaaW.PrintLast
set_option linter.unusedVariables false
set_option linter.unusedSimpArgs false
set_option maxRecDepth 100000
/-- Cells that read at a type. -/
def Rd (w : World) (T : TypeId) (cs : List Value) : Prop := ∃ (H : Type) (enc : TypeId × Value → H) (base : Nat) (spare : Nat → Bool) (held : Bool) (fuel : Nat) (x : DataW H × List MemPlace), DataW.trod enc Try.prog w base spare held fuel T cs = some x
section
variable {w : World} {T : TypeId} {cs : List Value}
theorem Rd.int {k : IntKind} (ht : Try.prog.underlying T = some (.int k)) (h : Rd w T cs) : ∃ n, cs = [.int k n] := by
  obtain ⟨H, enc, base, spare, held, fuel, x, h⟩ := h
  obtain ⟨n, h1, _⟩ := DataW.trod_int ht h
  exact ⟨n, h1⟩
theorem Rd.str (ht : Try.prog.underlying T = some .string) (h : Rd w T cs) : ∃ s : ByteArray, cs = [.string s] := by
  obtain ⟨H, enc, base, spare, held, fuel, x, h⟩ := h
  obtain ⟨s, h1, _⟩ := DataW.trod_string ht h
  exact ⟨s, h1⟩
theorem Rd.struct {fs : Array Field} (ht : Try.prog.underlying T = some (.struct fs)) (h : Rd w T cs) : cs.length = Try.prog.cellsOf T ∧ ∀ (i : Nat) (f : Field), fs[i]? = some f → Rd w f.type ((cs.drop f.offset).take (Try.prog.cellsOf f.type)) := by
  obtain ⟨H, enc, base, spare, held, fuel, x, h⟩ := h
  obtain ⟨xs, n, _, _, hl, hxl, hf⟩ := DataW.trod_struct ht h
  refine ⟨hl, fun i f hi => ?_⟩
  have h1 := hf i f hi
  have hlt : i < fs.size := (Array.getElem?_eq_some_iff.1 hi).1
  rw [List.getElem?_eq_getElem (by omega)] at h1
  exact ⟨H, enc, base, spare, held, n, _, h1⟩
theorem Rd.slice {e : TypeId} (ht : Try.prog.underlying T = some (.slice e)) (h : Rd w T cs) : ∃ A len cap, cs = [.slice A len cap] ∧ ∀ i, i < len → ∃ a c, A = some a ∧ c.length = Try.prog.cellsOf e ∧ Rd w e c ∧ CellsAt w (a.add (i * Try.prog.cellsOf e)) c := by
  obtain ⟨H, enc, base, spare, held, fuel, x, h⟩ := h
  rcases Go.Deep.open_slice ht h with ⟨hcs, _⟩ | ⟨a, len, cap, m, n, D, Pl, hcs, _, hl, hm, hmm, _, hel⟩
  · exact ⟨none, 0, 0, hcs, fun i hi => absurd hi (by omega)⟩
  · refine ⟨some a, len, cap, hcs, fun i hi => ?_⟩
    obtain ⟨cs', hc, htr⟩ := hel i (by rw [hmm]; split <;> omega)
    obtain ⟨_, hlen, hat⟩ := World.cells?_some hc
    exact ⟨a, cs', rfl, hlen, ⟨H, enc, base, spare, held, n, _, htr⟩, fun j u hu => by
      have hj : j < cs'.length := (List.getElem?_eq_some_iff.1 hu).1
      rw [hat j (by omega), hu]⟩
end
theorem z1 : Try.prog.cellsOf 3 = 1 := by kernel_rfl
theorem z2 : Try.prog.cellsOf 26 = 1 := by kernel_rfl
theorem z3 : Try.prog.cellsOf 9 = 1 := by kernel_rfl
theorem z4 : Try.prog.cellsOf 27 = 1 := by kernel_rfl
theorem z5 : Try.prog.cellsOf 30 = 7 := by kernel_rfl
theorem z6 : Try.prog.cellsOf 32 = 16 := by kernel_rfl
theorem z7 : Try.prog.cellsOf 42 = 7 := by kernel_rfl
theorem z8 : Try.prog.cellsOf 35 = 1 := by kernel_rfl
theorem z9 : Try.prog.cellsOf 39 = 1 := by kernel_rfl
theorem z10 : Try.prog.cellsOf 40 = 1 := by kernel_rfl
theorem z11 : Try.prog.cellsOf 28 = 1 := by kernel_rfl
theorem z12 : Try.prog.cellsOf 44 = 1 := by kernel_rfl
theorem z13 : Try.prog.cellsOf 102 = 3 := by kernel_rfl
/-- A field's cells. -/
theorem fld {w : World} {fs : Array Field} {cs : List Value} (h : ∀ (i : Nat) (f : Field), fs[i]? = some f → Rd w f.type ((cs.drop f.offset).take (Try.prog.cellsOf f.type))) (i T off n : Nat) (hi : (fs[i]?).map (fun f => (f.type, f.offset)) = some (T, off)) (hn : Try.prog.cellsOf T = n) : Rd w T ((cs.drop off).take n) := by
  cases hf : fs[i]? with
  | none => simp [hf] at hi
  | some f =>
    have h1 : f.type = T ∧ f.offset = off := by simpa [hf] using hi
    have h2 := h i f hf
    rw [h1.1, h1.2, hn] at h2
    exact h2
theorem list7 {l : List Value} (h : l.length = 7) : ∃ (y0 y1 y2 y3 y4 y5 y6 : Value), l = [y0, y1, y2, y3, y4, y5, y6] := by
  match l, h with
  | [y0, y1, y2, y3, y4, y5, y6], _ => exact ⟨_, _, _, _, _, _, _, rfl⟩
theorem list2 {l : List Value} (h : l.length = 2) : ∃ (y0 y1 : Value), l = [y0, y1] := by
  match l, h with
  | [y0, y1], _ => exact ⟨_, _, rfl⟩
theorem list11 {l : List Value} (h : l.length = 11) : ∃ (y0 y1 y2 y3 y4 y5 y6 y7 y8 y9 y10 : Value), l = [y0, y1, y2, y3, y4, y5, y6, y7, y8, y9, y10] := by
  match l, h with
  | [y0, y1, y2, y3, y4, y5, y6, y7, y8, y9, y10], _ => exact ⟨_, _, _, _, _, _, _, _, _, _, _, rfl⟩
theorem list16 {l : List Value} (h : l.length = 16) : ∃ (x0 x1 x2 x3 x4 x5 x6 x7 x8 x9 x10 x11 x12 x13 x14 x15 : Value), l = [x0, x1, x2, x3, x4, x5, x6, x7, x8, x9, x10, x11, x12, x13, x14, x15] := by
  match l, h with
  | [x0, x1, x2, x3, x4, x5, x6, x7, x8, x9, x10, x11, x12, x13, x14, x15], _ => exact ⟨_, _, _, _, _, _, _, _, _, _, _, _, _, _, _, _, rfl⟩
/-- A spec's labels, and its containers, in memory. -/
def labF (w : World) (A : Option Addr) (n : Nat) (f1 f2 : Nat → ByteArray) : Prop := ∀ i, i < n → ∃ a, A = some a ∧ CellsAt w (a.add (i * 2)) [.string (f1 i), .string (f2 i)]
def conF (w : World) (A : Option Addr) (n : Nat) (f1 f2 : Nat → ByteArray) (m : Nat → Nat) : Prop := ∀ i, i < n → ∃ a v2 v3 v4 v5 v6 v7 B d v9 v10, A = some a ∧ CellsAt w (a.add (i * 11)) [.string (f1 i), .string (f2 i), v2, v3, v4, v5, v6, v7, .slice B (m i) d, v9, v10]
theorem below_cells {w w' : World} (hb : Below w.heap.size w w') {p : Addr} {xs : List Value} (h : CellsAt w p xs) : CellsAt w' p xs := fun j u hu => by
  have h1 := h j u hu
  exact ((chB hb).cell (World.block_lt_of_cell? w _ h1) (by simp)).trans h1
theorem labF.below {w w' : World} {A : Option Addr} {n : Nat} {f1 f2 : Nat → ByteArray} (h : labF w A n f1 f2) (hb : Below w.heap.size w w') : labF w' A n f1 f2 := fun i hi => by
  obtain ⟨a, h1, h2⟩ := h i hi
  exact ⟨a, h1, below_cells hb h2⟩
theorem conF.below {w w' : World} {A : Option Addr} {n : Nat} {f1 f2 : Nat → ByteArray} {m : Nat → Nat} (h : conF w A n f1 f2 m) (hb : Below w.heap.size w w') : conF w' A n f1 f2 m := fun i hi => by
  obtain ⟨a, v2, v3, v4, v5, v6, v7, B, d, v9, v10, h1, h2⟩ := h i hi
  exact ⟨a, v2, v3, v4, v5, v6, v7, B, d, v9, v10, h1, below_cells hb h2⟩
theorem lab_of {w : World} {cs : List Value} (h : Rd w 27 cs) : ∃ A n c f1 f2, cs = [.slice A n c] ∧ labF w A n f1 f2 := by
  obtain ⟨A, n, c, rfl, hel⟩ := h.slice Try.underlying27
  have hex : ∀ i, ∃ p : ByteArray × ByteArray, i < n → ∃ a, A = some a ∧ CellsAt w (a.add (i * 2)) [.string p.1, .string p.2] := by
    intro i
    by_cases hi : i < n
    · obtain ⟨a, c', rfl, hl, hr, hc⟩ := hel i hi
      rw [show Try.prog.cellsOf 91 = 2 by kernel_rfl] at hl hc
      obtain ⟨y0, y1, rfl⟩ := list2 hl
      obtain ⟨_, hf⟩ := hr.struct Try.underlying91
      obtain ⟨s1, e1⟩ := (fld hf 0 9 0 1 rfl z3).str Try.underlying9
      obtain ⟨s2, e2⟩ := (fld hf 1 9 1 1 rfl z3).str Try.underlying9
      simp at e1 e2
      subst e1 e2
      exact ⟨(s1, s2), fun _ => ⟨a, rfl, hc⟩⟩
    · exact ⟨(.empty, .empty), fun h => absurd h hi⟩
  obtain ⟨f, hf⟩ := Classical.axiomOfChoice hex
  exact ⟨A, n, c, fun i => (f i).1, fun i => (f i).2, rfl, fun i hi => hf i hi⟩
theorem con_of {w : World} {cs : List Value} (h : Rd w 28 cs) : ∃ A n c f1 f2 m, cs = [.slice A n c] ∧ conF w A n f1 f2 m := by
  obtain ⟨A, n, c, rfl, hel⟩ := h.slice Try.underlying28
  have hex : ∀ i, ∃ p : ByteArray × ByteArray × Nat, i < n → ∃ a v2 v3 v4 v5 v6 v7 B d v9 v10, A = some a ∧ CellsAt w (a.add (i * 11)) [.string p.1, .string p.2.1, v2, v3, v4, v5, v6, v7, .slice B p.2.2 d, v9, v10] := by
    intro i
    by_cases hi : i < n
    · obtain ⟨a, c', rfl, hl, hr, hc⟩ := hel i hi
      rw [show Try.prog.cellsOf 106 = 11 by kernel_rfl] at hl hc
      obtain ⟨y0, y1, y2, y3, y4, y5, y6, y7, y8, y9, y10, rfl⟩ := list11 hl
      obtain ⟨_, hf⟩ := hr.struct Try.underlying106
      obtain ⟨s1, e1⟩ := (fld hf 0 9 0 1 rfl z3).str Try.underlying9
      obtain ⟨s2, e2⟩ := (fld hf 1 9 1 1 rfl z3).str Try.underlying9
      obtain ⟨B, m, d, e3, _⟩ := (fld hf 4 44 8 1 rfl z12).slice Try.underlying44
      simp at e1 e2 e3
      subst e1 e2 e3
      exact ⟨(s1, s2, m), fun _ => ⟨a, _, _, _, _, _, _, B, d, _, _, rfl, hc⟩⟩
    · exact ⟨(.empty, .empty, 0), fun h => absurd h hi⟩
  obtain ⟨f, hf⟩ := Classical.axiomOfChoice hex
  exact ⟨A, n, c, fun i => (f i).1, fun i => (f i).2.1, fun i => (f i).2.2, rfl, fun i hi => hf i hi⟩
/-- A spec's cells. -/
def specF (w : World) (cs : List Value) : Prop := ∃ s A1 n1 c1 f1 f2 A2 n2 c2 g1 g2 gm A3 n3 c3 h1 h2 hm z1 z2 z3, cs = [.string s, .slice A1 n1 c1, .slice A2 n2 c2, .slice A3 n3 c3, .int .i64 z1, .int .i64 z2, .int .i64 z3] ∧ labF w A1 n1 f1 f2 ∧ conF w A2 n2 g1 g2 gm ∧ conF w A3 n3 h1 h2 hm
theorem spec_in {w : World} {cs : List Value} (h : Rd w 30 cs) : specF w cs := by
  obtain ⟨hl, hf⟩ := h.struct Try.underlying30
  rw [show Try.prog.cellsOf 30 = 7 by kernel_rfl] at hl
  obtain ⟨y0, y1, y2, y3, y4, y5, y6, rfl⟩ := list7 hl
  obtain ⟨s, e0⟩ := (fld hf 0 9 0 1 rfl z3).str Try.underlying9
  obtain ⟨A1, n1, c1, f1, f2, e1, k1⟩ := lab_of (fld hf 1 27 1 1 rfl z4)
  obtain ⟨A2, n2, c2, g1, g2, gm, e2, k2⟩ := con_of (fld hf 2 28 2 1 rfl z11)
  obtain ⟨A3, n3, c3, h1, h2, hm, e3, k3⟩ := con_of (fld hf 3 28 3 1 rfl z11)
  obtain ⟨z1, e4⟩ := (fld hf 4 3 4 1 rfl L.z1).int Try.underlying3
  obtain ⟨z2, e5⟩ := (fld hf 5 3 5 1 rfl L.z1).int Try.underlying3
  obtain ⟨z3, e6⟩ := (fld hf 6 3 6 1 rfl L.z1).int Try.underlying3
  simp at e0 e1 e2 e3 e4 e5 e6
  subst e0 e1 e2 e3 e4 e5 e6
  exact ⟨s, A1, n1, c1, f1, f2, A2, n2, c2, g1, g2, gm, A3, n3, c3, h1, h2, hm, z1, z2, z3, rfl, k1, k2, k3⟩
/-- What an operation's cells are. -/
def okO (w : World) (o : HOp) : Prop := ∃ (x0 x1 x2 x3 x4 x5 x6 x7 x8 x9 x10 x11 x12 x13 x14 x15 y0 y1 y2 y3 y4 y6 : Value) (A : Option Addr) (n c : Nat), o.cl.1 = [x0, x1, x2, x3, x4, x5, x6, x7, x8, x9, x10, x11, x12, x13, x14, x15] ∧ o.rp.1 = [y0, y1, y2, y3, y4, .slice A n c, y6] ∧ specF w [x3, x4, x5, x6, x7, x8, x9]
theorem one1 {v : Value} {T : TypeId} {w : World} {k : IntKind} (ht : Try.prog.underlying T = some (.int k)) (h : Rd w T [v]) : ∃ n, v = .int k n := by
  obtain ⟨n, e⟩ := h.int ht
  exact ⟨n, by simpa using e⟩
theorem one_str {v : Value} {w : World} (h : Rd w 9 [v]) : ∃ s, v = .string s := by
  obtain ⟨n, e⟩ := h.str Try.underlying9
  exact ⟨n, by simpa using e⟩
theorem one_slice {v : Value} {T e : TypeId} {w : World} (ht : Try.prog.underlying T = some (.slice e)) (h : Rd w T [v]) : ∃ A n c, v = .slice A n c := by
  obtain ⟨A, n, c, he, _⟩ := h.slice ht
  exact ⟨A, n, c, by simpa using he⟩
theorem call_in {w : World} {cs : List Value} (h : Rd w 32 cs) : ∃ x0 x1 x2 x3 x4 x5 x6 x7 x8 x9 x10 x11 x12 x13 x14 x15, cs = [x0, x1, x2, x3, x4, x5, x6, x7, x8, x9, x10, x11, x12, x13, x14, x15] ∧ specF w [x3, x4, x5, x6, x7, x8, x9] ∧ ∀ u ∈ cs, u.oneCell' = true := by
  obtain ⟨hl, hf⟩ := h.struct Try.underlying32
  rw [z6] at hl
  obtain ⟨x0, x1, x2, x3, x4, x5, x6, x7, x8, x9, x10, x11, x12, x13, x14, x15, rfl⟩ := list16 hl
  have h0 := fld hf 0 3 0 1 rfl z1
  have h1 := fld hf 1 3 1 1 rfl z1
  have h2 := fld hf 2 26 2 1 rfl z2
  have h3 := fld hf 3 30 3 7 rfl z5
  have h4 := fld hf 4 3 10 1 rfl z1
  have h5 := fld hf 5 3 11 1 rfl z1
  have h6 := fld hf 6 3 12 1 rfl z1
  have h7 := fld hf 7 3 13 1 rfl z1
  have h8 := fld hf 8 9 14 1 rfl z3
  have h9 := fld hf 9 27 15 1 rfl z4
  have hs := spec_in h3
  obtain ⟨v0, rfl⟩ := one1 Try.underlying3 h0
  obtain ⟨v1, rfl⟩ := one1 Try.underlying3 h1
  obtain ⟨v2, rfl⟩ := one1 Try.underlying26 h2
  obtain ⟨v10, rfl⟩ := one1 Try.underlying3 h4
  obtain ⟨v11, rfl⟩ := one1 Try.underlying3 h5
  obtain ⟨v12, rfl⟩ := one1 Try.underlying3 h6
  obtain ⟨v13, rfl⟩ := one1 Try.underlying3 h7
  obtain ⟨v14, rfl⟩ := one_str h8
  obtain ⟨A, n, c, rfl⟩ := one_slice Try.underlying27 h9
  have hs2 : specF w [x3, x4, x5, x6, x7, x8, x9] := hs
  refine ⟨_, _, _, _, _, _, _, _, _, _, _, _, _, _, _, _, rfl, hs2, ?_⟩
  obtain ⟨s, A1, n1, c1, f1, f2, A2, n2, c2, g1, g2, gm, A3, n3, c3, k1, k2, km, q1, q2, q3, he, _⟩ := hs2
  simp only [List.cons.injEq, and_true] at he
  obtain ⟨rfl, rfl, rfl, rfl, rfl, rfl, rfl⟩ := he
  intro u hu
  simp only [List.mem_cons, List.not_mem_nil, or_false] at hu
  rcases hu with rfl | rfl | rfl | rfl | rfl | rfl | rfl | rfl | rfl | rfl | rfl | rfl | rfl | rfl | rfl | rfl <;> rfl
theorem reply_in {w : World} {cs : List Value} (h : Rd w 42 cs) : ∃ y0 y1 y2 y3 y4 y6 A n c, cs = [y0, y1, y2, y3, y4, .slice A n c, y6] ∧ ∀ u ∈ cs, u.oneCell' = true := by
  obtain ⟨hl, hf⟩ := h.struct Try.underlying42
  rw [z7] at hl
  obtain ⟨y0, y1, y2, y3, y4, y5, y6, rfl⟩ := list7 hl
  have h0 := fld hf 0 35 0 1 rfl z8
  have h1 := fld hf 1 3 1 1 rfl z1
  have h2 := fld hf 2 3 2 1 rfl z1
  have h3 := fld hf 3 26 3 1 rfl z2
  have h4 := fld hf 4 9 4 1 rfl z3
  have h5 := fld hf 5 39 5 1 rfl z9
  have h6 := fld hf 6 40 6 1 rfl z10
  obtain ⟨v0, rfl⟩ := one1 Try.underlying35 h0
  obtain ⟨v1, rfl⟩ := one1 Try.underlying3 h1
  obtain ⟨v2, rfl⟩ := one1 Try.underlying3 h2
  obtain ⟨v3, rfl⟩ := one1 Try.underlying26 h3
  obtain ⟨v4, rfl⟩ := one_str h4
  obtain ⟨A, n, c, rfl⟩ := one_slice Try.underlying39 h5
  obtain ⟨A', n', c', rfl⟩ := one_slice Try.underlying40 h6
  refine ⟨_, _, _, _, _, _, A, n, c, rfl, ?_⟩
  intro u hu
  simp only [List.mem_cons, List.not_mem_nil, or_false] at hu
  rcases hu with rfl | rfl | rfl | rfl | rfl | rfl | rfl <;> rfl
theorem op_in {w : World} {cs : List Value} (h : Rd w 59 cs) : ∃ o : HOp, cs = opC o ∧ okO w o := by
  obtain ⟨hl, hf⟩ := h.struct Try.underlying59
  rw [show Try.prog.cellsOf 59 = 28 by kernel_rfl] at hl
  have h0 := fld hf 0 3 0 1 rfl z1
  have h1 := fld hf 1 3 1 1 rfl z1
  have h2 := fld hf 2 3 2 1 rfl z1
  have h3 := fld hf 3 3 3 1 rfl z1
  have h4 := fld hf 4 3 4 1 rfl z1
  have h5 := fld hf 5 32 5 16 rfl z6
  have h6 := fld hf 6 42 21 7 rfl z7
  obtain ⟨v0, e0⟩ := h0.int Try.underlying3
  obtain ⟨v1, e1⟩ := h1.int Try.underlying3
  obtain ⟨v2, e2⟩ := h2.int Try.underlying3
  obtain ⟨v3, e3⟩ := h3.int Try.underlying3
  obtain ⟨v4, e4⟩ := h4.int Try.underlying3
  obtain ⟨x0, x1, x2, x3, x4, x5, x6, x7, x8, x9, x10, x11, x12, x13, x14, x15, ec, hs, hone⟩ := call_in h5
  obtain ⟨y0, y1, y2, y3, y4, y6, A, n, c, er, hone2⟩ := reply_in h6
  have step : ∀ k, cs.drop k = (cs.drop k).take 1 ++ cs.drop (k + 1) := fun k => by
    rw [← List.drop_drop]
    exact (List.take_append_drop 1 (cs.drop k)).symm
  have hlast : cs.drop 5 = (cs.drop 5).take 16 ++ (cs.drop 21).take 7 := by
    rw [show cs.drop 21 = (cs.drop 5).drop 16 by rw [List.drop_drop], List.take_of_length_le (l := (cs.drop 5).drop 16) (by simp; omega)]
    exact (List.take_append_drop 16 (cs.drop 5)).symm
  refine ⟨⟨v0, v1, v2, v3, v4, ⟨(cs.drop 5).take 16, by rw [List.length_take, List.length_drop, hl]; rfl, hone⟩, ⟨(cs.drop 21).take 7, by rw [List.length_take, List.length_drop, hl]; rfl, hone2⟩⟩, ?_, x0, x1, x2, x3, x4, x5, x6, x7, x8, x9, x10, x11, x12, x13, x14, x15, y0, y1, y2, y3, y4, y6, A, n, c, ec, er, hs⟩
  unfold opC
  simp only
  have q0 := step 0
  have q1 := step 1
  have q2 := step 2
  have q3 := step 3
  have q4 := step 4
  rw [e0] at q0
  rw [e1] at q1
  rw [e2] at q2
  rw [e3] at q3
  rw [e4] at q4
  rw [List.drop_zero] at q0
  have h9 := q0.trans (congrArg ([Value.int .i64 v0] ++ ·) (q1.trans (congrArg ([Value.int .i64 v1] ++ ·) (q2.trans (congrArg ([Value.int .i64 v2] ++ ·) (q3.trans (congrArg ([Value.int .i64 v3] ++ ·) (q4.trans (congrArg ([Value.int .i64 v4] ++ ·) hlast)))))))))
  exact h9
theorem cells_flat {w : World} {a : Addr} {L : List HOp} (h : ∀ i o, L[i]? = some o → CellsAt w (a.add (i * 28)) (opC o)) : CellsAt w a (L.flatMap opC) := fun j u hu => by
  have hl : j < (L.flatMap opC).length := (List.getElem?_eq_some_iff.1 hu).1
  rw [flat_len opC_len] at hl
  have hi : j / 28 < L.length := by omega
  have h1 := h (j / 28) _ (List.getElem?_eq_getElem hi) (j % 28) u (by
    rw [← flat_at opC_len L (j / 28) hi, List.getElem?_take, if_pos (by omega), List.getElem?_drop, show j / 28 * 28 + j % 28 = j by omega]
    exact hu)
  rw [Go.Deep.add_add, show j / 28 * 28 + j % 28 = j by omega] at h1
  exact h1
/-- Operations that came in. -/
def In59 (W : World) (a : Option Addr) (len cap : Nat) : Prop := Rd W 51 [.slice a len cap] ∧ (a = none → len = 0 ∧ cap = 0) ∧ len ≤ maxLen
theorem ops_of {W : World} {a : Option Addr} {len cap : Nat} (h : In59 W a len cap) : ∃ L : List HOp, L.length = len ∧ L.length ≤ maxLen ∧ SrcIs W (.slice a L.length cap) L.length (L.flatMap opC) 28 ∧ ∀ o ∈ L, okO W o := by
  obtain ⟨hr, hz, hm⟩ := h
  cases a with
  | none =>
    obtain ⟨rfl, rfl⟩ := hz rfl
    exact ⟨[], rfl, by simp, ⟨rfl, .inl ⟨rfl, rfl⟩⟩, by simp⟩
  | some ad =>
    obtain ⟨A, n, c, he, hel⟩ := hr.slice Try.underlying51
    have he2 : some ad = A ∧ len = n ∧ cap = c := by simpa using he
    obtain ⟨rfl, rfl, rfl⟩ := he2
    have hex : ∀ i, ∃ o : HOp, i < len → CellsAt W (ad.add (i * 28)) (opC o) ∧ okO W o := by
      intro i
      by_cases hi : i < len
      · obtain ⟨a', c', e', hl, hrd, hc⟩ := hel i hi
        injection e' with e'
        subst e'
        rw [show Try.prog.cellsOf 59 = 28 by kernel_rfl] at hc
        obtain ⟨o, rfl, ho⟩ := op_in hrd
        exact ⟨o, fun _ => ⟨hc, ho⟩⟩
      · exact ⟨⟨0, 0, 0, 0, 0, ZC, ZR⟩, fun h => absurd h hi⟩
    obtain ⟨f, hf⟩ := Classical.axiomOfChoice hex
    have hlen : ((List.range len).map f).length = len := by simp
    refine ⟨(List.range len).map f, hlen, by rw [hlen]; exact hm, ⟨by rw [flat_len opC_len], .inr ⟨ad, cap, rfl, cells_flat fun i o ho => ?_⟩⟩, fun o ho => ?_⟩
    · have hi : i < len := by
        have := (List.getElem?_eq_some_iff.1 ho).1
        simpa using this
      rw [List.getElem?_map, List.getElem?_range hi] at ho
      injection ho with ho
      subst ho
      exact (hf i hi).1
    · obtain ⟨i, hi, rfl⟩ := List.mem_map.1 ho
      exact (hf i (List.mem_range.1 hi)).2
end Go.Proofs.Ytggcpbnlblbpjaa.L
