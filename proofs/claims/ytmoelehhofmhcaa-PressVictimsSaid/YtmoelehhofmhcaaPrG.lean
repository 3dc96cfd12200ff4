/- What comes in: cells that read at a type; specs. -/
import Derived.Test.YtmoelehhofmhcaaPrQ
namespace Go.Proofs.Ytmoelehhofmhcaa.V
open Go Go.RowKit Go.Proofs.Ytmoelehhofmhcaa.K Go.Proofs.YtmoelehhofmhcaaW.PrintLast
set_option linter.unusedVariables false
set_option linter.unusedSimpArgs false
set_option maxRecDepth 100000
theorem chB {w w' : World} (h : Below w.heap.size w w') : Ch [] w w' := chBelow h
/-- Cells that read at a type. -/
def Rd (w : World) (T : TypeId) (cs : List Value) : Prop := ∃ (H : Type) (enc : TypeId × Value → H) (base : Nat) (spare : Nat → Bool) (held : Bool) (fuel : Nat) (x : DataW H × List MemPlace), DataW.trod enc Try.prog w base spare held fuel T cs = some x
section
variable {w : World} {T : TypeId} {cs : List Value}
theorem Rd.int {k : IntKind} (ht : Try.prog.underlying T = some (.int k)) (h : Rd w T cs) : ∃ n, cs = [.int k n] := by
 obtain ⟨H, enc, base, spare, held, fuel, x, h⟩ := h
 obtain ⟨n, h1, _⟩ := DataW.trod_int ht h
 exact ⟨n, h1⟩
theorem Rd.str (ht : Try.prog.underlying T = some .string) (h : Rd w T cs) : ∃ s : ByteArray, cs = [.string s] := by
 obtain ⟨H, enc, base, spare, held, fuel, x, h⟩ := h
 obtain ⟨s, h1, _⟩ := DataW.trod_string ht h
 exact ⟨s, h1⟩
theorem Rd.struct {fs : Array Field} (ht : Try.prog.underlying T = some (.struct fs)) (h : Rd w T cs) : cs.length = Try.prog.cellsOf T ∧ ∀ (i : Nat) (f : Field), fs[i]? = some f → Rd w f.type ((cs.drop f.offset).take (Try.prog.cellsOf f.type)) := by
 obtain ⟨H, enc, base, spare, held, fuel, x, h⟩ := h
 obtain ⟨xs, n, _, _, hl, hxl, hf⟩ := DataW.trod_struct ht h
 refine ⟨hl, fun i f hi => ?_⟩
 have h1 := hf i f hi
 have hlt : i < fs.size := (Array.getElem?_eq_some_iff.1 hi).1
 rw [List.getElem?_eq_getElem (by omega)] at h1
 exact ⟨H, enc, base, spare, held, n, _, h1⟩
theorem Rd.slice {e : TypeId} (ht : Try.prog.underlying T = some (.slice e)) (h : Rd w T cs) : ∃ A len cap, cs = [.slice A len cap] ∧ ∀ i, i < len → ∃ a c, A = some a ∧ c.length = Try.prog.cellsOf e ∧ Rd w e c ∧ CellsAt w (a.add (i * Try.prog.cellsOf e)) c := by
 obtain ⟨H, enc, base, spare, held, fuel, x, h⟩ := h
 rcases Go.Deep.open_slice ht h with ⟨hcs, _⟩ | ⟨a, len, cap, m, n, D, Pl, hcs, _, hl, hm, hmm, _, hel⟩
 ·exact ⟨none, 0, 0, hcs, fun i hi => absurd hi (by omega)⟩
 ·refine ⟨some a, len, cap, hcs, fun i hi => ?_⟩
  obtain ⟨cs', hc, htr⟩ := hel i (by rw [hmm]; split <;> omega)
  obtain ⟨_, hlen, hat⟩ := World.cells?_some hc
  exact ⟨a, cs', rfl, hlen, ⟨H, enc, base, spare, held, n, _, htr⟩, fun j u hu => by
   have hj : j < cs'.length := (List.getElem?_eq_some_iff.1 hu).1
   rw [hat j (by omega), hu]⟩
end
theorem z1 : Try.prog.cellsOf 3 = 1 := by kernel_rfl
theorem z2 : Try.prog.cellsOf 50 = 1 := by kernel_rfl
theorem z3 : Try.prog.cellsOf 9 = 1 := by kernel_rfl
theorem z4 : Try.prog.cellsOf 36 = 1 := by kernel_rfl
theorem z5 : Try.prog.cellsOf 39 = 7 := by kernel_rfl
theorem z11 : Try.prog.cellsOf 37 = 1 := by kernel_rfl
theorem z12 : Try.prog.cellsOf 51 = 1 := by kernel_rfl
theorem z13 : Try.prog.cellsOf 23 = 3 := by kernel_rfl
/-- A field's cells. -/
theorem fld {w : World} {fs : Array Field} {cs : List Value} (h : ∀ (i : Nat) (f : Field), fs[i]? = some f → Rd w f.type ((cs.drop f.offset).take (Try.prog.cellsOf f.type))) (i T off n : Nat) (hi : (fs[i]?).map (fun f => (f.type, f.offset)) = some (T, off)) (hn : Try.prog.cellsOf T = n) : Rd w T ((cs.drop off).take n) := by
 cases hf : fs[i]? with
 | none => simp [hf] at hi
 | some f =>
  have h1 : f.type = T ∧ f.offset = off := by simpa [hf] using hi
  have h2 := h i f hf
  rw [h1.1, h1.2, hn] at h2
  exact h2
theorem list2 {l : List Value} (h : l.length = 2) : ∃ (y0 y1 : Value), l = [y0, y1] := by
 match l, h with
 | [y0, y1], _ => exact ⟨_, _, rfl⟩
theorem list11 {l : List Value} (h : l.length = 11) : ∃ (y0 y1 y2 y3 y4 y5 y6 y7 y8 y9 y10 : Value), l = [y0, y1, y2, y3, y4, y5, y6, y7, y8, y9, y10] := by
 match l, h with
 | [y0, y1, y2, y3, y4, y5, y6, y7, y8, y9, y10], _ => exact ⟨_, _, _, _, _, _, _, _, _, _, _, rfl⟩
/-- A spec's labels, and its containers, in memory. -/
def labF (w : World) (A : Option Addr) (n : Nat) (f1 f2 : Nat → ByteArray) : Prop := ∀ i, i < n → ∃ a, A = some a ∧ CellsAt w (a.add (i * 2)) [.string (f1 i), .string (f2 i)]
def conF (w : World) (A : Option Addr) (n : Nat) (f1 f2 : Nat → ByteArray) (m : Nat → Nat) : Prop := ∀ i, i < n → ∃ a v2 v3 v4 v5 v6 v7 B d v9 v10, A = some a ∧ CellsAt w (a.add (i * 11)) [.string (f1 i), .string (f2 i), v2, v3, v4, v5, v6, v7, .slice B (m i) d, v9, v10]
theorem below_cells {w w' : World} (hb : Below w.heap.size w w') {p : Addr} {xs : List Value} (h : CellsAt w p xs) : CellsAt w' p xs := fun j u hu => by
 have h1 := h j u hu
 exact ((chB hb).cell (World.block_lt_of_cell? w _ h1) (by simp)).trans h1
theorem labF.below {w w' : World} {A : Option Addr} {n : Nat} {f1 f2 : Nat → ByteArray} (h : labF w A n f1 f2) (hb : Below w.heap.size w w') : labF w' A n f1 f2 := fun i hi => by
 obtain ⟨a, h1, h2⟩ := h i hi
 exact ⟨a, h1, below_cells hb h2⟩
theorem conF.below {w w' : World} {A : Option Addr} {n : Nat} {f1 f2 : Nat → ByteArray} {m : Nat → Nat} (h : conF w A n f1 f2 m) (hb : Below w.heap.size w w') : conF w' A n f1 f2 m := fun i hi => by
 obtain ⟨a, v2, v3, v4, v5, v6, v7, B, d, v9, v10, h1, h2⟩ := h i hi
 exact ⟨a, v2, v3, v4, v5, v6, v7, B, d, v9, v10, h1, below_cells hb h2⟩
theorem lab_of {w : World} {cs : List Value} (h : Rd w 36 cs) : ∃ A n c f1 f2, cs = [.slice A n c] ∧ labF w A n f1 f2 := by
 obtain ⟨A, n, c, rfl, hel⟩ := h.slice Try.underlying36
 have hex : ∀ i, ∃ p : ByteArray × ByteArray, i < n → ∃ a, A = some a ∧ CellsAt w (a.add (i * 2)) [.string p.1, .string p.2] := by
  intro i
  by_cases hi : i < n
  ·obtain ⟨a, c', rfl, hl, hr, hc⟩ := hel i hi
   rw [show Try.prog.cellsOf 66 = 2 by kernel_rfl] at hl hc
   obtain ⟨y0, y1, rfl⟩ := list2 hl
   obtain ⟨_, hf⟩ := hr.struct Try.underlying66
   obtain ⟨s1, e1⟩ := (fld hf 0 9 0 1 rfl z3).str Try.underlying9
   obtain ⟨s2, e2⟩ := (fld hf 1 9 1 1 rfl z3).str Try.underlying9
   simp at e1 e2
   subst e1 e2
   exact ⟨(s1, s2), fun _ => ⟨a, rfl, hc⟩⟩
  ·exact ⟨(.empty, .empty), fun h => absurd h hi⟩
 obtain ⟨f, hf⟩ := Classical.axiomOfChoice hex
 exact ⟨A, n, c, fun i => (f i).1, fun i => (f i).2, rfl, fun i hi => hf i hi⟩
theorem con_of {w : World} {cs : List Value} (h : Rd w 37 cs) : ∃ A n c f1 f2 m, cs = [.slice A n c] ∧ conF w A n f1 f2 m := by
 obtain ⟨A, n, c, rfl, hel⟩ := h.slice Try.underlying37
 have hex : ∀ i, ∃ p : ByteArray × ByteArray × Nat, i < n → ∃ a v2 v3 v4 v5 v6 v7 B d v9 v10, A = some a ∧ CellsAt w (a.add (i * 11)) [.string p.1, .string p.2.1, v2, v3, v4, v5, v6, v7, .slice B p.2.2 d, v9, v10] := by
  intro i
  by_cases hi : i < n
  ·obtain ⟨a, c', rfl, hl, hr, hc⟩ := hel i hi
   rw [show Try.prog.cellsOf 71 = 11 by kernel_rfl] at hl hc
   obtain ⟨y0, y1, y2, y3, y4, y5, y6, y7, y8, y9, y10, rfl⟩ := list11 hl
   obtain ⟨_, hf⟩ := hr.struct Try.underlying71
   obtain ⟨s1, e1⟩ := (fld hf 0 9 0 1 rfl z3).str Try.underlying9
   obtain ⟨s2, e2⟩ := (fld hf 1 9 1 1 rfl z3).str Try.underlying9
   obtain ⟨B, m, d, e3, _⟩ := (fld hf 4 51 8 1 rfl z12).slice Try.underlying51
   simp at e1 e2 e3
   subst e1 e2 e3
   exact ⟨(s1, s2, m), fun _ => ⟨a, _, _, _, _, _, _, B, d, _, _, rfl, hc⟩⟩
  ·exact ⟨(.empty, .empty, 0), fun h => absurd h hi⟩
 obtain ⟨f, hf⟩ := Classical.axiomOfChoice hex
 exact ⟨A, n, c, fun i => (f i).1, fun i => (f i).2.1, fun i => (f i).2.2, rfl, fun i hi => hf i hi⟩
/-- A spec's cells. -/
def specF (w : World) (cs : List Value) : Prop := ∃ s A1 n1 c1 f1 f2 A2 n2 c2 g1 g2 gm A3 n3 c3 h1 h2 hm z1 z2 z3, cs = [.string s, .slice A1 n1 c1, .slice A2 n2 c2, .slice A3 n3 c3, .int .i64 z1, .int .i64 z2, .int .i64 z3] ∧ labF w A1 n1 f1 f2 ∧ conF w A2 n2 g1 g2 gm ∧ conF w A3 n3 h1 h2 hm
theorem spec_in {w : World} {cs : List Value} (h : Rd w 39 cs) : specF w cs := by
 obtain ⟨hl, hf⟩ := h.struct Try.underlying39
 rw [show Try.prog.cellsOf 39 = 7 by kernel_rfl] at hl
 obtain ⟨y0, y1, y2, y3, y4, y5, y6, rfl⟩ := list7 hl
 obtain ⟨s, e0⟩ := (fld hf 0 9 0 1 rfl z3).str Try.underlying9
 obtain ⟨A1, n1, c1, f1, f2, e1, k1⟩ := lab_of (fld hf 1 36 1 1 rfl z4)
 obtain ⟨A2, n2, c2, g1, g2, gm, e2, k2⟩ := con_of (fld hf 2 37 2 1 rfl z11)
 obtain ⟨A3, n3, c3, h1, h2, hm, e3, k3⟩ := con_of (fld hf 3 37 3 1 rfl z11)
 obtain ⟨z1, e4⟩ := (fld hf 4 3 4 1 rfl z1).int Try.underlying3
 obtain ⟨z2, e5⟩ := (fld hf 5 3 5 1 rfl V.z1).int Try.underlying3
 obtain ⟨z3, e6⟩ := (fld hf 6 3 6 1 rfl V.z1).int Try.underlying3
 simp at e0 e1 e2 e3 e4 e5 e6
 subst e0 e1 e2 e3 e4 e5 e6
 exact ⟨s, A1, n1, c1, f1, f2, A2, n2, c2, g1, g2, gm, A3, n3, c3, h1, h2, hm, z1, z2, z3, rfl, k1, k2, k3⟩
theorem Rd.slice2 {w : World} {T e : TypeId} {cs : List Value} (ht : Try.prog.underlying T = some (.slice e)) (h : Rd w T cs) : ∃ A len cap, cs = [.slice A len cap] ∧ len ≤ 9223372036854775807 ∧ (A = none → len = 0 ∧ cap = 0) ∧ ∀ i, i < len → ∃ a c, A = some a ∧ c.length = Try.prog.cellsOf e ∧ Rd w e c ∧ CellsAt w (a.add (i * Try.prog.cellsOf e)) c := by
 obtain ⟨H, enc, base, spare, held, fuel, x, h⟩ := h
 rcases Go.Deep.open_slice ht h with ⟨hcs, _⟩ | ⟨a, len, cap, m, n, D, Pl, hcs, _, hl, hm, hmm, _, hel⟩
 ·exact ⟨none, 0, 0, hcs, by omega, fun _ => ⟨rfl, rfl⟩, fun i hi => absurd hi (by omega)⟩
 ·refine ⟨some a, len, cap, hcs, by unfold maxLen at hm; omega, (fun h => by cases h), fun i hi => ?_⟩
  obtain ⟨cs', hc, htr⟩ := hel i (by rw [hmm]; split <;> omega)
  obtain ⟨_, hlen, hat⟩ := World.cells?_some hc
  exact ⟨a, cs', rfl, hlen, ⟨H, enc, base, spare, held, n, _, htr⟩, fun j u hu => by
   have hj : j < cs'.length := (List.getElem?_eq_some_iff.1 hu).1
   rw [hat j (by omega), hu]⟩
theorem Rd.intw {w : World} {T : TypeId} {cs : List Value} {k : IntKind} (ht : Try.prog.underlying T = some (.int k)) (h : Rd w T cs) : ∃ n, cs = [.int k n] ∧ (Lit.int k n).wf = true := by
 obtain ⟨H, enc, base, spare, held, fuel, x, h⟩ := h
 obtain ⟨n, h1, _, h2⟩ := DataW.trod_int ht h
 exact ⟨n, h1, h2⟩
theorem bfalse {b : Bool} {p : Prop} (i : b = true ↔ p) (hp : ¬ p) : b = false := by
 cases b with
 | true => exact absurd (i.1 rfl) hp
 | false => rfl
theorem ynT {f : FuncId} {args : Array Value} {w : World} {p : Prop} (h : Calls Try.prog f args w fun en w' => ∃ b, en = .returned (.bool b) ∧ (b = true ↔ p) ∧ Ch [] w w') (hp : p) : Calls Try.prog f args w fun en w' => en = .returned (.bool true) ∧ Ch [] w w' := h.mono fun _ _ ⟨_, e, i, c⟩ => ⟨by rw [e, i.2 hp], c⟩
theorem ynF {f : FuncId} {args : Array Value} {w : World} {p : Prop} (h : Calls Try.prog f args w fun en w' => ∃ b, en = .returned (.bool b) ∧ (b = true ↔ p) ∧ Ch [] w w') (hp : ¬ p) : Calls Try.prog f args w fun en w' => en = .returned (.bool false) ∧ Ch [] w w' := h.mono fun _ _ ⟨_, e, i, c⟩ => ⟨by rw [e, bfalse i hp], c⟩
end Go.Proofs.Ytmoelehhofmhcaa.V
