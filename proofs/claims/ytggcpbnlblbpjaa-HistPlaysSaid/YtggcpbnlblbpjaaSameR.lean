/- What comes in, of a call: it is the same as itself in all later worlds. -/
import Derived.Test.YtggcpbnlblbpjaaIsO
namespace Go.Proofs.Ytggcpbnlblbpjaa.L
open Go Go.RowKit Go.Proofs.Ytggcpbnlblbpjaa.K Go.Proofs.Ytggcpbnlblbpjaa.H Go.Proofs.YtggcpbnlblbpjaaW.PrintLast
set_option linter.unusedVariables false
set_option linter.unusedSimpArgs false
set_option maxRecDepth 100000
theorem Rd.slice2 {w : World} {T e : TypeId} {cs : List Value} (ht : Try.prog.underlying T = some (.slice e)) (h : Rd w T cs) : ∃ A len cap, cs = [.slice A len cap] ∧ len ≤ 9223372036854775807 ∧ (A = none → len = 0 ∧ cap = 0) ∧ ∀ i, i < len → ∃ a c, A = some a ∧ c.length = Try.prog.cellsOf e ∧ Rd w e c ∧ CellsAt w (a.add (i * Try.prog.cellsOf e)) c := by
  obtain ⟨H, enc, base, spare, held, fuel, x, h⟩ := h
  rcases Go.Deep.open_slice ht h with ⟨hcs, _⟩ | ⟨a, len, cap, m, n, D, Pl, hcs, _, hl, hm, hmm, _, hel⟩
  · exact ⟨none, 0, 0, hcs, by omega, fun _ => ⟨rfl, rfl⟩, fun i hi => absurd hi (by omega)⟩
  · refine ⟨some a, len, cap, hcs, by unfold maxLen at hm; omega, (fun h => by cases h), fun i hi => ?_⟩
    obtain ⟨cs', hc, htr⟩ := hel i (by rw [hmm]; split <;> omega)
    obtain ⟨_, hlen, hat⟩ := World.cells?_some hc
    exact ⟨a, cs', rfl, hlen, ⟨H, enc, base, spare, held, n, _, htr⟩, fun j u hu => by
      have hj : j < cs'.length := (List.getElem?_eq_some_iff.1 hu).1
      rw [hat j (by omega), hu]⟩
theorem lab_of2 {w : World} {cs : List Value} (h : Rd w 27 cs) : ∃ A n c f1 f2, cs = [.slice A n c] ∧ n ≤ 9223372036854775807 ∧ labF w A n f1 f2 := by
  obtain ⟨A, n, c, rfl, hm, _, _⟩ := h.slice2 Try.underlying27
  obtain ⟨A', n', c', f1, f2, he, hl⟩ := lab_of h
  injection he with he _
  injection he with h1 h2 h3
  subst h1 h2 h3
  exact ⟨_, _, _, f1, f2, rfl, hm, hl⟩
theorem ints_of {w : World} {cs : List Value} (h : Rd w 44 cs) : ∃ (B : Option Addr) (d : Nat) (M : List Int), cs = [.slice B M.length d] ∧ M.length ≤ 9223372036854775807 ∧ SrcIs w (.slice B M.length d) M.length (M.map (Value.int .i64)) 1 := by
  obtain ⟨A, n, c, rfl, hm, hz, hel⟩ := h.slice2 Try.underlying44
  cases A with
  | none =>
    obtain ⟨rfl, rfl⟩ := hz rfl
    exact ⟨none, 0, [], rfl, by simp, ⟨rfl, .inl ⟨rfl, rfl⟩⟩⟩
  | some a =>
    have hex : ∀ i, ∃ x : Int, i < n → CellsAt w (a.add i) [.int .i64 x] := by
      intro i
      by_cases hi : i < n
      · obtain ⟨a', c', ha, hl, hr, hc⟩ := hel i hi
        injection ha with ha
        subst ha
        rw [show Try.prog.cellsOf 3 = 1 by kernel_rfl, Nat.mul_one] at hc
        obtain ⟨x, rfl⟩ := hr.int Try.underlying3
        exact ⟨x, fun _ => hc⟩
      · exact ⟨0, fun h => absurd h hi⟩
    obtain ⟨f, hf⟩ := Classical.axiomOfChoice hex
    have hlen : ((List.range n).map f).length = n := by simp
    refine ⟨some a, c, (List.range n).map f, by rw [hlen], by rw [hlen]; exact hm, ⟨by simp, .inr ⟨a, c, rfl, fun j u hu => ?_⟩⟩⟩
    have hj : j < n := by
      have := (List.getElem?_eq_some_iff.1 hu).1
      simpa using this
    rw [List.getElem?_map, List.getElem?_map, List.getElem?_range hj] at hu
    have := hf j hj 0 _ rfl
    rw [Go.Deep.add_add] at this
    rw [← hu]
    simpa using this
theorem conG_of {w : World} {cs : List Value} (h : Rd w 28 cs) : ∃ A n c, cs = [.slice A n c] ∧ n ≤ 9223372036854775807 ∧ conG w A n := by
  obtain ⟨A, n, c, rfl, hm, _, hel⟩ := h.slice2 Try.underlying28
  refine ⟨A, n, c, rfl, hm, fun i hi => ?_⟩
  obtain ⟨a, c', rfl, hl, hr, hc⟩ := hel i hi
  rw [show Try.prog.cellsOf 106 = 11 by kernel_rfl] at hl hc
  obtain ⟨y0, y1, y2, y3, y4, y5, y6, y7, y8, y9, y10, rfl⟩ := list11 hl
  obtain ⟨_, hf⟩ := hr.struct Try.underlying106
  obtain ⟨s1, e1⟩ := (fld hf 0 9 0 1 rfl z3).str Try.underlying9
  obtain ⟨s2, e2⟩ := (fld hf 1 9 1 1 rfl z3).str Try.underlying9
  obtain ⟨l1, g1⟩ := (fld hf 2 102 2 3 rfl z13).struct Try.underlying102
  obtain ⟨l2, g2⟩ := (fld hf 3 102 5 3 rfl z13).struct Try.underlying102
  obtain ⟨r0, q0⟩ := (fld g1 0 3 0 1 rfl z1).int Try.underlying3
  obtain ⟨r1, q1⟩ := (fld g1 1 3 1 1 rfl z1).int Try.underlying3
  obtain ⟨r2, q2⟩ := (fld g1 2 3 2 1 rfl z1).int Try.underlying3
  obtain ⟨r3, q3⟩ := (fld g2 0 3 0 1 rfl z1).int Try.underlying3
  obtain ⟨r4, q4⟩ := (fld g2 1 3 1 1 rfl z1).int Try.underlying3
  obtain ⟨r5, q5⟩ := (fld g2 2 3 2 1 rfl z1).int Try.underlying3
  obtain ⟨B, d, M, e3, hM, hS⟩ := ints_of (fld hf 4 44 8 1 rfl z12)
  obtain ⟨lp, gp⟩ := (fld hf 5 104 9 2 rfl (by kernel_rfl)).struct Try.underlying104
  obtain ⟨p0, e4⟩ := (fld gp 0 3 0 1 rfl z1).int Try.underlying3
  obtain ⟨p1, e5⟩ := (fld gp 1 3 1 1 rfl z1).int Try.underlying3
  simp at e1 e2 e3 e4 e5 q0 q1 q2 q3 q4 q5
  subst e1 e2 e3 e4 e5 q0 q1 q2 q3 q4 q5
  exact ⟨a, s1, s2, r0, r1, r2, r3, r4, r5, B, d, M, p0, p1, rfl, hc, hM, hS⟩
theorem conG.below {w w' : World} {A : Option Addr} {n : Nat} (h : conG w A n) (hb : Below w.heap.size w w') : conG w' A n := fun i hi => by
  obtain ⟨a, s1, s2, r0, r1, r2, r3, r4, r5, B, d, M, p0, p1, hA, hc, hM, hS⟩ := h i hi
  exact ⟨a, s1, s2, r0, r1, r2, r3, r4, r5, B, d, M, p0, p1, hA, below_cells hb hc, hM, hS.chx (chB hb) xnin_nil⟩
theorem sameK_of {w : World} {A : Option Addr} {n c : Nat} (hn : n ≤ 9223372036854775807) (h : conG w A n) : SameK w A n c := fun w' hb => scon_ (Lib.hid hn) (Lib.hid (h.below hb))
theorem sameS_of {w : World} {cs : List Value} (h : Rd w 30 cs) : SameS w cs := by
  obtain ⟨hl, hf⟩ := h.struct Try.underlying30
  rw [show Try.prog.cellsOf 30 = 7 by kernel_rfl] at hl
  obtain ⟨y0, y1, y2, y3, y4, y5, y6, rfl⟩ := list7 hl
  obtain ⟨s, e0⟩ := (fld hf 0 9 0 1 rfl z3).str Try.underlying9
  obtain ⟨A1, n1, c1, f1, f2, e1, m1, k1⟩ := lab_of2 (fld hf 1 27 1 1 rfl z4)
  obtain ⟨A2, n2, c2, e2, m2, k2⟩ := conG_of (fld hf 2 28 2 1 rfl z11)
  obtain ⟨A3, n3, c3, e3, m3, k3⟩ := conG_of (fld hf 3 28 3 1 rfl z11)
  obtain ⟨q1, e4⟩ := (fld hf 4 3 4 1 rfl L.z1).int Try.underlying3
  obtain ⟨q2, e5⟩ := (fld hf 5 3 5 1 rfl L.z1).int Try.underlying3
  obtain ⟨q3, e6⟩ := (fld hf 6 3 6 1 rfl L.z1).int Try.underlying3
  simp at e0 e1 e2 e3 e4 e5 e6
  subst e0 e1 e2 e3 e4 e5 e6
  intro w' hb
  refine sspec_ (Lib.hid ?_) (Lib.hid ?_) (Lib.hid m1) (Lib.hid (k1.below hb))
  · intro w2 hb2
    exact sameK_of m2 k2 w2 (hb.trans (hb2.mono (hb.size)))
  · intro w2 hb2
    exact sameK_of m3 k3 w2 (hb.trans (hb2.mono (hb.size)))
theorem sameC_of {w : World} {cs : List Value} (h : Rd w 32 cs) : SameC w cs := by
  obtain ⟨hl, hf⟩ := h.struct Try.underlying32
  rw [z6] at hl
  obtain ⟨x0, x1, x2, x3, x4, x5, x6, x7, x8, x9, x10, x11, x12, x13, x14, x15, rfl⟩ := list16 hl
  have h3 := fld hf 3 30 3 7 rfl z5
  have hs := sameS_of h3
  have hsp := spec_in h3
  obtain ⟨v0, rfl⟩ := one1 Try.underlying3 (fld hf 0 3 0 1 rfl z1)
  obtain ⟨v1, rfl⟩ := one1 Try.underlying3 (fld hf 1 3 1 1 rfl z1)
  obtain ⟨v2, rfl⟩ := one1 Try.underlying26 (fld hf 2 26 2 1 rfl z2)
  obtain ⟨v10, rfl⟩ := one1 Try.underlying3 (fld hf 4 3 10 1 rfl z1)
  obtain ⟨v11, rfl⟩ := one1 Try.underlying3 (fld hf 5 3 11 1 rfl z1)
  obtain ⟨v12, rfl⟩ := one1 Try.underlying3 (fld hf 6 3 12 1 rfl z1)
  obtain ⟨v13, rfl⟩ := one1 Try.underlying3 (fld hf 7 3 13 1 rfl z1)
  obtain ⟨v14, rfl⟩ := one_str (fld hf 8 9 14 1 rfl z3)
  obtain ⟨A, n, c, f1, f2, e9, m9, k9⟩ := lab_of2 (fld hf 9 27 15 1 rfl z4)
  simp at e9
  subst e9
  have hs2 : SameS w [x3, x4, x5, x6, x7, x8, x9] := hs
  have hsp2 : specF w [x3, x4, x5, x6, x7, x8, x9] := hsp
  obtain ⟨s, A1, n1, c1, f1', f2', A2, n2, c2, g1, g2, gm, A3, n3, c3, k1, k2, km, q1, q2, q3, he, _⟩ := hsp2
  simp only [List.cons.injEq, and_true] at he
  obtain ⟨rfl, rfl, rfl, rfl, rfl, rfl, rfl⟩ := he
  intro w' hb
  refine scall_ (Lib.hid ?_) (Lib.hid m9) (Lib.hid (k9.below hb))
  intro w2 hb2
  exact hs2 w2 (hb.trans (hb2.mono hb.size))
theorem sameC_zero (w : World) : SameC w ZC.1 := fun w' hb => by
  refine scall_ (A := none) (n := 0) (c := 0) (f1 := fun _ => .empty) (f2 := fun _ => .empty) (Lib.hid ?_) (Lib.hid (by omega)) (Lib.hid (fun i hi => absurd hi (by omega)))
  intro w2 hb2
  refine sspec_ (f1 := fun _ => .empty) (f2 := fun _ => .empty) (Lib.hid ?_) (Lib.hid ?_) (Lib.hid (by omega)) (Lib.hid (fun i hi => absurd hi (by omega)))
  · exact sameK_of (by omega) (fun i hi => absurd hi (by omega))
  · exact sameK_of (by omega) (fun i hi => absurd hi (by omega))
theorem sameP_id (w : World) (y0 y1 y2 y3 : Int) (y4 : ByteArray) : SameP w [.int .i64 y0, .int .i64 y1, .int .i64 y2, .int .u64 y3, .string y4, .slice none 0 0, .slice none 0 0] := fun w' hb => sreply_
/-- All of an operation is the same as itself in all later worlds. -/
def OpOk (w : World) (o : HOp) : Prop := SameC w o.cl.1 ∧ SameP w o.rp.1
end Go.Proofs.Ytggcpbnlblbpjaa.L
