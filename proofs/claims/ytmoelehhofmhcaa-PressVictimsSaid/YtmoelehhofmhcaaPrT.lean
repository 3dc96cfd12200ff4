/- What comes in: pods and what they use. -/
import Derived.Test.YtmoelehhofmhcaaPrH
namespace Go.Proofs.Ytmoelehhofmhcaa.V
open Go Go.RowKit Go.Proofs.Ytmoelehhofmhcaa.K Go.Proofs.YtmoelehhofmhcaaW.PrintLast
set_option linter.unusedVariables false
set_option linter.unusedSimpArgs false
set_option maxRecDepth 100000
theorem wf64 {z : Int} (h : (Lit.int .i64 z).wf = true) : I64 z := by
 have h1 : (decide (IntKind.i64.min ≤ z) && decide (z ≤ IntKind.i64.max)) = true := h
 rw [show IntKind.i64.min = -9223372036854775808 by decide, show IntKind.i64.max = 9223372036854775807 by decide] at h1
 simp only [Bool.and_eq_true, decide_eq_true_eq] at h1
 exact h1
theorem oneS {w : World} {T e : TypeId} {v : Value} (ht : Try.prog.underlying T = some (.slice e)) (h : Rd w T [v]) : v.oneCell' = true := by
 obtain ⟨A, n, c, he, _⟩ := h.slice ht
 have : v = .slice A n c := by simpa using he
 rw [this]
 rfl
theorem list3 {l : List Value} (h : l.length = 3) : ∃ (y0 y1 y2 : Value), l = [y0, y1, y2] := by
 match l, h with
 | [y0, y1, y2], _ => exact ⟨_, _, _, rfl⟩
theorem list16' {l : List Value} (h : l.length = 16) : ∃ (x0 x1 x2 x3 x4 x5 x6 x7 x8 x9 x10 x11 x12 x13 x14 x15 : Value), l = [x0, x1, x2, x3, x4, x5, x6, x7, x8, x9, x10, x11, x12, x13, x14, x15] := by
 match l, h with
 | [x0, x1, x2, x3, x4, x5, x6, x7, x8, x9, x10, x11, x12, x13, x14, x15], _ => exact ⟨_, _, _, _, _, _, _, _, _, _, _, _, _, _, _, _, rfl⟩
/-- Resources that come in. -/
theorem res_in {w : World} {cs : List Value} (h : Rd w 23 cs) : ∃ a b c : Int, cs = [.int .i64 a, .int .i64 b, .int .i64 c] ∧ I3 (a, b, c) := by
 obtain ⟨hl, hf⟩ := h.struct Try.underlying23
 rw [show Try.prog.cellsOf 23 = 3 by kernel_rfl] at hl
 obtain ⟨y0, y1, y2, rfl⟩ := list3 hl
 obtain ⟨a, e0, w0⟩ := (fld hf 0 3 0 1 rfl z1).intw Try.underlying3
 obtain ⟨b, e1, w1⟩ := (fld hf 1 3 1 1 rfl z1).intw Try.underlying3
 obtain ⟨c, e2, w2⟩ := (fld hf 2 3 2 1 rfl z1).intw Try.underlying3
 simp at e0 e1 e2
 subst e0 e1 e2
 exact ⟨a, b, c, rfl, wf64 w0, wf64 w1, wf64 w2⟩
theorem req_of {w : World} {cs : List Value} (h : Rd w 37 cs) : ∃ A n c M, cs = [.slice A n c] ∧ reqF w A n M := by
 obtain ⟨A, n, c, rfl, hel⟩ := h.slice Try.underlying37
 have hex : ∀ i, ∃ r : R3, i < n → I3 r ∧ ∃ a c0 c1 c5 c6 c7 c8 c9 c10, A = some a ∧ CellsAt w (a.add (i * 11)) [c0, c1, .int .i64 r.1, .int .i64 r.2.1, .int .i64 r.2.2, c5, c6, c7, c8, c9, c10] ∧ (c0.oneCell' = true ∧ c1.oneCell' = true ∧ c5.oneCell' = true ∧ c6.oneCell' = true ∧ c7.oneCell' = true ∧ c8.oneCell' = true ∧ c9.oneCell' = true ∧ c10.oneCell' = true) := by
  intro i
  by_cases hi : i < n
  ·obtain ⟨a, c', rfl, hl, hr, hc⟩ := hel i hi
   rw [show Try.prog.cellsOf 71 = 11 by kernel_rfl] at hl hc
   obtain ⟨y0, y1, y2, y3, y4, y5, y6, y7, y8, y9, y10, rfl⟩ := list11 hl
   obtain ⟨_, hf⟩ := hr.struct Try.underlying71
   obtain ⟨s1, e1⟩ := (fld hf 0 9 0 1 rfl z3).str Try.underlying9
   obtain ⟨s2, e2⟩ := (fld hf 1 9 1 1 rfl z3).str Try.underlying9
   obtain ⟨a0, a1, a2, e3, hi3⟩ := res_in (fld hf 2 23 2 3 rfl z13)
   obtain ⟨b0, b1, b2, e4, _⟩ := res_in (fld hf 3 23 5 3 rfl z13)
   have h8 := oneS Try.underlying51 (v := y8) (fld hf 4 51 8 1 rfl z12)
   obtain ⟨_, gp⟩ := (fld hf 5 69 9 2 rfl (by kernel_rfl)).struct Try.underlying69
   obtain ⟨p0, e5⟩ := (fld gp 0 3 0 1 rfl z1).int Try.underlying3
   obtain ⟨p1, e6⟩ := (fld gp 1 3 1 1 rfl z1).int Try.underlying3
   simp at e1 e2 e3 e4 e5 e6
   obtain ⟨rfl, rfl, rfl⟩ := e3
   obtain ⟨rfl, rfl, rfl⟩ := e4
   subst e1 e2 e5 e6
   exact ⟨(a0, a1, a2), fun _ => ⟨hi3, a, _, _, _, _, _, _, _, _, rfl, hc, rfl, rfl, rfl, rfl, rfl, h8, rfl, rfl⟩⟩
  ·exact ⟨(0, 0, 0), fun h => absurd h hi⟩
 obtain ⟨f, hf⟩ := Classical.axiomOfChoice hex
 refine ⟨A, n, c, (List.range n).map f, rfl, by simp, fun i r hr => ?_⟩
 have hi : i < n := by
  have := (List.getElem?_eq_some_iff.1 hr).1
  simpa using this
 rw [List.getElem?_map, List.getElem?_range hi] at hr
 have : f i = r := by simpa using hr
 subst this
 exact hf i hi
/-- A spec in memory, as the order of candidates reads it. -/
def SpOk (w : World) (sp : List Value) (M N : List R3) (pr : Int) : Prop := ∃ s0 s1 A2 c2 A3 c3 q1 q2, sp = [s0, s1, .slice A2 N.length c2, .slice A3 M.length c3, .int .i64 q1, .int .i64 q2, .int .i64 pr] ∧ s0.oneCell' = true ∧ s1.oneCell' = true ∧ reqF w A2 N.length N ∧ reqF w A3 M.length M ∧ M.length ≤ 1000 ∧ N.length ≤ 1000
theorem spec_ok {w : World} {cs : List Value} (h : Rd w 39 cs) : ∃ r, SpecR w cs r ∧ (r = true → ∃ M N pr, SpOk w cs M N pr) := by
 obtain ⟨s, A1, n1, c1, f1, f2, A2, n2, c2, g1, g2, gm, A3, n3, c3, h1, h2, hm, q1, q2, q3, rfl, k1, k2, k3⟩ := spec_in h
 obtain ⟨_, hf⟩ := h.struct Try.underlying39
 obtain ⟨A2', n2', c2', N, e2, hN⟩ := req_of (fld hf 2 37 2 1 rfl z11)
 obtain ⟨A3', n3', c3', M, e3, hM⟩ := req_of (fld hf 3 37 3 1 rfl z11)
 simp at e2 e3
 obtain ⟨rfl, rfl, rfl⟩ := e2
 obtain ⟨rfl, rfl, rfl⟩ := e3
 by_cases hp : specP s n1 f1 f2 n2 g1 g2 gm n3 h1 h2 hm
 ·refine ⟨true, fun w' hb => ynT (lightSpec_ (Lib.hid (k1.below hb)) (Lib.hid (k2.below hb)) (Lib.hid (k3.below hb))) hp, fun _ => ⟨M, N, q3, _, _, A2, c2, A3, c3, q1, q2, by rw [hN.1, hM.1], rfl, rfl, by rw [hN.1]; exact hN, by rw [hM.1]; exact hM, ?_, ?_⟩⟩
  ·rw [hM.1]; have := hp.1; omega
  ·rw [hN.1]; have := hp.1; omega
 ·exact ⟨false, fun w' hb => ynF (lightSpec_ (Lib.hid (k1.below hb)) (Lib.hid (k2.below hb)) (Lib.hid (k3.below hb))) hp, fun h => by cases h⟩
/-- A load that comes in. -/
def LoadOk (w : World) (x : HL) : Prop := I3 (x.cpu, x.mem, x.pids) ∧ ∃ r, SpecR w x.sp.1 r ∧ (r = true → ∃ M N pr, SpOk w x.sp.1 M N pr)
theorem load_in {w : World} {cs : List Value} (h : Rd w 55 cs) : ∃ x : HL, cs = loadC x ∧ LoadOk w x ∧ Rd w 39 x.sp.1 := by
 obtain ⟨hl, hf⟩ := h.struct Try.underlying55
 rw [show Try.prog.cellsOf 55 = 16 by kernel_rfl] at hl
 obtain ⟨x0, x1, x2, x3, x4, x5, x6, x7, x8, x9, x10, x11, x12, x13, x14, x15, rfl⟩ := list16' hl
 have hp := fld hf 0 53 0 13 rfl (by kernel_rfl)
 obtain ⟨c, m, p, e13, hi3⟩ := res_in (fld hf 1 23 13 3 rfl z13)
 obtain ⟨_, gp⟩ := hp.struct Try.underlying53
 obtain ⟨u, e0⟩ := (fld gp 0 3 0 1 rfl z1).int Try.underlying3
 obtain ⟨rv, e1⟩ := (fld gp 1 50 1 1 rfl z2).int Try.underlying50
 have hs := fld gp 2 39 2 7 rfl z5
 obtain ⟨ph, e9⟩ := (fld gp 3 3 9 1 rfl z1).int Try.underlying3
 have h10 := oneS Try.underlying51 (v := x10) (fld gp 4 51 10 1 rfl z12)
 obtain ⟨mk, e11⟩ := (fld gp 5 3 11 1 rfl z1).int Try.underlying3
 obtain ⟨gr, e12⟩ := (fld gp 6 3 12 1 rfl z1).int Try.underlying3
 simp at e0 e1 e9 e11 e12 e13
 obtain ⟨rfl, rfl, rfl⟩ := e13
 subst e0 e1 e9 e11 e12
 have hs2 : Rd w 39 [x2, x3, x4, x5, x6, x7, x8] := hs
 obtain ⟨s, A1, n1, c1, f1, f2, A2, n2, c2, g1, g2, gm, A3, n3, c3, k1, k2, km, q1, q2, q3, he, _⟩ := spec_in hs2
 have hone : ∀ v ∈ [x2, x3, x4, x5, x6, x7, x8], v.oneCell' = true := by
  rw [he]
  simp [Value.oneCell']
 exact ⟨⟨u, rv, ⟨[x2, x3, x4, x5, x6, x7, x8], rfl, hone⟩, ph, ⟨[x10], rfl, by simpa using h10⟩, mk, gr, c, m, p⟩, rfl, ⟨hi3, spec_ok hs2⟩, hs2⟩
/-- The loads that come in. -/
def In28 (W : World) (a : Option Addr) (len cap : Nat) : Prop := Rd W 28 [.slice a len cap]
theorem loads_of2 {W : World} {a : Option Addr} {len cap : Nat} (h : In28 W a len cap) : ∃ L : List HL, L.length = len ∧ L.length ≤ 9223372036854775807 ∧ SrcIs W (.slice a L.length cap) L.length (L.flatMap loadC) 16 ∧ ∀ x ∈ L, LoadOk W x ∧ Rd W 39 x.sp.1 := by
 obtain ⟨A, n, c, he, hm, hz, hel⟩ := Rd.slice2 Try.underlying28 h
 have he2 : a = A ∧ len = n ∧ cap = c := by simpa using he
 obtain ⟨rfl, rfl, rfl⟩ := he2
 cases a with
 | none =>
  obtain ⟨rfl, rfl⟩ := hz rfl
  exact ⟨[], rfl, by simp, ⟨rfl, .inl ⟨rfl, rfl⟩⟩, by simp⟩
 | some ad =>
  have hex : ∀ i, ∃ x : HL, i < len → CellsAt W (ad.add (i * 16)) (loadC x) ∧ LoadOk W x ∧ Rd W 39 x.sp.1 := by
   intro i
   by_cases hi : i < len
   ·obtain ⟨a', c', e', hl, hrd, hc⟩ := hel i hi
    injection e' with e'
    subst e'
    rw [show Try.prog.cellsOf 55 = 16 by kernel_rfl] at hc
    obtain ⟨x, rfl, hx⟩ := load_in hrd
    exact ⟨x, fun _ => ⟨hc, hx⟩⟩
   ·exact ⟨loadW, fun h => absurd h hi⟩
  obtain ⟨f, hf⟩ := Classical.axiomOfChoice hex
  have hlen : ((List.range len).map f).length = len := by simp
  refine ⟨(List.range len).map f, hlen, by rw [hlen]; exact hm, ⟨by rw [flat_len loadC_len], .inr ⟨ad, cap, rfl, fun j u hu => ?_⟩⟩, fun x hx => ?_⟩
  ·have hl : j < (((List.range len).map f).flatMap loadC).length := (List.getElem?_eq_some_iff.1 hu).1
   rw [flat_len loadC_len, hlen] at hl
   have hi : j / 16 < len := by omega
   obtain ⟨u', hu'⟩ : ∃ u', (loadC (f (j / 16)))[j % 16]? = some u' := ⟨_, List.getElem?_eq_getElem (by rw [loadC_len]; omega)⟩
   have h1 := flat_get loadC_len ((List.range len).map f) (j / 16) (f (j / 16)) (by rw [List.getElem?_map, List.getElem?_range hi]; rfl) (j % 16) u' hu'
   rw [show j / 16 * 16 + j % 16 = j by omega, hu] at h1
   injection h1 with h1
   have h2 := (hf (j / 16) hi).1 (j % 16) u' hu'
   rw [Go.Deep.add_add, show j / 16 * 16 + j % 16 = j by omega] at h2
   rw [h1]
   exact h2
  ·obtain ⟨i, hi, rfl⟩ := List.mem_map.1 hx
   exact (hf i (List.mem_range.1 hi)).2
theorem loads_of {W : World} {a : Option Addr} {len cap : Nat} (h : In28 W a len cap) : ∃ L : List HL, L.length = len ∧ L.length ≤ 9223372036854775807 ∧ SrcIs W (.slice a L.length cap) L.length (L.flatMap loadC) 16 ∧ ∀ x ∈ L, LoadOk W x := by
 obtain ⟨L, h1, h2, h3, h4⟩ := loads_of2 h
 exact ⟨L, h1, h2, h3, fun x hx => (h4 x hx).1⟩
end Go.Proofs.Ytmoelehhofmhcaa.V
