/- Of loads that come in, an order of their candidates can be reckoned; who is evicted, as lists. -/
import Derived.Test.YtmoelehhofmhcaaPrT
namespace Go.Proofs.Ytmoelehhofmhcaa.V
open Go Go.RowKit Go.Proofs.Ytmoelehhofmhcaa.K Go.Proofs.YtmoelehhofmhcaaW.PrintLast
set_option linter.unusedVariables false
set_option linter.unusedSimpArgs false
set_option maxRecDepth 100000
/-- What a candidate uses of memory above what it asks for. -/
def ovZ (x : HC) (t : List R3 × List R3 × Int) : Int := over1 x.mem (of3 t.1 t.2.1).1.2.1
def czF (F : HC → List R3 × List R3 × Int) (e y : HC) : Int := orZ (cmpI (min (ovZ y (F y)) 1) (min (ovZ e (F e)) 1)) (cmpI (F e).2.2 (F y).2.2) (cmpI (ovZ y (F y)) (ovZ e (F e))) (cmpI y.uid e.uid)
def CandOk (w : World) (x : HC) (t : List R3 × List R3 × Int) : Prop := I3 (x.cpu, x.mem, x.pids) ∧ SpOk w x.sp.1 t.1 t.2.1 t.2.2
theorem cmp_ok {W : World} {X : List HC} {F : HC → List R3 × List R3 × Int} (h : ∀ x ∈ X, CandOk W x (F x)) : CmpOk W X (czF F) := by
 intro k e y he hy w hb
 have h1 := h e (List.mem_of_getElem? he)
 have h2 := h y (List.mem_of_mem_take hy)
 obtain ⟨ue, ⟨le, hle, hoe⟩, ce, me, pe⟩ := e
 obtain ⟨uy, ⟨ly, hly, hoy⟩, cy, my, py⟩ := y
 obtain ⟨i1, s0, s1, A2, c2, A3, c3, q1, q2, e1, o0, o1, r2, r3, m3, m2⟩ := h1
 obtain ⟨i2, t0, t1, B2, d2, B3, d3, p1, p2, e2, o2, o3, r4, r5, m5, m4⟩ := h2
 simp only at e1 e2
 unfold czF ovZ candC
 obtain ⟨Fe, hFe⟩ : ∃ t, t = F ⟨ue, ⟨le, hle, hoe⟩, ce, me, pe⟩ := ⟨_, rfl⟩
 obtain ⟨Fy, hFy⟩ : ∃ t, t = F ⟨uy, ⟨ly, hly, hoy⟩, cy, my, py⟩ := ⟨_, rfl⟩
 rw [← hFe] at e1 r2 r3 m3 m2 ⊢
 rw [← hFy] at e2 r4 r5 m5 m4 ⊢
 simp only [e1, e2]
 exact order_lit o0 o1 (Lib.hid ⟨m3, m2⟩) (Lib.hid (r2.ch (chBelow hb))) (Lib.hid (r3.ch (chBelow hb))) (Lib.hid i1) o2 o3 (Lib.hid ⟨m5, m4⟩) (Lib.hid (r4.ch (chBelow hb))) (Lib.hid (r5.ch (chBelow hb))) (Lib.hid i2)
/-- Loads that are right: few, small, light, with numbers above 0. -/
def RightP (L : List HL) (lr : HL → Bool) : Prop := L.length ≤ 20 ∧ ∀ x ∈ L, SmallL x ∧ lr x = true ∧ 1 ≤ x.uid
theorem lr_of {W : World} {L : List HL} (h : ∀ x ∈ L, LoadOk W x) : ∃ lr : HL → Bool, ∀ x ∈ L, SpecR W x.sp.1 (lr x) ∧ (lr x = true → ∃ M N pr, SpOk W x.sp.1 M N pr) ∧ I3 (x.cpu, x.mem, x.pids) := by
 have hex : ∀ x : HL, ∃ r : Bool, x ∈ L → SpecR W x.sp.1 r ∧ (r = true → ∃ M N pr, SpOk W x.sp.1 M N pr) ∧ I3 (x.cpu, x.mem, x.pids) := by
  intro x
  by_cases hx : x ∈ L
  ·obtain ⟨hi, r, h1, h2⟩ := h x hx
   exact ⟨r, fun _ => ⟨h1, h2, hi⟩⟩
  ·exact ⟨true, fun h => absurd h hx⟩
 obtain ⟨f, hf⟩ := Classical.axiomOfChoice hex
 exact ⟨f, hf⟩
theorem tab_of {W : World} {L : List HL} {lr : HL → Bool} (h : ∀ x ∈ L, SpecR W x.sp.1 (lr x) ∧ (lr x = true → ∃ M N pr, SpOk W x.sp.1 M N pr) ∧ I3 (x.cpu, x.mem, x.pids)) (hr : RightP L lr) : ∃ F : HC → List R3 × List R3 × Int, ∀ x ∈ candsOf L, CandOk W x (F x) := by
 have hex : ∀ x : HC, ∃ t : List R3 × List R3 × Int, x ∈ candsOf L → CandOk W x t := by
  intro x
  by_cases hx : x ∈ candsOf L
  ·unfold candsOf at hx
   obtain ⟨y, hy, rfl⟩ := List.mem_map.1 hx
   have hy := (List.mem_filter.1 hy).1
   obtain ⟨_, h2, h3⟩ := h y hy
   obtain ⟨M, N, pr, hs⟩ := h2 (hr.2 y hy).2.1
   exact ⟨(M, N, pr), fun _ => ⟨h3, hs⟩⟩
  ·exact ⟨([], [], 0), fun h => absurd h hx⟩
 obtain ⟨f, hf⟩ := Classical.axiomOfChoice hex
 exact ⟨f, hf⟩
/-- What the law counts. -/
def someB (L : List HL) : Bool := L.any isCand
def foundB (L : List HL) (u : Int) : Bool := L.any fun x => isCand x && x.uid == u
theorem some_up {L : List HL} {k : Nat} {x : HL} (h : L[k]? = some x) : someB (L.take (k + 1)) = (someB (L.take k) || isCand x) := by
 unfold someB
 rw [take_snoc h, List.any_append]
 simp
theorem found_up {L : List HL} {k : Nat} {x : HL} {u : Int} (h : L[k]? = some x) : foundB (L.take (k + 1)) u = (foundB (L.take k) u || (isCand x && x.uid == u)) := by
 unfold foundB
 rw [take_snoc h, List.any_append]
 simp
theorem found_no {L : List HL} (h : ∀ x ∈ L, 1 ≤ x.uid) : foundB L 0 = false := by
 unfold foundB
 rw [List.any_eq_false]
 intro x hx
 have := h x hx
 simp
 intro _
 omega
theorem some_no {L : List HL} (h : candsOf L = []) : someB L = false := by
 unfold someB
 rw [List.any_eq_false]
 intro x hx hc
 have : candOf x ∈ candsOf L := List.mem_map.2 ⟨x, List.mem_filter.2 ⟨hx, hc⟩, rfl⟩
 rw [h] at this
 simp at this
theorem calm_ways (cz : HC → HC → Int) (L : List HL) (hm pc : Int) (h1 : ∀ x ∈ L, 1 ≤ x.uid) :
  (¬ (sumZ L).2.1 > limZ hm pc ∧ vicP cz L hm pc = (0, false) ∧ foundB L 0 = false) ∨ ((sumZ L).2.1 > limZ hm pc ∧ vicP cz L hm pc = (0, false) ∧ someB L = false ∧ foundB L 0 = false) ∨ ((sumZ L).2.1 > limZ hm pc ∧ ∃ u, vicP cz L hm pc = (u, true) ∧ someB L = true ∧ foundB L u = true) := by
 by_cases hs : (sumZ L).2.1 > limZ hm pc
 ·right
  rcases hc : candsOf L with _ | ⟨c, C⟩
  ·exact .inl ⟨hs, by unfold vicP vicR; rw [if_pos hs, hc]; rfl, some_no hc, found_no h1⟩
  ·right
   obtain ⟨x, hx, hv⟩ := vic_cons (cz := cz) (X := candsOf L) (by rw [hc]; simp)
   refine ⟨hs, x.uid, by unfold vicP; rw [if_pos hs]; exact hv, ?_, ?_⟩
   ·have hm := isort_mem (List.mem_of_getElem? hx)
    obtain ⟨y, hy, rfl⟩ := List.mem_map.1 hm
    unfold someB
    rw [List.any_eq_true]
    exact ⟨y, (List.mem_filter.1 hy).1, (List.mem_filter.1 hy).2⟩
   ·have hm := isort_mem (List.mem_of_getElem? hx)
    obtain ⟨y, hy, rfl⟩ := List.mem_map.1 hm
    unfold foundB
    rw [List.any_eq_true]
    exact ⟨y, (List.mem_filter.1 hy).1, by rw [(List.mem_filter.1 hy).2]; simp [candOf]⟩
 ·exact .inl ⟨hs, by unfold vicP; rw [if_neg hs], found_no h1⟩
theorem lim_100 {m : Int} : limZ m 100 = m := by
 unfold limZ
 rw [show min (max (100 : Int) 0) 100 = 100 by decide]
 omega
theorem vic_all (cz : HC → HC → Int) (L : List HL) : vicP cz L (sumZ L).2.1 100 = (0, false) := by
 unfold vicP
 rw [lim_100, if_neg (by omega)]
theorem cells_sub {w : World} {p : Addr} {xs ys : List Value} (h : CellsAt w p xs) (o : Nat) (hy : (xs.drop o).take ys.length = ys) : CellsAt w (p.add o) ys := fun j u hu => by
 rw [Go.Deep.add_add]
 refine h (o + j) u ?_
 rw [← hy, List.getElem?_take] at hu
 split at hu
 ·rwa [List.getElem?_drop] at hu
 ·cases hu
theorem load_sp (x : HL) : ((loadC x).drop 2).take x.sp.1.length = x.sp.1 := by
 unfold loadC
 simp
theorem load_use (x : HL) : ((loadC x).drop 13).take [Value.int .i64 x.cpu, .int .i64 x.mem, .int .i64 x.pids].length = [.int .i64 x.cpu, .int .i64 x.mem, .int .i64 x.pids] := by
 obtain ⟨u, rv, ⟨l, h1, h2⟩, ph, ⟨r, h3, h4⟩, mk, gr, c, m, p⟩ := x
 obtain ⟨s0, s1, s2, s3, s4, s5, s6, rfl⟩ := list7 h1
 obtain ⟨rs, rfl⟩ := list1 h3
 rfl
theorem load_0 (x : HL) : (loadC x)[0]? = some (.int .i64 x.uid) := rfl
theorem load_9 (x : HL) : (loadC x)[9]? = some (.int .i64 x.ph) := by
 obtain ⟨u, rv, ⟨l, h1, h2⟩, ph, ⟨r, h3, h4⟩, mk, gr, c, m, p⟩ := x
 obtain ⟨s0, s1, s2, s3, s4, s5, s6, rfl⟩ := list7 h1
 obtain ⟨rs, rfl⟩ := list1 h3
 rfl
theorem load_11 (x : HL) : (loadC x)[11]? = some (.int .i64 x.mrk) := by
 obtain ⟨u, rv, ⟨l, h1, h2⟩, ph, ⟨r, h3, h4⟩, mk, gr, c, m, p⟩ := x
 obtain ⟨s0, s1, s2, s3, s4, s5, s6, rfl⟩ := list7 h1
 obtain ⟨rs, rfl⟩ := list1 h3
 rfl
theorem info56b : (Try.prog.info? 56).map (fun i => (i.zero, i.size, i.bytes)) = some (some (.agg #[.int .i64 0, .int .u64 0, .string ⟨#[]⟩, .slice none 0 0, .slice none 0 0, .slice none 0 0, .int .i64 0, .int .i64 0, .int .i64 0, .int .i64 0, .slice none 0 0, .int .i64 0, .int .i64 0, .int .i64 0, .int .i64 0, .int .i64 0]), 16, 200) := by kernel_rfl
end Go.Proofs.Ytmoelehhofmhcaa.V
