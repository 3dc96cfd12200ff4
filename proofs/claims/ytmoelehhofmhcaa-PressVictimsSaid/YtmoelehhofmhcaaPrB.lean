/- Pods and what they use, candidates, as lists of cells; sums and limits, as numbers. -/
import Derived.Test.YtmoelehhofmhcaaRows
import Derived.Test.YtmoelehhofmhcaaWeaveF
import Derived.Deep.Slices
import Derived.Deep.Fields
namespace Go.Proofs.Ytmoelehhofmhcaa.V
open Go Go.RowKit Go.Proofs.Ytmoelehhofmhcaa.K
set_option linter.unusedVariables false
set_option linter.unusedSimpArgs false
set_option maxRecDepth 100000
/-- Cells of a struct: so many, each one cell wide. -/
abbrev Cs (n : Nat) := { l : List Value // l.length = n ∧ ∀ u ∈ l, u.oneCell' = true }
/-- A candidate. -/
structure HC where
 uid : Int
 sp : Cs 7
 cpu : Int
 mem : Int
 pids : Int
def candC (x : HC) : List Value := [.int .i64 x.uid] ++ (x.sp.1 ++ [.int .i64 x.cpu, .int .i64 x.mem, .int .i64 x.pids])
theorem candC_len (x : HC) : (candC x).length = 11 := by simp [candC, x.sp.2.1]
theorem candC_one (x : HC) : ∀ u ∈ candC x, u.oneCell' = true := by
 intro u hu
 simp only [candC, List.mem_append, List.mem_cons, List.not_mem_nil, or_false] at hu
 rcases hu with rfl | h | rfl | rfl | rfl
 ·rfl
 ·exact x.sp.2.2 u h
 ·rfl
 ·rfl
 ·rfl
/-- A pod, and what it uses. -/
structure HL where
 uid : Int
 rev : Int
 sp : Cs 7
 ph : Int
 rs : Cs 1
 mrk : Int
 gr : Int
 cpu : Int
 mem : Int
 pids : Int
def loadC (x : HL) : List Value := [.int .i64 x.uid, .int .u64 x.rev] ++ (x.sp.1 ++ ([.int .i64 x.ph] ++ (x.rs.1 ++ [.int .i64 x.mrk, .int .i64 x.gr, .int .i64 x.cpu, .int .i64 x.mem, .int .i64 x.pids])))
theorem loadC_len (x : HL) : (loadC x).length = 16 := by simp [loadC, x.sp.2.1, x.rs.2.1]
theorem loadC_one (x : HL) : ∀ u ∈ loadC x, u.oneCell' = true := by
 intro u hu
 simp only [loadC, List.mem_append, List.mem_cons, List.not_mem_nil, or_false] at hu
 rcases hu with (rfl | rfl) | h | rfl | h | rfl | rfl | rfl | rfl | rfl
 ·rfl
 ·rfl
 ·exact x.sp.2.2 u h
 ·rfl
 ·exact x.rs.2.2 u h
 ·rfl
 ·rfl
 ·rfl
 ·rfl
 ·rfl
theorem list7 {l : List Value} (h : l.length = 7) : ∃ (y0 y1 y2 y3 y4 y5 y6 : Value), l = [y0, y1, y2, y3, y4, y5, y6] := by
 match l, h with
 | [y0, y1, y2, y3, y4, y5, y6], _ => exact ⟨_, _, _, _, _, _, _, rfl⟩
theorem list1 {l : List Value} (h : l.length = 1) : ∃ (y0 : Value), l = [y0] := by
 match l, h with
 | [y0], _ => exact ⟨_, rfl⟩
theorem cand_lits (x : HC) : ∃ (u : Int) (s0 s1 s2 s3 s4 s5 s6 : Value) (c m p : Int), candC x = [.int .i64 u, s0, s1, s2, s3, s4, s5, s6, .int .i64 c, .int .i64 m, .int .i64 p] ∧ x.uid = u ∧ x.sp.1 = [s0, s1, s2, s3, s4, s5, s6] ∧ x.cpu = c ∧ x.mem = m ∧ x.pids = p ∧ ((s0.oneCell' = true ∧ s1.oneCell' = true ∧ s2.oneCell' = true ∧ s3.oneCell' = true) ∧ s4.oneCell' = true ∧ s5.oneCell' = true ∧ s6.oneCell' = true) := by
 obtain ⟨u, ⟨l, h1, h2⟩, c, m, p⟩ := x
 obtain ⟨s0, s1, s2, s3, s4, s5, s6, rfl⟩ := list7 h1
 exact ⟨u, s0, s1, s2, s3, s4, s5, s6, c, m, p, rfl, rfl, rfl, rfl, rfl, rfl, ⟨h2 _ (by simp), h2 _ (by simp), h2 _ (by simp), h2 _ (by simp)⟩, h2 _ (by simp), h2 _ (by simp), h2 _ (by simp)⟩
theorem load_lits (x : HL) : ∃ (u : Int) (rv : Int) (s0 s1 s2 s3 s4 s5 s6 : Value) (ph : Int) (rs : Value) (mk gr c m p : Int), loadC x = [.int .i64 u, .int .u64 rv, s0, s1, s2, s3, s4, s5, s6, .int .i64 ph, rs, .int .i64 mk, .int .i64 gr, .int .i64 c, .int .i64 m, .int .i64 p] ∧ x.uid = u ∧ x.sp.1 = [s0, s1, s2, s3, s4, s5, s6] ∧ x.ph = ph ∧ x.mrk = mk ∧ x.cpu = c ∧ x.mem = m ∧ x.pids = p ∧ ((s0.oneCell' = true ∧ s1.oneCell' = true ∧ s2.oneCell' = true ∧ s3.oneCell' = true) ∧ s4.oneCell' = true ∧ s5.oneCell' = true ∧ s6.oneCell' = true ∧ rs.oneCell' = true) := by
 obtain ⟨u, rv, ⟨l, h1, h2⟩, ph, ⟨r, h3, h4⟩, mk, gr, c, m, p⟩ := x
 obtain ⟨s0, s1, s2, s3, s4, s5, s6, rfl⟩ := list7 h1
 obtain ⟨rs, rfl⟩ := list1 h3
 exact ⟨u, rv, s0, s1, s2, s3, s4, s5, s6, ph, rs, mk, gr, c, m, p, rfl, rfl, rfl, rfl, rfl, rfl, rfl, rfl, ⟨h2 _ (by simp), h2 _ (by simp), h2 _ (by simp), h2 _ (by simp)⟩, h2 _ (by simp), h2 _ (by simp), h2 _ (by simp), h4 _ (by simp)⟩
/-- A load as a candidate, and whether it is one. -/
def candOf (x : HL) : HC := ⟨x.uid, x.sp, x.cpu, x.mem, x.pids⟩
def isCand (x : HL) : Bool := x.ph == 2 && x.mrk == 0
def candsOf (L : List HL) : List HC := (L.filter isCand).map candOf
theorem cands_yes {L : List HL} {k : Nat} {x : HL} (h : L[k]? = some x) (hc : isCand x = true) : candsOf (L.take (k + 1)) = candsOf (L.take k) ++ [candOf x] := by
 obtain ⟨hlt, rfl⟩ := List.getElem?_eq_some_iff.1 h
 unfold candsOf
 rw [List.take_succ_eq_append_getElem hlt, List.filter_append, List.map_append]
 simp only [List.filter_cons, hc, if_true, List.filter_nil, List.map_cons, List.map_nil]
theorem cands_no {L : List HL} {k : Nat} {x : HL} (h : L[k]? = some x) (hc : isCand x = false) : candsOf (L.take (k + 1)) = candsOf (L.take k) := by
 obtain ⟨hlt, rfl⟩ := List.getElem?_eq_some_iff.1 h
 unfold candsOf
 rw [List.take_succ_eq_append_getElem hlt, List.filter_append, List.map_append]
 simp only [List.filter_cons, hc, if_false, Bool.false_eq_true, List.filter_nil, List.map_nil, List.append_nil]
theorem cands_le (L : List HL) : (candsOf L).length ≤ L.length := by
 unfold candsOf
 rw [List.length_map]
 exact List.length_filter_le _ _
/-- A sum up to a greatest one. -/
def plusZ (a b : Int) : Int := min a (4611686018427387904 - b) + b
abbrev R3 := Int × Int × Int
def sumZ (L : List HL) : R3 := L.foldl (fun s x => (plusZ s.1 x.cpu, plusZ s.2.1 x.mem, plusZ s.2.2 x.pids)) (0, 0, 0)
theorem sum_succ {L : List HL} {k : Nat} {x : HL} (h : L[k]? = some x) : sumZ (L.take (k + 1)) = (plusZ (sumZ (L.take k)).1 x.cpu, plusZ (sumZ (L.take k)).2.1 x.mem, plusZ (sumZ (L.take k)).2.2 x.pids) := by
 obtain ⟨hlt, rfl⟩ := List.getElem?_eq_some_iff.1 h
 unfold sumZ
 rw [List.take_succ_eq_append_getElem hlt, List.foldl_append]
 rfl
/-- From 0 to 2 to the power 60. -/
def SmallZ (z : Int) : Prop := 0 ≤ z ∧ z ≤ 1152921504606846976
def SmallL (x : HL) : Prop := SmallZ x.cpu ∧ SmallZ x.mem ∧ SmallZ x.pids
def UptoZ (z : Int) : Prop := 0 ≤ z ∧ z ≤ 4611686018427387904
theorem plus_upto {a b : Int} (ha : UptoZ a) (hb : SmallZ b) : UptoZ (plusZ a b) := by
 unfold UptoZ SmallZ plusZ at *
 omega
theorem sum_upto {L : List HL} (h : ∀ x ∈ L, SmallL x) (k : Nat) : UptoZ (sumZ (L.take k)).1 ∧ UptoZ (sumZ (L.take k)).2.1 ∧ UptoZ (sumZ (L.take k)).2.2 := by
 induction k with
 | zero => simp [sumZ, UptoZ]
 | succ k ih =>
  rcases Nat.lt_or_ge k L.length with hk | hk
  ·rw [sum_succ (List.getElem?_eq_getElem hk)]
   have := h _ (List.getElem_mem hk)
   exact ⟨plus_upto ih.1 this.1, plus_upto ih.2.1 this.2.1, plus_upto ih.2.2 this.2.2⟩
  ·rw [List.take_of_length_le (by omega)]
   rw [List.take_of_length_le hk] at ih
   exact ih
theorem at_ways' {α : Type} {L : List α} {k : Nat} (h : k ≤ L.length) : (∃ o, L[k]? = some o ∧ k < L.length) ∨ k = L.length := by
 rcases Nat.lt_or_ge k L.length with h1 | h1
 ·exact .inl ⟨_, List.getElem?_eq_getElem h1, h1⟩
 ·exact .inr (by omega)
theorem take_snoc {α : Type} {L : List α} {k : Nat} {x : α} (h : L[k]? = some x) : L.take (k + 1) = L.take k ++ [x] := by
 obtain ⟨hlt, rfl⟩ := List.getElem?_eq_some_iff.1 h
 exact List.take_succ_eq_append_getElem hlt
/-- So many hundredths. -/
def limZ (m p : Int) : Int := (m / 100) * (min (max p 0) 100) + (m % 100) * (min (max p 0) 100) / 100
theorem lim_bounds {m p : Int} (h : SmallZ m) : 0 ≤ (m / 100) ∧ (m / 100) ≤ 11529215046068469 ∧ 0 ≤ m % 100 ∧ m % 100 ≤ 99 ∧ 0 ≤ min (max p 0) 100 ∧ min (max p 0) 100 ≤ 100 := by
 unfold SmallZ at h
 omega
section
variable {w w' : World}
theorem src_some {A : Option Addr} {n c sz : Nat} {xs : List Value} (h : SrcIs w (.slice A n c) n xs sz) (hn : 0 < n) : ∃ a, A = some a := by
 rcases h.2 with ⟨h0, _⟩ | ⟨a, c', he, _⟩
 ·omega
 ·injection he with e1 _ _
  exact ⟨a, e1⟩
theorem src_form {v : Value} {n sz : Nat} {xs : List Value} (h : SrcIs w v n xs sz) : ∃ A z, v = .slice A n z := by
 rcases h.2 with ⟨rfl, rfl⟩ | ⟨a, c, rfl, _⟩
 ·exact ⟨_, _, rfl⟩
 ·exact ⟨_, _, rfl⟩
theorem flat_len {α : Type} {f : α → List Value} {m : Nat} (hf : ∀ x, (f x).length = m) (L : List α) : (L.flatMap f).length = L.length * m := by
 induction L with
 | nil => simp
 | cons x L ih => simp [ih, hf, Nat.add_mul, Nat.add_comm]
theorem flat_get {α : Type} {f : α → List Value} {m : Nat} (hf : ∀ x, (f x).length = m) : ∀ (L : List α) (k : Nat) (x : α), L[k]? = some x → ∀ (j : Nat) (u : Value), (f x)[j]? = some u → (L.flatMap f)[k * m + j]? = some u := by
 intro L
 induction L with
 | nil => intro k x h; simp at h
 | cons y L ih =>
  intro k x h j u hu
  have hj : j < m := by rw [← hf x]; exact (List.getElem?_eq_some_iff.1 hu).1
  cases k with
  | zero =>
   have : y = x := by simpa using h
   subst this
   rw [List.flatMap_cons, Nat.zero_mul, Nat.zero_add, List.getElem?_append_left (by rw [hf]; exact hj)]
   exact hu
  | succ k =>
   rw [List.flatMap_cons, List.getElem?_append_right (by rw [hf, Nat.succ_mul]; omega), hf, show (k + 1) * m + j - m = k * m + j by rw [Nat.succ_mul]; omega]
   exact ih k x (by simpa using h) j u hu
/-- An element of a row that is read. -/
theorem src_at {α : Type} {f : α → List Value} {m : Nat} (hf : ∀ x, (f x).length = m) {a : Addr} {n c : Nat} {L : List α} (h : SrcIs w (.slice (some a) n c) n (L.flatMap f) m) {k : Nat} {x : α} (hx : L[k]? = some x) : CellsAt w (a.add (k * m)) (f x) := fun j u hu => by
 rw [Go.Deep.add_add]
 have h1 := flat_get hf L k x hx j u hu
 rcases h.2 with ⟨_, h0⟩ | ⟨a', c', he, hc⟩
 ·cases h0
 ·injection he with e1 _ _
  injection e1 with e1
  subst e1
  exact hc _ _ h1
theorem own_at {α : Type} {f : α → List Value} {m : Nat} (hf : ∀ x, (f x).length = m) {base e g n c : Nat} {L : List α} (h : OwnS w base e m (.slice (some ⟨g, 0, none⟩) n c) n (L.flatMap f)) {k : Nat} {x : α} (hx : L[k]? = some x) : CellsAt w ⟨g, k * m, none⟩ (f x) := by
 have := src_at hf h.src hx
 rwa [add_plain, Nat.zero_add] at this
theorem flat_one {α : Type} {f : α → List Value} (hf : ∀ x, ∀ u ∈ f x, u.oneCell' = true) (L : List α) : ∀ u ∈ L.flatMap f, u.oneCell' = true := fun u hu => by
 obtain ⟨x, _, h⟩ := List.mem_flatMap.1 hu
 exact hf x u h
end
theorem info41 : (Try.prog.info? 41).map (fun i => (i.zero, i.size, i.bytes)) = some (some (.agg #[.int .i64 0, .string ⟨#[]⟩, .slice none 0 0, .slice none 0 0, .slice none 0 0, .int .i64 0, .int .i64 0, .int .i64 0, .int .i64 0, .int .i64 0, .int .i64 0]), 11, 144) := by kernel_rfl
theorem info3 : (Try.prog.info? 3).map (fun i => (i.zero, i.size, i.bytes)) = some (some (.int .i64 0), 1, 8) := by kernel_rfl
theorem info56 : (Try.prog.info? 56).map (fun i => (i.zero, i.size)) = some (some (.agg #[.int .i64 0, .int .u64 0, .string ⟨#[]⟩, .slice none 0 0, .slice none 0 0, .slice none 0 0, .int .i64 0, .int .i64 0, .int .i64 0, .int .i64 0, .slice none 0 0, .int .i64 0, .int .i64 0, .int .i64 0, .int .i64 0, .int .i64 0]), 16) := by kernel_rfl
end Go.Proofs.Ytmoelehhofmhcaa.V
