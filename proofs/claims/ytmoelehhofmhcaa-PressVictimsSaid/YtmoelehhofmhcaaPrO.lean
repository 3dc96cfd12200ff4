/- Resources, as numbers: sums, greatest ones, what is above. -/
import Derived.Test.YtmoelehhofmhcaaPrX
namespace Go.Proofs.Ytmoelehhofmhcaa.V
open Go Go.RowKit Go.Proofs.Ytmoelehhofmhcaa.K
set_option linter.unusedVariables false
set_option linter.unusedSimpArgs false
def I64 (z : Int) : Prop := -9223372036854775808 ≤ z ∧ z ≤ 9223372036854775807
def I3 (r : R3) : Prop := I64 r.1 ∧ I64 r.2.1 ∧ I64 r.2.2
/-- A sum; false: it overflows. -/
def add1 (a b : Int) : Int × Bool := if -9223372036854775808 ≤ a + b ∧ a + b ≤ 9223372036854775807 then (a + b, true) else (0, false)
theorem add_ways (a b : Int) (ha : I64 a) (hb : I64 b) : (a + b > 9223372036854775807 ∧ 0 < b ∧ IntKind.i64.wrap (a + b) = a + b - 18446744073709551616) ∨ (a + b < -9223372036854775808 ∧ b < 0 ∧ IntKind.i64.wrap (a + b) = a + b + 18446744073709551616) ∨ ((-9223372036854775808 ≤ a + b ∧ a + b ≤ 9223372036854775807) ∧ 0 < b ∧ IntKind.i64.wrap (a + b) = a + b) ∨ ((-9223372036854775808 ≤ a + b ∧ a + b ≤ 9223372036854775807) ∧ b < 0 ∧ IntKind.i64.wrap (a + b) = a + b) ∨ ((-9223372036854775808 ≤ a + b ∧ a + b ≤ 9223372036854775807) ∧ b = 0 ∧ IntKind.i64.wrap (a + b) = a + b) := by
 unfold I64 at *
 rw [IntKind.wrap_i64]
 omega
theorem add_yes {a b : Int} (h : -9223372036854775808 ≤ a + b ∧ a + b ≤ 9223372036854775807) : add1 a b = (a + b, true) := if_pos h
theorem add_no {a b : Int} (h : ¬ (-9223372036854775808 ≤ a + b ∧ a + b ≤ 9223372036854775807)) : add1 a b = (0, false) := if_neg h
theorem add_i64 (a b : Int) : I64 (add1 a b).1 := by
 unfold add1 I64
 split <;> simp <;> omega
/-- A difference; false: it is below 0, or overflows. -/
def minus1 (a b : Int) : Int × Bool := if b > a then (0, false) else if a - b > 9223372036854775807 then (0, false) else (a - b, true)
def over1 (a b : Int) : Int := if b > a then 0 else if a - b > 9223372036854775807 then 9223372036854775807 else a - b
theorem over_ge (a b : Int) : 0 ≤ over1 a b ∧ over1 a b ≤ 9223372036854775807 := by
 unfold over1
 split
 ·omega
 ·split <;> omega
theorem over_ways (a b : Int) : (b ≤ a ∧ a - b ≤ 9223372036854775807 ∧ minus1 a b = (a - b, true) ∧ over1 a b = a - b) ∨ (b < a ∧ minus1 a b = (0, false) ∧ over1 a b = 9223372036854775807) ∨ (a < b ∧ minus1 a b = (0, false) ∧ over1 a b = 0) := by
 unfold minus1 over1
 rcases (show a < b ∨ (b ≤ a ∧ a - b > 9223372036854775807) ∨ (b ≤ a ∧ a - b ≤ 9223372036854775807) by omega) with h | h | h
 ·exact .inr (.inr ⟨h, if_pos (by omega), if_pos (by omega)⟩)
 ·exact .inr (.inl ⟨by omega, by rw [if_neg (by omega), if_pos h.2], by rw [if_neg (by omega), if_pos h.2]⟩)
 ·exact .inl ⟨h.1, h.2, by rw [if_neg (by omega), if_neg (by omega)], by rw [if_neg (by omega), if_neg (by omega)]⟩
def max3 (a b : R3) : R3 := (max a.1 b.1, max a.2.1 b.2.1, max a.2.2 b.2.2)
def over3 (a b : R3) : R3 := (over1 a.1 b.1, over1 a.2.1 b.2.1, over1 a.2.2 b.2.2)
def add3 (a b : R3) : R3 × Bool := if (add1 a.1 b.1).2 = true ∧ (add1 a.2.1 b.2.1).2 = true ∧ (add1 a.2.2 b.2.2).2 = true then (((add1 a.1 b.1).1, (add1 a.2.1 b.2.1).1, (add1 a.2.2 b.2.2).1), true) else ((0, 0, 0), false)
theorem max_i3 {a b : R3} (ha : I3 a) (hb : I3 b) : I3 (max3 a b) := by
 unfold I3 I64 max3 at *
 simp only
 omega
theorem add_i3 {a b : R3} : I3 (add3 a b).1 := by
 unfold add3
 split
 ·exact ⟨add_i64 _ _, add_i64 _ _, add_i64 _ _⟩
 ·unfold I3 I64
  simp
/-- The sum of all. -/
def sum3 : R3 → List R3 → R3 × Bool
 | s, [] => (s, true)
 | s, r :: l => if (add3 s r).2 = true then sum3 (add3 s r).1 l else ((0, 0, 0), false)
theorem sum_step {L : List R3} {s0 s r : R3} {k : Nat} (h : sum3 s0 L = sum3 s (L.drop k)) (hr : L[k]? = some r) (hok : (add3 s r).2 = true) : sum3 s0 L = sum3 (add3 s r).1 (L.drop (k + 1)) := by
 obtain ⟨hl, rfl⟩ := List.getElem?_eq_some_iff.1 hr
 rw [h, List.drop_eq_getElem_cons hl]
 show (if _ then _ else _) = _
 rw [if_pos hok]
theorem sum_fail {L : List R3} {s0 s r : R3} {k : Nat} (h : sum3 s0 L = sum3 s (L.drop k)) (hr : L[k]? = some r) (hok : (add3 s r).2 = false) : sum3 s0 L = ((0, 0, 0), false) := by
 obtain ⟨hl, rfl⟩ := List.getElem?_eq_some_iff.1 hr
 rw [h, List.drop_eq_getElem_cons hl]
 show (if _ then _ else _) = _
 rw [if_neg (by rw [hok]; simp)]
theorem sum_end {L : List R3} {s0 s : R3} {k : Nat} (h : sum3 s0 L = sum3 s (L.drop k)) (hk : k = L.length) : sum3 s0 L = (s, true) := by
 rw [h, hk, List.drop_length]
 rfl
theorem sum_i3 : ∀ (L : List R3) (s : R3), I3 s → I3 (sum3 s L).1
 | [], s, h => h
 | r :: L, s, h => by
  unfold sum3
  split
  ·exact sum_i3 L _ add_i3
  ·unfold I3 I64
   simp
/-- What containers ask for: the main ones together, of the first ones each. -/
def of3 (M N : List R3) : R3 × Bool := if (sum3 (0, 0, 0) M).2 = true then (N.foldl max3 (sum3 (0, 0, 0) M).1, true) else ((0, 0, 0), false)
theorem fold_i3 : ∀ (N : List R3) (s : R3), I3 s → (∀ r ∈ N, I3 r) → I3 (N.foldl max3 s)
 | [], s, h, _ => h
 | r :: N, s, h, hn => fold_i3 N _ (max_i3 h (hn r (by simp))) fun q hq => hn q (by simp [hq])
theorem zero_i3 : I3 (0, 0, 0) := by
 unfold I3 I64
 simp
theorem of_i3 {M N : List R3} (hn : ∀ r ∈ N, I3 r) : I3 (of3 M N).1 := by
 unfold of3
 split
 ·exact fold_i3 N _ (sum_i3 M _ zero_i3) hn
 ·exact zero_i3
theorem fold_take {N : List R3} {s : R3} {k : Nat} {r : R3} (h : N[k]? = some r) : (N.take (k + 1)).foldl max3 s = max3 ((N.take k).foldl max3 s) r := by
 rw [take_snoc h, List.foldl_append]
 rfl
/-- Three of an array, done up to one. -/
def At3 (f : Int → Int → Int) (x0 x1 x2 y0 y1 y2 v0 v1 v2 : Int) (k : Nat) : Prop := (v0 = if 0 < k then f x0 y0 else x0) ∧ (v1 = if 1 < k then f x1 y1 else x1) ∧ (v2 = if 2 < k then f x2 y2 else x2)
section
variable {f : Int → Int → Int} {x0 x1 x2 y0 y1 y2 v0 v1 v2 : Int}
theorem at3_0 (h : At3 f x0 x1 x2 y0 y1 y2 v0 v1 v2 0) : v0 = x0 ∧ v1 = x1 ∧ v2 = x2 := by simpa [At3] using h
theorem at3_1 (h : At3 f x0 x1 x2 y0 y1 y2 v0 v1 v2 1) : v0 = f x0 y0 ∧ v1 = x1 ∧ v2 = x2 := by simpa [At3] using h
theorem at3_2 (h : At3 f x0 x1 x2 y0 y1 y2 v0 v1 v2 2) : v0 = f x0 y0 ∧ v1 = f x1 y1 ∧ v2 = x2 := by simpa [At3] using h
theorem at3_3 (h : At3 f x0 x1 x2 y0 y1 y2 v0 v1 v2 3) : v0 = f x0 y0 ∧ v1 = f x1 y1 ∧ v2 = f x2 y2 := by simpa [At3] using h
end
/-- A spec's containers in memory: what each asks for. -/
def reqF (w : World) (A : Option Addr) (n : Nat) (M : List R3) : Prop := M.length = n ∧ ∀ i r, M[i]? = some r → I3 r ∧ ∃ a c0 c1 c5 c6 c7 c8 c9 c10, A = some a ∧ CellsAt w (a.add (i * 11)) [c0, c1, .int .i64 r.1, .int .i64 r.2.1, .int .i64 r.2.2, c5, c6, c7, c8, c9, c10] ∧ (c0.oneCell' = true ∧ c1.oneCell' = true ∧ c5.oneCell' = true ∧ c6.oneCell' = true ∧ c7.oneCell' = true ∧ c8.oneCell' = true ∧ c9.oneCell' = true ∧ c10.oneCell' = true)
theorem cells_ch {w w' : World} (c : Ch [] w w') {p : Addr} {xs : List Value} (h : CellsAt w p xs) : CellsAt w' p xs := fun j u hu => by
 have h1 := h j u hu
 exact (c.cell (World.block_lt_of_cell? w _ h1) (by simp)).trans h1
theorem reqF.ch {w w' : World} {A : Option Addr} {n : Nat} {M : List R3} (h : reqF w A n M) (c : Ch [] w w') : reqF w' A n M := ⟨h.1, fun i r hr => by
 obtain ⟨h1, a, c0, c1, c5, c6, c7, c8, c9, c10, h2, h3, h4⟩ := h.2 i r hr
 exact ⟨h1, a, c0, c1, c5, c6, c7, c8, c9, c10, h2, cells_ch c h3, h4⟩⟩
end Go.Proofs.Ytmoelehhofmhcaa.V
