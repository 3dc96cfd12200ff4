/- Sorting places by when their operations were done: the order that is stable, as lists. -/
import Derived.Test.YtggcpbnlblbpjaaLineA
namespace Go.Proofs.Ytggcpbnlblbpjaa.L
open Go Go.RowKit Go.Proofs.Ytggcpbnlblbpjaa.K Go.Proofs.Ytggcpbnlblbpjaa.H Go.Proofs.YtggcpbnlblbpjaaW.PrintLast
set_option linter.unusedVariables false
set_option linter.unusedSimpArgs false
def kd (L : List HOp) (z : Int) : Int := match L[z.toNat]? with | some o => o.d | none => 0
/-- A place in the list. -/
def inL (L : List HOp) (z : Int) : Prop := ∃ (i : Nat) (o : HOp), z = (i : Int) ∧ L[i]? = some o ∧ kd L z = o.d
theorem inL_of {L : List HOp} {i : Nat} {o : HOp} (h : L[i]? = some o) : inL L (i : Int) := ⟨i, o, rfl, h, by unfold kd; rw [Int.toNat_natCast, h]⟩
def lx (L : List HOp) (x y : Int) : Prop := kd L x < kd L y ∨ (kd L x = kd L y ∧ x < y)
theorem lx_trans {L : List HOp} {x y z : Int} (h : lx L x y) (k : lx L y z) : lx L x z := by unfold lx at *; omega
theorem lx_le {L : List HOp} {x y : Int} (h : lx L x y) : kd L x ≤ kd L y := by unfold lx at h; omega
theorem lx_not {L : List HOp} {x y : Int} (h : ¬ kd L y < kd L x) (hi : x < y) : lx L x y := by unfold lx; omega
abbrev srt (L : List HOp) (A : List Int) : Prop := A.Pairwise (lx L)
/-! A row, and two of it exchanged. -/
abbrev vi : Int → Value := Value.int .i64
theorem row_at1 (U T : List Int) (x : Int) : ((U ++ x :: T).map vi)[U.length]? = some (vi x) := by simp
theorem row_at2 (U V T : List Int) (x y : Int) : ((U ++ x :: (V ++ y :: T)).map vi)[U.length + 1 + V.length]? = some (vi y) := by
  rw [show U ++ x :: (V ++ y :: T) = (U ++ x :: V) ++ y :: T by simp, show U.length + 1 + V.length = (U ++ x :: V).length by simp; omega]
  exact row_at1 _ _ _
theorem row_set1 (U T : List Int) (x y : Int) : ((U ++ x :: T).map vi).set U.length (vi y) = (U ++ y :: T).map vi := by simp
theorem row_set2 (U V T : List Int) (x y z : Int) : ((U ++ x :: (V ++ y :: T)).map vi).set (U.length + 1 + V.length) (vi z) = (U ++ x :: (V ++ z :: T)).map vi := by
  rw [show U ++ x :: (V ++ y :: T) = (U ++ x :: V) ++ y :: T by simp, show U.length + 1 + V.length = (U ++ x :: V).length by simp; omega, row_set1]
  simp
theorem sw_12 (U V T : List Int) (x y : Int) : (((U ++ x :: (V ++ y :: T)).map vi).set U.length (vi y)).set (U.length + 1 + V.length) (vi x) = (U ++ y :: (V ++ x :: T)).map vi := by rw [row_set1, row_set2]
theorem sw_21 (U V T : List Int) (x y : Int) : (((U ++ x :: (V ++ y :: T)).map vi).set (U.length + 1 + V.length) (vi x)).set U.length (vi y) = (U ++ y :: (V ++ x :: T)).map vi := by rw [row_set2, row_set1]
/-- A list, taken apart at a place. -/
theorem apart {A : List Int} {k : Nat} (h : k < A.length) : ∃ x, A[k]? = some x ∧ A.drop k = x :: A.drop (k + 1) ∧ A.take (k + 1) = A.take k ++ [x] := ⟨A[k], List.getElem?_eq_getElem h, List.drop_eq_getElem_cons h, List.take_succ_eq_append_getElem h⟩
/-- Two stretches of one length, exchanged up to a place. -/
def rowK (U A V B W : List Int) (k : Nat) : List Int := U ++ ((B.take k ++ A.drop k) ++ (V ++ ((A.take k ++ B.drop k) ++ W)))
theorem rowK_zero (U A V B W : List Int) : rowK U A V B W 0 = U ++ (A ++ (V ++ (B ++ W))) := by simp [rowK]
theorem rowK_end (U A V B W : List Int) (h : A.length = B.length) : rowK U A V B W B.length = U ++ (B ++ (V ++ (A ++ W))) := by
  unfold rowK
  rw [List.take_of_length_le (Nat.le_refl _), List.drop_of_length_le (by omega), List.take_of_length_le (by omega), List.drop_of_length_le (Nat.le_refl _)]
  simp
theorem rowK_step (U A V B W : List Int) {k : Nat} (h : A.length = B.length) (hk : k < B.length) : ∃ (x y : Int) (U1 V1 T1 : List Int), rowK U A V B W k = U1 ++ x :: (V1 ++ y :: T1) ∧ rowK U A V B W (k + 1) = U1 ++ y :: (V1 ++ x :: T1) ∧ U1.length = U.length + k ∧ U1.length + 1 + V1.length = U.length + B.length + V.length + k ∧ x ∈ A ∧ y ∈ B := by
  obtain ⟨x, hx, ha, hat⟩ := apart (A := A) (k := k) (by omega)
  obtain ⟨y, hy, hb, hbt⟩ := apart (A := B) hk
  refine ⟨x, y, U ++ B.take k, A.drop (k + 1) ++ (V ++ A.take k), B.drop (k + 1) ++ W, ?_, ?_, ?_, ?_, List.mem_of_getElem? hx, List.mem_of_getElem? hy⟩
  · unfold rowK
    rw [ha, hb]
    simp
  · unfold rowK
    rw [hat, hbt]
    simp
  · simp; omega
  · simp; omega
/-! Inserting. -/
theorem insert_end {L : List HOp} {B1 B2 : List Int} {e : Int} (hs : srt L (B1 ++ B2)) (h2 : ∀ y ∈ B2, lx L e y) (h1 : ∀ y ∈ B1, lx L y e) : srt L (B1 ++ e :: B2) := by
  unfold srt at *
  rw [List.pairwise_append] at hs ⊢
  refine ⟨hs.1, List.pairwise_cons.2 ⟨h2, hs.2.1⟩, fun a ha b hb => ?_⟩
  rcases List.mem_cons.1 hb with rfl | hb
  · exact h1 a ha
  · exact hs.2.2 a ha b hb
theorem below_last {L : List HOp} {B1 B2 : List Int} {y e : Int} (hs : srt L ((B1 ++ [y]) ++ B2)) (h : lx L y e) : ∀ z ∈ B1 ++ [y], lx L z e := by
  unfold srt at hs
  rw [List.pairwise_append, List.pairwise_append] at hs
  intro z hz
  rcases List.mem_append.1 hz with hz | hz
  · exact lx_trans (hs.1.2.2 z hz y (by simp)) h
  · rw [List.mem_singleton] at hz
    subst hz
    exact h
theorem last_ways (B : List Int) : B = [] ∨ ∃ B1 y, B = B1 ++ [y] := by
  rcases List.eq_nil_or_concat B with h | ⟨B1, y, h⟩
  · exact .inl h
  · exact .inr ⟨B1, y, by rw [h, List.concat_eq_append]⟩
/-- What the sort of a stretch leaves: the same places, in order. -/
def sorts (L : List HOp) (A A' : List Int) : Prop := A'.Perm A ∧ srt L A'
theorem sorts_nil (L : List HOp) : sorts L [] [] := ⟨List.Perm.refl _, List.Pairwise.nil⟩
theorem sorts_snoc {L : List HOp} {A B1 B2 : List Int} {e : Int} (h : sorts L A (B1 ++ B2)) (h2 : ∀ y ∈ B2, lx L e y) (h1 : ∀ y ∈ B1, lx L y e) : sorts L (A ++ [e]) (B1 ++ e :: B2) :=
  ⟨(List.perm_middle).trans ((List.Perm.cons e h.1).trans (List.perm_append_singleton e A).symm), insert_end h.2 h2 h1⟩
theorem ins_ways (L : List HOp) (B : List Int) (e : Int) : B = [] ∨ (∃ C y, B = C ++ [y] ∧ kd L e < kd L y) ∨ (∃ C y, B = C ++ [y] ∧ ¬ kd L e < kd L y) := by
  rcases last_ways B with h | ⟨C, y, h⟩
  · exact .inl h
  · by_cases h1 : kd L e < kd L y
    · exact .inr (.inl ⟨C, y, h, h1⟩)
    · exact .inr (.inr ⟨C, y, h, h1⟩)
theorem sorts_take1 (L : List HOp) (A : List Int) : sorts L (A.take 1) (A.take 1) := ⟨List.Perm.refl _, by
  cases A with
  | nil => exact List.Pairwise.nil
  | cons x A => exact List.pairwise_singleton _ _⟩
theorem take_before {L : List HOp} {A : List Int} (hr : A.Pairwise (· < ·)) (hi : ∀ z ∈ A, inL L z) {k : Nat} {e : Int} (he : A[k]? = some e) {y : Int} (hy : y ∈ A.take k) : y < e ∧ inL L y := by
  obtain ⟨hk, rfl⟩ := List.getElem?_eq_some_iff.1 he
  obtain ⟨i, hi', rfl⟩ := List.mem_iff_getElem.1 hy
  rw [List.length_take] at hi'
  rw [List.getElem_take]
  exact ⟨(List.pairwise_iff_getElem.1 hr) i k (by omega) hk (by omega), hi _ (List.getElem_mem _)⟩
/-! Merging. -/
/-- All of the one lie ahead of all of the other, as places. -/
def ahead (A B : List Int) : Prop := ∀ x ∈ A, ∀ y ∈ B, x < y
theorem srt_at {L : List HOp} {A : List Int} (h : srt L A) {i j : Nat} (hij : i < j) (hj : j < A.length) : lx L (A[i]'(by omega)) A[j] := (List.pairwise_iff_getElem.1 h) i j (by omega) hj hij
theorem srt_le {L : List HOp} {A : List Int} (h : srt L A) {i j : Nat} (hij : i ≤ j) (hj : j < A.length) : kd L (A[i]'(by omega)) ≤ kd L A[j] := by
  rcases Nat.lt_or_eq_of_le hij with h1 | h1
  · exact lx_le (srt_at h h1 hj)
  · subst h1
    exact Int.le_refl _
/-- One put into a row that is in order: all ahead of place s are less, none from s on. -/
theorem merge_left {L : List HOp} {B : List Int} {x : Int} {s : Nat} (hs : srt L B) (ha : ahead [x] B) (hsl : s ≤ B.length) (h1 : ∀ i (hi : i < B.length), i < s → kd L B[i] < kd L x) (h2 : ∀ i (hi : i < B.length), s ≤ i → ¬ kd L B[i] < kd L x) : sorts L ([x] ++ B) (B.take s ++ x :: B.drop s) := by
  refine ⟨?_, insert_end (by rw [List.take_append_drop]; exact hs) (fun y hy => ?_) (fun y hy => ?_)⟩
  · refine List.perm_middle.trans ?_
    rw [List.take_append_drop]
    exact List.Perm.refl _
  · obtain ⟨i, hi, rfl⟩ := List.mem_iff_getElem.1 hy
    rw [List.length_drop] at hi
    rw [List.getElem_drop]
    have := h2 (s + i) (by omega) (by omega)
    exact lx_not this (ha x (by simp) _ (List.getElem_mem _))
  · obtain ⟨i, hi, rfl⟩ := List.mem_iff_getElem.1 hy
    rw [List.length_take] at hi
    rw [List.getElem_take]
    exact .inl (h1 i (by omega) (by omega))
theorem merge_right {L : List HOp} {A : List Int} {y : Int} {s : Nat} (hs : srt L A) (ha : ahead A [y]) (hsl : s ≤ A.length) (h1 : ∀ i (hi : i < A.length), i < s → ¬ kd L y < kd L A[i]) (h2 : ∀ i (hi : i < A.length), s ≤ i → kd L y < kd L A[i]) : sorts L (A ++ [y]) (A.take s ++ y :: A.drop s) := by
  refine ⟨?_, insert_end (by rw [List.take_append_drop]; exact hs) (fun z hz => ?_) (fun z hz => ?_)⟩
  · refine List.perm_middle.trans ?_
    rw [List.take_append_drop]
    exact (List.perm_append_singleton y A).symm
  · obtain ⟨i, hi, rfl⟩ := List.mem_iff_getElem.1 hz
    rw [List.length_drop] at hi
    rw [List.getElem_drop]
    exact .inl (h2 (s + i) (by omega) (by omega))
  · obtain ⟨i, hi, rfl⟩ := List.mem_iff_getElem.1 hz
    rw [List.length_take] at hi
    rw [List.getElem_take]
    exact lx_not (h1 i (by omega) (by omega)) (ha _ (List.getElem_mem _) y (by simp))
theorem row_part1 {U A R : List Int} {i p : Nat} {x : Int} (h : A[i]? = some x) (hp : p = U.length + i) : ((U ++ (A ++ R)).map vi)[p]? = some (vi x) := by
  have hl := (List.getElem?_eq_some_iff.1 h).1
  rw [List.getElem?_map, hp, List.getElem?_append_right (by omega), show U.length + i - U.length = i by omega, List.getElem?_append_left hl, h]
  rfl
theorem row_part2 {U A B R : List Int} {i p : Nat} {x : Int} (h : B[i]? = some x) (hp : p = U.length + A.length + i) : ((U ++ (A ++ (B ++ R))).map vi)[p]? = some (vi x) := by
  rw [show U ++ (A ++ (B ++ R)) = (U ++ A) ++ (B ++ R) by simp]
  exact row_part1 h (by rw [List.length_append]; exact hp)
/-- A search in a row that is in order, for what is put in from the left. -/
def bsL (L : List HOp) (B : List Int) (x : Int) (s r : Nat) : Prop := (∀ i (hi : i < B.length), i < s → kd L B[i] < kd L x) ∧ (∀ i (hi : i < B.length), r ≤ i → ¬ kd L B[i] < kd L x)
theorem bsL_start (L : List HOp) (B : List Int) (x : Int) : bsL L B x 0 B.length := ⟨fun i _ h => absurd h (by omega), fun i hi h => absurd hi (by omega)⟩
theorem bsL_up {L : List HOp} {B : List Int} {x y : Int} {s r h r' : Nat} (hs : srt L B) (hb : bsL L B x s r) (hy : B[h]? = some y) (hc : kd L y < kd L x) (hr : r' = r) : bsL L B x (h + 1) r' := by
  subst hr
  obtain ⟨hl, rfl⟩ := List.getElem?_eq_some_iff.1 hy
  exact ⟨fun i hi h1 => Int.lt_of_le_of_lt (srt_le hs (Nat.le_of_lt_succ h1) hl) hc, hb.2⟩
theorem bsL_down {L : List HOp} {B : List Int} {x y : Int} {s r h s' : Nat} (hs : srt L B) (hb : bsL L B x s r) (hy : B[h]? = some y) (hc : ¬ kd L y < kd L x) (hr : s' = s) : bsL L B x s' h := by
  subst hr
  obtain ⟨hl, rfl⟩ := List.getElem?_eq_some_iff.1 hy
  exact ⟨hb.1, fun i hi h1 => by have := srt_le hs h1 hi; omega⟩
/-- The same, from the right. -/
def bsR (L : List HOp) (A : List Int) (y : Int) (s r : Nat) : Prop := (∀ i (hi : i < A.length), i < s → ¬ kd L y < kd L A[i]) ∧ (∀ i (hi : i < A.length), r ≤ i → kd L y < kd L A[i])
theorem bsR_start (L : List HOp) (A : List Int) (y : Int) : bsR L A y 0 A.length := ⟨fun i _ h => absurd h (by omega), fun i hi h => absurd hi (by omega)⟩
theorem bsR_up {L : List HOp} {A : List Int} {x y : Int} {s r h r' : Nat} (hs : srt L A) (hb : bsR L A y s r) (hx : A[h]? = some x) (hc : ¬ kd L y < kd L x) (hr : r' = r) : bsR L A y (h + 1) r' := by
  subst hr
  obtain ⟨hl, rfl⟩ := List.getElem?_eq_some_iff.1 hx
  exact ⟨fun i hi h1 => by have := srt_le hs (Nat.le_of_lt_succ h1) hl; omega, hb.2⟩
theorem bsR_down {L : List HOp} {A : List Int} {x y : Int} {s r h s' : Nat} (hs : srt L A) (hb : bsR L A y s r) (hx : A[h]? = some x) (hc : kd L y < kd L x) (hr : s' = s) : bsR L A y s' h := by
  subst hr
  obtain ⟨hl, rfl⟩ := List.getElem?_eq_some_iff.1 hx
  exact ⟨hb.1, fun i hi h1 => by have := srt_le hs h1 hi; omega⟩
/-- The search for where two rows are to be cut, by places of the one (c) and of the other (N - 1 - c). -/
structure bsM (L : List HOp) (A B : List Int) (N lo s r hi : Nat) : Prop where
  ord : lo ≤ s ∧ s ≤ r ∧ r ≤ hi
  up : ∀ c, lo ≤ c → c < s → ∃ x y, A[c]? = some x ∧ B[N - 1 - c]? = some y ∧ ¬ kd L y < kd L x
  down : ∀ c, r ≤ c → c < hi → ∃ x y, A[c]? = some x ∧ B[N - 1 - c]? = some y ∧ kd L y < kd L x
theorem bsM_start (L : List HOp) (A B : List Int) {N lo hi : Nat} (h : lo ≤ hi) : bsM L A B N lo lo hi hi := ⟨⟨Nat.le_refl _, h, Nat.le_refl _⟩, fun c h1 h2 => absurd h1 (by omega), fun c h1 h2 => absurd h1 (by omega)⟩
theorem bsM_up {L : List HOp} {A B : List Int} {N lo s r hi c : Nat} {x y : Int} (hA : srt L A) (hB : srt L B) (h : bsM L A B N lo s r hi) (hc : s ≤ c ∧ c < r) (hx : A[c]? = some x) (hy : B[N - 1 - c]? = some y) (hn : ¬ kd L y < kd L x) (hb : ∀ c', lo ≤ c' → c' < hi → c' < A.length ∧ N - 1 - c' < B.length ∧ c' < N) : bsM L A B N lo (c + 1) r hi := by
  have ho := h.ord
  refine ⟨⟨by omega, by omega, by omega⟩, fun c' h1 h2 => ?_, h.down⟩
  have b1 := hb c' h1 (by omega)
  have b2 := hb c (by omega) (by omega)
  obtain ⟨hl, rfl⟩ := List.getElem?_eq_some_iff.1 hx
  obtain ⟨hl2, rfl⟩ := List.getElem?_eq_some_iff.1 hy
  refine ⟨_, _, List.getElem?_eq_getElem b1.1, List.getElem?_eq_getElem b1.2.1, ?_⟩
  have e1 := srt_le hA (show c' ≤ c by omega) hl
  have e2 := srt_le hB (show N - 1 - c ≤ N - 1 - c' by omega) b1.2.1
  omega
theorem bsM_down {L : List HOp} {A B : List Int} {N lo s r hi c : Nat} {x y : Int} (hA : srt L A) (hB : srt L B) (h : bsM L A B N lo s r hi) (hc : s ≤ c ∧ c < r) (hx : A[c]? = some x) (hy : B[N - 1 - c]? = some y) (hn : kd L y < kd L x) (hb : ∀ c', lo ≤ c' → c' < hi → c' < A.length ∧ N - 1 - c' < B.length ∧ c' < N) : bsM L A B N lo s c hi := by
  have ho := h.ord
  refine ⟨⟨by omega, by omega, by omega⟩, h.up, fun c' h1 h2 => ?_⟩
  have b1 := hb c' (by omega) h2
  obtain ⟨hl, rfl⟩ := List.getElem?_eq_some_iff.1 hx
  obtain ⟨hl2, rfl⟩ := List.getElem?_eq_some_iff.1 hy
  refine ⟨_, _, List.getElem?_eq_getElem b1.1, List.getElem?_eq_getElem b1.2.1, ?_⟩
  have e1 := srt_le hA (show c ≤ c' by omega) b1.1
  have e2 := srt_le hB (show N - 1 - c' ≤ N - 1 - c by omega) hl2
  omega
/-- What the search comes to. -/
theorem bsM_end {L : List HOp} {A B : List Int} {N lo s hi : Nat} (hA : srt L A) (hB : srt L B) (h : bsM L A B N lo s s hi) (hN : s ≤ N) (hlo : lo = 0 ∨ lo + B.length = N) (hhi : hi = A.length ∨ hi = N) :
    (∀ x ∈ A.take s, ∀ y ∈ B.drop (N - s), ¬ kd L y < kd L x) ∧ (∀ x ∈ A.drop s, ∀ y ∈ B.take (N - s), kd L y < kd L x) := by
  have ho := h.ord
  constructor
  · intro x hx y hy
    obtain ⟨i, hi', rfl⟩ := List.mem_iff_getElem.1 hx
    obtain ⟨j, hj, rfl⟩ := List.mem_iff_getElem.1 hy
    rw [List.length_take] at hi'
    rw [List.length_drop] at hj
    rw [List.getElem_take, List.getElem_drop]
    rcases Nat.lt_or_ge lo s with h1 | h1
    · obtain ⟨x', y', e1, e2, e3⟩ := h.up (s - 1) (by omega) (by omega)
      obtain ⟨l1, rfl⟩ := List.getElem?_eq_some_iff.1 e1
      obtain ⟨l2, rfl⟩ := List.getElem?_eq_some_iff.1 e2
      have f1 := srt_le hA (show i ≤ s - 1 by omega) l1
      have f2 := srt_le hB (show N - 1 - (s - 1) ≤ N - s + j by omega) (by omega)
      omega
    · omega
  · intro x hx y hy
    obtain ⟨i, hi', rfl⟩ := List.mem_iff_getElem.1 hx
    obtain ⟨j, hj, rfl⟩ := List.mem_iff_getElem.1 hy
    rw [List.length_drop] at hi'
    rw [List.length_take] at hj
    rw [List.getElem_drop, List.getElem_take]
    rcases Nat.lt_or_ge s hi with h1 | h1
    · obtain ⟨x', y', e1, e2, e3⟩ := h.down s (Nat.le_refl _) h1
      obtain ⟨l1, rfl⟩ := List.getElem?_eq_some_iff.1 e1
      obtain ⟨l2, rfl⟩ := List.getElem?_eq_some_iff.1 e2
      have f1 := srt_le hA (show s ≤ s + i by omega) (by omega)
      have f2 := srt_le hB (show j ≤ N - 1 - s by omega) l2
      omega
    · omega
theorem merge_ways (A B : List Int) : A.length = 1 ∨ (A.length ≠ 1 ∧ B.length = 1) ∨ (A.length ≠ 1 ∧ B.length ≠ 1) := by omega
theorem two_ways (A B : List Int) : (0 < A.length ∧ 0 < B.length) ∨ A.length = 0 ∨ (0 < A.length ∧ B.length = 0) := by omega
theorem find_ways (p : Nat → Prop) (i j : Nat) : (i < j ∧ p ((i + j) / 2)) ∨ (i < j ∧ ¬ p ((i + j) / 2)) ∨ j ≤ i := by
  by_cases h : i < j
  · by_cases h2 : p ((i + j) / 2)
    · exact .inl ⟨h, h2⟩
    · exact .inr (.inl ⟨h, h2⟩)
  · exact .inr (.inr (by omega))
theorem len_one {A : List Int} (h : A.length = 1) : ∃ x, A = [x] := List.length_eq_one_iff.1 h
/-- The two halves of a merge: behind the rotation all of the first are less than all of the second. -/
theorem merge_parts {L : List HOp} {A1 A2 B1 B2 M1 M2 : List Int} (hA : srt L (A1 ++ A2)) (hB : srt L (B1 ++ B2)) (ha : ahead (A1 ++ A2) (B1 ++ B2))
    (h1 : ∀ x ∈ A1, ∀ y ∈ B2, ¬ kd L y < kd L x) (h2 : ∀ x ∈ A2, ∀ y ∈ B1, kd L y < kd L x) (hM1 : sorts L (A1 ++ B1) M1) (hM2 : sorts L (A2 ++ B2) M2) : sorts L ((A1 ++ A2) ++ (B1 ++ B2)) (M1 ++ M2) := by
  refine ⟨?_, ?_⟩
  · refine (hM1.1.append hM2.1).trans ?_
    rw [List.append_assoc, List.append_assoc]
    refine List.Perm.append_left A1 ?_
    rw [← List.append_assoc, ← List.append_assoc]
    exact List.Perm.append_right B2 List.perm_append_comm
  · unfold srt at *
    rw [List.pairwise_append] at hA hB ⊢
    refine ⟨hM1.2, hM2.2, fun x hx y hy => ?_⟩
    rcases List.mem_append.1 (hM1.1.mem_iff.1 hx) with hx | hx <;> rcases List.mem_append.1 (hM2.1.mem_iff.1 hy) with hy | hy
    · exact hA.2.2 x hx y hy
    · exact lx_not (h1 x hx y hy) (ha x (by simp [hx]) y (by simp [hy]))
    · exact .inl (h2 y hy x hx)
    · exact hB.2.2 x hx y hy
theorem ahead_sub {A B A' B' : List Int} (h : ahead A B) (h1 : ∀ x ∈ A', x ∈ A) (h2 : ∀ x ∈ B', x ∈ B) : ahead A' B' := fun x hx y hy => h x (h1 x hx) y (h2 y hy)
/-- Two sorted stretches, one behind the other, each in the order of their places before. -/
theorem sorts_ahead {L : List HOp} {A B A' B' : List Int} (h : ahead A B) (h1 : sorts L A A') (h2 : sorts L B B') : ahead A' B' := ahead_sub h (fun x hx => h1.1.mem_iff.1 hx) (fun x hx => h2.1.mem_iff.1 hx)
theorem sorts_trans {L : List HOp} {A A' B B' M : List Int} (h1 : sorts L A A') (h2 : sorts L B B') (h : sorts L (A' ++ B') M) : sorts L (A ++ B) M := ⟨h.1.trans (h1.1.append h2.1), h.2⟩
/-- The places of what is done rise. -/
theorem done_rise (L : List HOp) : ∀ k, (doneI L k).Pairwise (· < ·)
  | 0 => List.Pairwise.nil
  | k + 1 => by
    unfold doneI
    rw [List.pairwise_append]
    refine ⟨done_rise L k, ?_, fun x hx y hy => ?_⟩
    · cases L[k]? with
      | none => exact List.Pairwise.nil
      | some o => simp only; split <;> simp
    · obtain ⟨i, o, rfl, hi, _⟩ := done_mem hx
      cases h : L[k]? with
      | none => rw [h] at hy; simp at hy
      | some o' =>
        rw [h] at hy
        simp only at hy
        split at hy
        · rw [List.mem_singleton] at hy
          omega
        · simp at hy
theorem done_in {L : List HOp} {k : Nat} : ∀ z ∈ doneI L k, inL L z := fun z hz => by
  obtain ⟨i, o, rfl, _, h, _⟩ := done_mem hz
  exact inL_of h
end Go.Proofs.Ytggcpbnlblbpjaa.L
