/- Operations as a list in memory that is read, and what package line says of them. -/
import Derived.Test.YtggcpbnlblbpjaaLineZ
import Derived.Deep.Slices
namespace Go.Proofs.Ytggcpbnlblbpjaa.L
open Go Go.RowKit Go.Proofs.Ytggcpbnlblbpjaa.K Go.Proofs.Ytggcpbnlblbpjaa.H Go.Proofs.YtggcpbnlblbpjaaW.PrintLast
set_option linter.unusedVariables false
set_option linter.unusedSimpArgs false
set_option maxRecDepth 100000
theorem src_some {w : World} {A : Option Addr} {n c sz : Nat} {xs : List Value} (h : SrcIs w (.slice A n c) n xs sz) (hn : 0 < n) : ∃ a, A = some a := by
  rcases h.2 with ⟨h0, _⟩ | ⟨a, c', he, _⟩
  · omega
  · injection he with e1 _ _
    exact ⟨a, e1⟩
theorem src_cells {w : World} {a : Addr} {n c sz : Nat} {xs : List Value} (h : SrcIs w (.slice (some a) n c) n xs sz) : CellsAt w a xs := by
  rcases h.2 with ⟨h0, he⟩ | ⟨a', c', he, hc⟩
  · cases he
  · injection he with e1 _ _
    injection e1 with e1
    subst e1
    exact hc
theorem src_elem {w : World} {a : Addr} {n c : Nat} {L : List HOp} (h : SrcIs w (.slice (some a) n c) n (L.flatMap opC) 28) {k : Nat} {o : HOp} (ho : L[k]? = some o) : CellsAt w (a.add (k * 28)) (opC o) := fun j u hu => by
  obtain ⟨hlt, rfl⟩ := List.getElem?_eq_some_iff.1 ho
  have hj : j < 28 := by rw [← opC_len L[k]]; exact (List.getElem?_eq_some_iff.1 hu).1
  rw [Go.Deep.add_add]
  refine src_cells h _ _ ?_
  have := flat_at opC_len L k hlt
  rw [← this, List.getElem?_take, if_pos hj, List.getElem?_drop] at hu
  exact hu
theorem src_one {w : World} {a : Addr} {n c : Nat} {xs : List Value} (h : SrcIs w (.slice (some a) n c) n xs 1) {k : Nat} {u : Value} (hu : xs[k]? = some u) : w.cell? (a.add k) = some u := src_cells h _ _ hu
theorem src_int {w : World} {a : Addr} {n c : Nat} {M : List Int} (h : SrcIs w (.slice (some a) n c) n (M.map (Value.int .i64)) 1) {k : Nat} {z : Int} (hz : M[k]? = some z) : w.cell? (a.add k) = some (.int .i64 z) :=
  src_one h (by rw [List.getElem?_map, hz]; rfl)
theorem info4 : (Try.prog.info? 4).map (fun i => (i.zero, i.size, i.bytes)) = some (some (.bool false), 1, 1) := by kernel_rfl
/-- Is an operation under way at a time? -/
def underB (o : HOp) (t : Int) : Bool := decide (o.a ≤ t) && (o.t == 0 || decide (o.t ≥ t))
def mayB (a b : HOp) : Bool := b.t == 0 || decide (b.t ≥ a.a)
theorem under_ways (o : HOp) (t : Int) : ¬ o.a ≤ t ∨ (o.a ≤ t ∧ o.t = 0) ∨ (o.a ≤ t ∧ o.t ≠ 0 ∧ o.t ≥ t) ∨ (o.a ≤ t ∧ o.t ≠ 0 ∧ ¬ o.t ≥ t) := by omega
theorem may_ways (a b : HOp) : b.t = 0 ∨ (b.t ≠ 0 ∧ b.t ≥ a.a) ∨ (b.t ≠ 0 ∧ ¬ b.t ≥ a.a) := by omega
def cntU (L : List HOp) (t : Int) : Nat := (L.filter (underB · t)).length
def widN (L K : List HOp) : Nat := K.foldl (fun m x => max m (cntU L x.a)) 0
theorem cntU_le (L : List HOp) (t : Int) : cntU L t ≤ L.length := List.length_filter_le _ _
theorem cntU_succ {L : List HOp} {k : Nat} {o : HOp} (h : L[k]? = some o) (t : Int) : cntU (L.take (k + 1)) t = cntU (L.take k) t + if underB o t then 1 else 0 := by
  obtain ⟨hlt, rfl⟩ := List.getElem?_eq_some_iff.1 h
  rw [List.take_succ_eq_append_getElem hlt]
  unfold cntU
  rw [List.filter_append, List.length_append]
  by_cases hz : underB L[k] t = true <;> simp_all
theorem wid_succ {L K : List HOp} {k : Nat} {o : HOp} (h : K[k]? = some o) : widN L (K.take (k + 1)) = max (widN L (K.take k)) (cntU L o.a) := by
  obtain ⟨hlt, rfl⟩ := List.getElem?_eq_some_iff.1 h
  rw [List.take_succ_eq_append_getElem hlt]
  unfold widN
  rw [List.foldl_append]
  rfl
theorem wid_le (L : List HOp) : ∀ K : List HOp, widN L K ≤ L.length := by
  intro K
  unfold widN
  suffices h : ∀ m, m ≤ L.length → K.foldl (fun m x => max m (cntU L x.a)) m ≤ L.length from h 0 (Nat.zero_le _)
  induction K with
  | nil => intro m hm; exact hm
  | cons x K ih =>
    intro m hm
    exact ih _ (Nat.max_le.2 ⟨hm, cntU_le L _⟩)
theorem at_ways {α : Type} {L : List α} {k : Nat} (h : k ≤ L.length) : (∃ o, k < L.length ∧ L[k]? = some o) ∨ k = L.length := by
  rcases Nat.lt_or_ge k L.length with h1 | h1
  · exact .inl ⟨_, h1, List.getElem?_eq_getElem h1⟩
  · exact .inr (by omega)
/-- An order that is one: each place once. -/
def rightP (n : Nat) (M : List Int) : Prop := (∀ z ∈ M, 0 ≤ z ∧ z < n) ∧ M.Nodup
/-- What was seen of an order, up to a place. -/
def seenL (n : Nat) (M : List Int) : List Value := (List.range n).map fun i : Nat => .bool (M.contains (i : Int))
theorem seen_nil (n : Nat) : seenL n [] = List.replicate n (.bool false) := by
  refine List.ext_getElem? fun k => ?_
  unfold seenL
  by_cases hk : k < n
  · rw [List.getElem?_map, List.getElem?_range hk, List.getElem?_replicate, if_pos hk]
    rfl
  · rw [List.getElem?_eq_none (by simp; omega), List.getElem?_eq_none (by simp; omega)]
theorem seen_at {n : Nat} (M : List Int) {i : Nat} (h : i < n) : (seenL n M)[i]? = some (.bool (M.contains (i : Int))) := by
  unfold seenL
  rw [List.getElem?_map, List.getElem?_range h]
  rfl
theorem seen_set {n : Nat} (M : List Int) {i : Nat} (h : i < n) : (seenL n M).set i (.bool true) = seenL n (M ++ [(i : Int)]) := by
  refine List.ext_getElem? fun k => ?_
  rw [List.getElem?_set]
  have hl : (seenL n M).length = n := by simp [seenL]
  have hl2 : (seenL n (M ++ [(i : Int)])).length = n := by simp [seenL]
  by_cases hk : k < n
  · rw [seen_at M hk, seen_at (M ++ [(i : Int)]) hk]
    by_cases hi : i = k
    · subst hi
      rw [if_pos rfl, if_pos (by rw [hl]; exact hk)]
      simp
    · rw [if_neg hi]
      have : ¬ ((k : Int) = (i : Int)) := by omega
      simp [this]
  · rw [if_neg (by omega), List.getElem?_eq_none (by rw [hl]; omega), List.getElem?_eq_none (by rw [hl2]; omega)]
theorem right_nil (n : Nat) : rightP n [] := ⟨by simp, List.nodup_nil⟩
theorem right_snoc {n : Nat} {M : List Int} {k : Nat} {z : Int} (h : M[k]? = some z) (hr : rightP n (M.take k)) (h0 : 0 ≤ z ∧ z < n) (hc : (M.take k).contains z = false) : rightP n (M.take (k + 1)) := by
  obtain ⟨hlt, rfl⟩ := List.getElem?_eq_some_iff.1 h
  rw [List.take_succ_eq_append_getElem hlt]
  refine ⟨fun y hy => ?_, ?_⟩
  · rcases List.mem_append.1 hy with hy | hy
    · exact hr.1 y hy
    · rw [List.mem_singleton] at hy
      subst hy
      exact h0
  · rw [List.nodup_append]
    refine ⟨hr.2, by simp, fun a ha b hb hab => ?_⟩
    rw [List.mem_singleton] at hb
    subst hb
    subst hab
    simp at hc
    exact hc ha
theorem right_not {n : Nat} {M : List Int} {k : Nat} {z : Int} (h : M[k]? = some z) (hn : ¬ (0 ≤ z ∧ z < n) ∨ (M.take k).contains z = true) : ¬ rightP n M := by
  rintro ⟨h1, h2⟩
  rcases hn with hn | hn
  · exact hn (h1 z (List.mem_of_getElem? h))
  · obtain ⟨hlt, rfl⟩ := List.getElem?_eq_some_iff.1 h
    have hm : M[k] ∈ M.take k := by simpa using hn
    obtain ⟨i, hi, he⟩ := List.mem_iff_getElem.1 hm
    rw [List.length_take] at hi
    rw [List.getElem_take] at he
    have := (List.getElem_inj h2).1 he
    omega
theorem right_ways (n : Nat) (M : List Int) (k : Nat) (z : Int) : z < 0 ∨ (0 ≤ z ∧ (n : Int) ≤ z) ∨ (∃ i : Nat, z = i ∧ i < n ∧ (M.take k).contains (i : Int) = true) ∨ (∃ i : Nat, z = i ∧ i < n ∧ (M.take k).contains (i : Int) = false) := by
  rcases Int.lt_or_le z 0 with h | h
  · exact .inl h
  · obtain ⟨i, rfl⟩ := Int.eq_ofNat_of_zero_le h
    rcases Nat.lt_or_ge i n with h1 | h1
    · cases hc : (M.take k).contains (i : Int) with
      | true => exact .inr (.inr (.inl ⟨i, rfl, h1, hc⟩))
      | false => exact .inr (.inr (.inr ⟨i, rfl, h1, hc⟩))
    · exact .inr (.inl ⟨by omega, by omega⟩)
/-- Does an order respect time, its pairs up to (k, j)? -/
def pairsP (L : List HOp) (M : List Int) (k : Nat) : Prop := ∀ i j, i < k → i < j → ∀ y z : Int, M[i]? = some y → M[j]? = some z → ∀ a b, L[y.toNat]? = some a → L[z.toNat]? = some b → mayB a b = true
def respP (L : List HOp) (M : List Int) : Prop := rightP L.length M ∧ pairsP L M M.length
def rowP (L : List HOp) (M : List Int) (k j : Nat) : Prop := ∀ i, k < i → i < j → ∀ y z : Int, M[k]? = some y → M[i]? = some z → ∀ a b, L[y.toNat]? = some a → L[z.toNat]? = some b → mayB a b = true
theorem pairs_nil (L : List HOp) (M : List Int) : pairsP L M 0 := fun i j h => absurd h (by omega)
theorem row_nil (L : List HOp) (M : List Int) (k : Nat) : rowP L M k (k + 1 + 0) := fun i h1 h2 => absurd h1 (by omega)
theorem row_succ {L : List HOp} {M : List Int} {k j : Nat} {y z : Nat} {a b : HOp} (hy : M[k]? = some (y : Int)) (hz : M[k + 1 + j]? = some (z : Int)) (ha : L[y]? = some a) (hb : L[z]? = some b) (hm : mayB a b = true) (h : rowP L M k (k + 1 + j)) : rowP L M k (k + 1 + (j + 1)) := by
  intro i h1 h2 y' z' e1 e2 a' b' e3 e4
  rcases Nat.lt_or_ge i (k + 1 + j) with h3 | h3
  · exact h i h1 h3 y' z' e1 e2 a' b' e3 e4
  · obtain rfl : i = k + 1 + j := by omega
    rw [hy] at e1
    rw [hz] at e2
    injection e1 with e1
    injection e2 with e2
    subst e1 e2
    rw [Int.toNat_natCast, ha] at e3
    rw [Int.toNat_natCast, hb] at e4
    injection e3 with e3
    injection e4 with e4
    subst e3 e4
    exact hm
theorem pairs_succ {L : List HOp} {M : List Int} {k : Nat} (h : pairsP L M k) (hr : rowP L M k M.length) : pairsP L M (k + 1) := by
  intro i j h1 h2 y z e1 e2 a b e3 e4
  rcases Nat.lt_or_ge i k with h3 | h3
  · exact h i j h3 h2 y z e1 e2 a b e3 e4
  · obtain rfl : i = k := by omega
    exact hr j h2 (List.getElem?_eq_some_iff.1 e2).1 y z e1 e2 a b e3 e4
theorem pairs_not {L : List HOp} {M : List Int} {k j : Nat} {y z : Nat} {a b : HOp} (hy : M[k]? = some (y : Int)) (hz : M[k + 1 + j]? = some (z : Int)) (ha : L[y]? = some a) (hb : L[z]? = some b) (hm : mayB a b = false) : ¬ pairsP L M M.length := fun h => by
  have := h k (k + 1 + j) (List.getElem?_eq_some_iff.1 hy).1 (by omega) _ _ hy hz a b (by simpa using ha) (by simpa using hb)
  rw [hm] at this
  cases this
/-- The place that an order names. -/
theorem right_at {L : List HOp} {M : List Int} (h : rightP L.length M) {k : Nat} (hk : k < M.length) : ∃ (y : Nat) (a : HOp), M[k]? = some (y : Int) ∧ L[y]? = some a ∧ y < L.length := by
  have h1 := h.1 M[k] (List.getElem_mem hk)
  refine ⟨M[k].toNat, L[M[k].toNat]'(by omega), by rw [List.getElem?_eq_getElem hk]; congr 1; omega, List.getElem?_eq_getElem _, by omega⟩
theorem bfalse {b : Bool} {p : Prop} (h : b = true ↔ p) (hn : ¬ p) : b = false := by
  cases b with
  | false => rfl
  | true => exact absurd (h.1 rfl) hn
theorem ynT {f : FuncId} {args : Array Value} {w : World} {p : Prop} (h : Calls Try.prog f args w fun en w' => ∃ b, en = .returned (.bool b) ∧ (b = true ↔ p) ∧ Ch [] w w') (hp : p) : Calls Try.prog f args w fun en w' => en = .returned (.bool true) ∧ Ch [] w w' := h.mono fun _ _ ⟨_, e, i, c⟩ => ⟨by rw [e, i.2 hp], c⟩
theorem ynF {f : FuncId} {args : Array Value} {w : World} {p : Prop} (h : Calls Try.prog f args w fun en w' => ∃ b, en = .returned (.bool b) ∧ (b = true ↔ p) ∧ Ch [] w w') (hp : ¬ p) : Calls Try.prog f args w fun en w' => en = .returned (.bool false) ∧ Ch [] w w' := h.mono fun _ _ ⟨_, e, i, c⟩ => ⟨by rw [e, bfalse i hp], c⟩
theorem take_snoc {α : Type} {L : List α} {k : Nat} {x : α} (h : L[k]? = some x) : L.take (k + 1) = L.take k ++ [x] := by
  obtain ⟨hlt, rfl⟩ := List.getElem?_eq_some_iff.1 h
  exact List.take_succ_eq_append_getElem hlt
/-- The rest of a slice. -/
theorem src_from {w : World} {b : Addr} {n c : Nat} {xs : List Value} (h : SrcIs w (.slice (some b) n c) n xs 1) {k : Nat} (hk : k ≤ n) (hc : n ≤ c ∧ c ≤ maxLen) :
    ∃ n2 B2 c2, n2 = n - k ∧ (∀ W, (Instr.sliceAt 44 (.slice (some b) n c) (some (.int .i64 (k : Nat))) none none).run Try.prog W = .ok (.slice B2 n2 c2) W) ∧ ∀ j, j < n2 → ∃ b2, B2 = some b2 ∧ ∀ W, SrcIs W (.slice (some b) n c) n xs 1 → W.cell? (b2.add j) = xs[k + j]? := by
  refine ⟨_, _, _, rfl, fun W => run_slice_from (sz := 1) Try.underlying44 (by kernel_rfl) b k n c k rfl hk hc.1 hc.2, fun j hj => ⟨_, rfl, fun W hW => ?_⟩⟩
  have hl : k + j < xs.length := by have := hW.1; omega
  rw [List.getElem?_eq_getElem hl]
  have := src_cells hW (k + j) _ (List.getElem?_eq_getElem hl)
  split
  · omega
  · rw [Nat.mul_one, Go.Deep.add_add]
    exact this
/-- Comparing. -/
def cmpI (a b : Int) : Int := if a < b then -1 else if a > b then 1 else 0
theorem cmp_ways (a b : Int) : a < b ∨ (¬ a < b ∧ a > b) ∨ (¬ a < b ∧ ¬ a > b) := by omega
/-- The places of the operations that are done. -/
def doneI (L : List HOp) : Nat → List Int
  | 0 => []
  | k + 1 => doneI L k ++ (match L[k]? with | some o => if o.d > 0 then [(k : Int)] else [] | none => [])
theorem done_yes {L : List HOp} {k : Nat} {o : HOp} (h : L[k]? = some o) (hd : o.d > 0) : doneI L (k + 1) = doneI L k ++ [(k : Int)] := by simp [doneI, h, hd]
theorem done_no {L : List HOp} {k : Nat} {o : HOp} (h : L[k]? = some o) (hd : ¬ o.d > 0) : doneI L (k + 1) = doneI L k := by simp [doneI, h, hd]
theorem done_len (L : List HOp) : ∀ k, (doneI L k).length ≤ k
  | 0 => by simp [doneI]
  | k + 1 => by
    have := done_len L k
    unfold doneI
    rw [List.length_append]
    cases h : L[k]? with
    | none => simp; omega
    | some o => simp only; split <;> simp <;> omega
theorem done_mem {L : List HOp} {z : Int} : ∀ {k : Nat}, z ∈ doneI L k → ∃ (i : Nat) (o : HOp), z = i ∧ i < k ∧ L[i]? = some o ∧ o.d > 0
  | 0, h => by simp [doneI] at h
  | k + 1, h => by
    unfold doneI at h
    rcases List.mem_append.1 h with h | h
    · obtain ⟨i, o, h1, h2, h3⟩ := done_mem h
      exact ⟨i, o, h1, by omega, h3⟩
    · cases hk : L[k]? with
      | none => rw [hk] at h; simp at h
      | some o =>
        rw [hk] at h
        simp only at h
        split at h
        · rw [List.mem_singleton] at h
          exact ⟨k, o, h, by omega, hk, by assumption⟩
        · simp at h
/-- An order that is sorted by when it was done, between two places. -/
def sortedX (L : List HOp) (X : List Int) (p q : Nat) : Prop := ∀ k, p < k → k < q → ∃ (y z : Nat) (a b : HOp), X[k]? = some (y : Int) ∧ X[k - 1]? = some (z : Int) ∧ L[y]? = some a ∧ L[z]? = some b ∧ b.d ≤ a.d
theorem sorted_sub {L : List HOp} {X : List Int} {p q p' q' : Nat} (h : sortedX L X p q) (h1 : p ≤ p') (h2 : q' ≤ q) : sortedX L X p' q' := fun k a b => h k (by omega) (by omega)
/-- What is noted of operations one behind the other. -/
def opN (i : Nat) : HOp := ⟨1, ((i + 1 : Nat) : Int), ((3 * i + 1 : Nat) : Int), ((3 * i + 2 : Nat) : Int), ((3 * i + 3 : Nat) : Int), ZC, ZR⟩
def opsN (n : Nat) : List HOp := (List.range n).map opN
theorem opsN_len (n : Nat) : (opsN n).length = n := by simp [opsN]
theorem opsN_at {n k : Nat} (h : k < n) : (opsN n)[k]? = some (opN k) := by
  unfold opsN
  rw [List.getElem?_map, List.getElem?_range h]
  rfl
theorem opsN_succ (k : Nat) : opsN (k + 1) = opsN k ++ [opN k] := by
  unfold opsN
  rw [List.range_succ, List.map_append]
  rfl
theorem under_opN (i j : Nat) : underB (opN j) (opN i).a = decide (j = i) := by
  unfold underB opN
  simp only
  by_cases h : j = i
  · subst h
    rw [decide_eq_true (by omega : ((3 * j + 1 : Nat) : Int) ≤ ((3 * j + 1 : Nat) : Int)), decide_eq_true (by omega : ((3 * j + 3 : Nat) : Int) ≥ ((3 * j + 1 : Nat) : Int))]
    simp
  · rw [decide_eq_false h]
    rcases Nat.lt_or_gt_of_ne h with h1 | h1
    · rw [decide_eq_false (by omega : ¬ ((3 * j + 3 : Nat) : Int) ≥ ((3 * i + 1 : Nat) : Int)), beq_eq_false_iff_ne.2 (by omega)]
      simp
    · rw [decide_eq_false (by omega : ¬ ((3 * j + 1 : Nat) : Int) ≤ ((3 * i + 1 : Nat) : Int))]
      simp
theorem cntU_opsN (i : Nat) : ∀ n, cntU (opsN n) (opN i).a = if i < n then 1 else 0
  | 0 => by simp [opsN, cntU]
  | n + 1 => by
    have ih := cntU_opsN i n
    unfold cntU at ih ⊢
    rw [opsN_succ, List.filter_append, List.length_append, ih]
    simp only [List.filter_cons, List.filter_nil, under_opN]
    by_cases h1 : n = i
    · subst h1
      simp
    · have : ¬ (decide (n = i) = true) := by simpa using h1
      rw [if_neg this]
      simp only [List.length_nil]
      split <;> split <;> omega
theorem wid_opsN (n : Nat) : widN (opsN n) (opsN n) = min n 1 := by
  suffices h : ∀ k, k ≤ n → widN (opsN n) (opsN k) = min k 1 from h n (Nat.le_refl n)
  intro k
  induction k with
  | zero => intro _; rfl
  | succ k ih =>
    intro hk
    have h1 : opsN (k + 1) = opsN k ++ [opN k] := opsN_succ k
    have h2 : widN (opsN n) (opsN (k + 1)) = max (widN (opsN n) (opsN k)) (cntU (opsN n) (opN k).a) := by
      unfold widN
      rw [h1, List.foldl_append]
      rfl
    rw [h2, ih (by omega), cntU_opsN, if_pos (by omega)]
    omega
theorem done_opsN (n : Nat) : ∀ k, k ≤ n → doneI (opsN n) k = (List.range k).map (fun i : Nat => (i : Int))
  | 0, _ => rfl
  | k + 1, h => by
    rw [done_yes (opsN_at (by omega)) (by show ((3 * k + 2 : Nat) : Int) > 0; omega), done_opsN n k (by omega), List.range_succ, List.map_append]
    rfl
theorem sorted_opsN (n : Nat) : sortedX (opsN n) (doneI (opsN n) (opsN n).length) 0 (doneI (opsN n) (opsN n).length).length := by
  rw [opsN_len, done_opsN n n (Nat.le_refl n)]
  intro k h1 h2
  simp only [List.length_map, List.length_range] at h2
  refine ⟨k, k - 1, opN k, opN (k - 1), ?_, ?_, opsN_at h2, opsN_at (by omega), ?_⟩
  · rw [List.getElem?_map, List.getElem?_range h2]; rfl
  · rw [List.getElem?_map, List.getElem?_range (by omega)]; rfl
  · show ((3 * (k - 1) + 2 : Nat) : Int) ≤ ((3 * k + 2 : Nat) : Int)
    omega
theorem may_opN (i j : Nat) : mayB (opN i) (opN j) = decide (i ≤ j) := by
  unfold mayB opN
  simp only
  rw [beq_eq_false_iff_ne.2 (by omega), Bool.false_or]
  by_cases h : i ≤ j
  · rw [decide_eq_true h, decide_eq_true (by omega)]
  · rw [decide_eq_false h, decide_eq_false (by omega)]
/-- Of operations one behind the other just one order respects time. -/
theorem resp_opsN {n : Nat} {M : List Int} (hl : M.length = n) : respP (opsN n) M ↔ ∀ i, i < n → M[i]? = some (i : Int) := by
  constructor
  · rintro ⟨hr, hp⟩
    rw [opsN_len] at hr
    have hinc : ∀ i j (hi : i < M.length) (hj : j < M.length), i < j → M[i] < M[j] := by
      intro i j hi hj hij
      have b1 := hr.1 M[i] (List.getElem_mem hi)
      have b2 := hr.1 M[j] (List.getElem_mem hj)
      have h1 := hp i j hi hij M[i] M[j] (List.getElem?_eq_getElem hi) (List.getElem?_eq_getElem hj) _ _ (opsN_at (by omega)) (opsN_at (by omega))
      rw [may_opN] at h1
      have h2 := of_decide_eq_true h1
      have h3 : M[i] ≠ M[j] := fun he => by
        have := (List.getElem_inj hr.2).1 he
        omega
      omega
    have hlow : ∀ i (hi : i < M.length), (i : Int) ≤ M[i] := by
      intro i
      induction i with
      | zero => intro hi; exact (hr.1 M[0] (List.getElem_mem hi)).1
      | succ i ih =>
        intro hi
        have h1 := ih (by omega)
        have h2 := hinc i (i + 1) (by omega) hi (by omega)
        omega
    have hup : ∀ d i (hi : i < M.length), i + d + 1 = M.length → M[i] ≤ (i : Int) := by
      intro d
      induction d with
      | zero =>
        intro i hi hd
        have := (hr.1 M[i] (List.getElem_mem hi)).2
        omega
      | succ d ih =>
        intro i hi hd
        have h1 := ih (i + 1) (by omega) (by omega)
        have h2 := hinc i (i + 1) hi (by omega) (by omega)
        omega
    intro i hi
    have hi' : i < M.length := by omega
    rw [List.getElem?_eq_getElem hi']
    have h1 := hlow i hi'
    have h2 := hup (M.length - i - 1) i hi' (by omega)
    congr 1
    omega
  · intro h
    have hM : ∀ i (hi : i < M.length), M[i] = (i : Int) := fun i hi => by
      have := h i (by omega)
      rw [List.getElem?_eq_getElem hi] at this
      exact Option.some.inj this
    refine ⟨⟨fun z hz => ?_, ?_⟩, fun i j h1 h2 y z e1 e2 a b e3 e4 => ?_⟩
    · obtain ⟨i, hi, rfl⟩ := List.mem_iff_getElem.1 hz
      rw [hM i hi, opsN_len]
      omega
    · rw [List.Nodup, List.pairwise_iff_getElem]
      intro i j hi hj hij
      rw [hM i hi, hM j hj]
      omega
    · have hj : j < M.length := (List.getElem?_eq_some_iff.1 e2).1
      rw [h i (by omega)] at e1
      rw [h j (by omega)] at e2
      injection e1 with e1
      injection e2 with e2
      subst e1 e2
      rw [Int.toNat_natCast, opsN_at (by omega)] at e3 e4
      injection e3 with e3
      injection e4 with e4
      subst e3 e4
      rw [may_opN]
      exact decide_eq_true (by omega)
theorem may_cases (a b : HOp) : mayB a b = true ∨ mayB a b = false := by cases mayB a b <;> simp
theorem under_cases (a : HOp) (t : Int) : underB a t = true ∨ underB a t = false := by cases underB a t <;> simp
end Go.Proofs.Ytggcpbnlblbpjaa.L
