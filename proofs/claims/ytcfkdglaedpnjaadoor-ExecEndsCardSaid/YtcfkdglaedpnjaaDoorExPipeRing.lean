/- Plain facts on a ring of 64 bytes in a block of memory; the builtin copy of a string into it. -/
import Derived.Test.YtcfkdglaedpnjaaDoorKit
import Derived.Laws.BytesArg
import Derived.Laws.IdiomCopy
namespace Go.Proofs.YtcfkdglaedpnjaaDoor.R
open Go Go.RowKit Go.Proofs.YtcfkdglaedpnjaaDoor.K
set_option linter.unusedVariables false
set_option linter.unusedSimpArgs false
/-- A row of cells with some written from place o on. -/
def put (cs : Array Value) (o : Nat) : List Value → Array Value
  | [] => cs
  | v :: r => put (cs.setIfInBounds o v) (o + 1) r
theorem put_size (vs : List Value) : ∀ (cs : Array Value) (o : Nat), (put cs o vs).size = cs.size := by
  induction vs with
  | nil => intro cs o; rfl
  | cons v r ih => intro cs o; rw [put, ih]; simp
theorem put_out (vs : List Value) : ∀ (cs : Array Value) (o j : Nat), j < o ∨ o + vs.length ≤ j → (put cs o vs)[j]? = cs[j]? := by
  induction vs with
  | nil => intro cs o j _; rfl
  | cons v r ih =>
    intro cs o j h
    simp at h
    rw [put, ih _ _ _ (by omega), Array.getElem?_setIfInBounds, if_neg (by omega)]
theorem put_in (vs : List Value) : ∀ (cs : Array Value) (o j : Nat), o + vs.length ≤ cs.size → j < vs.length → (put cs o vs)[o + j]? = vs[j]? := by
  induction vs with
  | nil => intro cs o j _ h; simp at h
  | cons v r ih =>
    intro cs o j h hj
    simp at h
    rcases j with _ | j
    · rw [put, put_out _ _ _ _ (by omega), Nat.add_zero, Array.getElem?_setIfInBounds, if_pos rfl, if_pos (by omega)]
      rfl
    · rw [put, show o + (j + 1) = o + 1 + j by omega, ih _ _ _ (by simp; omega) (by simpa using hj)]
      rfl
theorem blk_setCells (vs : List Value) : ∀ (w : World) (b : Nat) (cs : Array Value) (t : TypeId) (o : Nat), Blk w b cs t → Blk (w.setCells b o vs) b (put cs o vs) t := by
  induction vs with
  | nil => intro w b cs t o h; exact h
  | cons v r ih => intro w b cs t o h; exact ih _ _ _ _ _ (h.set o v)
theorem ch_setCells (vs : List Value) : ∀ (w0 w : World) (bs : List Nat) (b : Nat) (o : Nat), Ch bs w0 w → (b ∈ bs ∨ w0.heap.size ≤ b) → Ch bs w0 (w.setCells b o vs) := by
  induction vs with
  | nil => intro w0 w bs b o h _; exact h
  | cons v r ih => intro w0 w bs b o h hb; exact ih _ _ _ _ _ (h.setCell hb v) hb
def byteVals (l : List UInt8) : List Value := l.map fun c => .int .u8 c.toNat
theorem byteVals_length (l : List UInt8) : (byteVals l).length = l.length := by simp [byteVals]
theorem byteVals_at (l : List UInt8) (j : Nat) : (byteVals l)[j]? = (l[j]?).map fun c => Value.int .u8 c.toNat := by simp [byteVals]
/-- The builtin copy of a string into a row that is there. -/
theorem run_copy_str {P : Program} (w : World) (dT sT ty elem : TypeId) (b o dLen dCap : Nat) (s : ByteArray) (n : Nat) (hn : n = Nat.min s.size dLen)
    (hu : P.underlying dT = some (.slice elem)) (hs : (P.info? elem).map (·.size) = some 1)
    (hc : ∀ j, j < n → (w.cell? ⟨b, o + j, none⟩).isSome = true) (hf : ∀ j, j < n → w.frozen? ⟨b, o + j, none⟩ = false) :
    (Builtin.copy_ #[dT, sT] ty #[.slice (some ⟨b, o, none⟩) dLen dCap, .string s]).run P w = .ok (.int .i64 n) (w.setCells b o (byteVals (s.data.toList.take n))) := by
  have hl : (byteVals (s.data.toList.take n)).length = n := by
    rw [byteVals_length, List.length_take, Array.length_toList]
    have : n ≤ s.size := by rw [hn]; exact Nat.min_le_left _ _
    have e : s.data.size = s.size := rfl
    omega
  have hst := run_storeCells_cells (P := P) b o (byteVals (s.data.toList.take n)) 0 w (by simpa [hl] using hc) (by simpa [hl] using hf) (by intro v hv; simp only [byteVals, List.mem_map] at hv; obtain ⟨c, _, rfl⟩ := hv; rfl)
  have he : ((s.extract 0 n).data.map fun b => Value.int .u8 b.toNat).toList = byteVals (s.data.toList.take n) := by
    rw [Array.toList_map, ByteArray.data_extract, Array.toList_extract]
    simp [byteVals, List.extract_eq_take_drop]
  cases hq : P.info? elem with
  | none => simp [hq] at hs
  | some i =>
    have hi : i.size = 1 := by simpa [hq] using hs
    simp only [Nat.add_zero] at hst
    simp [Builtin.copy_, run_underlying hu, Builtin.lenOf, Builtin.firstCells, sizeOf, typeInfo, hq, hi, ← hn, goInt]
    rw [show List.take n (List.map (fun b : UInt8 => Value.int IntKind.u8 b.toNat) s.data.toList) = byteVals (s.data.toList.take n) by simp [byteVals, List.map_take], hst]
    rfl
/-- The ring: what waits in it, how many came, how many went. -/
def Ring (cs : Array Value) (q : List UInt8) (i o : Nat) (sh : Bool) : Prop :=
  cs.size = 67 ∧ i = o + q.length ∧ q.length ≤ 64 ∧ (∀ j, j < 64 → ∃ c : UInt8, cs[j]? = some (.int .u8 c.toNat)) ∧ (∀ j c, q[j]? = some c → cs[(o + j) % 64]? = some (.int .u8 c.toNat)) ∧
  cs[64]? = some (.int .i64 i) ∧ cs[65]? = some (.int .i64 o) ∧ cs[66]? = some (.bool sh)
/-- What Write writes. -/
def wr (cs : Array Value) (i : Nat) (t : List UInt8) : Array Value :=
  (put (put cs (i % 64) (byteVals (t.take (min t.length (64 - i % 64))))) 0 (byteVals (t.drop (min t.length (64 - i % 64))))).setIfInBounds 64 (.int .i64 ((i + t.length : Nat) : Int))
theorem wr_low (cs : Array Value) (i : Nat) (t : List UInt8) (hs : cs.size = 67) (ht : t.length ≤ 64) (j : Nat) (hj : j < 64) :
    (∃ k c, k < t.length ∧ (i + k) % 64 = j ∧ t[k]? = some c ∧ (wr cs i t)[j]? = some (.int .u8 c.toNat)) ∨ ((∀ k, k < t.length → (i + k) % 64 ≠ j) ∧ (wr cs i t)[j]? = cs[j]?) := by
  obtain ⟨n1, hn1⟩ : ∃ n, n = min t.length (64 - i % 64) := ⟨_, rfl⟩
  unfold wr
  rw [← hn1, Array.getElem?_setIfInBounds, if_neg (by omega)]
  by_cases h2 : j < t.length - n1
  · left
    have hk : j + n1 < t.length := by omega
    refine ⟨j + n1, t[j + n1], hk, by omega, List.getElem?_eq_getElem hk, ?_⟩
    have := put_in (byteVals (t.drop n1)) (put cs (i % 64) (byteVals (t.take n1))) 0 j (by rw [put_size, hs, byteVals_length, List.length_drop]; omega) (by rw [byteVals_length, List.length_drop]; omega)
    rw [Nat.zero_add] at this
    rw [this, byteVals_at, List.getElem?_drop, show n1 + j = j + n1 by omega, List.getElem?_eq_getElem hk]
    rfl
  · rw [put_out _ _ _ _ (by rw [byteVals_length, List.length_drop]; omega)]
    by_cases h1 : i % 64 ≤ j ∧ j < i % 64 + n1
    · left
      have hk : j - i % 64 < t.length := by omega
      refine ⟨j - i % 64, t[j - i % 64], hk, by omega, List.getElem?_eq_getElem hk, ?_⟩
      have := put_in (byteVals (t.take n1)) cs (i % 64) (j - i % 64) (by rw [hs, byteVals_length, List.length_take]; omega) (by rw [byteVals_length, List.length_take]; omega)
      rw [show i % 64 + (j - i % 64) = j by omega] at this
      rw [this, byteVals_at, List.getElem?_take, if_pos (by omega), List.getElem?_eq_getElem hk]
      rfl
    · right
      exact ⟨fun k hk => by omega, put_out _ _ _ _ (by rw [byteVals_length, List.length_take]; omega)⟩
theorem wr_high (cs : Array Value) (i : Nat) (t : List UInt8) (ht : t.length ≤ 64) (j : Nat) (hj : 64 < j) : (wr cs i t)[j]? = cs[j]? := by
  unfold wr
  rw [Array.getElem?_setIfInBounds, if_neg (by omega), put_out _ _ _ _ (by rw [byteVals_length, List.length_drop]; omega), put_out _ _ _ _ (by rw [byteVals_length, List.length_take]; omega)]
theorem Ring.write {cs : Array Value} {q : List UInt8} {i o : Nat} {sh : Bool} (h : Ring cs q i o sh) (t : List UInt8) (ht : q.length + t.length ≤ 64) : Ring (wr cs i t) (q ++ t) (i + t.length) o sh := by
  obtain ⟨h1, h2, h3, h4, h5, h6, h7, h8⟩ := h
  have hsz : (wr cs i t).size = 67 := by unfold wr; rw [Array.size_setIfInBounds, put_size, put_size, h1]
  refine ⟨hsz, by simp; omega, by simpa using ht, fun j hj => ?_, fun j c hj => ?_, ?_, ?_, ?_⟩
  · rcases wr_low cs i t h1 (by omega) j hj with ⟨k, c, _, _, _, e⟩ | ⟨_, e⟩
    · exact ⟨c, e⟩
    · rw [e]; exact h4 j hj
  · have hm : (o + j) % 64 < 64 := Nat.mod_lt _ (by omega)
    have hjl : j < (q ++ t).length := by
      rcases Nat.lt_or_ge j (q ++ t).length with h | h
      · exact h
      · rw [List.getElem?_eq_none h] at hj; cases hj
    simp at hjl
    by_cases hq : j < q.length
    · rw [List.getElem?_append_left hq] at hj
      rcases wr_low cs i t h1 (by omega) _ hm with ⟨k, c', hk, e1, _, _⟩ | ⟨_, e⟩
      · omega
      · rw [e]; exact h5 j c hj
    · rw [List.getElem?_append_right (by omega)] at hj
      rcases wr_low cs i t h1 (by omega) _ hm with ⟨k, c', hk, e1, e2, e3⟩ | ⟨e0, _⟩
      · have : k = j - q.length := by omega
        subst this
        rw [e2] at hj
        injection hj with hj
        exact hj ▸ e3
      · exact absurd (by omega) (e0 (j - q.length) (by omega))
  · unfold wr
    rw [Array.getElem?_setIfInBounds, if_pos rfl, if_pos (by rw [put_size, put_size, h1]; omega)]
  · rw [wr_high _ _ _ (by omega) _ (by omega)]; exact h7
  · rw [wr_high _ _ _ (by omega) _ (by omega)]; exact h8
theorem Ring.read {cs : Array Value} {q : List UInt8} {i o : Nat} {sh : Bool} (h : Ring cs q i o sh) (n : Nat) (hn : n ≤ q.length) : Ring (cs.setIfInBounds 65 (.int .i64 ((o + n : Nat) : Int))) (q.drop n) i (o + n) sh := by
  obtain ⟨h1, h2, h3, h4, h5, h6, h7, h8⟩ := h
  refine ⟨by simp [h1], by simp; omega, by simp; omega, fun j hj => ?_, fun j c hj => ?_, ?_, ?_, ?_⟩
  · rw [Array.getElem?_setIfInBounds, if_neg (by omega)]; exact h4 j hj
  · have hm : (o + n + j) % 64 < 64 := Nat.mod_lt _ (by omega)
    rw [Array.getElem?_setIfInBounds, if_neg (by omega), Nat.add_assoc]
    exact h5 _ c (by rwa [List.getElem?_drop] at hj)
  · rw [Array.getElem?_setIfInBounds, if_neg (by omega)]; exact h6
  · rw [Array.getElem?_setIfInBounds, if_pos rfl, if_pos (by omega)]
  · rw [Array.getElem?_setIfInBounds, if_neg (by omega)]; exact h8
theorem Ring.shut {cs : Array Value} {q : List UInt8} {i o : Nat} {sh : Bool} (h : Ring cs q i o sh) : Ring (cs.setIfInBounds 66 (.bool true)) q i o true := by
  obtain ⟨h1, h2, h3, h4, h5, h6, h7, h8⟩ := h
  refine ⟨by simp [h1], h2, h3, fun j hj => ?_, fun j c hj => ?_, ?_, ?_, ?_⟩
  · rw [Array.getElem?_setIfInBounds, if_neg (by omega)]; exact h4 j hj
  · have hm : (o + j) % 64 < 64 := Nat.mod_lt _ (by omega)
    rw [Array.getElem?_setIfInBounds, if_neg (by omega)]; exact h5 j c hj
  · rw [Array.getElem?_setIfInBounds, if_neg (by omega)]; exact h6
  · rw [Array.getElem?_setIfInBounds, if_neg (by omega)]; exact h7
  · rw [Array.getElem?_setIfInBounds, if_pos rfl, if_pos (by omega)]
def nums (l : List UInt8) : List Int := l.map fun c => (c.toNat : Int)
theorem strOfNums_nums (l : List UInt8) : strOfNums (nums l) = ⟨l.toArray⟩ := by
  unfold strOfNums nums
  rw [List.map_map]
  congr 2
  conv => rhs; rw [← List.map_id l]
  congr 1
  funext c
  simp
theorem nums_at (l : List UInt8) (j : Nat) (c : UInt8) (h : l[j]? = some c) : (nums l).getD j 0 = (c.toNat : Int) := by
  simp [nums, h]
/-- The cells from 'at' on, as far as the end, and those from the begin on. -/
theorem Ring.first {cs : Array Value} {q : List UInt8} {i o : Nat} {sh : Bool} (h : Ring cs q i o sh) (n : Nat) (hn : n ≤ q.length) (hn2 : n ≤ 64 - o % 64) (j : Nat) (hj : j < n) :
    cs[o % 64 + j]? = some (.int .u8 ((nums (q.take n)).getD j 0)) := by
  have e := h.2.2.2.2.1 j q[j] (List.getElem?_eq_getElem (by omega))
  rw [show (o + j) % 64 = o % 64 + j by omega] at e
  rw [e, nums_at _ j q[j] (by rw [List.getElem?_take, if_pos hj, List.getElem?_eq_getElem])]
theorem Ring.second {cs : Array Value} {q : List UInt8} {i o : Nat} {sh : Bool} (h : Ring cs q i o sh) (n : Nat) (hn : n ≤ q.length) (hn2 : 64 - o % 64 ≤ n) (j : Nat) (hj : j < n - (64 - o % 64)) :
    cs[j]? = some (.int .u8 ((nums ((q.take n).drop (64 - o % 64))).getD j 0)) := by
  have e := h.2.2.2.2.1 (64 - o % 64 + j) q[64 - o % 64 + j] (List.getElem?_eq_getElem (by omega))
  have := h.2.2.1
  rw [show (o + (64 - o % 64 + j)) % 64 = j by omega] at e
  rw [e, nums_at _ j q[64 - o % 64 + j] (by rw [List.getElem?_drop, List.getElem?_take, if_pos (by omega), List.getElem?_eq_getElem])]
end Go.Proofs.YtcfkdglaedpnjaaDoor.R
