/- What package orphan and the document's functions answer: orphans are a list's sandboxes without a pod. -/
import Derived.Test.YtanlbnipbbjheaaPOrphanFindsx3
import Derived.Test.YtanlbnipbbjheaaOSet
namespace Go.Proofs.Ytanlbnipbbjheaa.R
open Go Go.RowKit Go.Proofs.Ytanlbnipbbjheaa.K Go.Proofs.YtanlbnipbbjheaaW.PrintWords Go.Proofs.Ytanlbnipbbjheaa.POrphanFinds
set_option linter.unusedVariables false
set_option linter.unusedSimpArgs false
theorem W64 (x : Int) (h1 : -9223372036854775808 ≤ x) (h2 : x ≤ 9223372036854775807) : wrap64 x = x := by unfold wrap64; omega
def isO (l1 : List Int) (b : S28) : Bool := !(decide (b.f1 ∈ l1))
def Fo (l0 : List S28) (l1 : List Int) : List S28 := l0.filter (isO l1)
theorem fo_len (l0 : List S28) (l1 : List Int) : (Fo l0 l1).length ≤ l0.length := List.length_filter_le _ _
theorem has_some (l : List Int) (u : Int) (hl : l.length ≤ 1000) : ∀ (d k i : Nat), i + d = l.length → d < k → provostref32_Has.l0 k l u i = some (decide (u ∈ l.drop i)) := by
  intro d
  induction d with
  | zero =>
    intro k i hi hk
    obtain ⟨k, rfl⟩ : ∃ m, k = m + 1 := ⟨k - 1, by omega⟩
    simp only [provostref32_Has.l0]
    rw [if_neg (by omega), List.drop_of_length_le (by omega)]
    simp
  | succ d ih =>
    intro k i hi hk
    obtain ⟨k, rfl⟩ : ∃ m, k = m + 1 := ⟨k - 1, by omega⟩
    have hlt : i < l.length := by omega
    have hd : l.drop i = l[i] :: l.drop (i + 1) := List.drop_eq_getElem_cons hlt
    have hr : rd l (i : Int) = l[i] := by unfold rd; simp [List.getD_eq_getElem?_getD, hlt]
    simp only [provostref32_Has.l0]
    rw [if_pos (by omega), if_pos (by omega), hr, W64 _ (by omega) (by omega)]
    have := ih k (i + 1) (by omega) (by omega)
    rw [show ((i + 1 : Nat) : Int) = (i : Int) + 1 by omega] at this
    rw [hd]
    by_cases e : l[i] = u
    · rw [if_pos e, decide_eq_true (by rw [← e]; exact List.mem_cons_self)]
    · rw [if_neg e, this]
      have e' : u ≠ l[i] := fun h => e h.symm
      by_cases hm : u ∈ l.drop (i + 1)
      · rw [decide_eq_true hm, decide_eq_true (List.mem_cons_of_mem _ hm)]
      · rw [decide_eq_false hm, decide_eq_false (fun h => (List.mem_cons.1 h).elim e' hm)]
theorem has_f (l : List Int) (u : Int) (hl : l.length ≤ 1000) (k : Nat) (hk : l.length < k) : provostref32_Has.f k l u = some (decide (u ∈ l)) := by
  have := has_some l u hl l.length k 0 (by omega) hk
  simpa [provostref32_Has.f] using this
theorem rd28 {l : List S28} {i : Nat} (h : i < l.length) : rd_T28 l (i : Int) = l[i] := by
  unfold rd_T28
  simp [List.getD_eq_getElem?_getD, h]
theorem find_l0 (l0 : List S28) (l1 : List Int) (h0 : l0.length ≤ 1000) (h1 : l1.length ≤ 1000) : ∀ (d k i : Nat) (acc : List S28), i + d = l0.length → d + l1.length < k → acc.length ≤ i →
    provostref32_Find.l0 k l0 l1 acc i = some (acc ++ (l0.drop i).filter (isO l1)) := by
  intro d
  induction d with
  | zero =>
    intro k i acc hi hk ha
    obtain ⟨k, rfl⟩ : ∃ m, k = m + 1 := ⟨k - 1, by omega⟩
    simp only [provostref32_Find.l0]
    rw [if_neg (by omega), List.drop_of_length_le (by omega)]
    simp
  | succ d ih =>
    intro k i acc hi hk ha
    obtain ⟨k, rfl⟩ : ∃ m, k = m + 1 := ⟨k - 1, by omega⟩
    have hlt : i < l0.length := by omega
    have hd : l0.drop i = l0[i] :: l0.drop (i + 1) := List.drop_eq_getElem_cons hlt
    simp only [provostref32_Find.l0]
    rw [if_pos (by omega), if_pos (by omega), rd28 hlt, has_f l1 _ h1 k (by omega), W64 _ (by omega) (by omega), hd]
    simp only [Option.bind_some]
    have i1 := ih k (i + 1) acc (by omega) (by omega) (by omega)
    have i2 := ih k (i + 1) (acc ++ [l0[i]]) (by omega) (by omega) (by simp; omega)
    rw [show ((i + 1 : Nat) : Int) = (i : Int) + 1 by omega] at i1 i2
    by_cases e : l0[i].f1 ∈ l1
    · rw [if_pos (by simpa using e), i1, List.filter_cons_of_neg (by simp [isO, e])]
    · rw [if_neg (by simpa using e), if_pos (by omega), List.filter_cons_of_pos (by simp [isO, e])]
      refine i2.trans ?_
      simp
theorem orph_l0 (l0 : List S28) (l1 : List Int) (h0 : l0.length ≤ 1000) (h1 : l1.length ≤ 1000) : ∀ (d k i : Nat) (acc : List S28), i + d = l0.length → d + l1.length < k → acc.length ≤ i →
    orphan_orphans.l0 k l0 l1 acc i = some (acc ++ (l0.drop i).filter (isO l1)) := by
  intro d
  induction d with
  | zero =>
    intro k i acc hi hk ha
    obtain ⟨k, rfl⟩ : ∃ m, k = m + 1 := ⟨k - 1, by omega⟩
    simp only [orphan_orphans.l0]
    rw [if_neg (by omega), List.drop_of_length_le (by omega)]
    simp
  | succ d ih =>
    intro k i acc hi hk ha
    obtain ⟨k, rfl⟩ : ∃ m, k = m + 1 := ⟨k - 1, by omega⟩
    have hlt : i < l0.length := by omega
    have hd : l0.drop i = l0[i] :: l0.drop (i + 1) := List.drop_eq_getElem_cons hlt
    simp only [orphan_orphans.l0]
    rw [if_pos (by omega), if_pos (by omega), rd28 hlt, has_f l1 _ h1 k (by omega), W64 _ (by omega) (by omega), hd]
    simp only [Option.bind_some]
    have i1 := ih k (i + 1) acc (by omega) (by omega) (by omega)
    have i2 := ih k (i + 1) (acc ++ [l0[i]]) (by omega) (by omega) (by simp; omega)
    rw [show ((i + 1 : Nat) : Int) = (i : Int) + 1 by omega] at i1 i2
    by_cases e : l0[i].f1 ∈ l1
    · rw [if_pos (by simpa using e), i1, List.filter_cons_of_neg (by simp [isO, e])]
    · rw [if_neg (by simpa using e), if_pos (by omega), List.filter_cons_of_pos (by simp [isO, e])]
      refine i2.trans ?_
      simp
theorem find_f (l0 : List S28) (l1 : List Int) (h0 : l0.length ≤ 1000) (h1 : l1.length ≤ 1000) : provostref32_Find.f 3000 l0 l1 = some (Fo l0 l1) := by
  have := find_l0 l0 l1 h0 h1 l0.length 3000 0 [] (by omega) (by omega) (by simp)
  simpa [provostref32_Find.f, Fo] using this
theorem orph_f (l0 : List S28) (l1 : List Int) (h0 : l0.length ≤ 1000) (h1 : l1.length ≤ 1000) : orphan_orphans.f 3000 l0 l1 = some (Fo l0 l1) := by
  have := orph_l0 l0 l1 h0 h1 l0.length 3000 0 [] (by omega) (by omega) (by simp)
  simpa [orphan_orphans.f, Fo] using this
/-- The step by which one goes. -/
def stepOf (F : List S28) : Int × Int × Bool := match F with
  | [] => (0, 0, false)
  | b :: _ => (if b.f2 = 1 then 10 else 11, b.f0, true)
theorem next_f (l0 : List S28) (l1 : List Int) (h0 : l0.length ≤ 1000) (h1 : l1.length ≤ 1000) :
    orphan_Next.f 3000 l0 l1 = some ((stepOf (Fo l0 l1)).1, (stepOf (Fo l0 l1)).2.1, 0, 0, 0, 0, ⟨#[]⟩, ⟨#[]⟩, (stepOf (Fo l0 l1)).2.2) := by
  unfold orphan_Next.f
  rw [orph_f l0 l1 h0 h1]
  simp only [Option.bind_some]
  rcases Fo l0 l1 with _ | ⟨b, F⟩
  · simp [stepOf]
  · have hr : rd_T28 (b :: F) 0 = b := rfl
    rw [if_neg (by simp; omega), if_pos (by simp), hr]
    by_cases e : b.f2 = 1 <;> simp [stepOf, e]
def twos (F : List S28) : Int := F.length + (F.filter (fun b => decide (b.f2 = 1))).length
theorem left_l0 (F : List S28) (hF : F.length ≤ 1000) : ∀ (d k i : Nat) (n : Int), i + d = F.length → d < k → 0 ≤ n → n ≤ 2 * i →
    orphan_Left.l0 k n F F.length i = some (n + twos (F.drop i)) := by
  intro d
  induction d with
  | zero =>
    intro k i n hi hk h0 h1
    obtain ⟨k, rfl⟩ : ∃ m, k = m + 1 := ⟨k - 1, by omega⟩
    simp only [orphan_Left.l0]
    rw [if_neg (by omega), List.drop_of_length_le (by omega)]
    simp [twos]
  | succ d ih =>
    intro k i n hi hk h0 h1
    obtain ⟨k, rfl⟩ : ∃ m, k = m + 1 := ⟨k - 1, by omega⟩
    have hlt : i < F.length := by omega
    have hd : F.drop i = F[i] :: F.drop (i + 1) := List.drop_eq_getElem_cons hlt
    simp only [orphan_Left.l0]
    rw [if_pos (by omega), if_pos (by omega), if_pos (by omega), rd28 hlt, W64 (n + 1) (by omega) (by omega), W64 (n + 1 + 1) (by omega) (by omega), W64 ((i : Int) + 1) (by omega) (by omega), hd]
    by_cases e : F[i].f2 = 1
    · rw [if_pos e]
      have := ih k (i + 1) (n + 1 + 1) (by omega) (by omega) (by omega) (by omega)
      rw [show ((i + 1 : Nat) : Int) = (i : Int) + 1 by omega] at this
      rw [this]
      unfold twos
      rw [List.filter_cons, if_pos (by simpa using e)]
      simp only [List.length_cons]
      congr 1; omega
    · rw [if_neg e]
      have := ih k (i + 1) (n + 1) (by omega) (by omega) (by omega) (by omega)
      rw [show ((i + 1 : Nat) : Int) = (i : Int) + 1 by omega] at this
      rw [this]
      unfold twos
      rw [List.filter_cons, if_neg (by simpa using e)]
      simp only [List.length_cons]
      congr 1; omega
theorem left_f (l0 : List S28) (l1 : List Int) (h0 : l0.length ≤ 1000) (h1 : l1.length ≤ 1000) : orphan_Left.f 3000 l0 l1 = some (twos (Fo l0 l1)) := by
  unfold orphan_Left.f
  rw [orph_f l0 l1 h0 h1]
  have hl := fo_len l0 l1
  have := left_l0 (Fo l0 l1) (by omega) (Fo l0 l1).length 3000 0 0 (by omega) (by omega) (by omega) (by omega)
  simpa using this
theorem ids_l0 (F : List S28) (hF : F.length ≤ 1000) : ∀ (d k i : Nat) (acc : List Int), i + d = F.length → d < k → acc.length ≤ i →
    orphan_Find.l0 k acc F F.length i = some (acc ++ (F.drop i).map (·.f0)) := by
  intro d
  induction d with
  | zero =>
    intro k i acc hi hk ha
    obtain ⟨k, rfl⟩ : ∃ m, k = m + 1 := ⟨k - 1, by omega⟩
    simp only [orphan_Find.l0]
    rw [if_neg (by omega), List.drop_of_length_le (by omega)]
    simp
  | succ d ih =>
    intro k i acc hi hk ha
    obtain ⟨k, rfl⟩ : ∃ m, k = m + 1 := ⟨k - 1, by omega⟩
    have hlt : i < F.length := by omega
    have hd : F.drop i = F[i] :: F.drop (i + 1) := List.drop_eq_getElem_cons hlt
    simp only [orphan_Find.l0]
    rw [if_pos (by omega), if_pos (by omega), if_pos (by omega), if_pos (by omega), rd28 hlt, W64 ((i : Int) + 1) (by omega) (by omega), hd]
    have := ih k (i + 1) (acc ++ [F[i].f0]) (by omega) (by omega) (by simp; omega)
    rw [show ((i + 1 : Nat) : Int) = (i : Int) + 1 by omega] at this
    rw [this, List.map_cons, List.append_assoc]
    rfl
theorem ids_f (l0 : List S28) (l1 : List Int) (h0 : l0.length ≤ 1000) (h1 : l1.length ≤ 1000) : orphan_Find.f 3000 l0 l1 = some ((Fo l0 l1).map (·.f0)) := by
  unfold orphan_Find.f
  rw [orph_f l0 l1 h0 h1]
  have hl := fo_len l0 l1
  have := ids_l0 (Fo l0 l1) (by omega) (Fo l0 l1).length 3000 0 [] (by omega) (by omega) (by simp)
  simpa using this
theorem rleft_l0 (F : List S28) (hF : F.length ≤ 1000) : ∀ (d k i : Nat) (n : Int), i + d = F.length → d < k → 0 ≤ n → n ≤ 1000 + i →
    provostref32_Left.l0 k F n i = some (n + ((F.drop i).filter (fun b => decide (b.f2 = 1))).length) := by
  intro d
  induction d with
  | zero =>
    intro k i n hi hk h0 h1
    obtain ⟨k, rfl⟩ : ∃ m, k = m + 1 := ⟨k - 1, by omega⟩
    simp only [provostref32_Left.l0]
    rw [if_neg (by omega), List.drop_of_length_le (by omega)]
    simp
  | succ d ih =>
    intro k i n hi hk h0 h1
    obtain ⟨k, rfl⟩ : ∃ m, k = m + 1 := ⟨k - 1, by omega⟩
    have hlt : i < F.length := by omega
    have hd : F.drop i = F[i] :: F.drop (i + 1) := List.drop_eq_getElem_cons hlt
    simp only [provostref32_Left.l0]
    rw [if_pos (by omega), if_pos (by omega), rd28 hlt, W64 (n + 1) (by omega) (by omega), W64 ((i : Int) + 1) (by omega) (by omega), hd]
    by_cases e : F[i].f2 = 1
    · rw [if_pos e]
      have := ih k (i + 1) (n + 1) (by omega) (by omega) (by omega) (by omega)
      rw [show ((i + 1 : Nat) : Int) = (i : Int) + 1 by omega] at this
      rw [this, List.filter_cons, if_pos (by simpa using e)]
      simp only [List.length_cons]
      congr 1; omega
    · rw [if_neg e]
      have := ih k (i + 1) n (by omega) (by omega) (by omega) (by omega)
      rw [show ((i + 1 : Nat) : Int) = (i : Int) + 1 by omega] at this
      rw [this, List.filter_cons, if_neg (by simpa using e)]
theorem rleft_f (l0 : List S28) (l1 : List Int) (h0 : l0.length ≤ 1000) (h1 : l1.length ≤ 1000) : provostref32_Left.f 3000 l0 l1 = some (twos (Fo l0 l1)) := by
  unfold provostref32_Left.f
  rw [find_f l0 l1 h0 h1]
  have hl := fo_len l0 l1
  have := rleft_l0 (Fo l0 l1) (by omega) (Fo l0 l1).length 3000 0 (Fo l0 l1).length (by omega) (by omega) (by omega) (by omega)
  simpa [twos] using this
theorem same_l0 (l : List Int) (hl : l.length ≤ 1000) : ∀ (d k i : Nat), i + d = l.length → d < k → provostbook_SameInts.l0 k l l true i = some true := by
  intro d
  induction d with
  | zero =>
    intro k i hi hk
    obtain ⟨k, rfl⟩ : ∃ m, k = m + 1 := ⟨k - 1, by omega⟩
    simp only [provostbook_SameInts.l0]
    rw [if_pos trivial, if_neg (by omega)]
  | succ d ih =>
    intro k i hi hk
    obtain ⟨k, rfl⟩ : ∃ m, k = m + 1 := ⟨k - 1, by omega⟩
    simp only [provostbook_SameInts.l0]
    rw [if_pos trivial, if_pos (by omega), if_pos (by omega), if_pos (by omega), W64 ((i : Int) + 1) (by omega) (by omega), show (rd l (i : Int) == rd l (i : Int)) = true by simp]
    have := ih k (i + 1) (by omega) (by omega)
    rwa [show ((i + 1 : Nat) : Int) = (i : Int) + 1 by omega] at this
theorem same_f (l : List Int) (hl : l.length ≤ 1000) : provostbook_SameInts.f 3000 l l = some true := by
  unfold provostbook_SameInts.f
  rw [show ((l.length : Int) == (l.length : Int)) = true by simp]
  exact same_l0 l hl l.length 3000 0 (by omega) (by omega)
theorem works_f : provostlaw32_works.f 3000 = some true := by
  unfold provostlaw32_works.f
  rw [next_f _ _ (by simp) (by simp), next_f _ _ (by simp) (by simp), left_f _ _ (by simp) (by simp)]
  kernel_rfl
/-! the contracts, over orphans -/
section
variable {A0 A1 : Option Addr} {c0 c1 : Nat} {l0 : List S28} {l1 : List Int} {w : World}
theorem chB {w w' : World} (h : Below w.heap.size w w') : Ch [] w w' := ⟨h.os, h.tape, h.output, h.size, fun k hk _ => h.block k hk⟩
theorem RFind (h0 : Kd.C k28 w A0 l0.length l0) (g0 : l0.length ≤ c0) (h1 : Kd.C (Kd.int .i64) w A1 l1.length l1) (g1 : l1.length ≤ c1) (k0 : l0.length ≤ 1000) (k1 : l1.length ≤ 1000) :
    Calls Try.prog 8 #[.slice A0 l0.length c0, .slice A1 l1.length c1] w fun e w' => ∃ A c, e = .returned (.slice A (Fo l0 l1).length c) ∧ (Fo l0 l1).length ≤ c ∧ Kd.C k28 w' A (Fo l0 l1).length (Fo l0 l1) ∧ Ch [] w w' := by
  refine (provostref32_Find.calls 3000 (fun k_ => k_ < w.heap.size) A0 c0 l0 A1 c1 l1 _ w (Kd.V_mk g0 (Kd.C_F k28_heap h0)) h1 g1 (find_f l0 l1 k0 k1)).mono ?_
  rintro e w' ⟨v, rfl, hn, hb⟩
  obtain ⟨A, c, rfl, hl, hc⟩ := Kd.N_reads hn
  exact ⟨A, c, rfl, hl, hc, chB hb⟩
end
end Go.Proofs.Ytanlbnipbbjheaa.R
