/- What the document's Whole and Order say, as lists. -/
import Derived.Test.YtggcpbnlblbpjaaLineU
namespace Go.Proofs.Ytggcpbnlblbpjaa.L
open Go Go.RowKit Go.Proofs.Ytggcpbnlblbpjaa.K Go.Proofs.Ytggcpbnlblbpjaa.H Go.Proofs.YtggcpbnlblbpjaaW.PrintLast
set_option linter.unusedVariables false
set_option linter.unusedSimpArgs false
theorem win_step {t : Int} {M : List Int} {j k : Nat} {b b' : Bool} {z : Int} (hz : M[j]? = some z) (h : b = true ↔ (t ≤ 0 ∨ (k : Int) ∈ M.take j)) (hb : b' = (b || decide ((k : Int) = z))) : b' = true ↔ (t ≤ 0 ∨ (k : Int) ∈ M.take (j + 1)) := by
  rw [hb, take_snoc hz, Bool.or_eq_true, h, decide_eq_true_iff, List.mem_append, List.mem_singleton, or_assoc]
theorem win_ways (b : Bool) (k : Nat) (z : Int) : b = true ∨ (b = false ∧ (k : Int) = z) ∨ (b = false ∧ ¬ (k : Int) = z) := by
  cases b
  · by_cases h : (k : Int) = z
    · exact .inr (.inl ⟨rfl, h⟩)
    · exact .inr (.inr ⟨rfl, h⟩)
  · exact .inl rfl
theorem own_conv {w : World} {base e sz n m : Nat} {v : Value} {xs ys : List Value} (h : OwnS w base e sz v n xs) (hn : n = m) (hx : xs = ys) : OwnS w base e sz v m ys := by
  subst hn hx
  exact h
theorem own_of_blk {w : World} {base g : Nat} {u : Value} (h : Blk w g #[u] 3) (hb : base ≤ g) : OwnS w base 3 1 (.slice (some ⟨g, 0, none⟩) 1 1) 1 [u] :=
  ⟨rfl, .inr ⟨g, 1, #[u], rfl, by decide, hb, h, Nat.le_refl _, by unfold maxLen; omega, rfl, rfl⟩⟩
theorem row_one {g k : Nat} (h : k ∈ rl (.slice (some ⟨g, 0, none⟩) 1 1)) : k = g := by
  rw [rl_some _ _ _ (by decide)] at h
  exact List.mem_singleton.1 h
theorem ones_vi (X : List Int) : ∀ u ∈ X.map vi, u.oneCell' = true := fun u hu => by
  obtain ⟨z, _, rfl⟩ := List.mem_map.1 hu
  rfl
/-- A row that is nil, or is not empty. -/
def outP (v : Value) (X : List Int) : Prop := (X = [] ∧ v = .slice none 0 0) ∨ 0 < X.length
set_option maxRecDepth 100000 in
theorem cuts {w : World} {base : Nat} {v : Value} {X : List Int} (hn : outP v X) (h : OwnS w base 3 1 v X.length (X.map vi)) {j : Nat} (hj : j ≤ X.length) : ∃ vF vT, (∀ W, (Instr.sliceAt 44 v (some (.int .i64 (j : Nat))) none none).run Try.prog W = .ok vF W) ∧ (∀ W, (Instr.sliceAt 44 v none (some (.int .i64 (j : Nat))) none).run Try.prog W = .ok vT W) ∧
    (∀ W, OwnS W base 3 1 v X.length (X.map vi) → SrcIs W vF (X.length - j) ((X.drop j).map vi) 1) ∧ (∀ W, OwnS W base 3 1 v X.length (X.map vi) → SrcIs W vT j ((X.take j).map vi) 1) := by
  rcases hn with ⟨rfl, rfl⟩ | hn
  · obtain rfl : j = 0 := by simpa using hj
    exact ⟨.slice none 0 0, .slice none 0 0, fun W => by go_simp, fun W => by go_simp, fun W _ => ⟨rfl, .inl ⟨rfl, rfl⟩⟩, fun W _ => ⟨rfl, .inl ⟨rfl, rfl⟩⟩⟩
  · obtain ⟨g, c, rfl, hc, hm, -, -, -⟩ := h.some_ hn
    refine ⟨_, _, fun W => run_slice_from (sz := 1) Try.underlying44 (by kernel_rfl) ⟨g, 0, none⟩ j X.length c j rfl hj hc hm, fun W => run_slice_upto (sz := 1) Try.underlying44 (by kernel_rfl) ⟨g, 0, none⟩ j X.length c j rfl (by omega), fun W hW => ⟨by simp, .inr ⟨_, _, rfl, fun i u hu => ?_⟩⟩, fun W hW => ⟨by simp; omega, .inr ⟨_, _, rfl, fun i u hu => ?_⟩⟩⟩
    · rw [List.map_drop] at hu
      rw [List.getElem?_drop] at hu
      have hl : j + i < X.length := by have := (List.getElem?_eq_some_iff.1 hu).1; simpa using this
      rw [if_neg (by omega), Go.Deep.add_add]
      have := src_cells hW.src (j + i) u hu
      rwa [show j * 1 + i = j + i by omega]
    · rw [List.map_take, List.getElem?_take] at hu
      split at hu
      · exact src_cells hW.src i u hu
      · cases hu
theorem kd_at {L : List HOp} {k : Nat} {o : HOp} (ho : L[k]? = some o) : kd L (k : Int) = o.d := by unfold kd; rw [Int.toNat_natCast, ho]
theorem ins_sorts {L : List HOp} {X : List Int} {k j : Nat} {o : HOp} (hs : sorts L (doneI L k) X) (ho : L[k]? = some o) (hd : o.d > 0) (hin : ∀ y ∈ X.drop j, o.d < kd L y) (hex : ∀ y ∈ X.take j, ¬ o.d < kd L y) : sorts L (doneI L (k + 1)) (X.take j ++ (k : Int) :: X.drop j) := by
  rw [done_yes ho hd]
  refine sorts_snoc (by rw [List.take_append_drop]; exact hs) (fun y hy => .inl (by rw [kd_at ho]; exact hin y hy)) (fun y hy => lx_not (by rw [kd_at ho]; exact hex y hy) ?_)
  obtain ⟨i, p, rfl, hi, _⟩ := done_mem (hs.1.mem_iff.1 (List.mem_of_mem_take hy))
  omega
theorem ins_zero {L : List HOp} {X : List Int} {j : Nat} {d : Int} (hj : j = 0) : ∀ y ∈ X.take j, ¬ d < kd L y := by
  subst hj
  intro y hy
  simp at hy
theorem ins_end {L : List HOp} {X : List Int} {i j : Nat} {d z : Int} (hs : srt L X) (hj : j = i + 1) (hz : X[i]? = some z) (h : ¬ d < kd L z) : ∀ y ∈ X.take j, ¬ d < kd L y := by
  subst hj
  intro y hy
  obtain ⟨m, hm, rfl⟩ := List.mem_iff_getElem.1 hy
  rw [List.length_take] at hm
  rw [List.getElem_take]
  obtain ⟨hl, rfl⟩ := List.getElem?_eq_some_iff.1 hz
  have := srt_le hs (show m ≤ i by omega) hl
  omega
theorem ins_none {L : List HOp} (X : List Int) (d : Int) : ∀ y ∈ X.drop X.length, d < kd L y := by
  intro y hy
  simp at hy
theorem ins_step {L : List HOp} {X : List Int} {i j : Nat} {d z : Int} (hj : j = i + 1) (hz : X[i]? = some z) (h : d < kd L z) (hi : ∀ y ∈ X.drop j, d < kd L y) : ∀ y ∈ X.drop i, d < kd L y := by
  subst hj
  obtain ⟨hl, rfl⟩ := List.getElem?_eq_some_iff.1 hz
  intro y hy
  rw [List.drop_eq_getElem_cons hl] at hy
  rcases List.mem_cons.1 hy with rfl | hy
  · exact h
  · exact hi y hy
theorem ins_at {L : List HOp} {X : List Int} {k j : Nat} (hs : sorts L (doneI L k) X) (hj : j ≤ X.length) : (∃ (i y : Nat) (p : HOp), j = i + 1 ∧ X[i]? = some (y : Int) ∧ y < k ∧ L[y]? = some p ∧ kd L (y : Int) = p.d) ∨ j = 0 := by
  cases j with
  | zero => exact .inr rfl
  | succ i =>
    obtain ⟨y, p, he, hy, hp, _⟩ := done_mem (hs.1.mem_iff.1 (List.getElem_mem (show i < X.length by omega)))
    exact .inl ⟨i, y, p, rfl, by rw [List.getElem?_eq_getElem (show i < X.length by omega), he], hy, hp, kd_at hp⟩
end Go.Proofs.Ytggcpbnlblbpjaa.L
