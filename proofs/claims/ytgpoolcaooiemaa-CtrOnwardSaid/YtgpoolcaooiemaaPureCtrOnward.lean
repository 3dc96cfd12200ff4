/- What is claimed: Whatever is done to a created container, it may be, its state never goes back, and what exited stays as it is. -/
import Derived.Test.YtgpoolcaooiemaaPCtrOnwardx
set_option linter.unusedSimpArgs false
namespace Go.Proofs.Ytgpoolcaooiemaa.PureOnward
open Go.RowKit Go.Proofs.Ytgpoolcaooiemaa.PCtrOnward Go.Proofs.YtgpoolcaooiemaaW.PrintWords Go.Proofs.YtgpoolcaooiemaaW.PrintLast
/-- It may be. -/
def Rt (s c l : Int) : Prop := (s = 1 ∧ c = 0 ∧ l = 0) ∨ (s = 2 ∧ c = 0 ∧ l = 0) ∨ (s = 3 ∧ c = 0 ∧ 1 ≤ l ∧ l ≤ 1000) ∨ (s = 4 ∧ 0 ≤ c ∧ c ≤ 255 ∧ l = 0)
theorem onward_works (k : Nat) : provostlaw19_works.f (k + 1) = some true := by kernel_rfl
set_option maxHeartbeats 4000000 in
theorem does_ok (k : Nat) (s c l kd n : Int) (h : Rt s c l) :
    ∃ s' c' l', provostlaw19_does.f (k + 1) s c l kd n = some (s', c', l') ∧ Rt s' c' l' ∧ s ≤ s' ∧ (s = 4 → s' = 4 ∧ c' = c ∧ l' = l) ∧ (s = 3 → s' = 3 → l' ≤ l) := by
  unfold Rt at h ⊢
  simp only [provostlaw19_does.f, ctr_Start.f, ctr_Stop.f, ctr_Stop.j0, ctr_Exit.f, ctr_Exit.j0, ctr_Kill.f, ctr_Runs.f, ctr_exited.f, ctr_Tick.f, wrap64, mn, Option.bind_some]
  rcases h with ⟨rfl, rfl, rfl⟩ | ⟨rfl, rfl, rfl⟩ | ⟨rfl, rfl, h1, h2⟩ | ⟨rfl, h1, h2, rfl⟩
  all_goals simp only [show ((1 : Int) == 3) = false from rfl, show ((2 : Int) == 3) = false from rfl, show ((3 : Int) == 3) = true from rfl, show ((4 : Int) == 3) = false from rfl, Bool.false_eq_true, if_true, if_false, Option.bind_some]
  all_goals repeat' (first | split | simp only [Option.bind_some, Bool.false_eq_true, if_true, if_false])
  all_goals (first | (exfalso; omega) | exact absurd trivial (by assumption) | skip)
  all_goals (try simp only [decide_eq_true_eq] at *)
  all_goals (first | (exfalso; omega) | exact ⟨_, _, _, rfl, by omega, by omega, by omega, by omega⟩)
theorem right_ok (s c l : Int) (h : Rt s c l) : ctr_Right.f s c l = some true := by
  unfold Rt at h
  rcases h with ⟨rfl, rfl, rfl⟩ | ⟨rfl, rfl, rfl⟩ | ⟨rfl, rfl, h1, h2⟩ | ⟨rfl, h1, h2, rfl⟩
  · rfl
  · rfl
  · simp [ctr_Right.f, h1, h2]
  · simp [ctr_Right.f, h1, h2]
theorem l0_ok (xs : List S33) : ∀ (d k : Nat) (i s c l : Int), 0 ≤ i → i + d = 100 → 4 * d + 60 < k → Rt s c l → provostlaw19_CtrOnward.l0 k xs i s c l = some true := by
  intro d
  induction d with
  | zero =>
    intro k i s c l hi hd hk h
    obtain ⟨k, rfl⟩ : ∃ m, k = m + 2 := ⟨k - 2, by omega⟩
    simp only [provostlaw19_CtrOnward.l0]
    rw [decide_eq_false (by omega)]
    split <;> rfl
  | succ d ih =>
    intro k i s c l hi hd hk h
    obtain ⟨k, rfl⟩ : ∃ m, k = m + 3 := ⟨k - 3, by omega⟩
    simp only [provostlaw19_CtrOnward.l0]
    by_cases hx : i < (xs.length : Int)
    · rw [if_pos hx, decide_eq_true (by omega)]
      simp only [provostlaw19_CtrOnward.j1]
      rw [if_pos trivial, if_pos hi, if_pos hx]
      generalize (rd_T33 xs i).f0 = kd
      generalize (rd_T33 xs i).f1 = n
      obtain ⟨s', c', l', e, h', h1, h2, h3⟩ := does_ok k s c l kd n h
      rw [e]
      simp only [Option.bind_some]
      rw [right_ok s' c' l' h']
      simp only [Option.bind_some]
      have ih' := ih (k + 1) (i + 1) s' c' l' (by omega) (by omega) (by omega) h'
      rw [show wrap64 (i + 1) = i + 1 by unfold wrap64; omega, ih', if_pos trivial, if_neg (by omega)]
      by_cases h4 : s = 4
      · obtain ⟨rfl, rfl, rfl⟩ := h2 h4
        subst h4
        simp
      · rw [if_neg h4]
        by_cases e3 : s = 3
        · rw [if_pos e3]
          by_cases e4 : s' = 3
          · rw [if_pos e4, if_neg (by have := h3 e3 e4; omega)]
          · rw [if_neg e4]
        · rw [if_neg e3]
    · rw [if_neg hx]
      rfl
theorem CtrOnward (xs : List S33) : provostlaw19_CtrOnward.f 1000 xs = some true := by
  rw [provostlaw19_CtrOnward.f, onward_works]
  simp only [Option.bind_some]
  rw [if_pos trivial]
  exact l0_ok xs 100 1000 0 1 0 0 (by omega) (by omega) (by omega) (.inl ⟨rfl, rfl, rfl⟩)
end Go.Proofs.Ytgpoolcaooiemaa.PureOnward
