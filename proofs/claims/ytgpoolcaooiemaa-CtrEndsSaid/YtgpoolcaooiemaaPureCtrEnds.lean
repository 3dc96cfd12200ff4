/- What is claimed: A container that was told to stop is exited behind as many ticks as it was given, whatever else is done to it. -/
import Derived.Test.YtgpoolcaooiemaaPCtrEndsx
set_option linter.unusedSimpArgs false
namespace Go.Proofs.Ytgpoolcaooiemaa.Pure
open Go.RowKit Go.Proofs.Ytgpoolcaooiemaa.PCtrEnds Go.Proofs.YtgpoolcaooiemaaW.PrintWords Go.Proofs.YtgpoolcaooiemaaW.PrintLast
/-- Exited, or stopping with no more ticks than are left. -/
def Inv (g t s l : Int) : Prop := s = 4 ∨ (s = 3 ∧ 1 ≤ l ∧ t + l ≤ g)
theorem ends_works (k : Nat) : provostlaw19_works.f (k + 1) = some true := by
  show provostlaw19_works.f (k + 1) = some true
  kernel_rfl
theorem does_ok (k : Nat) (s c l kd n g t : Int) (h : Inv g t s l) (ht : 0 ≤ t) (hg : g ≤ 50) :
    ∃ s' c' l', provostlaw19_does.f (k + 1) s c l kd n = some (s', c', l') ∧ Inv g (if kd < 0 ∨ 3 < kd then t + 1 else t) s' l' := by
  unfold Inv at h ⊢
  simp only [provostlaw19_does.f, ctr_Start.f, ctr_Stop.f, ctr_Stop.j0, ctr_Exit.f, ctr_Exit.j0, ctr_Kill.f, ctr_Runs.f, ctr_exited.f, ctr_Tick.f, wrap64, mn, Option.bind_some]
  rcases h with rfl | ⟨rfl, h1, h2⟩
  · repeat' (first | split | simp only [Option.bind_some])
    all_goals (first | (exfalso; omega) | exact ⟨_, _, _, rfl, .inl rfl⟩ | exact absurd trivial (by assumption))
  · repeat' (first | split | simp only [Option.bind_some])
    all_goals (first | (exfalso; omega) | exact ⟨_, _, _, rfl, .inl rfl⟩ | exact ⟨_, _, _, rfl, .inr ⟨rfl, by omega, by omega⟩⟩ | exact absurd trivial (by assumption))
theorem tick_ok (s c l g t : Int) (h : Inv g t s l) (ht : 0 ≤ t) (hg : g ≤ 50) :
    ∃ s' c' l' b, ctr_Tick.f s c l = some (s', c', l', b) ∧ Inv g (t + 1) s' l' := by
  unfold Inv at h ⊢
  simp only [ctr_exited.f, ctr_Tick.f, wrap64, Option.bind_some]
  rcases h with rfl | ⟨rfl, h1, h2⟩
  · exact ⟨_, _, _, _, rfl, .inl rfl⟩
  · repeat' (first | split | simp only [Option.bind_some])
    all_goals (first | (exfalso; omega) | exact ⟨_, _, _, _, rfl, .inl rfl⟩ | exact ⟨_, _, _, _, rfl, .inr ⟨rfl, by omega, by omega⟩⟩)
/-- The ticks behind: exited at the end. -/
theorem l1_ok (g : Int) (hg : g ≤ 50) : ∀ (d k : Nat) (i s c l : Int), 0 ≤ i → i + d = max g i → d < k → Inv g i s l → provostlaw19_CtrEnds.l1 k g i s c l = some true := by
  intro d
  induction d with
  | zero =>
    intro k i s c l hi hd hk h
    obtain ⟨k, rfl⟩ : ∃ m, k = m + 1 := ⟨k - 1, by omega⟩
    simp only [provostlaw19_CtrEnds.l1]
    rw [if_neg (by omega)]
    unfold Inv at h
    have h4 : s = 4 := by omega
    subst h4
    rfl
  | succ d ih =>
    intro k i s c l hi hd hk h
    obtain ⟨k, rfl⟩ : ∃ m, k = m + 1 := ⟨k - 1, by omega⟩
    simp only [provostlaw19_CtrEnds.l1]
    rw [if_pos (by omega)]
    obtain ⟨s', c', l', b, e, h'⟩ := tick_ok s c l g i h hi hg
    rw [e]
    simp only [Option.bind_some]
    rw [show wrap64 (i + 1) = i + 1 by unfold wrap64; omega]
    exact ih k (i + 1) s' c' l' (by omega) (by omega) (by omega) h'
/-- The acts. -/
theorem l0_ok (g : Int) (hg0 : 0 ≤ g) (hg : g ≤ 50) (xs : List S33) : ∀ (d k : Nat) (i t s c l : Int), 0 ≤ i → i + d = 100 → 4 * d + 60 < k → 0 ≤ t → t ≤ i → Inv g t s l → provostlaw19_CtrEnds.l0 k g xs t i s c l = some true := by
  intro d
  induction d with
  | zero =>
    intro k i t s c l hi hd hk ht hti h
    obtain ⟨k, rfl⟩ : ∃ m, k = m + 2 := ⟨k - 2, by omega⟩
    have hj : provostlaw19_CtrEnds.j2 (k + 1) g xs t i false s c l = some true := by
      simp only [provostlaw19_CtrEnds.j2]
      rw [if_neg (by simp)]
      exact l1_ok g hg g.toNat k 0 s c l (by omega) (by omega) (by omega) (by unfold Inv at h ⊢; omega)
    simp only [provostlaw19_CtrEnds.l0]
    rw [decide_eq_false (by omega), hj]
    split <;> rfl
  | succ d ih =>
    intro k i t s c l hi hd hk ht hti h
    obtain ⟨k, rfl⟩ : ∃ m, k = m + 4 := ⟨k - 4, by omega⟩
    simp only [provostlaw19_CtrEnds.l0]
    by_cases hx : i < (xs.length : Int)
    · rw [if_pos hx, decide_eq_true (by omega)]
      simp only [provostlaw19_CtrEnds.j2]
      rw [if_pos trivial, if_pos hi, if_pos hx]
      generalize (rd_T33 xs i).f0 = kd
      generalize (rd_T33 xs i).f1 = n
      obtain ⟨s', c', l', e, h'⟩ := does_ok (k + 1) s c l kd n g t h ht hg
      rw [e]
      simp only [Option.bind_some, provostlaw19_CtrEnds.j3]
      rw [show wrap64 (t + 1) = t + 1 by unfold wrap64; omega, show wrap64 (i + 1) = i + 1 by unfold wrap64; omega]
      by_cases hk3 : kd < 0 ∨ 3 < kd
      · rw [if_pos hk3] at h'
        have key : ∀ (s'' : Int), Inv g (t + 1) s'' l' → (if t + 1 ≥ g then (if s'' = 4 then (provostlaw19_CtrEnds.l0 (k + 1) g xs (t + 1) (i + 1) s'' c' l') else (some false)) else (provostlaw19_CtrEnds.l0 (k + 1) g xs (t + 1) (i + 1) s'' c' l')) = some true := by
          intro s'' hs
          have := ih (k + 1) (i + 1) (t + 1) s'' c' l' (by omega) (by omega) (by omega) (by omega) (by omega) hs
          unfold Inv at hs
          split
          · rw [if_pos (by omega)]; exact this
          · exact this
        by_cases h0 : kd < 0
        · rw [if_pos h0, if_pos trivial]; exact key s' h'
        · rw [if_neg h0, decide_eq_true (by omega), if_pos rfl]; exact key s' h'
      · rw [if_neg hk3] at h'
        rw [if_neg (by omega), decide_eq_false (by omega), if_neg (by simp)]
        have := ih (k + 1) (i + 1) t s' c' l' (by omega) (by omega) (by omega) (by omega) (by omega) h'
        unfold Inv at h'
        split
        · rw [if_pos (by omega)]; exact this
        · exact this
    · rw [if_neg hx]
      simp only [provostlaw19_CtrEnds.j2]
      rw [if_neg (by simp)]
      exact l1_ok g hg g.toNat _ 0 s c l (by omega) (by omega) (by omega) (by unfold Inv at h ⊢; omega)
theorem CtrEnds (g : Int) (xs : List S33) : provostlaw19_CtrEnds.f 1000 g xs = some true := by
  rw [provostlaw19_CtrEnds.f, ends_works]
  simp only [Option.bind_some]
  rw [if_pos trivial]
  by_cases h0 : g < 0
  · rw [if_pos h0]; rfl
  · rw [if_neg h0]
    by_cases h50 : g > 50
    · rw [decide_eq_true h50]; rfl
    · rw [decide_eq_false h50]
      simp only [provostlaw19_CtrEnds.j0, ctr_Made.f, ctr_Start.f, ctr_Stop.f, ctr_Stop.j0, ctr_exited.f, Option.bind_some]
      rw [if_neg (by simp), if_pos trivial]
      simp only [Option.bind_some]
      rw [if_neg h0, decide_eq_false (by omega), if_neg (by simp), if_neg (by omega)]
      simp only [if_true]
      by_cases hz : g = 0
      · subst hz
        simp only [if_true, Option.bind_some]
        exact l0_ok 0 (by omega) (by omega) xs 100 _ 0 0 4 137 0 (by omega) (by omega) (by omega) (by omega) (by omega) (.inl rfl)
      · rw [if_neg hz]
        simp only [Option.bind_some]
        exact l0_ok g (by omega) (by omega) xs 100 _ 0 0 3 0 g (by omega) (by omega) (by omega) (by omega) (by omega) (.inr ⟨rfl, by omega, by omega⟩)
end Go.Proofs.Ytgpoolcaooiemaa.Pure
