/- What is claimed: Which phase comes of any two, which are terminal, and the name of any, are as the document has them. -/
import Derived.Test.YtgpoolcaooiemaaPPhaseMergesx5
set_option linter.unusedSimpArgs false
namespace Go.Proofs.Ytgpoolcaooiemaa.Pure
open Go.RowKit Go.Proofs.Ytgpoolcaooiemaa.PPhaseMerges Go.Proofs.YtgpoolcaooiemaaW.PrintWords Go.Proofs.YtgpoolcaooiemaaW.PrintLast
theorem merges_works : provostlaw27_works.f 38 = some true := by kernel_rfl
theorem terminal_is (a : Int) : phase_Terminal.f a = some (if a = 3 then true else (a == 4)) := by
  unfold phase_Terminal.f
  split <;> rfl
theorem merge_is (a b : Int) : phase_Merge.f a b = provostref27_Merge.f a b := by
  unfold phase_Merge.f provostref27_Merge.f
  rw [terminal_is]
  simp only [Option.bind_some]
  by_cases a1 : a = 1
  · subst a1
    by_cases b2 : b = 2
    · subst b2; rfl
    · by_cases b3 : b = 3
      · subst b3; rfl
      · by_cases b4 : b = 4
        · subst b4; rfl
        · have h1 : (b == 4) = false := by simpa using b4
          by_cases h2 : b ≥ 2
          · have h3 : ¬ b ≤ 4 := by omega
            simp [b2, b3, b4, h1, h2, h3]
          · simp [b2, b3, b4, h1, h2]
  · by_cases a2 : a = 2
    · subst a2
      by_cases b3 : b = 3
      · subst b3; rfl
      · by_cases b4 : b = 4
        · subst b4; rfl
        · have h1 : (b == 4) = false := by simpa using b4
          simp [b3, b4, h1]
    · simp [a1, a2]
theorem ref_some (a b : Int) : ∃ r, provostref27_Merge.f a b = some r := by
  unfold provostref27_Merge.f
  repeat' split
  all_goals exact ⟨_, rfl⟩
theorem j1_is (a b : Int) (s : ByteArray) (hs : (Go.Proofs.Ytgpoolcaooiemaa.D.nameOf a).toList = s.toList) : provostlaw27_PhaseMerges.j1 39 a b s = some true := by
  obtain ⟨r, hr⟩ := ref_some a b
  rw [provostlaw27_PhaseMerges.j1, merge_is, hr]
  simp only [Option.bind_some, if_true, terminal_is, phase_Name.f, merges_works]
  by_cases a3 : a = 3
  · subst a3
    simp [hs]
  · simp [a3, hs]
theorem PhaseMerges : provostlaw27_PhaseMerges.Pure := by
  intro a b _ _
  refine ⟨40, ?_⟩
  rw [provostlaw27_PhaseMerges.f]
  simp only [Option.bind_some]
  by_cases h0 : a ≥ 0
  · rw [if_pos h0]
    by_cases h4 : a ≤ 4
    · have hc : a = 0 ∨ a = 1 ∨ a = 2 ∨ a = 3 ∨ a = 4 := by omega
      rcases hc with rfl | rfl | rfl | rfl | rfl
      · exact j1_is 0 b (Go.Proofs.Ytgpoolcaooiemaa.D.nameOf 0) rfl
      · exact j1_is 1 b (Go.Proofs.Ytgpoolcaooiemaa.D.nameOf 1) rfl
      · exact j1_is 2 b (Go.Proofs.Ytgpoolcaooiemaa.D.nameOf 2) rfl
      · exact j1_is 3 b (Go.Proofs.Ytgpoolcaooiemaa.D.nameOf 3) rfl
      · exact j1_is 4 b (Go.Proofs.Ytgpoolcaooiemaa.D.nameOf 4) rfl
    · rw [decide_eq_false h4, provostlaw27_PhaseMerges.j0]
      refine Eq.trans ?_ (j1_is a b ⟨#[]⟩ ?_)
      · rfl
      · rw [Go.Proofs.Ytgpoolcaooiemaa.D.nameOf, if_neg (by omega), if_neg (by omega), if_neg (by omega), if_neg (by omega)]
  · rw [if_neg h0, provostlaw27_PhaseMerges.j0]
    refine Eq.trans ?_ (j1_is a b ⟨#[]⟩ ?_)
    · rfl
    · rw [Go.Proofs.Ytgpoolcaooiemaa.D.nameOf, if_neg (by omega), if_neg (by omega), if_neg (by omega), if_neg (by omega)]
end Go.Proofs.Ytgpoolcaooiemaa.Pure
