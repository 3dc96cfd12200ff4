/- What the printed functions of CtrSteps answer. -/
import Derived.Test.YtgpoolcaooiemaaPCtrStepsx4
import Derived.Test.YtgpoolcaooiemaaPCtrStepsx3
import Derived.Test.YtgpoolcaooiemaaPCtrStepsx2
set_option linter.unusedSimpArgs false
namespace Go.Proofs.Ytgpoolcaooiemaa.CS
open Go.RowKit Go.Proofs.Ytgpoolcaooiemaa.PCtrSteps Go.Proofs.YtgpoolcaooiemaaW.PrintWords Go.Proofs.YtgpoolcaooiemaaW.PrintLast
theorem works_f : provostlaw19_works.f 5 = some true := by kernel_rfl
def rightB (s c l : Int) : Bool := decide ((s = 4 ∧ 0 ≤ c ∧ c ≤ 255 ∧ l = 0) ∨ (s = 3 ∧ c = 0 ∧ 1 ≤ l ∧ l ≤ 1000) ∨ (s = 1 ∧ c = 0 ∧ l = 0) ∨ (s = 2 ∧ c = 0 ∧ l = 0))
theorem right_f (s c l : Int) : ctr_Right.f s c l = some (rightB s c l) := by
  unfold ctr_Right.f rightB
  repeat' split
  all_goals
    congr 1
    first
    | (symm; exact decide_eq_false (by omega))
    | (rw [Bool.eq_iff_iff]; simp only [decide_eq_true_eq, beq_iff_eq]; omega)
theorem rright_f (s c l : Int) : provostref19_Right.f s c l = some (rightB s c l) := by
  unfold provostref19_Right.f rightB
  repeat' split
  all_goals
    congr 1
    first
    | (symm; exact decide_eq_false (by omega))
    | (rw [Bool.eq_iff_iff]; simp only [decide_eq_true_eq, beq_iff_eq]
       by_cases h1 : s = 3 <;> by_cases h2 : l > 0 <;> simp [h1, h2] <;> omega)
theorem start_f (s c l : Int) : ∃ r1 r2 r3 r4, ctr_Start.f s c l = some (r1, r2, r3, r4) ∧ provostref19_Start.f s c l = some (r1, r2, r3, r4) := by
  unfold ctr_Start.f provostref19_Start.f
  split <;> exact ⟨_, _, _, _, rfl, rfl⟩
theorem cases {s c l : Int} (h : rightB s c l = true) : (s = 4 ∧ 0 ≤ c ∧ c ≤ 255 ∧ l = 0) ∨ (s = 3 ∧ c = 0 ∧ 1 ≤ l ∧ l ≤ 1000) ∨ (s = 1 ∧ c = 0 ∧ l = 0) ∨ (s = 2 ∧ c = 0 ∧ l = 0) := of_decide_eq_true h
theorem stop_f (s c l g : Int) (h : rightB s c l = true) : ∃ r1 r2 r3 r4, ctr_Stop.f 5 s c l g = some (r1, r2, r3, r4) ∧ provostref19_Stop.f 5 s c l g = some (r1, r2, r3, r4) := by
  have hc := cases h
  unfold ctr_Stop.f provostref19_Stop.f
  by_cases h1 : g < 0
  · rw [if_pos h1, if_pos h1]
    exact ⟨_, _, _, _, rfl, rfl⟩
  · rw [if_neg h1, if_neg h1]
    by_cases h2 : g > 1000
    · rw [decide_eq_true h2]
      exact ⟨_, _, _, _, rfl, rfl⟩
    · rw [decide_eq_false h2]
      rcases hc with ⟨rfl, _, _, rfl⟩ | ⟨rfl, rfl, _, _⟩ | ⟨rfl, rfl, rfl⟩ | ⟨rfl, rfl, rfl⟩
      · exact ⟨4, c, 0, 5, rfl, rfl⟩
      · by_cases h3 : l < g
        · have hm : mn g l = l := by unfold mn; omega
          have h4 : ¬ l = 0 := by omega
          refine ⟨3, 0, l, 0, ?_, ?_⟩
          · simp [ctr_Stop.j0, hm, h4]
          · simp [provostref19_Stop.j0, provostref19_Stop.j1, provostref19_Stop.j2, h3, h4]
        · have hm : mn g l = g := by unfold mn; omega
          by_cases h4 : g = 0
          · refine ⟨4, 137, 0, 0, ?_, ?_⟩
            · simp [ctr_Stop.j0, hm, h4, ctr_exited.f]
              rw [h4] at hm; simp [hm]
            · simp [provostref19_Stop.j0, provostref19_Stop.j1, provostref19_Stop.j2, h3, h4]
              omega
          · refine ⟨3, 0, g, 0, ?_, ?_⟩
            · simp [ctr_Stop.j0, hm, h4]
            · simp [provostref19_Stop.j0, provostref19_Stop.j1, provostref19_Stop.j2, h3, h4]
      · exact ⟨1, 0, 0, 5, rfl, rfl⟩
      · by_cases h4 : g = 0
        · subst h4
          exact ⟨4, 137, 0, 0, rfl, rfl⟩
        · refine ⟨3, 0, g, 0, ?_, ?_⟩
          · simp [ctr_Stop.j0, h4]
          · simp [provostref19_Stop.j0, provostref19_Stop.j1, provostref19_Stop.j2, h4]
theorem exit_f (s c l g : Int) (h : rightB s c l = true) : ∃ r1 r2 r3 r4, ctr_Exit.f 5 s c l g = some (r1, r2, r3, r4) ∧ provostref19_Exit.f 5 s c l g = some (r1, r2, r3, r4) := by
  have hc := cases h
  unfold ctr_Exit.f provostref19_Exit.f
  by_cases h1 : g < 0
  · rw [if_pos h1, if_pos h1]
    exact ⟨_, _, _, _, rfl, rfl⟩
  · rw [if_neg h1, if_neg h1]
    by_cases h2 : g > 255
    · rw [decide_eq_true h2]
      exact ⟨_, _, _, _, rfl, rfl⟩
    · rw [decide_eq_false h2]
      rcases hc with ⟨rfl, _, _, rfl⟩ | ⟨rfl, rfl, _, _⟩ | ⟨rfl, rfl, rfl⟩ | ⟨rfl, rfl, rfl⟩
      · exact ⟨4, c, 0, 5, rfl, rfl⟩
      · exact ⟨4, g, 0, 0, rfl, rfl⟩
      · exact ⟨1, 0, 0, 5, rfl, rfl⟩
      · exact ⟨4, g, 0, 0, rfl, rfl⟩
theorem tick_f (s c l : Int) (h : rightB s c l = true) : ∃ r1 r2 r3 r4, ctr_Tick.f s c l = some (r1, r2, r3, r4) ∧ provostref19_Tick.f 5 s c l = some (r1, r2, r3, r4) := by
  have hc := cases h
  unfold ctr_Tick.f provostref19_Tick.f
  rcases hc with ⟨rfl, _, _, rfl⟩ | ⟨rfl, rfl, _, _⟩ | ⟨rfl, rfl, rfl⟩ | ⟨rfl, rfl, rfl⟩
  · exact ⟨4, c, 0, false, rfl, rfl⟩
  · have hw : wrap64 (l - 1) = l - 1 := by unfold wrap64; omega
    by_cases h3 : l = 1
    · subst h3
      exact ⟨4, 137, 0, true, by rw [hw]; rfl, rfl⟩
    · have h4 : ¬ l - 1 ≤ 0 := by omega
      have h5 : (l == 1) = false := beq_eq_false_iff_ne.2 h3
      exact ⟨3, 0, l - 1, false, by simp [hw, h4], by simp [provostref19_Tick.j0, h5, hw]⟩
  · exact ⟨1, 0, 0, false, rfl, rfl⟩
  · exact ⟨2, 0, 0, false, rfl, rfl⟩
def runsB (s : Int) : Bool := s == 2 || s == 3
theorem kill_f (s c l : Int) (h : rightB s c l = true) : ctr_Kill.f s c l = some (if runsB s then (4, 137, 0, true) else (s, c, l, false)) := by
  have hc := cases h
  rcases hc with ⟨rfl, _, _, rfl⟩ | ⟨rfl, rfl, _, _⟩ | ⟨rfl, rfl, rfl⟩ | ⟨rfl, rfl, rfl⟩ <;> rfl
end Go.Proofs.Ytgpoolcaooiemaa.CS
