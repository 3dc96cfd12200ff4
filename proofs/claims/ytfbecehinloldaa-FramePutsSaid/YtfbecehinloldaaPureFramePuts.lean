/- What is claimed: The frame of any text, or that it is too long, is as the document has it. -/
import Derived.Test.YtfbecehinloldaaPFramePutsx1
namespace Go.Proofs.Ytfbecehinloldaa.Pure
open Go.RowKit Go.Proofs.Ytfbecehinloldaa.PFramePuts Go.Proofs.YtfbecehinloldaaW.PrintWords Go.Proofs.YtfbecehinloldaaW.PrintLast
set_option linter.unusedSimpArgs false
theorem works_true : provostlaw05_works.f = some true := by kernel_rfl
theorem size_nums (xs : List Int) : (strOfNums xs).size = xs.length := by
  simp [strOfNums, ByteArray.size]
theorem FramePuts : provostlaw05_FramePuts.Pure := by
  intro a0 a1 h0 _
  refine ⟨1, ?_⟩
  have yes : provostlaw05_FramePuts.j0 1 a0 a1 true = some true := by
    simp only [provostlaw05_FramePuts.j0, works_true, Option.bind_some, if_true]
  unfold provostlaw05_FramePuts.f
  by_cases h1 : (a0.size : Int) > 3000
  · rw [if_pos h1, yes]
  · rw [if_neg h1]
    by_cases h2 : a1 < 0
    · rw [if_pos h2, yes]
    · rw [if_neg h2]
      by_cases h3 : a1 > 3000
      · rw [decide_eq_true h3, yes]
      · rw [decide_eq_false h3]
        simp only [provostlaw05_FramePuts.j0, works_true, Option.bind_some]
        rw [if_neg (by simp), if_pos (by omega), if_pos (by omega)]
        have hs : (strOfNums (List.replicate a1.toNat 0)).size = a1.toNat := by rw [size_nums]; simp
        generalize hz : strOfNums (List.replicate a1.toNat 0) = z at *
        rw [if_pos (by omega)]
        have hs2 : (a0 ++ z).size = a0.size + a1.toNat := by rw [ByteArray.size_append, hs]
        generalize a0 ++ z = s at *
        unfold frame_Put.f provostref05_Put.f
        have hs3 : ∀ x y : Int, (strOfNums [x, y]).size = 2 := fun x y => by rw [size_nums]; rfl
        by_cases h4 : (s.size : Int) > 2048
        · rw [if_pos h4]
          simp only [Option.bind_some]
          rw [if_pos h4, if_pos (by kernel_rfl)]; simp
        · rw [if_neg h4]
          simp only [Option.bind_some]
          rw [if_pos (by rw [hs3]; omega)]
          simp only [Option.bind_some]
          rw [if_neg h4, if_pos (by rw [hs3]; omega)]
          simp
end Go.Proofs.Ytfbecehinloldaa.Pure
