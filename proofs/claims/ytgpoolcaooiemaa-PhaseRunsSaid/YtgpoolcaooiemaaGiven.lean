/- Contracts of functions that the print does not cover: num.Text at two numbers, phase.Name. -/
import Derived.Test.YtgpoolcaooiemaaNum
namespace Go.Proofs.Ytgpoolcaooiemaa.D
open Go Go.RowKit Go.Proofs.Ytgpoolcaooiemaa.K
set_option linter.unusedVariables false
set_option linter.unusedSimpArgs false
def textOf (a : Int) : Option ByteArray := if a = 137 then some ⟨#[49, 51, 55]⟩ else if a = 1 then some ⟨#[49]⟩ else none
theorem Text_given (a : Int) (r : ByteArray) (w : World) (h : textOf a = some r) : Calls Try.prog 39 #[.int .i64 a] w fun e w' => e = .returned (.string r) ∧ Below w.heap.size w w' := by
  unfold textOf at h
  by_cases h1 : a = 137
  · rw [if_pos h1] at h
    subst h1
    obtain rfl := Option.some.inj h
    exact (Text_any 137 w (by omega)).mono fun e w' ⟨he, hc⟩ => ⟨he, hc.below0⟩
  · rw [if_neg h1] at h
    by_cases h2 : a = 1
    · rw [if_pos h2] at h
      subst h2
      obtain rfl := Option.some.inj h
      exact (Text_any 1 w (by omega)).mono fun e w' ⟨he, hc⟩ => ⟨he, hc.below0⟩
    · rw [if_neg h2] at h
      cases h
def nameOf (a : Int) : ByteArray :=
  if a = 1 then ⟨#[112, 101, 110, 100, 105, 110, 103]⟩ else if a = 2 then ⟨#[114, 117, 110, 110, 105, 110, 103]⟩ else if a = 3 then ⟨#[100, 111, 110, 101]⟩ else if a = 4 then ⟨#[102, 97, 105, 108, 101, 100]⟩ else ⟨#[]⟩
theorem Name_given (a : Int) (r : ByteArray) (w : World) (h : some (nameOf a) = some r) : Calls Try.prog 27 #[.int .i64 a] w fun e w' => e = .returned (.string r) ∧ Below w.heap.size w w' := by
  obtain rfl := Option.some.inj h
  clear h
  go_enter Try.func27, Try.ntmps27
  by_cases h1 : a < 0
  · have d1 : decide (a < 0) = true := decide_eq_true h1
    go_wp2_with fail
    go_ret
    refine ⟨?_, ((Ch.refl [] w).alloc _).below0⟩
    rw [nameOf, if_neg (by omega), if_neg (by omega), if_neg (by omega), if_neg (by omega)]
    rfl
  · have d1 : decide (a < 0) = false := decide_eq_false h1
    by_cases h2 : 5 ≤ a
    · have d2 : decide (5 ≤ a) = true := decide_eq_true h2
      go_wp2_with fail
      go_ret
      refine ⟨?_, ((Ch.refl [] w).alloc _).below0⟩
      rw [nameOf, if_neg (by omega), if_neg (by omega), if_neg (by omega), if_neg (by omega)]
      rfl
    · have d2 : decide (5 ≤ a) = false := decide_eq_false h2
      have hc : a = 0 ∨ a = 1 ∨ a = 2 ∨ a = 3 ∨ a = 4 := by omega
      rcases hc with rfl | rfl | rfl | rfl | rfl
      all_goals
        go_wp2_with fail
        go_ret
        exact ⟨rfl, ((Ch.refl [] w).alloc _).below0⟩
theorem field59_3 (v0 v1 v2 v3 v4 v5 v6 : Value) (w : World) : (Instr.field 59 (.agg #[v0, v1, v2, v3, v4, v5, v6]) 3).run Try.prog w = .ok (.agg #[v3, v4, v5]) w := by kernel_rfl
end Go.Proofs.Ytgpoolcaooiemaa.D
