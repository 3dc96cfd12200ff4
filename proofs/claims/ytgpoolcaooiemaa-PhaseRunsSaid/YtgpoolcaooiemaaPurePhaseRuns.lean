/- What is claimed: a pod with RAlways whose init ones are done is never terminal; with RNever it is not running once all main ones exited; what never was started keeps it pending. -/
import Derived.Test.YtgpoolcaooiemaaLightPhaseRuns
set_option linter.unusedSimpArgs false
set_option linter.unusedVariables false
namespace Go.Proofs.Ytgpoolcaooiemaa.SemPhaseRuns
open Go.RowKit Go.Proofs.Ytgpoolcaooiemaa.PPhaseRuns Go.Proofs.YtgpoolcaooiemaaW.PrintWords Go.Proofs.YtgpoolcaooiemaaW.PrintLast
theorem rd_at (xs : List S67) (n : Nat) (hn : n < xs.length) : rd_T67 xs (n : Int) = xs[n] := by
  unfold rd_T67
  rw [List.getD_eq_getElem?_getD, show ((n : Int)).toNat = n by omega, List.getElem?_eq_getElem hn]
  rfl
theorem all_cnt (p : S67 → Bool) (xs : List S67) : xs.all p = decide (xs.length ≤ cnt p xs) := by
  have hle : ∀ xs : List S67, cnt p xs ≤ xs.length := fun xs => List.length_filter_le _ _
  induction xs with
  | nil => rfl
  | cons c xs ih =>
    rw [List.all_cons, ih]
    unfold cnt at hle ⊢
    by_cases h : p c = true
    · rw [List.filter_cons_of_pos h, h, Bool.true_and, List.length_cons, List.length_cons]
      congr 1
      simp
    · have hf : p c = false := by simpa using h
      rw [List.filter_cons_of_neg h, hf, Bool.false_and, List.length_cons]
      have := hle xs
      rw [decide_eq_false (by omega)]
def exB (L : ByteArray → (Int × ByteArray × ByteArray × Int × Int × Int × Bool)) (c : S67) : Bool := if (L c.f0).2.2.2.1 = 4 then ((L c.f0).2.2.1.toList == c.f1.toList) else false
theorem over_never (L : ByteArray → (Int × ByteArray × ByteArray × Int × Int × Int × Bool)) : overB L 1 = exB L := by
  funext c
  unfold overB exB
  split
  · by_cases h : (L c.f0).2.2.1.toList = c.f1.toList
    · rw [if_pos h, h]
      simp
    · rw [if_neg h]
      simp [h]
  · rfl
theorem over_always (L : ByteArray → (Int × ByteArray × ByteArray × Int × Int × Int × Bool)) (c : S67) : overB L 3 c = false := by
  unfold overB
  split
  · split <;> rfl
  · rfl
theorem cnt_none (p : S67 → Bool) (xs : List S67) (h : ∀ c, p c = false) : cnt p xs = 0 := by
  unfold cnt
  rw [List.filter_eq_nil_iff.2 (fun c _ => by simp [h c])]
  rfl
/-- What the law asks at its end: whether all exited, whether all started, the phase, the restart rule. -/
def Rend (a b : Bool) (p rs : Int) : Prop :=
  (b = false ∧ p = 1) ∨ (b = true ∧ rs = 3 ∧ p = 2) ∨ (b = true ∧ rs = 1 ∧ a = true ∧ (p = 3 ∨ p = 4)) ∨ (b = true ∧ rs = 1 ∧ a = false ∧ p = 2) ∨ (b = true ∧ rs ≠ 3 ∧ rs ≠ 1 ∧ (p = 2 ∨ p = 3 ∨ p = 4))
theorem ends {l : List S59} {L : ByteArray → (Int × ByteArray × ByteArray × Int × Int × Int × Bool)} (hL : ∀ name, Ev (fun k => phase_Last.f k l name) (L name)) (nm : ByteArray) (lb : List S73) (main : List S67) (rs x y : Int) (hm : main.length ≤ 9223372036854775807) (h0 : 0 < main.length) :
    ∃ p, Ev (fun k => phase_Of.f k nm lb [] main rs x y l) p ∧ Rend (main.all (exB L)) (main.all (upB L)) p rs := by
  obtain ⟨r, h, hr1, hr2, hr3⟩ := of_ev hL (nm := nm) (lb := lb) (ini := []) (main := main) (rs := rs) (x := x) (y := y) hm (by simp)
  have hr := hr3 rfl
  refine ⟨r, h, ?_⟩
  rw [all_cnt, all_cnt]
  unfold Rend
  by_cases hu : main.length ≤ cnt (upB L) main
  · rw [decide_eq_true hu]
    by_cases h3 : rs = 3
    · subst h3
      have hc : cnt (overB L 3) main = 0 := cnt_none _ _ (over_always L)
      right; left
      exact ⟨rfl, rfl, by omega⟩
    · by_cases h1 : rs = 1
      · subst h1
        rw [over_never] at hr
        by_cases hx : main.length ≤ cnt (exB L) main
        · rw [decide_eq_true hx]
          right; right; left
          exact ⟨rfl, rfl, rfl, by omega⟩
        · rw [decide_eq_false hx]
          right; right; right; left
          exact ⟨rfl, rfl, rfl, by omega⟩
      · right; right; right; right
        exact ⟨rfl, h3, h1, by omega⟩
  · rw [decide_eq_false hu]
    left
    exact ⟨rfl, by omega⟩
theorem works_ok (k : Nat) : provostlaw27_works.f (k + 30) = some true := by kernel_rfl
theorem take_all (p : S67 → Bool) (main : List S67) (n : Nat) (hlt : n < main.length) : (main.take (n + 1)).all p = ((main.take n).all p && p (rd_T67 main (n : Int))) := by
  rw [rd_at main n hlt, List.take_succ_eq_append_getElem hlt, List.all_append]
  simp
end Go.Proofs.Ytgpoolcaooiemaa.SemPhaseRuns
