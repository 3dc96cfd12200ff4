/- What is claimed: However a pod's containers come to be, its phase, merged, only goes where it may. -/
import Derived.Test.YtgpoolcaooiemaaLightPhaseOnward
set_option linter.unusedSimpArgs false
set_option linter.unusedVariables false
namespace Go.Proofs.Ytgpoolcaooiemaa.SemPhaseOnward
open Go.RowKit Go.Proofs.Ytgpoolcaooiemaa.PPhaseOnward Go.Proofs.YtgpoolcaooiemaaW.PrintWords Go.Proofs.YtgpoolcaooiemaaW.PrintLast
theorem name_ne (m : Int) (h1 : 1 ≤ m) (h2 : m ≤ 4) : ¬ (Go.Proofs.Ytgpoolcaooiemaa.D.nameOf m).toList = ([] : List UInt8) := by
  have h : m = 1 ∨ m = 2 ∨ m = 3 ∨ m = 4 := by omega
  rcases h with rfl | rfl | rfl | rfl
  all_goals (intro h; revert h; decide +kernel)
theorem step_ok (p r : Int) (hp1 : 1 ≤ p) (hp2 : p ≤ 4) (hr1 : 1 ≤ r) (hr2 : r ≤ 4) : ∃ m, 1 ≤ m ∧ m ≤ 4 ∧ phase_Merge.f p r = some m ∧ ¬ m < p ∧ phase_Terminal.f p = some (decide (3 ≤ p)) ∧ (3 ≤ p → m = p) := by
  have h : p = 1 ∨ p = 2 ∨ p = 3 ∨ p = 4 := by omega
  have h' : r = 1 ∨ r = 2 ∨ r = 3 ∨ r = 4 := by omega
  rcases h with rfl | rfl | rfl | rfl <;> rcases h' with rfl | rfl | rfl | rfl
  all_goals exact ⟨_, by omega, by omega, rfl, by omega, rfl, by omega⟩
theorem loop_ok (xs : List (List S59)) (hx : xs.length ≤ 9223372036854775807) (hxs : ∀ l ∈ xs, l.length ≤ 9223372036854775807) (nm : ByteArray) (lb : List S73) (ini main : List S67) (rs x y : Int) (hi : ini.length ≤ 9223372036854775807) (hm : main.length ≤ 9223372036854775807) :
    ∀ (d n : Nat) (p : Int), n + d = xs.length → 1 ≤ p → p ≤ 4 → Ev (fun k => provostlaw27_PhaseOnward.l0 k xs p (n : Int) nm lb ini main rs x y) true := by
  intro d
  induction d with
  | zero =>
    intro n p hn hp1 hp2
    refine Ev.step (fun k => ?_) (Ev.now true)
    simp only [provostlaw27_PhaseOnward.l0]
    rw [if_neg (by omega)]
  | succ d ih =>
    intro n p hn hp1 hp2
    have hlt : n < xs.length := by omega
    have hl : (rd_L10 xs (n : Int)).length ≤ 9223372036854775807 := by
      have e : rd_L10 xs (n : Int) = xs[n] := by
        unfold rd_L10
        rw [List.getD_eq_getElem?_getD, show ((n : Int)).toNat = n by omega, List.getElem?_eq_getElem hlt]
        rfl
      rw [e]
      exact hxs _ (List.getElem_mem hlt)
    obtain ⟨b, K1, h1⟩ := right_ev (rd_L10 xs (n : Int)) hl
    simp only [] at h1
    cases b
    · refine ⟨K1 + 1, fun k hk => ?_⟩
      obtain ⟨k, rfl⟩ : ∃ m, k = m + 1 := ⟨k - 1, by omega⟩
      simp only [provostlaw27_PhaseOnward.l0]
      rw [if_pos (by omega), if_pos (by omega), h1 k (by omega)]
      rfl
    · obtain ⟨L, hL⟩ := last_all (rd_L10 xs (n : Int)) hl
      obtain ⟨r, ⟨K2, h2⟩, hr1, hr2, _⟩ := of_ev hL (nm := nm) (lb := lb) (ini := ini) (main := main) (rs := rs) (x := x) (y := y) hm hi
      obtain ⟨m, hm1, hm2, em, hmp, et, htp⟩ := step_ok p r hp1 hp2 hr1 hr2
      obtain ⟨K3, h3⟩ := ih (n + 1) m (by omega) hm1 hm2
      simp only [] at h2 h3
      refine ⟨K1 + K2 + K3 + 1, fun k hk => ?_⟩
      obtain ⟨k, rfl⟩ : ∃ m, k = m + 1 := ⟨k - 1, by omega⟩
      simp only [provostlaw27_PhaseOnward.l0]
      rw [if_pos (by omega), if_pos (by omega), h1 k (by omega)]
      simp only [Option.bind_some]
      rw [if_pos trivial, h2 k (by omega)]
      simp only [Option.bind_some]
      rw [em]
      simp only [Option.bind_some, phase_Name.f]
      rw [if_neg hmp, et, wrap_next n (by omega)]
      simp only [Option.bind_some]
      rw [if_neg (name_ne m hm1 hm2), h3 k (by omega)]
      by_cases h3p : 3 ≤ p
      · rw [if_pos (decide_eq_true h3p), if_pos (htp h3p)]
      · rw [if_neg (by simp [h3p])]
theorem works_ok (k : Nat) : provostlaw27_works.f (k + 30) = some true := by kernel_rfl
theorem onward (xs : List (List S59)) (hx : xs.length ≤ 9223372036854775807) (hxs : ∀ l ∈ xs, l.length ≤ 9223372036854775807) (nm : ByteArray) (lb : List S73) (ini main : List S67) (rs x y : Int) (hb : lb.length ≤ 9223372036854775807) (hi : ini.length ≤ 9223372036854775807) (hm : main.length ≤ 9223372036854775807) :
    ∃ k, provostlaw27_PhaseOnward.f k nm lb ini main rs x y xs = some true := by
  obtain ⟨b, K1, h1⟩ := light_ev nm lb ini main rs x y hb hi hm
  obtain ⟨K2, h2⟩ := loop_ok xs hx hxs nm lb ini main rs x y hi hm xs.length 0 1 (by omega) (by omega) (by omega)
  simp only [] at h1 h2
  refine ⟨K1 + K2 + 31, ?_⟩
  rw [provostlaw27_PhaseOnward.f, show K1 + K2 + 31 = (K1 + K2 + 1) + 30 by omega, works_ok]
  simp only [Option.bind_some]
  rw [if_pos trivial, h1 _ (by omega)]
  simp only [Option.bind_some]
  have hj : ∀ c, provostlaw27_PhaseOnward.j0 (K1 + K2 + 1 + 30) xs c nm lb ini main rs x y = some true := fun c => by
    cases c
    · rw [provostlaw27_PhaseOnward.j0]
      rw [if_neg (by simp)]
      exact h2 _ (by omega)
    · rw [provostlaw27_PhaseOnward.j0]
      rw [if_pos rfl]
  rw [hj, hj]
  split <;> rfl
end Go.Proofs.Ytgpoolcaooiemaa.SemPhaseOnward
