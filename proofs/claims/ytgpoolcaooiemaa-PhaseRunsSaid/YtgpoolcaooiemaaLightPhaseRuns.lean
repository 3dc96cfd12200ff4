/- LightSpec and Right, as printed: they answer. (template: PhaseRuns) -/
import Derived.Test.YtgpoolcaooiemaaSemPhaseRuns
set_option linter.unusedSimpArgs false
set_option linter.unusedVariables false
namespace Go.Proofs.Ytgpoolcaooiemaa.SemPhaseRuns
open Go.RowKit Go.Proofs.Ytgpoolcaooiemaa.PPhaseRuns Go.Proofs.YtgpoolcaooiemaaW.PrintWords Go.Proofs.YtgpoolcaooiemaaW.PrintLast
theorem cont_loop (l : List S67) (hl : l.length ≤ 9223372036854775807) : ∀ (d n : Nat), n + d = l.length → ∃ b, Ev (fun k => provostbook_lightContainers.l0 k l (n : Int)) b := by
  intro d
  induction d with
  | zero =>
    intro n hn
    refine ⟨true, Ev.step (fun k => ?_) (Ev.now true)⟩
    simp only [provostbook_lightContainers.l0]
    rw [if_neg (by omega)]
  | succ d ih =>
    intro n hn
    obtain ⟨b, hb⟩ := ih (n + 1) (by omega)
    by_cases h1 : (((rd_T67 l (n : Int)).f0).size : Int) > 100
    · refine ⟨false, Ev.step (fun k => ?_) (Ev.now false)⟩
      simp only [provostbook_lightContainers.l0]
      rw [if_pos (by omega), if_pos (by omega), if_pos h1]
    · by_cases h2 : (((rd_T67 l (n : Int)).f1).size : Int) > 100
      · refine ⟨false, Ev.step (fun k => ?_) (Ev.now false)⟩
        simp only [provostbook_lightContainers.l0]
        rw [if_pos (by omega), if_pos (by omega), if_neg h1, if_pos h2]
      · by_cases h3 : (((rd_T67 l (n : Int)).f4).length : Int) > 10
        · refine ⟨false, Ev.step (fun k => ?_) (Ev.now false)⟩
          simp only [provostbook_lightContainers.l0]
          rw [if_pos (by omega), if_pos (by omega), if_neg h1, if_neg h2, if_pos h3]
        · refine ⟨b, Ev.step (fun k => ?_) hb⟩
          simp only [provostbook_lightContainers.l0]
          rw [if_pos (by omega), if_pos (by omega), if_neg h1, if_neg h2, if_neg h3, wrap_next n (by omega)]
theorem cont_ev (l : List S67) (hl : l.length ≤ 9223372036854775807) : ∃ b, Ev (fun k => provostbook_lightContainers.f k l) b := cont_loop l hl l.length 0 (by omega)
theorem light_loop (nm : ByteArray) (lb : List S73) (ini main : List S67) (rs x y : Int) (hb : lb.length ≤ 9223372036854775807) (hi : ini.length ≤ 9223372036854775807) (hm : main.length ≤ 9223372036854775807) : ∀ (d n : Nat), n + d = lb.length → ∃ b, Ev (fun k => provostbook_LightSpec.l0 k (n : Int) nm lb ini main rs x y) b := by
  intro d
  induction d with
  | zero =>
    intro n hn
    obtain ⟨b1, K1, h1⟩ := cont_ev ini hi
    obtain ⟨b2, K2, h2⟩ := cont_ev main hm
    simp only [] at h1 h2
    refine ⟨b1 && b2, K1 + K2 + 1, fun k hk => ?_⟩
    obtain ⟨k, rfl⟩ : ∃ m, k = m + 1 := ⟨k - 1, by omega⟩
    simp only [provostbook_LightSpec.l0]
    rw [if_neg (by omega), h1 k (by omega)]
    cases b1
    · rfl
    · simp only [Option.bind_some]
      rw [if_pos trivial, h2 k (by omega)]
      rfl
  | succ d ih =>
    intro n hn
    obtain ⟨b, hb⟩ := ih (n + 1) (by omega)
    by_cases h1 : (((rd_T73 lb (n : Int)).f0).size : Int) > 100
    · refine ⟨false, Ev.step (fun k => ?_) (Ev.now false)⟩
      simp only [provostbook_LightSpec.l0]
      rw [if_pos (by omega), if_pos (by omega), if_pos h1]
    · by_cases h2 : (((rd_T73 lb (n : Int)).f1).size : Int) > 100
      · refine ⟨false, Ev.step (fun k => ?_) (Ev.now false)⟩
        simp only [provostbook_LightSpec.l0]
        rw [if_pos (by omega), if_pos (by omega), if_neg h1, if_pos h2]
      · refine ⟨b, Ev.step (fun k => ?_) hb⟩
        simp only [provostbook_LightSpec.l0]
        rw [if_pos (by omega), if_pos (by omega), if_neg h1, if_neg h2, wrap_next n (by omega)]
theorem light_ev (nm : ByteArray) (lb : List S73) (ini main : List S67) (rs x y : Int) (hb : lb.length ≤ 9223372036854775807) (hi : ini.length ≤ 9223372036854775807) (hm : main.length ≤ 9223372036854775807) : ∃ b, Ev (fun k => provostbook_LightSpec.f k nm lb ini main rs x y) b := by
  have hj : ∀ c, ∃ b, Ev (fun k => provostbook_LightSpec.j0 k c nm lb ini main rs x y) b := fun c => by
    cases c
    · obtain ⟨b, h⟩ := light_loop nm lb ini main rs x y hb hi hm lb.length 0 (by omega)
      refine ⟨b, Ev.step (fun k => ?_) h⟩
      simp only [provostbook_LightSpec.j0]
      rw [if_neg (by simp)]
      rfl
    · refine ⟨false, Ev.step (fun k => ?_) (Ev.now false)⟩
      simp only [provostbook_LightSpec.j0]
      rw [if_pos trivial]
  unfold provostbook_LightSpec.f
  split
  · exact hj _
  · split
    · exact hj _
    · split
      · exact hj _
      · exact hj _
theorem ref_right (a b c : Int) : ∃ t, provostref19_Right.f a b c = some t := by
  unfold provostref19_Right.f
  repeat' split
  all_goals exact ⟨_, rfl⟩
theorem right_loop (l : List S59) (hl : l.length ≤ 9223372036854775807) : ∀ (d n : Nat), n + d = l.length → ∃ b, Ev (fun k => provostlaw27_Right.l0 k l (n : Int)) b := by
  intro d
  induction d with
  | zero =>
    intro n hn
    refine ⟨decide ((l.length : Int) ≤ 40), Ev.step (f := fun k => provostlaw27_Right.j1 k l (n : Int) false) (fun k => ?_) (Ev.step (fun k => ?_) (Ev.now _))⟩
    · simp only [provostlaw27_Right.l0]
      rw [if_neg (by omega)]
    · simp only [provostlaw27_Right.j1]
      rw [if_neg (by simp)]
  | succ d ih =>
    intro n hn
    obtain ⟨b, hb⟩ := ih (n + 1) (by omega)
    have inner : ∀ (e m : Nat), m + e = n → ∃ b, Ev (fun k => provostlaw27_Right.l1 k l (n : Int) (m : Int)) b := by
      intro e
      induction e with
      | zero =>
        intro m hm
        refine ⟨b, Ev.step (fun k => ?_) hb⟩
        simp only [provostlaw27_Right.l1]
        rw [if_neg (by omega), wrap_next n (by omega)]
      | succ e ih2 =>
        intro m hm
        obtain ⟨b2, hb2⟩ := ih2 (m + 1) (by omega)
        by_cases h : (rd_T59 l (m : Int)).f0 = (rd_T59 l (n : Int)).f0
        · refine ⟨false, Ev.step (fun k => ?_) (Ev.now false)⟩
          simp only [provostlaw27_Right.l1]
          rw [if_pos (by omega), if_pos (by omega), if_pos (by omega), if_pos (by omega), if_pos (by omega), if_pos h]
        · refine ⟨b2, Ev.step (fun k => ?_) hb2⟩
          simp only [provostlaw27_Right.l1]
          rw [if_pos (by omega), if_pos (by omega), if_pos (by omega), if_pos (by omega), if_pos (by omega), if_neg h, wrap_next m (by omega)]
    have hj2 : ∀ c, ∃ b, Ev (fun k => provostlaw27_Right.j2 k l (n : Int) c) b := fun c => by
      cases c
      · obtain ⟨b, h⟩ := inner n 0 (by omega)
        refine ⟨b, Ev.step (fun k => ?_) h⟩
        simp only [provostlaw27_Right.j2]
        rw [if_neg (by simp)]
        rfl
      · refine ⟨false, Ev.step (fun k => ?_) (Ev.now false)⟩
        simp only [provostlaw27_Right.j2]
        rw [if_pos trivial]
    by_cases h40 : (n : Int) < 40
    · obtain ⟨t, ht⟩ := ref_right ((rd_T59 l (n : Int)).f3.f0) ((rd_T59 l (n : Int)).f3.f1) ((rd_T59 l (n : Int)).f3.f2)
      have hj1 : ∃ c, ∀ k, provostlaw27_Right.j1 (k + 1) l (n : Int) true = provostlaw27_Right.j2 k l (n : Int) c := by
        cases t
        · refine ⟨true, fun k => ?_⟩
          simp only [provostlaw27_Right.j1]
          rw [if_pos trivial, if_pos (by omega), if_pos (by omega), ht]
          rfl
        · by_cases h1 : (((rd_T59 l (n : Int)).f1).size : Int) > 100
          · refine ⟨true, fun k => ?_⟩
            simp only [provostlaw27_Right.j1]
            rw [if_pos trivial, if_pos (by omega), if_pos (by omega), ht]
            simp only [Option.bind_some]
            rw [if_pos trivial, if_pos h1]
          · refine ⟨decide ((((rd_T59 l (n : Int)).f2).size : Int) > 100), fun k => ?_⟩
            simp only [provostlaw27_Right.j1]
            rw [if_pos trivial, if_pos (by omega), if_pos (by omega), ht]
            simp only [Option.bind_some]
            rw [if_pos trivial, if_neg h1]
      obtain ⟨c, hc⟩ := hj1
      obtain ⟨b2, h2⟩ := hj2 c
      refine ⟨b2, Ev.step (f := fun k => provostlaw27_Right.j1 k l (n : Int) true) (fun k => ?_) (Ev.step hc h2)⟩
      simp only [provostlaw27_Right.l0]
      rw [if_pos (by omega), decide_eq_true h40]
    · refine ⟨decide ((l.length : Int) ≤ 40), Ev.step (f := fun k => provostlaw27_Right.j1 k l (n : Int) false) (fun k => ?_) (Ev.step (fun k => ?_) (Ev.now _))⟩
      · simp only [provostlaw27_Right.l0]
        rw [if_pos (by omega), decide_eq_false h40]
      · simp only [provostlaw27_Right.j1]
        rw [if_neg (by simp)]
theorem right_ev (l : List S59) (hl : l.length ≤ 9223372036854775807) : ∃ b, Ev (fun k => provostlaw27_Right.f k l) b := right_loop l hl l.length 0 (by omega)
end Go.Proofs.Ytgpoolcaooiemaa.SemPhaseRuns
