/- The reference's contracts for package timer, and the calls that set a span. -/
import Derived.Test.YtpbcgfhhkfjbeaaTimer
namespace Go.Proofs.Ytpbcgfhhkfjbeaa.T
open Go.RowKit Go.Proofs.Ytpbcgfhhkfjbeaa.K
set_option linter.unusedVariables false
set_option linter.unusedSimpArgs false
theorem Marked_any (b : Nat) (me ml ce cl n : Int) (w : World) (hb : Tm w b me ml ce cl) :
    Calls Try.prog 26 #[.pointer (some ⟨b, 0, none⟩), .int .i64 n] w fun e w' => e = .returned (.tuple #[]) ∧ Tm w' b me n ce cl ∧ Ch [b] w w' := by
  have c1 := hb.cell 1
  have f1 := hb.frozen 1
  have H := Lib.hid hb
  simp at c1
  clear hb
  go_enter Try.func26, Try.ntmps26
  go_wp2
  go_end0
  exact ⟨rfl, H.out.set 1 (.int .i64 n), (Ch.refl _ _).setCell (.inl (by simp)) _⟩
theorem Compacted_any (b : Nat) (me ml ce cl n : Int) (w : World) (hb : Tm w b me ml ce cl) :
    Calls Try.prog 30 #[.pointer (some ⟨b, 0, none⟩), .int .i64 n] w fun e w' => e = .returned (.tuple #[]) ∧ Tm w' b me ml ce n ∧ Ch [b] w w' := by
  have c1 := hb.cell 3
  have f1 := hb.frozen 3
  have H := Lib.hid hb
  simp at c1
  clear hb
  go_enter Try.func30, Try.ntmps30
  go_wp2
  go_end0
  exact ⟨rfl, H.out.set 3 (.int .i64 n), (Ch.refl _ _).setCell (.inl (by simp)) _⟩
theorem RefDue_any (e l n : Int) (w : World) (h0 : 0 ≤ l + e) (h1 : l + e ≤ 4611686018427387904) :
    Calls Try.prog 27 #[.int .i64 e, .int .i64 l, .int .i64 n] w fun en w' => en = .returned (.bool (dueB e l n)) ∧ w = w' := by
  by_cases c1 : 0 < e
  · have d1 : decide (0 < e) = true := decide_eq_true c1
    go_enter Try.func27, Try.ntmps27
    go_wp2
    go_ret
    exact ⟨by simp [dueB, c1]; omega, rfl⟩
  · have d1 : decide (0 < e) = false := decide_eq_false c1
    go_enter Try.func27, Try.ntmps27
    go_wp2
    go_ret
    exact ⟨by simp [dueB]; omega, rfl⟩
def stp (x e l n : Int) : Int := if 0 < e ∧ n < l + e ∧ (x = 0 ∨ l + e < x) then l + e else x
theorem stp_bd (x e l n : Int) (h0 : 0 ≤ l) (h3 : 0 ≤ e) (h4 : e ≤ 1000) (h5 : l ≤ 1000000) (hx : 0 ≤ x) (hx1 : x ≤ 1001000) : 0 ≤ stp x e l n ∧ stp x e l n ≤ 1001000 := by unfold stp; split <;> omega
theorem nextI_eq (e l n : Int) (h3 : 0 ≤ e) : nextI e l n = if 0 < e ∧ n < l + e then l + e else 0 := by
  unfold nextI dueB
  by_cases h : 0 < e ∧ n < l + e
  · rw [if_pos h, if_neg (by simp; omega)]
  · rw [if_neg h, if_pos (by simp; omega)]
theorem stp_next (e0 l0 e1 l1 n : Int) (h0 : 0 ≤ l0) (h3 : 0 ≤ e0) (k0 : 0 ≤ l1) (k3 : 0 ≤ e1) : stp (stp 0 e0 l0 n) e1 l1 n = nextT (nextI e0 l0 n) (nextI e1 l1 n) := by
  rw [nextI_eq _ _ _ h3, nextI_eq _ _ _ k3]
  by_cases h : 0 < e0 ∧ n < l0 + e0
  · have e : stp 0 e0 l0 n = l0 + e0 := by unfold stp; rw [if_pos ⟨h.1, h.2, .inl rfl⟩]
    rw [e, if_pos h]
    unfold stp nextT
    by_cases k : 0 < e1 ∧ n < l1 + e1
    · rw [if_pos k, if_neg (show ¬ l0 + e0 = 0 by omega), if_neg (show ¬ l1 + e1 = 0 by omega)]
      split <;> omega
    · rw [if_neg k, if_neg (show ¬ l0 + e0 = 0 by omega), if_pos rfl, if_neg (fun q => k ⟨q.1, q.2.1⟩)]
  · have e : stp 0 e0 l0 n = 0 := by unfold stp; rw [if_neg (fun q => h ⟨q.1, q.2.1⟩)]
    rw [e, if_neg h]
    unfold stp nextT
    rw [if_pos rfl]
    by_cases k : 0 < e1 ∧ n < l1 + e1
    · rw [if_pos k, if_pos ⟨k.1, k.2, .inl rfl⟩]
    · rw [if_neg k, if_neg (fun q => k ⟨q.1, q.2.1⟩)]
def stg (S1 S2 : Int) : Nat → Int | 0 => 0 | 1 => S1 | _ => S2
theorem RefNext_any (e0 e1 l0 l1 n : Int) (w : World) (h0 : 0 ≤ l0) (h3 : 0 ≤ e0) (h4 : e0 ≤ 1000) (h5 : l0 ≤ 1000000) (k0 : 0 ≤ l1) (k3 : 0 ≤ e1) (k4 : e1 ≤ 1000) (k5 : l1 ≤ 1000000) :
    Calls Try.prog 29 #[.agg #[.int .i64 e0, .int .i64 e1], .agg #[.int .i64 l0, .int .i64 l1], .int .i64 n] w fun en w' => en = .returned (.int .i64 (nextT (nextI e0 l0 n) (nextI e1 l1 n))) ∧ Ch [] w w' := by
  rw [← stp_next e0 l0 e1 l1 n h0 h3 k0 k3]
  obtain ⟨S1, hS1⟩ : ∃ x, x = stp 0 e0 l0 n := ⟨_, rfl⟩
  obtain ⟨S2, hS2⟩ : ∃ x, x = stp S1 e1 l1 n := ⟨_, rfl⟩
  have bS1 : 0 ≤ S1 ∧ S1 ≤ 1001000 := by rw [hS1]; exact stp_bd _ _ _ _ h0 h3 h4 h5 (by omega) (by omega)
  rw [← hS1, ← hS2]
  have HS1 := Lib.hid hS1
  have HS2 := Lib.hid hS2
  clear hS1 hS2
  go_enter Try.func29, Try.ntmps29
  go_wp2
  generalize hW : (w.alloc (.cells #[.int .i64 e0, .int .i64 e1] 46)).alloc (.cells #[.int .i64 l0, .int .i64 l1] 46) = W
  have c0 : W.cell? ⟨w.heap.size, 0, none⟩ = some (.int .i64 e0) := by rw [← hW]; simp
  have c1 : W.cell? ⟨w.heap.size, 1, none⟩ = some (.int .i64 e1) := by rw [← hW]; simp
  have c2 : W.cell? ⟨w.heap.size + 1, 0, none⟩ = some (.int .i64 l0) := by rw [← hW]; simp
  have c3 : W.cell? ⟨w.heap.size + 1, 1, none⟩ = some (.int .i64 l1) := by rw [← hW]; simp
  have hs : W.heap.size = w.heap.size + 2 := by rw [← hW]; simp
  have HC : Hid (Ch [] w W) := by rw [← hW]; exact ((Ch.refl _ _).alloc _).alloc _
  clear hW
  go_loopw [7, 8] (fun x i wr => ∃ k : Nat, k ≤ 2 ∧ i = .int .i64 k ∧ x = .int .i64 (stg S1 S2 k) ∧ Hid (Ch [] W wr)) (fun _ i _ => (2 - intOf i).toNat)
  case atStart => exact ⟨0, by omega, by simp, rfl, Ch.refl _ _⟩
  case round =>
    obtain ⟨k, hk, rfl, rfl, HCR⟩ := hrel
    have r0 : wr.cell? ⟨w.heap.size, 0, none⟩ = some (.int .i64 e0) := HCR.out.get c0
    have r1 : wr.cell? ⟨w.heap.size, 1, none⟩ = some (.int .i64 e1) := HCR.out.get c1
    have r2 : wr.cell? ⟨w.heap.size + 1, 0, none⟩ = some (.int .i64 l0) := HCR.out.get c2
    have r3 : wr.cell? ⟨w.heap.size + 1, 1, none⟩ = some (.int .i64 l1) := HCR.out.get c3
    clear c0 c1 c2 c3
    by_cases hk0 : k = 0
    · subst hk0
      simp only [stg]
      by_cases t1 : 0 < e0
      · have d1 : decide (0 < e0) = true := decide_eq_true t1
        by_cases t2 : n < l0 + e0
        · have d2 : decide (n < l0 + e0) = true := decide_eq_true t2
          go_wp2_with fail
          go_quiet (fail)
          go_wp2_with fail
          go_roundw
          case rel => exact ⟨1, by omega, by simp, by simp only [stg]; rw [HS1.out]; unfold stp; rw [if_pos (by omega)], HCR.out.drewN _⟩
          case measure => simp [intOf]
        · have d2 : decide (n < l0 + e0) = false := decide_eq_false t2
          go_wp2_with fail
          go_quiet (fail)
          go_wp2_with fail
          go_roundw
          case rel => exact ⟨1, by omega, by simp, by simp only [stg]; rw [HS1.out]; unfold stp; rw [if_neg (by omega)], HCR.out.drewN _⟩
          case measure => simp [intOf]
      · have d1 : decide (0 < e0) = false := decide_eq_false t1
        go_wp2_with fail
        go_quiet (fail)
        go_wp2_with fail
        go_roundw
        case rel => exact ⟨1, by omega, by simp, by simp only [stg]; rw [HS1.out]; unfold stp; rw [if_neg (by omega)], HCR.out.drewN _⟩
        case measure => simp [intOf]
    · by_cases hk1 : k = 1
      · subst hk1
        simp only [stg]
        by_cases t1 : 0 < e1
        · have d1 : decide (0 < e1) = true := decide_eq_true t1
          by_cases t2 : n < l1 + e1
          · have d2 : decide (n < l1 + e1) = true := decide_eq_true t2
            by_cases t3 : S1 = 0
            · have d3 : (S1 == 0) = true := beq_iff_eq.2 t3
              go_wp2_with fail
              go_quiet (fail)
              go_wp2_with fail
              go_roundw
              case rel => exact ⟨2, by omega, by simp, by simp only [stg]; rw [HS2.out]; unfold stp; rw [if_pos (by omega)], HCR.out.drewN _⟩
              case measure => simp [intOf]
            · have d3 : (S1 == 0) = false := beq_eq_false_iff_ne.2 t3
              by_cases t4 : l1 + e1 < S1
              · have d4 : decide (l1 + e1 < S1) = true := decide_eq_true t4
                go_wp2_with fail
                go_quiet (fail)
                go_wp2_with fail
                go_roundw
                case rel => exact ⟨2, by omega, by simp, by simp only [stg]; rw [HS2.out]; unfold stp; rw [if_pos (by omega)], HCR.out.drewN _⟩
                case measure => simp [intOf]
              · have d4 : decide (l1 + e1 < S1) = false := decide_eq_false t4
                go_wp2_with fail
                go_quiet (fail)
                go_wp2_with fail
                go_roundw
                case rel => exact ⟨2, by omega, by simp, by simp only [stg]; rw [HS2.out]; unfold stp; rw [if_neg (by omega)], HCR.out.drewN _⟩
                case measure => simp [intOf]
          · have d2 : decide (n < l1 + e1) = false := decide_eq_false t2
            go_wp2_with fail
            go_quiet (fail)
            go_wp2_with fail
            go_roundw
            case rel => exact ⟨2, by omega, by simp, by simp only [stg]; rw [HS2.out]; unfold stp; rw [if_neg (by omega)], HCR.out.drewN _⟩
            case measure => simp [intOf]
        · have d1 : decide (0 < e1) = false := decide_eq_false t1
          go_wp2_with fail
          go_quiet (fail)
          go_wp2_with fail
          go_roundw
          case rel => exact ⟨2, by omega, by simp, by simp only [stg]; rw [HS2.out]; unfold stp; rw [if_neg (by omega)], HCR.out.drewN _⟩
          case measure => simp [intOf]
      · obtain rfl : k = 2 := by omega
        simp only [stg]
        go_wp2_with fail
        go_ret
        exact ⟨rfl, HC.out.trans HCR.out⟩
end Go.Proofs.Ytpbcgfhhkfjbeaa.T
