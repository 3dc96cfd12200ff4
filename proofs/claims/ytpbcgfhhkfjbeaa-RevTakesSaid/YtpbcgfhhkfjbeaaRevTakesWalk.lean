/- The walk of the law RevTakes: whatever is taken of a counter, all answers are as the document has them. -/
import Derived.Test.YtpbcgfhhkfjbeaaRev
namespace Go.Proofs.Ytpbcgfhhkfjbeaa.revTakesWalk
open Go.RowKit Go.Proofs.Ytpbcgfhhkfjbeaa.K Go.Proofs.Ytpbcgfhhkfjbeaa.R
set_option linter.unusedVariables false
set_option linter.unusedSimpArgs false
set_option maxRecDepth 100000 in
set_option maxHeartbeats 1000000 in
theorem walkRow (most : Int) (rb off len1 cap1 : Nat) (z1 : List Int) (w : World) (h2 : most ≤ 18446744073709551615) (hm0 : 0 ≤ most) (hrb : rb < w.heap.size) (hrow : ∀ i, i < len1 → w.cell? ⟨rb, off + i, none⟩ = some (.int .i64 (z1.getD i 0))) (hbd : ∀ i, i < len1 → -9223372036854775808 ≤ z1.getD i 0 ∧ z1.getD i 0 ≤ 9223372036854775807) :
    Calls Try.prog 3 #[.int .u64 most, .slice (some ⟨rb, off, none⟩) len1 cap1] w fun e w' => e = .returned (.bool true) ∧ Below w.heap.size w w' := by
  go_enter Try.func3, Try.ntmps3
  go_wp2_with fail
  refine (New_any _ _).mono ?_
  rintro e w1 ⟨b, rfl, hb, hge, hc⟩
  have B1 := Lib.hid hb
  have C1 := Lib.hid hc
  have hge' : w.heap.size ≤ b := hge
  have N4 := Lib.hid (show ∀ z : Nat, z ∈ [b] → z ∈ ([] : List Nat) ∨ w.heap.size ≤ z from fun z hz => .inr (by
    have hz' : z = b := by simpa using hz
    omega))
  clear hb hc hge
  go_wp2_with fail
  go_loopw [6, 7] (fun nw i wr => ∃ (k : Nat) (now : Int), k ≤ 60 ∧ k ≤ len1 ∧ i = .int .i64 k ∧ nw = .int .u64 now ∧ 0 ≤ now ∧ now ≤ most ∧ Hid (Rv wr b now most) ∧ Hid (Ch [] w wr)) (fun _ i _ => (60 - intOf i).toNat)
  case atStart => exact ⟨0, 0, by omega, by omega, by simp, rfl, by omega, by omega, B1, C1⟩
  case round =>
    obtain ⟨k, now, hk1, hk2, rfl, rfl, h0, h1, HR, HW⟩ := hrel
    by_cases hlt : k < len1
    · by_cases hl1 : k < 60
      · obtain ⟨x, hx⟩ : ∃ x, x = z1.getD k 0 := ⟨_, rfl⟩
        have hcx : wr.cell? ⟨rb, off + k, none⟩ = some (.int .i64 x) := by rw [hx]; exact HW.out.get (hrow k hlt)
        obtain ⟨x1, x2⟩ : -9223372036854775808 ≤ x ∧ x ≤ 9223372036854775807 := by rw [hx]; exact hbd k hlt
        have HX := Lib.hid hx
        clear hx
        by_cases e0 : x = 0
        · subst e0
          by_cases e1 : most - now < 1
          · have g1 : now = most := by omega
            have g2 : most - now < 1 := e1
            clear g1
            have K := Lib.hid (show takeF now most 1 = (0, 100, now) from by unfold takeF; rw [if_neg (by omega), if_pos (by omega)])
            go_wp2_with fail
            refine (Next_any _ _ _ _ HR.out h0 h1 h2).mono ?_
            rintro e w2 ⟨rfl, hb, hc⟩
            rw [K.out] at hb ⊢
            have B2 : Hid (Rv w2 b now most) := hb
            have C2 := Lib.hid (HW.out.trans' hc N4.out)
            clear hb hc
            go_wp2_with fail
            refine (Now_any _ _ _ _ B2.out).mono ?_
            rintro e w3 ⟨rfl, rfl⟩
            go_wp2_with fail
            refine (Left_any _ _ _ _ B2.out (by omega) (by omega) (by omega)).mono ?_
            rintro e w4 ⟨rfl, nq, rfl⟩
            go_wp2_with fail
            go_roundw
            case rel => exact ⟨k + 1, now, by omega, by omega, by go_num, rfl, by omega, by omega, B2.out.drewN _, C2.out.drewN _⟩
            case measure => simp [intOf]; omega
          · have g2 : 1 ≤ most - now := by omega
            have K := Lib.hid (show takeF now most 1 = (now + 1, 0, now + 1) from by unfold takeF; rw [if_neg (by omega), if_neg (by omega)])
            go_wp2_with fail
            refine (Next_any _ _ _ _ HR.out h0 h1 h2).mono ?_
            rintro e w2 ⟨rfl, hb, hc⟩
            rw [K.out] at hb ⊢
            have B2 : Hid (Rv w2 b (now + 1) most) := hb
            have C2 := Lib.hid (HW.out.trans' hc N4.out)
            clear hb hc
            go_wp2_with fail
            refine (Now_any _ _ _ _ B2.out).mono ?_
            rintro e w3 ⟨rfl, rfl⟩
            go_wp2_with fail
            refine (Left_any _ _ _ _ B2.out (by omega) (by omega) (by omega)).mono ?_
            rintro e w4 ⟨rfl, nq, rfl⟩
            go_wp2_with fail
            go_roundw
            case rel => exact ⟨k + 1, (now + 1), by omega, by omega, by go_num, rfl, by omega, by omega, B2.out.drewN _, C2.out.drewN _⟩
            case measure => simp [intOf]; omega
        · have d0 : (x == 0) = false := beq_eq_false_iff_ne.2 e0
          by_cases e1 : x < 1
          · have d1 : decide (x < 1) = true := decide_eq_true e1
            have K := Lib.hid (show takeF now most x = (0, 1, now) from by unfold takeF; rw [if_pos (by omega)])
            go_wp2_with fail
            refine (Take_any _ _ _ _ _ HR.out h0 h1 h2 (by omega) (by omega)).mono ?_
            rintro e w2 ⟨rfl, hb, hc⟩
            rw [K.out] at hb ⊢
            have B2 : Hid (Rv w2 b now most) := hb
            have C2 := Lib.hid (HW.out.trans' hc N4.out)
            clear hb hc
            go_wp2_with fail
            refine (Now_any _ _ _ _ B2.out).mono ?_
            rintro e w3 ⟨rfl, rfl⟩
            go_wp2_with fail
            refine (Left_any _ _ _ _ B2.out (by omega) (by omega) (by omega)).mono ?_
            rintro e w4 ⟨rfl, nq, rfl⟩
            go_wp2_with fail
            go_roundw
            case rel => exact ⟨k + 1, now, by omega, by omega, by go_num, rfl, by omega, by omega, B2.out.drewN _, C2.out.drewN _⟩
            case measure => simp [intOf]; omega
          · have g1 : 1 ≤ x := by omega
            by_cases e2 : most - now < x
            · have g2 : most - now < x := e2
              have K := Lib.hid (show takeF now most x = (0, 100, now) from by unfold takeF; rw [if_neg (by omega), if_pos (by omega)])
              go_wp2_with fail
              refine (Take_any _ _ _ _ _ HR.out h0 h1 h2 (by omega) (by omega)).mono ?_
              rintro e w2 ⟨rfl, hb, hc⟩
              rw [K.out] at hb ⊢
              have B2 : Hid (Rv w2 b now most) := hb
              have C2 := Lib.hid (HW.out.trans' hc N4.out)
              clear hb hc
              go_wp2_with fail
              refine (Now_any _ _ _ _ B2.out).mono ?_
              rintro e w3 ⟨rfl, rfl⟩
              go_wp2_with fail
              refine (Left_any _ _ _ _ B2.out (by omega) (by omega) (by omega)).mono ?_
              rintro e w4 ⟨rfl, nq, rfl⟩
              go_wp2_with fail
              go_roundw
              case rel => exact ⟨k + 1, now, by omega, by omega, by go_num, rfl, by omega, by omega, B2.out.drewN _, C2.out.drewN _⟩
              case measure => simp [intOf]; omega
            · have g2 : x ≤ most - now := by omega
              have K := Lib.hid (show takeF now most x = (now + 1, 0, now + x) from by unfold takeF; rw [if_neg (by omega), if_neg (by omega)])
              go_wp2_with fail
              refine (Take_any _ _ _ _ _ HR.out h0 h1 h2 (by omega) (by omega)).mono ?_
              rintro e w2 ⟨rfl, hb, hc⟩
              rw [K.out] at hb ⊢
              have B2 : Hid (Rv w2 b (now + x) most) := hb
              have C2 := Lib.hid (HW.out.trans' hc N4.out)
              clear hb hc
              go_wp2_with fail
              refine (Now_any _ _ _ _ B2.out).mono ?_
              rintro e w3 ⟨rfl, rfl⟩
              go_wp2_with fail
              refine (Left_any _ _ _ _ B2.out (by omega) (by omega) (by omega)).mono ?_
              rintro e w4 ⟨rfl, nq, rfl⟩
              go_wp2_with fail
              go_roundw
              case rel => exact ⟨k + 1, (now + x), by omega, by omega, by go_num, rfl, by omega, by omega, B2.out.drewN _, C2.out.drewN _⟩
              case measure => simp [intOf]; omega
      · obtain rfl : k = 60 := by omega
        have hlt2 : decide (60 < len1) = true := decide_eq_true hlt
        go_wp2_with fail
        refine (Now_any _ _ _ _ HR.out).mono ?_
        rintro e w2 ⟨rfl, rfl⟩
        go_wp2_with fail
        refine (works_any _).mono ?_
        rintro e w3 ⟨rfl, hc⟩
        have C3 := Lib.hid (HW.out.trans hc)
        clear hc
        go_wp2_with fail
        go_ret
        exact ⟨rfl, C3.out.below0⟩
    · have hlt2 : decide (k < len1) = false := decide_eq_false hlt
      go_wp2_with fail
      refine (Now_any _ _ _ _ HR.out).mono ?_
      rintro e w2 ⟨rfl, rfl⟩
      go_wp2_with fail
      refine (works_any _).mono ?_
      rintro e w3 ⟨rfl, hc⟩
      have C3 := Lib.hid (HW.out.trans hc)
      clear hc
      go_wp2_with fail
      go_ret
      exact ⟨rfl, C3.out.below0⟩
set_option maxRecDepth 100000 in
theorem walkNil (most : Int) (a1 : Option Addr) (cap1 : Nat) (w : World) (h2 : most ≤ 18446744073709551615) (hm0 : 0 ≤ most) :
    Calls Try.prog 3 #[.int .u64 most, .slice a1 0 cap1] w fun e w' => e = .returned (.bool true) ∧ Below w.heap.size w w' := by
  go_enter Try.func3, Try.ntmps3
  go_wp2_with fail
  refine (New_any _ _).mono ?_
  rintro e w1 ⟨b, rfl, hb, hge, hc⟩
  have B1 := Lib.hid hb
  have C1 := Lib.hid hc
  have hge' : w.heap.size ≤ b := hge
  have N4 := Lib.hid (show ∀ z : Nat, z ∈ [b] → z ∈ ([] : List Nat) ∨ w.heap.size ≤ z from fun z hz => .inr (by
    have hz' : z = b := by simpa using hz
    omega))
  clear hb hc hge
  go_wp2_with fail
  go_loopw [6, 7] (fun nw i wr => ∃ (k : Nat) (now : Int), k ≤ 60 ∧ k ≤ 0 ∧ i = .int .i64 k ∧ nw = .int .u64 now ∧ 0 ≤ now ∧ now ≤ most ∧ Hid (Rv wr b now most) ∧ Hid (Ch [] w wr)) (fun _ i _ => (60 - intOf i).toNat)
  case atStart => exact ⟨0, 0, by omega, by omega, by simp, rfl, by omega, by omega, B1, C1⟩
  case round =>
    obtain ⟨k, now, hk1, hk2, rfl, rfl, h0, h1, HR, HW⟩ := hrel
    obtain rfl : k = 0 := by omega
    go_wp2_with fail
    refine (Now_any _ _ _ _ HR.out).mono ?_
    rintro e w2 ⟨rfl, rfl⟩
    go_wp2_with fail
    refine (works_any _).mono ?_
    rintro e w3 ⟨rfl, hc⟩
    have C3 := Lib.hid (HW.out.trans hc)
    clear hc
    go_wp2_with fail
    go_ret
    exact ⟨rfl, C3.out.below0⟩
theorem walk (a0 : Int) (a1 : Option Addr) (len1 cap1 : Nat) (z1 : List Int) (w : World) (w0 : (Lit.int .u64 a0).wf = true) (w1 : IsRow .i64 w a1 len1 cap1 z1) :
    Calls Try.prog 3 #[.int .u64 a0, .slice a1 len1 cap1] w fun e w' => e = .returned (.bool true) ∧ Below w.heap.size w w' := by
  obtain ⟨b0, b1⟩ := bounds_u64 w0
  rcases w1.at_ with rfl | ⟨rb, off, rfl, hrb, hrow⟩
  · exact walkNil a0 a1 cap1 w b1 b0
  · exact walkRow a0 rb off len1 cap1 z1 w b1 b0 hrb hrow fun i hi => w1.bd_i64 i hi
end Go.Proofs.Ytpbcgfhhkfjbeaa.revTakesWalk
