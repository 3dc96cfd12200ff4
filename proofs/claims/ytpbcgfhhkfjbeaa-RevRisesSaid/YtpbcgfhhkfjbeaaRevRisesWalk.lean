/- The walk of the law RevRises: the revisions that are told rise, each once; once Next is refused it stays so. -/
import Derived.Test.YtpbcgfhhkfjbeaaRev
namespace Go.Proofs.Ytpbcgfhhkfjbeaa.revRisesWalk
open Go.RowKit Go.Proofs.Ytpbcgfhhkfjbeaa.K Go.Proofs.Ytpbcgfhhkfjbeaa.R
set_option linter.unusedVariables false
set_option linter.unusedSimpArgs false
set_option maxRecDepth 100000 in
set_option maxHeartbeats 1000000 in
theorem walkRow (most : Int) (rb off len1 cap1 : Nat) (z1 : List Int) (w : World) (h2 : most ≤ 18446744073709551615) (hm0 : 0 ≤ most) (hrb : rb < w.heap.size) (hrow : ∀ i, i < len1 → w.cell? ⟨rb, off + i, none⟩ = some (.int .i64 (z1.getD i 0))) (hbd : ∀ i, i < len1 → -9223372036854775808 ≤ z1.getD i 0 ∧ z1.getD i 0 ≤ 9223372036854775807) :
    Calls Try.prog 4 #[.int .u64 most, .slice (some ⟨rb, off, none⟩) len1 cap1] w fun e w' => e = .returned (.bool true) ∧ Below w.heap.size w w' := by
  go_enter Try.func4, Try.ntmps4
  go_wp2_with fail
  refine (works_any _).mono ?_
  rintro e w0 ⟨rfl, hc⟩
  have C0 := Lib.hid hc
  clear hc
  go_wp2_with fail
  refine (New_any _ _).mono ?_
  rintro e w1 ⟨b, rfl, hb, hge, hc⟩
  have B1 := Lib.hid hb
  have C1 := Lib.hid (C0.out.trans hc)
  have hge' : w.heap.size ≤ b := Nat.le_trans C0.out.size hge
  have N4 := Lib.hid (show ∀ z : Nat, z ∈ [b] → z ∈ ([] : List Nat) ∨ w.heap.size ≤ z from fun z hz => .inr (by
    have hz' : z = b := by simpa using hz
    omega))
  clear hb hc hge
  go_wp2_with fail
  go_loopw [6, 7, 8] (fun nw sp i wr => ∃ (k : Nat) (now : Int) (s : Bool), k ≤ 60 ∧ k ≤ len1 ∧ i = .int .i64 k ∧ nw = .int .u64 now ∧ sp = .bool s ∧ 0 ≤ now ∧ now ≤ most ∧ Hid (s = true → now = most) ∧ Hid (Rv wr b now most) ∧ Hid (Ch [] w wr)) (fun _ _ i _ => (60 - intOf i).toNat)
  case atStart => exact ⟨0, 0, false, by omega, by omega, by simp, rfl, rfl, by omega, by omega, (fun h => by cases h), B1, C1⟩
  case round =>
    obtain ⟨k, now, s, hk1, hk2, rfl, rfl, rfl, h0, h1, HS, HR, HW⟩ := hrel
    by_cases hlt : k < len1
    · by_cases hl1 : k < 60
      · obtain ⟨x, hx⟩ : ∃ x, x = z1.getD k 0 := ⟨_, rfl⟩
        have HC0 : Hid (w.cell? ⟨rb, off + k, none⟩ = some (.int .i64 x)) := by rw [hx]; exact hrow k hlt
        have hcx : wr.cell? ⟨rb, off + k, none⟩ = some (.int .i64 x) := HW.out.get HC0.out
        obtain ⟨x1, x2⟩ : -9223372036854775808 ≤ x ∧ x ≤ 9223372036854775807 := by rw [hx]; exact hbd k hlt
        have HX := Lib.hid hx
        clear hx
        by_cases e0 : 1 < x
        · by_cases e1 : most - now < x
          · have g2 : most - now < x := e1
            have K := Lib.hid (show takeF now most x = (0, 100, now) from by unfold takeF; rw [if_neg (by omega), if_pos (by omega)])
            go_wp2_with fail
            refine (Take_any _ _ _ _ _ HR.out h0 h1 h2 (by omega) (by omega)).mono ?_
            rintro e w2 ⟨rfl, hb, hc⟩
            rw [K.out] at hb ⊢
            have B2 : Hid (Rv w2 b now most) := hb
            have C2 := Lib.hid (HW.out.trans' hc N4.out)
            clear hb hc
            go_wp2_with fail
            have C2b := Lib.hid (Ch.refl [] w2)
            have hcx2 : w2.cell? ⟨rb, off + k, none⟩ = some (.int .i64 x) := C2.out.get (HC0.out)
            have hrb2 : rb < w2.heap.size := Nat.lt_of_lt_of_le hrb C2.out.size
            have R := @From.cell w2
            have V := Lib.hid (show ∀ W', Ch [] w2 W' → Calls Try.prog 13 #[.pointer (some ⟨b, 0, none⟩)] W' fun e w' => e = .returned (.int .u64 now) ∧ Ch [] W' w' from fun W' h => (Now_any _ _ _ _ (h.blk B2.out (by simp))).mono fun e w' ⟨he, hw⟩ => ⟨he, hw ▸ Ch.refl _ _⟩)
            refine wp_region_from (by kernel_rfl) (by kernel_rfl) ?_
            repeat (go_big_quiet_step (first | (go_at_call 13; with_reducible exact class_of (V.out _ (From.property _)))))
            refine wpQuiet_nil ?_
            rintro w3 ⟨y, hy⟩
            have hc3 := Lib.hid (show Ch [] w2 w3 from hy ▸ y.property)
            clear hy y R
            have B3 : Hid (Rv w3 b now most) := hc3.out.blk B2.out (by simp)
            have C3 := Lib.hid (C2.out.trans hc3.out)
            clear B2 C2 hcx2 C2b
            go_wp2_with fail
            refine (Now_any _ _ _ _ B3.out).mono ?_
            rintro e w4 ⟨rfl, rfl⟩
            have B2 := B3
            have C2 := C3
            go_wp2_with fail
            go_roundw
            case rel => exact ⟨k + 1, now, s, by omega, by omega, by go_num, rfl, rfl, by omega, by omega, HS.out, B2, C2⟩
            case measure => simp [intOf]; omega
          · have g2 : x ≤ most - now := by omega
            obtain rfl : s = false := by
              cases s
              · rfl
              · have := HS.out rfl
                omega
            have p1 : decide (now + 1 ≤ now) = false := decide_eq_false (by omega)
            have p2 : decide (most < now + 1) = false := decide_eq_false (by omega)
            have p3 : decide (now + x < now + 1) = false := decide_eq_false (by omega)
            have p5 : decide (x < 1) = false := decide_eq_false (by omega)
            have p4 : (now + x - (now + 1) != x - 1) = false := by simp; omega
            have K := Lib.hid (show takeF now most x = (now + 1, 0, now + x) from by unfold takeF; rw [if_neg (by omega), if_neg (by omega)])
            go_wp2_with fail
            refine (Take_any _ _ _ _ _ HR.out h0 h1 h2 (by omega) (by omega)).mono ?_
            rintro e w2 ⟨rfl, hb, hc⟩
            rw [K.out] at hb ⊢
            have B2 : Hid (Rv w2 b (now + x) most) := hb
            have C2 := Lib.hid (HW.out.trans' hc N4.out)
            clear hb hc
            go_wp2_with fail
            have C2b := Lib.hid (Ch.refl [] w2)
            have hcx2 : w2.cell? ⟨rb, off + k, none⟩ = some (.int .i64 x) := C2.out.get (HC0.out)
            have hrb2 : rb < w2.heap.size := Nat.lt_of_lt_of_le hrb C2.out.size
            have R := @From.cell w2
            have V := Lib.hid (show ∀ W', Ch [] w2 W' → Calls Try.prog 13 #[.pointer (some ⟨b, 0, none⟩)] W' fun e w' => e = .returned (.int .u64 (now + x)) ∧ Ch [] W' w' from fun W' h => (Now_any _ _ _ _ (h.blk B2.out (by simp))).mono fun e w' ⟨he, hw⟩ => ⟨he, hw ▸ Ch.refl _ _⟩)
            refine wp_region_from (by kernel_rfl) (by kernel_rfl) ?_
            repeat (go_big_quiet_step (first | (go_at_call 13; with_reducible exact class_of (V.out _ (From.property _)))))
            refine wpQuiet_nil ?_
            rintro w3 ⟨y, hy⟩
            have hc3 := Lib.hid (show Ch [] w2 w3 from hy ▸ y.property)
            clear hy y R
            have B3 : Hid (Rv w3 b (now + x) most) := hc3.out.blk B2.out (by simp)
            have C3 := Lib.hid (C2.out.trans hc3.out)
            clear B2 C2 hcx2 C2b
            go_wp2_with fail
            refine (Now_any _ _ _ _ B3.out).mono ?_
            rintro e w4 ⟨rfl, rfl⟩
            have B2 := B3
            have C2 := C3
            go_wp2_with fail
            go_roundw
            case rel => exact ⟨k + 1, (now + x), false, by omega, by omega, by go_num, rfl, rfl, by omega, by omega, (fun h => by first | omega | cases h), B2, C2⟩
            case measure => simp [intOf]; omega
        · by_cases e1 : most - now < 1
          · have g2 : most - now < 1 := e1
            have g3 : now = most := by omega
            have D3 := Lib.hid (show (now != most) = false by simp [g3])
            have d3 := D3.out
            clear g3
            cases s
            · have K := Lib.hid (show takeF now most 1 = (0, 100, now) from by unfold takeF; rw [if_neg (by omega), if_pos (by omega)])
              go_wp2_with fail
              refine (Next_any _ _ _ _ HR.out h0 h1 h2).mono ?_
              rintro e w2 ⟨rfl, hb, hc⟩
              rw [K.out] at hb ⊢
              have B2 : Hid (Rv w2 b now most) := hb
              have C2 := Lib.hid (HW.out.trans' hc N4.out)
              clear hb hc
              go_wp2_with fail
              refine (Now_any _ _ _ _ B2.out).mono ?_
              rintro e w3 ⟨rfl, rfl⟩
              go_wp2_with fail
              refine (Now_any _ _ _ _ B2.out).mono ?_
              rintro e w4 ⟨rfl, rfl⟩
              go_wp2_with fail
              go_roundw
              case rel => exact ⟨k + 1, now, true, by omega, by omega, by go_num, rfl, rfl, by omega, by omega, (fun h => by first | omega | cases h), B2, C2⟩
              case measure => simp [intOf]; omega
            · have K := Lib.hid (show takeF now most 1 = (0, 100, now) from by unfold takeF; rw [if_neg (by omega), if_pos (by omega)])
              go_wp2_with fail
              refine (Next_any _ _ _ _ HR.out h0 h1 h2).mono ?_
              rintro e w2 ⟨rfl, hb, hc⟩
              rw [K.out] at hb ⊢
              have B2 : Hid (Rv w2 b now most) := hb
              have C2 := Lib.hid (HW.out.trans' hc N4.out)
              clear hb hc
              go_wp2_with fail
              refine (Now_any _ _ _ _ B2.out).mono ?_
              rintro e w3 ⟨rfl, rfl⟩
              go_wp2_with fail
              refine (Now_any _ _ _ _ B2.out).mono ?_
              rintro e w4 ⟨rfl, rfl⟩
              go_wp2_with fail
              go_roundw
              case rel => exact ⟨k + 1, now, true, by omega, by omega, by go_num, rfl, rfl, by omega, by omega, (fun h => by first | omega | cases h), B2, C2⟩
              case measure => simp [intOf]; omega
          · have g2 : 1 ≤ most - now := by omega
            obtain rfl : s = false := by
              cases s
              · rfl
              · have := HS.out rfl
                omega
            have K := Lib.hid (show takeF now most 1 = (now + 1, 0, now + 1) from by unfold takeF; rw [if_neg (by omega), if_neg (by omega)])
            go_wp2_with fail
            refine (Next_any _ _ _ _ HR.out h0 h1 h2).mono ?_
            rintro e w2 ⟨rfl, hb, hc⟩
            rw [K.out] at hb ⊢
            have B2 : Hid (Rv w2 b (now + 1) most) := hb
            have C2 := Lib.hid (HW.out.trans' hc N4.out)
            clear hb hc
            go_wp2_with fail
            refine (Now_any _ _ _ _ B2.out).mono ?_
            rintro e w3 ⟨rfl, rfl⟩
            go_wp2_with fail
            go_roundw
            case rel => exact ⟨k + 1, (now + 1), false, by omega, by omega, by go_num, rfl, rfl, by omega, by omega, (fun h => by first | omega | cases h), B2, C2⟩
            case measure => simp [intOf]; omega
      · obtain rfl : k = 60 := by omega
        have hlt2 : decide (60 < len1) = true := decide_eq_true hlt
        go_wp2_with fail
        go_ret
        exact ⟨rfl, HW.out.below0⟩
    · have hlt2 : decide (k < len1) = false := decide_eq_false hlt
      go_wp2_with fail
      go_ret
      exact ⟨rfl, HW.out.below0⟩
set_option maxRecDepth 100000 in
theorem walkNil (most : Int) (a1 : Option Addr) (cap1 : Nat) (w : World) (h2 : most ≤ 18446744073709551615) (hm0 : 0 ≤ most) :
    Calls Try.prog 4 #[.int .u64 most, .slice a1 0 cap1] w fun e w' => e = .returned (.bool true) ∧ Below w.heap.size w w' := by
  go_enter Try.func4, Try.ntmps4
  go_wp2_with fail
  refine (works_any _).mono ?_
  rintro e w0 ⟨rfl, hc⟩
  have C0 := Lib.hid hc
  clear hc
  go_wp2_with fail
  refine (New_any _ _).mono ?_
  rintro e w1 ⟨b, rfl, hb, hge, hc⟩
  have B1 := Lib.hid hb
  have C1 := Lib.hid (C0.out.trans hc)
  have hge' : w.heap.size ≤ b := Nat.le_trans C0.out.size hge
  have N4 := Lib.hid (show ∀ z : Nat, z ∈ [b] → z ∈ ([] : List Nat) ∨ w.heap.size ≤ z from fun z hz => .inr (by
    have hz' : z = b := by simpa using hz
    omega))
  clear hb hc hge
  go_wp2_with fail
  go_loopw [6, 7, 8] (fun nw sp i wr => ∃ (k : Nat) (now : Int) (s : Bool), k ≤ 60 ∧ k ≤ 0 ∧ i = .int .i64 k ∧ nw = .int .u64 now ∧ sp = .bool s ∧ 0 ≤ now ∧ now ≤ most ∧ Hid (s = true → now = most) ∧ Hid (Rv wr b now most) ∧ Hid (Ch [] w wr)) (fun _ _ i _ => (60 - intOf i).toNat)
  case atStart => exact ⟨0, 0, false, by omega, by omega, by simp, rfl, rfl, by omega, by omega, (fun h => by cases h), B1, C1⟩
  case round =>
    obtain ⟨k, now, s, hk1, hk2, rfl, rfl, rfl, h0, h1, HS, HR, HW⟩ := hrel
    obtain rfl : k = 0 := by omega
    go_wp2_with fail
    go_ret
    exact ⟨rfl, HW.out.below0⟩
theorem walk (a0 : Int) (a1 : Option Addr) (len1 cap1 : Nat) (z1 : List Int) (w : World) (w0 : (Lit.int .u64 a0).wf = true) (w1 : IsRow .i64 w a1 len1 cap1 z1) :
    Calls Try.prog 4 #[.int .u64 a0, .slice a1 len1 cap1] w fun e w' => e = .returned (.bool true) ∧ Below w.heap.size w w' := by
  obtain ⟨b0, b1⟩ := bounds_u64 w0
  rcases w1.at_ with rfl | ⟨rb, off, rfl, hrb, hrow⟩
  · exact walkNil a0 a1 cap1 w b1 b0
  · exact walkRow a0 rb off len1 cap1 z1 w b1 b0 hrb hrow fun i hi => w1.bd_i64 i hi
end Go.Proofs.Ytpbcgfhhkfjbeaa.revRisesWalk
