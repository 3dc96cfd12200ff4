/- The walk of the law TimerPlays: when marks and compactions are due, and which tick is the next, is as the document has it. -/
import Derived.Test.YtpbcgfhhkfjbeaaTimerRef
namespace Go.Proofs.Ytpbcgfhhkfjbeaa.timerPlaysWalk
open Go.RowKit Go.Proofs.Ytpbcgfhhkfjbeaa.K Go.Proofs.Ytpbcgfhhkfjbeaa.T
set_option linter.unusedVariables false
set_option linter.unusedSimpArgs false
theorem and_bd (x : Int) : 0 ≤ bits .and .i64 x 1023 ∧ bits .and .i64 x 1023 ≤ 1023 := by
  have h : (BitVec.ofInt 64 x &&& BitVec.ofInt 64 1023).toNat ≤ 1023 := by
    rw [BitVec.toNat_and]
    exact Nat.le_trans Nat.and_le_right (by decide)
  have e : bits .and .i64 x 1023 = ((BitVec.ofInt 64 x &&& BitVec.ofInt 64 1023).toNat : Int) := by
    simp only [bits]
    rw [IntKind.wrap_i64]
    show ((((BitVec.ofInt 64 x &&& BitVec.ofInt 64 1023).toNat : Int)) + 9223372036854775808) % 18446744073709551616 - 9223372036854775808 = _
    omega
  rw [e]
  omega
set_option maxRecDepth 100000 in
set_option maxHeartbeats 1000000 in
theorem walkRow (a0 a1 : Int) (rb off len2 cap2 : Nat) (z2 : List Int) (w : World) (hrb : rb < w.heap.size) (hrow : ∀ i, i < len2 → w.cell? ⟨rb, off + i, none⟩ = some (.int .i64 (z2.getD i 0))) (c : 0 ≤ a0 ∧ a0 ≤ 1000 ∧ 0 ≤ a1 ∧ a1 ≤ 1000) :
    Calls Try.prog 9 #[.int .i64 a0, .int .i64 a1, .slice (some ⟨rb, off, none⟩) len2 cap2] w fun e w' => e = .returned (.bool true) ∧ Below w.heap.size w w' := by
  obtain ⟨c1, c2, c3, c4⟩ := c
  have d1 : decide (a0 < 0) = false := by simp; omega
  have d2 : decide (1000 < a0) = false := by simp; omega
  have d3 : decide (a1 < 0) = false := by simp; omega
  have d4 : decide (1000 < a1) = false := by simp; omega
  go_enter Try.func9, Try.ntmps9
  go_wp2_with fail
  refine (new_any _ _ _ (by simp; omega) (by simp; omega)).mono ?_
  rintro e w2 ⟨b, rfl, hb, hge, hc⟩
  have HC := Lib.hid hc
  have HB := Lib.hid hb
  have hlb := hb.lt
  have hsz := hc.size
  clear hc hb
  go_wp2_with fail
  have n1 : w2.heap.size ∉ [b] := by simp; omega
  have n2 : w2.heap.size + 1 ∉ [b] := by simp; omega
  have n3 : b ≠ w2.heap.size + 1 := by omega
  have n4 : ∀ z : Nat, z ∈ [b] → z ∈ ([] : List Nat) ∨ w.heap.size ≤ z := fun z hz => .inr (by
    have hz' : z = b := by simpa using hz
    omega)
  have n5 : w.heap.size ≤ w2.heap.size + 1 := by omega
  have N1 := Lib.hid n1
  have N2 := Lib.hid n2
  have N3 := Lib.hid n3
  have N4 := Lib.hid n4
  have N5 := Lib.hid n5
  clear n1 n2 n3 n4 n5
  have HA := Lib.hid (blk_new w2 #[.int .i64 a0, .int .i64 a1] 46)
  go_loopw [11, 12] (fun nw i wr => ∃ (k : Nat) (Nw ml cl : Int), k ≤ 100 ∧ k ≤ len2 ∧ i = .int .i64 k ∧ nw = .int .i64 Nw ∧ 0 ≤ ml ∧ ml ≤ Nw ∧ 0 ≤ cl ∧ cl ≤ Nw ∧ Nw ≤ 255 * k ∧ Hid (Tm wr b a0 ml a1 cl) ∧ Hid (Blk wr w2.heap.size #[.int .i64 a0, .int .i64 a1] 46) ∧ Hid (Blk wr (w2.heap.size + 1) #[.int .i64 ml, .int .i64 cl] 46) ∧ Hid (Ch [] w wr)) (fun _ i _ => (100 - intOf i).toNat)
  case atStart => exact ⟨0, 0, 0, 0, by omega, by omega, by simp, rfl, by omega, by omega, by omega, by omega, by omega, (HB.out.alloc _).alloc _, HA.out.alloc _, by have := blk_new (w2.alloc (.cells #[.int .i64 a0, .int .i64 a1] 46)) #[.int .i64 0, .int .i64 0] 46; simp at this; exact this, (HC.out.alloc _).alloc _⟩
  case round =>
    obtain ⟨k, Nw, ml, cl, hk1, hk2, rfl, rfl, b1, b2, b3, b4, b5, HT, HE, HL, HW⟩ := hrel
    by_cases hlt : k < len2
    · by_cases hl1 : k < 100
      · obtain ⟨x, hx⟩ : ∃ x, x = z2.getD k 0 := ⟨_, rfl⟩
        have hcx : wr.cell? ⟨rb, off + k, none⟩ = some (.int .i64 x) := by rw [hx]; exact HW.out.get (hrow k hlt)
        have HX := Lib.hid hx
        clear hx
        obtain ⟨x1, x2⟩ := and_bd x
        obtain ⟨s0, s1, s2, s3, hbb⟩ := HT.out.cells
        have q0 := HE.out.cell 0
        have q1 := HE.out.cell 1
        have p0 := HL.out.cell 0
        have p1 := HL.out.cell 1
        simp at q0 q1 p0 p1
        have hle := HE.out.lt
        have hll := HL.out.lt
        obtain ⟨B1, hB1⟩ : ∃ B, B = dueB a0 ml (Nw + bits .and .i64 x 1023 / 4) := ⟨_, rfl⟩
        obtain ⟨B2, hB2⟩ : ∃ B, B = dueB a1 cl (Nw + bits .and .i64 x 1023 / 4) := ⟨_, rfl⟩
        obtain ⟨Z, hZ⟩ : ∃ Z, Z = nextT (nextI a0 ml (Nw + bits .and .i64 x 1023 / 4)) (nextI a1 cl (Nw + bits .and .i64 x 1023 / 4)) := ⟨_, rfl⟩
        have M := Lib.hid (show ∀ W', Ch [] wr W' → Calls Try.prog 24 #[.pointer (some ⟨b, 0, none⟩), .int .i64 (Nw + bits .and .i64 x 1023 / 4)] W' fun e w' => e = .returned (.bool B1) ∧ Ch [] W' w' from fun W' h => by
          rw [hB1]
          exact mark_any _ _ _ _ _ (h.get s0) (h.get s1) (by omega) (by omega))
        have C := Lib.hid (show ∀ W', Ch [] wr W' → Calls Try.prog 28 #[.pointer (some ⟨b, 0, none⟩), .int .i64 (Nw + bits .and .i64 x 1023 / 4)] W' fun e w' => e = .returned (.bool B2) ∧ Ch [] W' w' from fun W' h => by
          rw [hB2]
          exact comp_any _ _ _ _ _ (h.get s2) (h.get s3) (by omega) (by omega))
        have D1 := Lib.hid (show ∀ W', Ch [] wr W' → Calls Try.prog 27 #[.int .i64 a0, .int .i64 ml, .int .i64 (Nw + bits .and .i64 x 1023 / 4)] W' fun e w' => e = .returned (.bool B1) ∧ Ch [] W' w' from fun W' h => by
          rw [hB1]
          exact (RefDue_any _ _ _ _ (by omega) (by omega)).mono fun e w' ⟨he, hw⟩ => ⟨he, hw ▸ Ch.refl _ _⟩)
        have D2 := Lib.hid (show ∀ W', Ch [] wr W' → Calls Try.prog 27 #[.int .i64 a1, .int .i64 cl, .int .i64 (Nw + bits .and .i64 x 1023 / 4)] W' fun e w' => e = .returned (.bool B2) ∧ Ch [] W' w' from fun W' h => by
          rw [hB2]
          exact (RefDue_any _ _ _ _ (by omega) (by omega)).mono fun e w' ⟨he, hw⟩ => ⟨he, hw ▸ Ch.refl _ _⟩)
        have X := Lib.hid (show ∀ W', Ch [] wr W' → Calls Try.prog 25 #[.pointer (some ⟨b, 0, none⟩), .int .i64 (Nw + bits .and .i64 x 1023 / 4)] W' fun e w' => e = .returned (.int .i64 Z) ∧ Ch [] W' w' from fun W' h => by
          rw [hZ]
          exact Next_any _ _ _ _ _ _ _ (h.get s0) (h.get s1) (h.get s2) (h.get s3) (by omega) (by omega) (by omega) (by omega) (by omega) (by omega) (by omega) (by omega) (by omega) (by omega) (by omega) (by omega))
        have Y := Lib.hid (show ∀ W', Ch [] wr W' → Calls Try.prog 29 #[.agg #[.int .i64 a0, .int .i64 a1], .agg #[.int .i64 ml, .int .i64 cl], .int .i64 (Nw + bits .and .i64 x 1023 / 4)] W' fun e w' => e = .returned (.int .i64 Z) ∧ Ch [] W' w' from fun W' h => by
          rw [hZ]
          exact RefNext_any _ _ _ _ _ _ (by omega) (by omega) (by omega) (by omega) (by omega) (by omega) (by omega) (by omega))
        clear hB1 hB2 hZ s0 s1 s2 s3
        have V := Lib.hid (show ∀ W', Ch [] wr W' → Calls Try.prog 22 #[] W' fun e w' => e = .returned (.bool true) ∧ Ch [] W' w' from fun W' h => works_any _)
        have R := @From.cell wr
        go_wp2_with fail
        refine wp_region_from (by kernel_rfl) (by kernel_rfl) ?_
        repeat (go_big_quiet_step (first | (go_at_call 24; with_reducible exact class_of (M.out _ (From.property _))) | (go_at_call 27; with_reducible exact class_of (D1.out _ (From.property _))) | (go_at_call 27; with_reducible exact class_of (D2.out _ (From.property _))) | (go_at_call 28; with_reducible exact class_of (C.out _ (From.property _))) | (go_at_call 25; with_reducible exact class_of (X.out _ (From.property _))) | (go_at_call 29; with_reducible exact class_of (Y.out _ (From.property _))) | (go_at_call 22; with_reducible exact class_of (V.out _ (From.property _)))))
        refine wpQuiet_nil ?_
        rintro w3 ⟨y, hy⟩
        have hc3 := Lib.hid (show Ch [] wr w3 from hy ▸ y.property)
        clear hy y R
        by_cases t1 : 0 < bits .and .i64 x 1
        · have g1 : decide (0 < bits .and .i64 x 1) = true := decide_eq_true t1
          by_cases t2 : 0 < bits .and .i64 x 2
          · have g2 : decide (0 < bits .and .i64 x 2) = true := decide_eq_true t2
            have HT3 : Hid (Tm w3 b a0 ml a1 cl) := hc3.out.blk HT.out (by simp)
            have HE3 := Lib.hid (hc3.out.blk HE.out (by simp))
            have HL3 := Lib.hid (hc3.out.blk HL.out (by simp))
            have HW3 := Lib.hid (HW.out.trans hc3.out)
            have u0 := (hc3.out.get hcx)
            go_wp2_with fail
            refine (Marked_any _ _ _ _ _ _ _ HT3.out).mono ?_
            rintro e w4 ⟨rfl, t4, hc4⟩
            have HT4 := Lib.hid t4
            have HE4 := Lib.hid (hc4.blk HE3.out N1.out)
            have HL4 := Lib.hid (hc4.blk HL3.out N2.out)
            have HW4 := Lib.hid (HW3.out.trans' hc4 N4.out)
            have u1 : w4.cell? ⟨rb, off + k, none⟩ = some (.int .i64 x) := (hc4.cell (p := ⟨rb, off + k, none⟩) (Nat.lt_of_lt_of_le hrb HW3.out.size) (by simp; omega)).trans u0
            have v0 := HL4.out.cell 0
            have v1 := HL4.out.frozen 0
            simp at v0
            clear t4 hc4 u0
            go_wp2_with fail
            have T5 := Lib.hid (show Tm (w4.setCell ⟨w2.heap.size + 1, 0, none⟩ (.int .i64 (Nw + bits .and .i64 x 1023 / 4))) b a0 (Nw + bits .and .i64 x 1023 / 4) a1 cl from ((HT4.out : Blk _ _ _ _).far N3.out _))
            refine (Compacted_any _ _ _ _ _ _ _ T5.out).mono ?_
            rintro e w5 ⟨rfl, t5, hc5⟩
            have HT5 := Lib.hid t5
            have HE5 := Lib.hid (hc5.blk (HE4.out.far (by simp) _) N1.out)
            have HL5 : Hid (Blk w5 (w2.heap.size + 1) #[.int .i64 (Nw + bits .and .i64 x 1023 / 4), .int .i64 cl] 46) := hc5.blk (HL4.out.set 0 (.int .i64 (Nw + bits .and .i64 x 1023 / 4))) N2.out
            have HW5 := Lib.hid ((HW4.out.setCell (.inr N5.out) _).trans' hc5 N4.out)
            have v2 := HL5.out.cell 1
            have v3 := HL5.out.frozen 1
            simp at v2
            clear t5 hc5
            go_wp2_with fail
            go_roundw
            case rel => exact ⟨k + 1, (Nw + bits .and .i64 x 1023 / 4), (Nw + bits .and .i64 x 1023 / 4), (Nw + bits .and .i64 x 1023 / 4), by omega, by omega, by go_num, rfl, by omega, by omega, by omega, by omega, by omega, ((HT5.out : Blk _ _ _ _).far N3.out _), (HE5.out.far (by simp) _), (HL5.out.set 1 (.int .i64 (Nw + bits .and .i64 x 1023 / 4))), (HW5.out.setCell (.inr N5.out) _)⟩
            case measure => simp [intOf]; omega
          · have g2 : decide (0 < bits .and .i64 x 2) = false := decide_eq_false t2
            have HT3 : Hid (Tm w3 b a0 ml a1 cl) := hc3.out.blk HT.out (by simp)
            have HE3 := Lib.hid (hc3.out.blk HE.out (by simp))
            have HL3 := Lib.hid (hc3.out.blk HL.out (by simp))
            have HW3 := Lib.hid (HW.out.trans hc3.out)
            have u0 := (hc3.out.get hcx)
            go_wp2_with fail
            refine (Marked_any _ _ _ _ _ _ _ HT3.out).mono ?_
            rintro e w4 ⟨rfl, t4, hc4⟩
            have HT4 := Lib.hid t4
            have HE4 := Lib.hid (hc4.blk HE3.out N1.out)
            have HL4 := Lib.hid (hc4.blk HL3.out N2.out)
            have HW4 := Lib.hid (HW3.out.trans' hc4 N4.out)
            have u1 : w4.cell? ⟨rb, off + k, none⟩ = some (.int .i64 x) := (hc4.cell (p := ⟨rb, off + k, none⟩) (Nat.lt_of_lt_of_le hrb HW3.out.size) (by simp; omega)).trans u0
            have v0 := HL4.out.cell 0
            have v1 := HL4.out.frozen 0
            simp at v0
            clear t4 hc4 u0
            go_wp2_with fail
            go_roundw
            case rel => exact ⟨k + 1, (Nw + bits .and .i64 x 1023 / 4), (Nw + bits .and .i64 x 1023 / 4), cl, by omega, by omega, by go_num, rfl, by omega, by omega, by omega, by omega, by omega, ((HT4.out : Blk _ _ _ _).far N3.out _), (HE4.out.far (by simp) _), (HL4.out.set 0 (.int .i64 (Nw + bits .and .i64 x 1023 / 4))), (HW4.out.setCell (.inr N5.out) _)⟩
            case measure => simp [intOf]; omega
        · have g1 : decide (0 < bits .and .i64 x 1) = false := decide_eq_false t1
          by_cases t2 : 0 < bits .and .i64 x 2
          · have g2 : decide (0 < bits .and .i64 x 2) = true := decide_eq_true t2
            have HT3 : Hid (Tm w3 b a0 ml a1 cl) := hc3.out.blk HT.out (by simp)
            have HE3 := Lib.hid (hc3.out.blk HE.out (by simp))
            have HL3 := Lib.hid (hc3.out.blk HL.out (by simp))
            have HW3 := Lib.hid (HW.out.trans hc3.out)
            have u0 := (hc3.out.get hcx)
            go_wp2_with fail
            have T5 := Lib.hid (show Tm w3 b a0 ml a1 cl from HT3.out)
            refine (Compacted_any _ _ _ _ _ _ _ T5.out).mono ?_
            rintro e w5 ⟨rfl, t5, hc5⟩
            have HT5 := Lib.hid t5
            have HE5 := Lib.hid (hc5.blk HE3.out N1.out)
            have HL5 : Hid (Blk w5 (w2.heap.size + 1) #[.int .i64 ml, .int .i64 cl] 46) := hc5.blk HL3.out N2.out
            have HW5 := Lib.hid (HW3.out.trans' hc5 N4.out)
            have v2 := HL5.out.cell 1
            have v3 := HL5.out.frozen 1
            simp at v2
            clear t5 hc5
            go_wp2_with fail
            go_roundw
            case rel => exact ⟨k + 1, (Nw + bits .and .i64 x 1023 / 4), ml, (Nw + bits .and .i64 x 1023 / 4), by omega, by omega, by go_num, rfl, by omega, by omega, by omega, by omega, by omega, ((HT5.out : Blk _ _ _ _).far N3.out _), (HE5.out.far (by simp) _), (HL5.out.set 1 (.int .i64 (Nw + bits .and .i64 x 1023 / 4))), (HW5.out.setCell (.inr N5.out) _)⟩
            case measure => simp [intOf]; omega
          · have g2 : decide (0 < bits .and .i64 x 2) = false := decide_eq_false t2
            have HT3 : Hid (Tm w3 b a0 ml a1 cl) := hc3.out.blk HT.out (by simp)
            have HE3 := Lib.hid (hc3.out.blk HE.out (by simp))
            have HL3 := Lib.hid (hc3.out.blk HL.out (by simp))
            have HW3 := Lib.hid (HW.out.trans hc3.out)
            have u0 := (hc3.out.get hcx)
            go_wp2_with fail
            go_roundw
            case rel => exact ⟨k + 1, (Nw + bits .and .i64 x 1023 / 4), ml, cl, by omega, by omega, by go_num, rfl, by omega, by omega, by omega, by omega, by omega, HT3.out, HE3.out, HL3.out, HW3.out⟩
            case measure => simp [intOf]; omega
      · obtain rfl : k = 100 := by omega
        have hlt2 : decide (100 < len2) = true := decide_eq_true hlt
        obtain ⟨s0, s1, s2, s3, hbb⟩ := HT.out.cells
        have q0 := HE.out.cell 0
        have q1 := HE.out.cell 1
        have p0 := HL.out.cell 0
        have p1 := HL.out.cell 1
        simp at q0 q1 p0 p1
        have hle := HE.out.lt
        have hll := HL.out.lt
        obtain ⟨B1, hB1⟩ : ∃ B, B = dueB a0 ml Nw := ⟨_, rfl⟩
        obtain ⟨B2, hB2⟩ : ∃ B, B = dueB a1 cl Nw := ⟨_, rfl⟩
        obtain ⟨Z, hZ⟩ : ∃ Z, Z = nextT (nextI a0 ml Nw) (nextI a1 cl Nw) := ⟨_, rfl⟩
        have M := Lib.hid (show ∀ W', Ch [] wr W' → Calls Try.prog 24 #[.pointer (some ⟨b, 0, none⟩), .int .i64 Nw] W' fun e w' => e = .returned (.bool B1) ∧ Ch [] W' w' from fun W' h => by
          rw [hB1]
          exact mark_any _ _ _ _ _ (h.get s0) (h.get s1) (by omega) (by omega))
        have C := Lib.hid (show ∀ W', Ch [] wr W' → Calls Try.prog 28 #[.pointer (some ⟨b, 0, none⟩), .int .i64 Nw] W' fun e w' => e = .returned (.bool B2) ∧ Ch [] W' w' from fun W' h => by
          rw [hB2]
          exact comp_any _ _ _ _ _ (h.get s2) (h.get s3) (by omega) (by omega))
        have D1 := Lib.hid (show ∀ W', Ch [] wr W' → Calls Try.prog 27 #[.int .i64 a0, .int .i64 ml, .int .i64 Nw] W' fun e w' => e = .returned (.bool B1) ∧ Ch [] W' w' from fun W' h => by
          rw [hB1]
          exact (RefDue_any _ _ _ _ (by omega) (by omega)).mono fun e w' ⟨he, hw⟩ => ⟨he, hw ▸ Ch.refl _ _⟩)
        have D2 := Lib.hid (show ∀ W', Ch [] wr W' → Calls Try.prog 27 #[.int .i64 a1, .int .i64 cl, .int .i64 Nw] W' fun e w' => e = .returned (.bool B2) ∧ Ch [] W' w' from fun W' h => by
          rw [hB2]
          exact (RefDue_any _ _ _ _ (by omega) (by omega)).mono fun e w' ⟨he, hw⟩ => ⟨he, hw ▸ Ch.refl _ _⟩)
        have X := Lib.hid (show ∀ W', Ch [] wr W' → Calls Try.prog 25 #[.pointer (some ⟨b, 0, none⟩), .int .i64 Nw] W' fun e w' => e = .returned (.int .i64 Z) ∧ Ch [] W' w' from fun W' h => by
          rw [hZ]
          exact Next_any _ _ _ _ _ _ _ (h.get s0) (h.get s1) (h.get s2) (h.get s3) (by omega) (by omega) (by omega) (by omega) (by omega) (by omega) (by omega) (by omega) (by omega) (by omega) (by omega) (by omega))
        have Y := Lib.hid (show ∀ W', Ch [] wr W' → Calls Try.prog 29 #[.agg #[.int .i64 a0, .int .i64 a1], .agg #[.int .i64 ml, .int .i64 cl], .int .i64 Nw] W' fun e w' => e = .returned (.int .i64 Z) ∧ Ch [] W' w' from fun W' h => by
          rw [hZ]
          exact RefNext_any _ _ _ _ _ _ (by omega) (by omega) (by omega) (by omega) (by omega) (by omega) (by omega) (by omega))
        clear hB1 hB2 hZ s0 s1 s2 s3
        have V := Lib.hid (show ∀ W', Ch [] wr W' → Calls Try.prog 22 #[] W' fun e w' => e = .returned (.bool true) ∧ Ch [] W' w' from fun W' h => works_any _)
        have R := @From.cell wr
        go_wp2_with fail
        refine wp_region_from (by kernel_rfl) (by kernel_rfl) ?_
        repeat (go_big_quiet_step (first | (go_at_call 24; with_reducible exact class_of (M.out _ (From.property _))) | (go_at_call 27; with_reducible exact class_of (D1.out _ (From.property _))) | (go_at_call 27; with_reducible exact class_of (D2.out _ (From.property _))) | (go_at_call 28; with_reducible exact class_of (C.out _ (From.property _))) | (go_at_call 25; with_reducible exact class_of (X.out _ (From.property _))) | (go_at_call 29; with_reducible exact class_of (Y.out _ (From.property _))) | (go_at_call 22; with_reducible exact class_of (V.out _ (From.property _)))))
        refine wpQuiet_nil ?_
        rintro w3 ⟨y, hy⟩
        have hc3 := Lib.hid (show Ch [] wr w3 from hy ▸ y.property)
        clear hy y R
        go_wp2_with fail
        go_ret
        exact ⟨rfl, (HW.out.trans hc3.out).below0⟩
    · have hlt2 : decide (k < len2) = false := decide_eq_false hlt
      obtain ⟨s0, s1, s2, s3, hbb⟩ := HT.out.cells
      have q0 := HE.out.cell 0
      have q1 := HE.out.cell 1
      have p0 := HL.out.cell 0
      have p1 := HL.out.cell 1
      simp at q0 q1 p0 p1
      have hle := HE.out.lt
      have hll := HL.out.lt
      obtain ⟨B1, hB1⟩ : ∃ B, B = dueB a0 ml Nw := ⟨_, rfl⟩
      obtain ⟨B2, hB2⟩ : ∃ B, B = dueB a1 cl Nw := ⟨_, rfl⟩
      obtain ⟨Z, hZ⟩ : ∃ Z, Z = nextT (nextI a0 ml Nw) (nextI a1 cl Nw) := ⟨_, rfl⟩
      have M := Lib.hid (show ∀ W', Ch [] wr W' → Calls Try.prog 24 #[.pointer (some ⟨b, 0, none⟩), .int .i64 Nw] W' fun e w' => e = .returned (.bool B1) ∧ Ch [] W' w' from fun W' h => by
        rw [hB1]
        exact mark_any _ _ _ _ _ (h.get s0) (h.get s1) (by omega) (by omega))
      have C := Lib.hid (show ∀ W', Ch [] wr W' → Calls Try.prog 28 #[.pointer (some ⟨b, 0, none⟩), .int .i64 Nw] W' fun e w' => e = .returned (.bool B2) ∧ Ch [] W' w' from fun W' h => by
        rw [hB2]
        exact comp_any _ _ _ _ _ (h.get s2) (h.get s3) (by omega) (by omega))
      have D1 := Lib.hid (show ∀ W', Ch [] wr W' → Calls Try.prog 27 #[.int .i64 a0, .int .i64 ml, .int .i64 Nw] W' fun e w' => e = .returned (.bool B1) ∧ Ch [] W' w' from fun W' h => by
        rw [hB1]
        exact (RefDue_any _ _ _ _ (by omega) (by omega)).mono fun e w' ⟨he, hw⟩ => ⟨he, hw ▸ Ch.refl _ _⟩)
      have D2 := Lib.hid (show ∀ W', Ch [] wr W' → Calls Try.prog 27 #[.int .i64 a1, .int .i64 cl, .int .i64 Nw] W' fun e w' => e = .returned (.bool B2) ∧ Ch [] W' w' from fun W' h => by
        rw [hB2]
        exact (RefDue_any _ _ _ _ (by omega) (by omega)).mono fun e w' ⟨he, hw⟩ => ⟨he, hw ▸ Ch.refl _ _⟩)
      have X := Lib.hid (show ∀ W', Ch [] wr W' → Calls Try.prog 25 #[.pointer (some ⟨b, 0, none⟩), .int .i64 Nw] W' fun e w' => e = .returned (.int .i64 Z) ∧ Ch [] W' w' from fun W' h => by
        rw [hZ]
        exact Next_any _ _ _ _ _ _ _ (h.get s0) (h.get s1) (h.get s2) (h.get s3) (by omega) (by omega) (by omega) (by omega) (by omega) (by omega) (by omega) (by omega) (by omega) (by omega) (by omega) (by omega))
      have Y := Lib.hid (show ∀ W', Ch [] wr W' → Calls Try.prog 29 #[.agg #[.int .i64 a0, .int .i64 a1], .agg #[.int .i64 ml, .int .i64 cl], .int .i64 Nw] W' fun e w' => e = .returned (.int .i64 Z) ∧ Ch [] W' w' from fun W' h => by
        rw [hZ]
        exact RefNext_any _ _ _ _ _ _ (by omega) (by omega) (by omega) (by omega) (by omega) (by omega) (by omega) (by omega))
      clear hB1 hB2 hZ s0 s1 s2 s3
      have V := Lib.hid (show ∀ W', Ch [] wr W' → Calls Try.prog 22 #[] W' fun e w' => e = .returned (.bool true) ∧ Ch [] W' w' from fun W' h => works_any _)
      have R := @From.cell wr
      go_wp2_with fail
      refine wp_region_from (by kernel_rfl) (by kernel_rfl) ?_
      repeat (go_big_quiet_step (first | (go_at_call 24; with_reducible exact class_of (M.out _ (From.property _))) | (go_at_call 27; with_reducible exact class_of (D1.out _ (From.property _))) | (go_at_call 27; with_reducible exact class_of (D2.out _ (From.property _))) | (go_at_call 28; with_reducible exact class_of (C.out _ (From.property _))) | (go_at_call 25; with_reducible exact class_of (X.out _ (From.property _))) | (go_at_call 29; with_reducible exact class_of (Y.out _ (From.property _))) | (go_at_call 22; with_reducible exact class_of (V.out _ (From.property _)))))
      refine wpQuiet_nil ?_
      rintro w3 ⟨y, hy⟩
      have hc3 := Lib.hid (show Ch [] wr w3 from hy ▸ y.property)
      clear hy y R
      go_wp2_with fail
      go_ret
      exact ⟨rfl, (HW.out.trans hc3.out).below0⟩
theorem walkNil (a0 a1 : Int) (a2 : Option Addr) (cap2 : Nat) (w : World) (c : 0 ≤ a0 ∧ a0 ≤ 1000 ∧ 0 ≤ a1 ∧ a1 ≤ 1000) :
    Calls Try.prog 9 #[.int .i64 a0, .int .i64 a1, .slice a2 0 cap2] w fun e w' => e = .returned (.bool true) ∧ Below w.heap.size w w' := by
  obtain ⟨c1, c2, c3, c4⟩ := c
  have d1 : decide (a0 < 0) = false := by simp; omega
  have d2 : decide (1000 < a0) = false := by simp; omega
  have d3 : decide (a1 < 0) = false := by simp; omega
  have d4 : decide (1000 < a1) = false := by simp; omega
  go_enter Try.func9, Try.ntmps9
  go_wp2_with fail
  refine (new_any _ _ _ (by simp; omega) (by simp; omega)).mono ?_
  rintro e w2 ⟨b, rfl, hb, hge, hc⟩
  have HC := Lib.hid hc
  have HB := Lib.hid hb
  have hlb := hb.lt
  have hsz := hc.size
  clear hc hb
  go_wp2_with fail
  have n1 : w2.heap.size ∉ [b] := by simp; omega
  have n2 : w2.heap.size + 1 ∉ [b] := by simp; omega
  have n3 : b ≠ w2.heap.size + 1 := by omega
  have n4 : ∀ z : Nat, z ∈ [b] → z ∈ ([] : List Nat) ∨ w.heap.size ≤ z := fun z hz => .inr (by
    have hz' : z = b := by simpa using hz
    omega)
  have n5 : w.heap.size ≤ w2.heap.size + 1 := by omega
  have N1 := Lib.hid n1
  have N2 := Lib.hid n2
  have N3 := Lib.hid n3
  have N4 := Lib.hid n4
  have N5 := Lib.hid n5
  clear n1 n2 n3 n4 n5
  have HA := Lib.hid (blk_new w2 #[.int .i64 a0, .int .i64 a1] 46)
  go_loopw [11, 12] (fun nw i wr => ∃ (k : Nat) (Nw ml cl : Int), k ≤ 100 ∧ k ≤ 0 ∧ i = .int .i64 k ∧ nw = .int .i64 Nw ∧ 0 ≤ ml ∧ ml ≤ Nw ∧ 0 ≤ cl ∧ cl ≤ Nw ∧ Nw ≤ 255 * k ∧ Hid (Tm wr b a0 ml a1 cl) ∧ Hid (Blk wr w2.heap.size #[.int .i64 a0, .int .i64 a1] 46) ∧ Hid (Blk wr (w2.heap.size + 1) #[.int .i64 ml, .int .i64 cl] 46) ∧ Hid (Ch [] w wr)) (fun _ i _ => (100 - intOf i).toNat)
  case atStart => exact ⟨0, 0, 0, 0, by omega, by omega, by simp, rfl, by omega, by omega, by omega, by omega, by omega, (HB.out.alloc _).alloc _, HA.out.alloc _, by have := blk_new (w2.alloc (.cells #[.int .i64 a0, .int .i64 a1] 46)) #[.int .i64 0, .int .i64 0] 46; simp at this; exact this, (HC.out.alloc _).alloc _⟩
  case round =>
    obtain ⟨k, Nw, ml, cl, hk1, hk2, rfl, rfl, b1, b2, b3, b4, b5, HT, HE, HL, HW⟩ := hrel
    obtain rfl : k = 0 := by omega
    obtain ⟨s0, s1, s2, s3, hbb⟩ := HT.out.cells
    have q0 := HE.out.cell 0
    have q1 := HE.out.cell 1
    have p0 := HL.out.cell 0
    have p1 := HL.out.cell 1
    simp at q0 q1 p0 p1
    have hle := HE.out.lt
    have hll := HL.out.lt
    obtain ⟨B1, hB1⟩ : ∃ B, B = dueB a0 ml Nw := ⟨_, rfl⟩
    obtain ⟨B2, hB2⟩ : ∃ B, B = dueB a1 cl Nw := ⟨_, rfl⟩
    obtain ⟨Z, hZ⟩ : ∃ Z, Z = nextT (nextI a0 ml Nw) (nextI a1 cl Nw) := ⟨_, rfl⟩
    have M := Lib.hid (show ∀ W', Ch [] wr W' → Calls Try.prog 24 #[.pointer (some ⟨b, 0, none⟩), .int .i64 Nw] W' fun e w' => e = .returned (.bool B1) ∧ Ch [] W' w' from fun W' h => by
      rw [hB1]
      exact mark_any _ _ _ _ _ (h.get s0) (h.get s1) (by omega) (by omega))
    have C := Lib.hid (show ∀ W', Ch [] wr W' → Calls Try.prog 28 #[.pointer (some ⟨b, 0, none⟩), .int .i64 Nw] W' fun e w' => e = .returned (.bool B2) ∧ Ch [] W' w' from fun W' h => by
      rw [hB2]
      exact comp_any _ _ _ _ _ (h.get s2) (h.get s3) (by omega) (by omega))
    have D1 := Lib.hid (show ∀ W', Ch [] wr W' → Calls Try.prog 27 #[.int .i64 a0, .int .i64 ml, .int .i64 Nw] W' fun e w' => e = .returned (.bool B1) ∧ Ch [] W' w' from fun W' h => by
      rw [hB1]
      exact (RefDue_any _ _ _ _ (by omega) (by omega)).mono fun e w' ⟨he, hw⟩ => ⟨he, hw ▸ Ch.refl _ _⟩)
    have D2 := Lib.hid (show ∀ W', Ch [] wr W' → Calls Try.prog 27 #[.int .i64 a1, .int .i64 cl, .int .i64 Nw] W' fun e w' => e = .returned (.bool B2) ∧ Ch [] W' w' from fun W' h => by
      rw [hB2]
      exact (RefDue_any _ _ _ _ (by omega) (by omega)).mono fun e w' ⟨he, hw⟩ => ⟨he, hw ▸ Ch.refl _ _⟩)
    have X := Lib.hid (show ∀ W', Ch [] wr W' → Calls Try.prog 25 #[.pointer (some ⟨b, 0, none⟩), .int .i64 Nw] W' fun e w' => e = .returned (.int .i64 Z) ∧ Ch [] W' w' from fun W' h => by
      rw [hZ]
      exact Next_any _ _ _ _ _ _ _ (h.get s0) (h.get s1) (h.get s2) (h.get s3) (by omega) (by omega) (by omega) (by omega) (by omega) (by omega) (by omega) (by omega) (by omega) (by omega) (by omega) (by omega))
    have Y := Lib.hid (show ∀ W', Ch [] wr W' → Calls Try.prog 29 #[.agg #[.int .i64 a0, .int .i64 a1], .agg #[.int .i64 ml, .int .i64 cl], .int .i64 Nw] W' fun e w' => e = .returned (.int .i64 Z) ∧ Ch [] W' w' from fun W' h => by
      rw [hZ]
      exact RefNext_any _ _ _ _ _ _ (by omega) (by omega) (by omega) (by omega) (by omega) (by omega) (by omega) (by omega))
    clear hB1 hB2 hZ s0 s1 s2 s3
    have V := Lib.hid (show ∀ W', Ch [] wr W' → Calls Try.prog 22 #[] W' fun e w' => e = .returned (.bool true) ∧ Ch [] W' w' from fun W' h => works_any _)
    have R := @From.cell wr
    go_wp2_with fail
    refine wp_region_from (by kernel_rfl) (by kernel_rfl) ?_
    repeat (go_big_quiet_step (first | (go_at_call 24; with_reducible exact class_of (M.out _ (From.property _))) | (go_at_call 27; with_reducible exact class_of (D1.out _ (From.property _))) | (go_at_call 27; with_reducible exact class_of (D2.out _ (From.property _))) | (go_at_call 28; with_reducible exact class_of (C.out _ (From.property _))) | (go_at_call 25; with_reducible exact class_of (X.out _ (From.property _))) | (go_at_call 29; with_reducible exact class_of (Y.out _ (From.property _))) | (go_at_call 22; with_reducible exact class_of (V.out _ (From.property _)))))
    refine wpQuiet_nil ?_
    rintro w3 ⟨y, hy⟩
    have hc3 := Lib.hid (show Ch [] wr w3 from hy ▸ y.property)
    clear hy y R
    go_wp2_with fail
    go_ret
    exact ⟨rfl, (HW.out.trans hc3.out).below0⟩
theorem walkBad (a0 a1 : Int) (a2 : Option Addr) (len2 cap2 : Nat) (w : World) (c : ¬ (0 ≤ a0 ∧ a0 ≤ 1000 ∧ 0 ≤ a1 ∧ a1 ≤ 1000)) :
    Calls Try.prog 9 #[.int .i64 a0, .int .i64 a1, .slice a2 len2 cap2] w fun e w' => e = .returned (.bool true) ∧ Below w.heap.size w w' := by
  by_cases e1 : a0 < 0
  · have d1 : decide (a0 < 0) = true := decide_eq_true e1
    go_enter Try.func9, Try.ntmps9
    go_wp2_with fail
    refine (new_bad _ _ _ (by simp; omega)).mono ?_
    rintro e w1 ⟨rfl, hc⟩
    have HC := Lib.hid hc
    clear hc
    go_wp2_with fail
    refine (works_any _).mono ?_
    rintro e w2 ⟨rfl, hc⟩
    have HC2 := Lib.hid (HC.out.trans hc)
    clear hc
    go_wp2_with fail
    go_ret
    exact ⟨rfl, HC2.out.below0⟩
  · have d1 : decide (a0 < 0) = false := decide_eq_false e1
    by_cases e2 : 1000 < a0
    · have d2 : decide (1000 < a0) = true := decide_eq_true e2
      go_enter Try.func9, Try.ntmps9
      go_wp2_with fail
      refine (new_bad _ _ _ (by simp; omega)).mono ?_
      rintro e w1 ⟨rfl, hc⟩
      have HC := Lib.hid hc
      clear hc
      go_wp2_with fail
      refine (works_any _).mono ?_
      rintro e w2 ⟨rfl, hc⟩
      have HC2 := Lib.hid (HC.out.trans hc)
      clear hc
      go_wp2_with fail
      go_ret
      exact ⟨rfl, HC2.out.below0⟩
    · have d2 : decide (1000 < a0) = false := decide_eq_false e2
      by_cases e3 : a1 < 0
      · have d3 : decide (a1 < 0) = true := decide_eq_true e3
        go_enter Try.func9, Try.ntmps9
        go_wp2_with fail
        refine (new_bad _ _ _ (by simp; omega)).mono ?_
        rintro e w1 ⟨rfl, hc⟩
        have HC := Lib.hid hc
        clear hc
        go_wp2_with fail
        refine (works_any _).mono ?_
        rintro e w2 ⟨rfl, hc⟩
        have HC2 := Lib.hid (HC.out.trans hc)
        clear hc
        go_wp2_with fail
        go_ret
        exact ⟨rfl, HC2.out.below0⟩
      · have d3 : decide (a1 < 0) = false := decide_eq_false e3
        have d4 : decide (1000 < a1) = true := decide_eq_true (by omega)
        go_enter Try.func9, Try.ntmps9
        go_wp2_with fail
        refine (new_bad _ _ _ (by simp; omega)).mono ?_
        rintro e w1 ⟨rfl, hc⟩
        have HC := Lib.hid hc
        clear hc
        go_wp2_with fail
        refine (works_any _).mono ?_
        rintro e w2 ⟨rfl, hc⟩
        have HC2 := Lib.hid (HC.out.trans hc)
        clear hc
        go_wp2_with fail
        go_ret
        exact ⟨rfl, HC2.out.below0⟩
theorem walk (a0 : Int) (a1 : Int) (a2 : Option Addr) (len2 cap2 : Nat) (z2 : List Int) (w : World) (w0 : (Lit.int .i64 a0).wf = true) (w1 : (Lit.int .i64 a1).wf = true) (w2 : IsRow .i64 w a2 len2 cap2 z2) :
    Calls Try.prog 9 #[.int .i64 a0, .int .i64 a1, .slice a2 len2 cap2] w fun e w' => e = .returned (.bool true) ∧ Below w.heap.size w w' := by
  by_cases c : 0 ≤ a0 ∧ a0 ≤ 1000 ∧ 0 ≤ a1 ∧ a1 ≤ 1000
  · rcases w2.at_ with rfl | ⟨rb, off, rfl, hrb, hrow⟩
    · exact walkNil a0 a1 a2 cap2 w c
    · exact walkRow a0 a1 rb off len2 cap2 z2 w hrb hrow c
  · exact walkBad a0 a1 a2 len2 cap2 w c
end Go.Proofs.Ytpbcgfhhkfjbeaa.timerPlaysWalk
