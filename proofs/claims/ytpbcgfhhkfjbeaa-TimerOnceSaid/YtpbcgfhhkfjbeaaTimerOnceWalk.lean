/- The walk of the law TimerOnce: what is done each time when it is due is done once in as many ticks as its span has; Next tells when. -/
import Derived.Test.YtpbcgfhhkfjbeaaTimer
namespace Go.Proofs.Ytpbcgfhhkfjbeaa.timerOnceWalk
open Go.RowKit Go.Proofs.Ytpbcgfhhkfjbeaa.K Go.Proofs.Ytpbcgfhhkfjbeaa.T
set_option linter.unusedVariables false
set_option linter.unusedSimpArgs false
/-- How many marks there were ahead of tick k. -/
def q (s k : Int) : Int := if k = 0 then 0 else (k - 1) / s
theorem set_last (b : Nat) (me ml ce cl n : Int) (w : World) (hb : Tm w b me ml ce cl) :
    Calls Try.prog 26 #[.pointer (some ⟨b, 0, none⟩), .int .i64 n] w fun e w' => e = .returned (.tuple #[]) ∧ Tm w' b me n ce cl ∧ Ch [b] w w' := by
  have c1 := hb.cell 1
  have f1 := hb.frozen 1
  have H := Lib.hid hb
  simp at c1
  clear hb
  go_enter Try.func26, Try.ntmps26
  go_wp2
  go_end0
  exact ⟨rfl, H.out.set 1 (.int .i64 n), (Ch.refl _ _).setCell (.inl (by simp)) _⟩
theorem q_step (s k : Int) (h : 1 ≤ s) (h0 : 0 ≤ k) : q s (k + 1) = k / s := by unfold q; rw [if_neg (by omega)]; congr 1; omega
/-- Ahead of tick k > 0: the last mark, and whether one is due. -/
theorem parts (s k : Int) (hs : 1 ≤ s) (h0 : 0 < k) : ∃ a r, q s k = a ∧ 0 ≤ a ∧ k = a * s + (r + 1) ∧ 0 ≤ r ∧ r < s ∧ ((r + 1 < s ∧ k % s = r + 1 ∧ q s (k + 1) = a) ∨ (r + 1 = s ∧ k % s = 0 ∧ q s (k + 1) = a + 1)) := by
  have e1 : q s k = (k - 1) / s := by unfold q; rw [if_neg (by omega)]
  have e2 : q s (k + 1) = k / s := q_step s k hs (by omega)
  have e3 := Int.emod_add_mul_ediv (k - 1) s
  have e4 := Int.emod_nonneg (k - 1) (by omega : s ≠ 0)
  have e5 := Int.emod_lt_of_pos (k - 1) (by omega : 0 < s)
  have e6 : 0 ≤ (k - 1) / s := Int.ediv_nonneg (by omega) (by omega)
  rw [e1, e2]
  generalize (k - 1) / s = a at *
  generalize (k - 1) % s = r at *
  refine ⟨a, r, rfl, e6, by rw [Int.mul_comm]; omega, e4, e5, ?_⟩
  by_cases h : r + 1 < s
  · have := (Int.ediv_emod_unique (a := k) (b := s) (r := r + 1) (q := a) (by omega)).2 ⟨by omega, by omega, h⟩
    exact .inl ⟨h, this.2, this.1⟩
  · have := (Int.ediv_emod_unique (a := k) (b := s) (r := 0) (q := a + 1) (by omega)).2 ⟨by rw [Int.mul_add]; omega, by omega, by omega⟩
    exact .inr ⟨by omega, this.2, this.1⟩
theorem nextT_no (s l n : Int) (h : 1 ≤ s) (h2 : n - l < s) (h3 : 0 ≤ l) : nextT (nextI s l n) (nextI 0 0 n) = l + s := by
  have e1 : nextI s l n = l + s := by unfold nextI dueB; rw [if_neg (by simp; omega)]
  have e2 : nextI 0 0 n = 0 := by simp [nextI]
  rw [e1, e2]
  unfold nextT
  rw [if_neg (by omega), if_pos rfl]
theorem keepT {w W w1 : World} {b : Nat} {x0 x1 x2 x3 : Value} (h : W.cell? ⟨b, 0, none⟩ = some x0 ∧ W.cell? ⟨b, 1, none⟩ = some x1 ∧ W.cell? ⟨b, 2, none⟩ = some x2 ∧ W.cell? ⟨b, 3, none⟩ = some x3 ∧ Ch [] w W ∧ b < W.heap.size) (hc : Ch [] W w1) :
    w1.cell? ⟨b, 0, none⟩ = some x0 ∧ w1.cell? ⟨b, 1, none⟩ = some x1 ∧ w1.cell? ⟨b, 2, none⟩ = some x2 ∧ w1.cell? ⟨b, 3, none⟩ = some x3 ∧ Ch [] w w1 ∧ b < w1.heap.size := keepTm h hc
theorem walk (a0 a1 : Int) (w : World) (w0 : (Lit.int .i64 a0).wf = true) (w1 : (Lit.int .i64 a1).wf = true) :
    Calls Try.prog 8 #[.int .i64 a0, .int .i64 a1] w fun e w' => e = .returned (.bool true) ∧ Below w.heap.size w w' := by
  obtain ⟨b01, b02⟩ := bounds_i64 w0
  obtain ⟨b11, b12⟩ := bounds_i64 w1
  clear w0 w1
  by_cases c : 1 ≤ a0 ∧ a0 ≤ 50 ∧ 0 ≤ a1 ∧ a1 ≤ 300
  · obtain ⟨c1, c2, c3, c4⟩ := c
    have hz : ¬ a0 = 0 := by omega
    have d1 : decide (a0 < 1) = false := by simp; omega
    have d2 : decide (50 < a0) = false := by simp; omega
    have d3 : decide (a1 < 0) = false := by simp; omega
    have d4 : decide (300 < a1) = false := by simp; omega
    go_enter Try.func8, Try.ntmps8
    go_wp2_with fail
    refine (works_any _).mono ?_
    rintro e w1 ⟨rfl, hc⟩
    have HC := Lib.hid hc
    clear hc
    go_wp2_with fail
    refine (new_any _ _ _ (by simp; omega) (by simp)).mono ?_
    rintro e w2 ⟨b, rfl, hb, hge, hc⟩
    have HC2 := Lib.hid (HC.out.trans hc)
    have hgw : w.heap.size ≤ b := Nat.le_trans HC.out.size hge
    have HB := Lib.hid hb
    clear hc HC hge hb
    go_wp2_with fail
    go_loopw [7, 8] (fun n i wr => ∃ k : Nat, (k : Int) ≤ a1 + 1 ∧ i = .int .i64 k ∧ n = .int .i64 (q a0 k) ∧ Hid (Tm wr b a0 (q a0 k * a0) 0 0) ∧ Hid (Ch [] w wr)) (fun _ i _ => (a1 + 1 - intOf i).toNat)
    case atStart => exact ⟨0, by omega, by simp, by simp [q], by simpa [q] using HB, HC2⟩
    case round =>
      obtain ⟨k, hk, rfl, rfl, HT, HW⟩ := hrel
      by_cases hlt : (k : Int) ≤ a1
      · by_cases hk0 : k = 0
        · subst hk0
          go_wp2_with fail
          have t0 : Tm wr b a0 0 0 0 := by simpa [q] using HT.out
          obtain ⟨s0, s1, s2, s3, hlb⟩ := t0.cells
          have T0 := Lib.hid t0
          clear t0
          have M : ∀ W', Ch [] wr W' → Calls Try.prog 24 #[.pointer (some ⟨b, 0, none⟩), .int .i64 0] W' fun e w' => e = .returned (.bool false) ∧ Ch [] W' w' := fun W' h => by
            rw [show false = dueB a0 (0) 0 from by simp [dueB]]
            exact mark_any _ _ _ _ _ (h.get s0) (h.get s1) (by omega) (by omega)
          have HM := Lib.hid M
          clear M
          have N : ∀ W', Ch [] wr W' → Calls Try.prog 25 #[.pointer (some ⟨b, 0, none⟩), .int .i64 0] W' fun e w' => e = .returned (.int .i64 (a0)) ∧ Ch [] W' w' := fun W' h => by
            rw [show a0 = nextT (nextI a0 (0) 0) (nextI 0 0 0) from ((nextT_no a0 (0) 0 c1 (by omega) (by omega)).trans (by omega)).symm]
            exact Next_any _ _ _ _ _ _ _ (h.get s0) (h.get s1) (h.get s2) (h.get s3) (by omega) (by omega) (by omega) (by omega) (by omega) (by omega) (by omega) (by omega) (by omega) (by omega) (by omega) (by omega)
          have HN := Lib.hid N
          clear N
          clear s0 s1 s2 s3
          refine wp_region_from (by kernel_rfl) (by kernel_rfl) ?_
          repeat (go_big_quiet_step (first | (go_at_call 24; exact class_of (HM.out _ (From.property _))) | (go_at_call 25; exact class_of (HN.out _ (From.property _)))))
          refine wpQuiet_nil ?_
          rintro w2 ⟨y, hy⟩
          have hc2 : Ch [] wr w2 := hy ▸ y.property
          clear hy y
          have T2 : Hid (Tm w2 b a0 (0) 0 0) := hc2.blk T0.out (by simp)
          go_wp2_with fail
          refine (HM.out w2 hc2).mono ?_
          rintro e w3 ⟨rfl, hc3⟩
          have T3 : Hid (Tm w3 b a0 (0) 0 0) := hc3.blk T2.out (by simp)
          have C3 := Lib.hid (hc2.trans hc3)
          clear hc2 hc3 T2
          go_wp2_with fail
          go_roundw
          case rel => exact ⟨1, by omega, by simp, by simp [q], by rw [show q a0 ((1 : Nat) : Int) = 0 by simp [q], Int.zero_mul]; exact T3, HW.out.trans C3.out⟩
          case measure => simp [intOf]; omega
        · obtain ⟨a, r, e1, e2, e3, e4, e5, e6⟩ := parts a0 k c1 (by omega)
          have hkp : 0 < (k : Int) := by omega
          have hkn : 0 < k := by omega
          have dkn : decide (0 < k) = true := decide_eq_true hkn
          have dkp : decide (0 < (k : Int)) = true := decide_eq_true hkp
          rw [e1] at HT ⊢
          obtain ⟨L, hL⟩ : ∃ L, L = a * a0 := ⟨_, rfl⟩
          have hL0 : 0 ≤ L := by rw [hL]; exact Int.mul_nonneg e2 (by omega)
          have hLk : (k : Int) - L = r + 1 := by rw [hL]; omega
          have HL := Lib.hid hL
          have t0 : Tm wr b a0 L 0 0 := by rw [hL]; exact HT.out
          clear hL e3
          rcases e6 with ⟨e7, e8, e9⟩ | ⟨e7, e8, e9⟩
          · have m1 : 1 ≤ (k : Int) % a0 := by omega
            have m2 : (k : Int) % a0 < a0 := by omega
            have m3 : L + (k : Int) % a0 ≤ (k : Int) := by omega
            have m4 : (k : Int) ≤ L + (k : Int) % a0 := by omega
            have m5 : ((k : Int) % a0 == 0) = false := beq_eq_false_iff_ne.2 (by omega)
            have E9 := Lib.hid e9
            clear e8 e9 e1 e7 hLk
            go_wp2_with fail
            obtain ⟨s0, s1, s2, s3, hlb⟩ := t0.cells
            have T0 := Lib.hid t0
            clear t0
            have M : ∀ W', Ch [] wr W' → Calls Try.prog 24 #[.pointer (some ⟨b, 0, none⟩), .int .i64 ↑k] W' fun e w' => e = .returned (.bool false) ∧ Ch [] W' w' := fun W' h => by
              rw [show false = dueB a0 (L) ↑k from by simp [dueB]; omega]
              exact mark_any _ _ _ _ _ (h.get s0) (h.get s1) (by omega) (by omega)
            have HM := Lib.hid M
            clear M
            have N : ∀ W', Ch [] wr W' → Calls Try.prog 25 #[.pointer (some ⟨b, 0, none⟩), .int .i64 ↑k] W' fun e w' => e = .returned (.int .i64 ((k : Int) + a0 - (k : Int) % a0)) ∧ Ch [] W' w' := fun W' h => by
              rw [show (k : Int) + a0 - (k : Int) % a0 = nextT (nextI a0 (L) ↑k) (nextI 0 0 ↑k) from ((nextT_no a0 (L) ↑k c1 (by omega) (by omega)).trans (by omega)).symm]
              exact Next_any _ _ _ _ _ _ _ (h.get s0) (h.get s1) (h.get s2) (h.get s3) (by omega) (by omega) (by omega) (by omega) (by omega) (by omega) (by omega) (by omega) (by omega) (by omega) (by omega) (by omega)
            have HN := Lib.hid N
            clear N
            clear s0 s1 s2 s3
            refine wp_region_from (by kernel_rfl) (by kernel_rfl) ?_
            repeat (go_big_quiet_step (first | (go_at_call 24; exact class_of (HM.out _ (From.property _))) | (go_at_call 25; exact class_of (HN.out _ (From.property _)))))
            refine wpQuiet_nil ?_
            rintro w2 ⟨y, hy⟩
            have hc2 : Ch [] wr w2 := hy ▸ y.property
            clear hy y
            have T2 : Hid (Tm w2 b a0 (L) 0 0) := hc2.blk T0.out (by simp)
            go_wp2_with fail
            refine (HM.out w2 hc2).mono ?_
            rintro e w3 ⟨rfl, hc3⟩
            have T3 : Hid (Tm w3 b a0 (L) 0 0) := hc3.blk T2.out (by simp)
            have C3 := Lib.hid (hc2.trans hc3)
            clear hc2 hc3 T2
            go_wp2_with fail
            go_roundw
            case rel => exact ⟨k + 1, by omega, by go_num, by rw [show q a0 ((k + 1 : Nat) : Int) = a from by simpa using E9.out], by rw [show q a0 ((k + 1 : Nat) : Int) = a from by simpa using E9.out, ← HL.out]; exact T3, HW.out.trans C3.out⟩
            case measure => simp [intOf]; omega
          · have E9 := Lib.hid e9
            have m1 : (k : Int) - L = a0 := by omega
            have HLK := Lib.hid m1
            have m2 : a0 ≤ (k : Int) - L := by omega
            have m3 : (k : Int) - L ≤ a0 := by omega
            have m5 : ((k : Int) % a0 == 0) = true := beq_iff_eq.2 e8
            clear e8 e9 e1 e7 hLk m1
            have ha : a ≤ 301 := by
              have h1 : a ≤ a * a0 := by
                have := Int.mul_le_mul_of_nonneg_left c1 e2
                omega
              have := HL.out
              omega
            go_wp2_with fail
            obtain ⟨s0, s1, s2, s3, hlb⟩ := t0.cells
            have T0 := Lib.hid t0
            clear t0
            have M : ∀ W', Ch [] wr W' → Calls Try.prog 24 #[.pointer (some ⟨b, 0, none⟩), .int .i64 ↑k] W' fun e w' => e = .returned (.bool true) ∧ Ch [] W' w' := fun W' h => by
              rw [show true = dueB a0 (L) ↑k from by simp [dueB]; omega]
              exact mark_any _ _ _ _ _ (h.get s0) (h.get s1) (by omega) (by omega)
            have HM := Lib.hid M
            clear M
            clear s0 s1 s2 s3
            refine wp_region_from (by kernel_rfl) (by kernel_rfl) ?_
            repeat (go_big_quiet_step (first | (go_at_call 24; exact class_of (HM.out _ (From.property _)))))
            refine wpQuiet_nil ?_
            rintro w2 ⟨y, hy⟩
            have hc2 : Ch [] wr w2 := hy ▸ y.property
            clear hy y
            have T2 : Hid (Tm w2 b a0 (L) 0 0) := hc2.blk T0.out (by simp)
            go_wp2_with fail
            refine (HM.out w2 hc2).mono ?_
            rintro e w3 ⟨rfl, hc3⟩
            have T3 : Hid (Tm w3 b a0 (L) 0 0) := hc3.blk T2.out (by simp)
            have C3 := Lib.hid (hc2.trans hc3)
            clear hc2 hc3 T2
            go_wp2_with fail
            refine (set_last _ _ _ _ _ _ _ T3.out).mono ?_
            rintro e w4 ⟨rfl, t4, hc4⟩
            have T4 := Lib.hid t4
            have C4 := Lib.hid (HW.out.trans' (C3.out.of0.trans hc4) (fun x hx => .inr (by
              have hx' : x = b := by simpa using hx
              omega)))
            clear t4 hc4
            go_wp2_with fail
            go_roundw
            case rel => exact ⟨k + 1, by omega, by go_num, by rw [show q a0 ((k + 1 : Nat) : Int) = a + 1 from by simpa using E9.out], by
              rw [show q a0 ((k + 1 : Nat) : Int) = a + 1 from by simpa using E9.out, show (a + 1) * a0 = (k : Int) from by rw [Int.add_mul, ← HL.out]; have := HLK.out; omega]; exact T4, C4.out⟩
            case measure => simp [intOf]; omega
      · have hk1 : (k : Int) = a1 + 1 := by omega
        have hq : q a0 k = a1 / a0 := by rw [hk1]; exact q_step a0 a1 c1 c3
        have dq : (q a0 k == a1 / a0) = true := beq_iff_eq.2 hq
        clear hk1 hq
        go_wp2_with fail
        go_ret
        exact ⟨rfl, HW.out.below0⟩
  · by_cases e1 : a0 < 1
    · have d1 : decide (a0 < 1) = true := decide_eq_true e1
      go_enter Try.func8, Try.ntmps8
      go_wp2_with fail
      refine (works_any _).mono ?_
      rintro e w1 ⟨rfl, hc⟩
      have HC := Lib.hid hc
      clear hc
      go_wp2_with fail
      go_ret
      exact ⟨rfl, HC.out.below0⟩
    · have d1 : decide (a0 < 1) = false := decide_eq_false e1
      by_cases e2 : 50 < a0
      · have d2 : decide (50 < a0) = true := decide_eq_true e2
        go_enter Try.func8, Try.ntmps8
        go_wp2_with fail
        refine (works_any _).mono ?_
        rintro e w1 ⟨rfl, hc⟩
        have HC := Lib.hid hc
        clear hc
        go_wp2_with fail
        go_ret
        exact ⟨rfl, HC.out.below0⟩
      · have d2 : decide (50 < a0) = false := decide_eq_false e2
        by_cases e3 : a1 < 0
        · have d3 : decide (a1 < 0) = true := decide_eq_true e3
          go_enter Try.func8, Try.ntmps8
          go_wp2_with fail
          refine (works_any _).mono ?_
          rintro e w1 ⟨rfl, hc⟩
          have HC := Lib.hid hc
          clear hc
          go_wp2_with fail
          go_ret
          exact ⟨rfl, HC.out.below0⟩
        · have d3 : decide (a1 < 0) = false := decide_eq_false e3
          have d4 : decide (300 < a1) = true := decide_eq_true (by omega)
          go_enter Try.func8, Try.ntmps8
          go_wp2_with fail
          refine (works_any _).mono ?_
          rintro e w1 ⟨rfl, hc⟩
          have HC := Lib.hid hc
          clear hc
          go_wp2_with fail
          go_ret
          exact ⟨rfl, HC.out.below0⟩
end Go.Proofs.Ytpbcgfhhkfjbeaa.timerOnceWalk
