/- The contracts of package rev's counter: what New, Now, Left, Take and Next do. -/
import Derived.Test.YtpbcgfhhkfjbeaaRevText
namespace Go.Proofs.Ytpbcgfhhkfjbeaa.R
open Go.RowKit Go.Proofs.Ytpbcgfhhkfjbeaa.K
set_option linter.unusedVariables false
set_option linter.unusedSimpArgs false
/-- A counter at block b. -/
def Rv (w : World) (b : Nat) (now most : Int) : Prop := Blk w b #[.int .u64 now, .int .u64 most] 51
theorem New_any (m : Int) (w : World) :
    Calls Try.prog 10 #[.int .u64 m] w fun e w' => ∃ b, e = .returned (.pointer (some ⟨b, 0, none⟩)) ∧ Rv w' b 0 m ∧ w.heap.size ≤ b ∧ Ch [] w w' := by
  go_enter Try.func10, Try.ntmps10
  go_wp2
  go_ret
  exact ⟨_, rfl, blk_new _ _ _, Nat.le_refl _, (Ch.refl _ _).alloc _⟩
theorem Now_any (b : Nat) (now most : Int) (w : World) (hb : Rv w b now most) :
    Calls Try.prog 13 #[.pointer (some ⟨b, 0, none⟩)] w fun e w' => e = .returned (.int .u64 now) ∧ w = w' := by
  have c0 := hb.cell 0
  simp at c0
  clear hb
  go_enter Try.func13, Try.ntmps13
  go_wp2
  go_ret
  exact ⟨rfl, rfl⟩
theorem Left_any (b : Nat) (now most : Int) (w : World) (hb : Rv w b now most) (h0 : 0 ≤ now) (h1 : now ≤ most) (h2 : most ≤ 18446744073709551615) :
    Calls Try.prog 14 #[.pointer (some ⟨b, 0, none⟩)] w fun e w' => e = .returned (.int .u64 (most - now)) ∧ ∃ n, w' = w.drewN n := by
  have c0 := hb.cell 0
  have c1 := hb.cell 1
  simp at c0 c1
  clear hb
  go_enter Try.func14, Try.ntmps14
  go_wp2
  go_quiet (fail)
  go_wp2
  go_ret
  exact ⟨rfl, _, rfl⟩
/-- What is answered, and the counter behind it. -/
def takeF (now most n : Int) : Int × Int × Int := if n < 1 then (0, 1, now) else if n > most - now then (0, 100, now) else (now + 1, 0, now + n)
theorem Take_any (b : Nat) (now most n : Int) (w : World) (hb : Rv w b now most) (h0 : 0 ≤ now) (h1 : now ≤ most) (h2 : most ≤ 18446744073709551615) (h3 : n ≤ 9223372036854775807) (h4 : -9223372036854775808 ≤ n) :
    Calls Try.prog 12 #[.pointer (some ⟨b, 0, none⟩), .int .i64 n] w fun e w' => e = .returned (.tuple #[.int .u64 (takeF now most n).1, .int .i64 (takeF now most n).2.1]) ∧ Rv w' b (takeF now most n).2.2 most ∧ Ch [b] w w' := by
  by_cases c1 : n < 1
  · have hk : takeF now most n = (0, 1, now) := by unfold takeF; rw [if_pos c1]
    rw [hk]
    clear hk
    have HB := Lib.hid hb
    clear hb
    go_enter Try.func12, Try.ntmps12
    go_wp2_with fail
    go_ret2
    exact ⟨rfl, HB.out, Ch.refl _ _⟩
  · by_cases c2 : most - now < n
    · have hk : takeF now most n = (0, 100, now) := by unfold takeF; rw [if_neg c1, if_pos c2]
      rw [hk]
      clear hk
      have HB := Lib.hid hb
      clear hb
      go_enter Try.func12, Try.ntmps12
      go_wp2_with (go_at_call 14; refine (Left_any _ _ _ _ HB.out h0 h1 h2).mono ?_; rintro e w1 ⟨rfl, nq, rfl⟩)
      go_ret2
      exact ⟨rfl, HB.out.drewN _, (Ch.refl _ _).drewN _⟩
    · have hk : takeF now most n = (now + 1, 0, now + n) := by unfold takeF; rw [if_neg c1, if_neg c2]
      have c2' : n ≤ most - now := by omega
      rw [hk]
      clear hk
      have c0 := hb.cell 0
      have f0 := hb.frozen 0
      simp at c0
      have HB := Lib.hid hb
      clear hb
      go_enter Try.func12, Try.ntmps12
      go_wp2_with (go_at_call 14; refine (Left_any _ _ _ _ HB.out h0 h1 h2).mono ?_; rintro e w1 ⟨rfl, nq, rfl⟩)
      go_ret2
      exact ⟨rfl, (HB.out.drewN _).set 0 _, ((Ch.refl _ _).drewN _).setCell (.inl (by simp)) _⟩
theorem Next_any (b : Nat) (now most : Int) (w : World) (hb : Rv w b now most) (h0 : 0 ≤ now) (h1 : now ≤ most) (h2 : most ≤ 18446744073709551615) :
    Calls Try.prog 11 #[.pointer (some ⟨b, 0, none⟩)] w fun e w' => e = .returned (.tuple #[.int .u64 (takeF now most 1).1, .int .i64 (takeF now most 1).2.1]) ∧ Rv w' b (takeF now most 1).2.2 most ∧ Ch [b] w w' := by
  have HB := Lib.hid hb
  clear hb
  go_enter Try.func11, Try.ntmps11
  go_wp2_with (go_at_call 12; refine (Take_any _ _ _ _ _ HB.out h0 h1 h2 (by omega) (by omega)).mono ?_; rintro e w1 ⟨rfl, hr, hc⟩)
  go_ret2
  exact ⟨rfl, hr, hc⟩
theorem text120 : strOfNums (digs 120) = ⟨#[49, 50, 48]⟩ := by
  rw [digs_ge (by omega), digs_ge (by omega), digs_lt (by omega)]
  rfl
theorem works_any (w : World) : Calls Try.prog 15 #[] w fun e w' => e = .returned (.bool true) ∧ Ch [] w w' := by
  go_enter Try.func15, Try.ntmps15
  go_wp2_with fail
  refine (New_any _ _).mono ?_
  rintro e w1 ⟨b, rfl, hb, hge, hc⟩
  have B1 := Lib.hid hb
  have C1 := Lib.hid hc
  have hs := hc.size
  clear hb hc
  go_wp2_with fail
  refine (Next_any _ _ _ _ B1.out (by omega) (by omega) (by omega)).mono ?_
  rintro e w2 ⟨rfl, hb, hc⟩
  have B2 : Hid (Rv w2 b 1 2) := hb
  have C2 := Lib.hid (C1.out.trans' hc (fun x hx => .inr (by have hx' : x = b := by simpa using hx
                                                             omega)))
  clear hb hc
  rw [show takeF 0 2 1 = (1, 0, 1) from rfl]
  go_wp2_with fail
  refine (Next_any _ _ _ _ B2.out (by omega) (by omega) (by omega)).mono ?_
  rintro e w3 ⟨rfl, hb, hc⟩
  have B3 : Hid (Rv w3 b 2 2) := hb
  have C3 := Lib.hid (C2.out.trans' hc (fun x hx => .inr (by have hx' : x = b := by simpa using hx
                                                             omega)))
  clear hb hc
  rw [show takeF 1 2 1 = (2, 0, 2) from rfl]
  go_wp2_with fail
  refine (Next_any _ _ _ _ B3.out (by omega) (by omega) (by omega)).mono ?_
  rintro e w4 ⟨rfl, hb, hc⟩
  have C4 := Lib.hid (C3.out.trans' hc (fun x hx => .inr (by have hx' : x = b := by simpa using hx
                                                             omega)))
  clear hb hc
  rw [show takeF 2 2 1 = (0, 100, 2) from rfl]
  go_wp2_with fail
  refine (Text_any 120 _ (by omega)).mono ?_
  rintro e w5 ⟨rfl, hc⟩
  rw [text120]
  have C5 := Lib.hid (C4.out.trans hc)
  clear hc
  go_wp2_with fail
  go_ret
  exact ⟨rfl, C5.out⟩
end Go.Proofs.Ytpbcgfhhkfjbeaa.R
