/- The walks of the document's limit, and of the law PressLimits. -/
import Derived.Test.YtmoelehhofmhcaaPrL
namespace Go.Proofs.Ytmoelehhofmhcaa.V
open Go Go.RowKit Go.Proofs.Ytmoelehhofmhcaa.K Go.Proofs.YtmoelehhofmhcaaW.PrintLast
set_option linter.unusedVariables false
set_option linter.unusedSimpArgs false
set_option maxRecDepth 100000
set_option maxHeartbeats 1600000
section
variable {w : World}
theorem fits_ {a b p : Int} (HA : Hid (0 ≤ a ∧ a ≤ 1152921504606846976)) (HB : Hid (0 ≤ b ∧ b ≤ 1152921504606846976)) (HP : Hid (0 ≤ p ∧ p ≤ 100))  :
    Calls Try.prog 20 #[.int .i64 a, .int .i64 b, .int .i64 p] w fun en w' => en = .returned (.bool (fitsB a b p)) ∧ Ch [] w w' := by
  have C0 := Lib.hid (Ch.refl [] w)
  go_enter Try.func20, Try.ntmps20
  refine q_ (fun Q hQ hP => ?_)
  refine s_ (fun K1 hK1 => ?_)
  refine pu_ (v := .bool false) (y_assign rfl (by rfl) (by rfl)) ?_
  (try simp only [zP, zN, zA, zB, zC])
  refine nl_ (hK1 _ _ ?_); clear hK1 K1
  refine s_ (fun K2 hK2 => ?_)
  refine pu_ (v := .int .i64 1073741824) (y_assign rfl (by rfl) (by rfl)) ?_
  (try simp only [zP, zN, zA, zB, zC])
  refine nl_ (hK2 _ _ ?_); clear hK2 K2
  skip
  · obtain ⟨q, r, hq, hr, ha, hr0, hr1, hq0⟩ := split30 a HA.out.1
    obtain ⟨s0, t, hs, ht, hb, ht0, ht1, hs0⟩ := split30 b HB.out.1
    have HQ := Lib.hid hq; have HR := Lib.hid hr; have HS := Lib.hid hs; have HT := Lib.hid ht; have EA := Lib.hid ha; have EB := Lib.hid hb
    have BA := Lib.hid (show 0 ≤ q ∧ q ≤ 2147483648 ∧ 0 ≤ r ∧ r < 1073741824 by have := HA.out; omega)
    have BB := Lib.hid (show 0 ≤ s0 ∧ s0 ≤ 1073741824 ∧ 0 ≤ t ∧ t < 1073741824 by have := HB.out; omega)
    clear hq hr hs ht ha hb hr0 hr1 hq0 ht0 ht1 hs0
    obtain ⟨x, hx⟩ : ∃ z, z = q * 100 := ⟨_, rfl⟩
    have Ex := Lib.hid hx
    have Bx := Lib.hid (show 0 ≤ x ∧ x ≤ 214748364800 by have := BA.out; omega)
    clear hx
    obtain ⟨y, hy⟩ : ∃ z, z = r * 100 := ⟨_, rfl⟩
    have Ey := Lib.hid hy
    have By := Lib.hid (show 0 ≤ y ∧ y ≤ 107374182400 by have := BA.out; omega)
    clear hy
    obtain ⟨u, hu⟩ : ∃ z, z = s0 * p := ⟨_, rfl⟩
    have Eu := Lib.hid hu
    have Bu := Lib.hid (show 0 ≤ u ∧ u ≤ 107374182400 by rw [hu]; exact ⟨Int.mul_nonneg (by have := BB.out; omega) HP.out.1, Int.le_trans (Int.mul_le_mul (c := 1073741824) (d := 100) (by have := BB.out; omega) HP.out.2 HP.out.1 (by omega)) (by omega)⟩)
    clear hu
    obtain ⟨v, hv⟩ : ∃ z, z = t * p := ⟨_, rfl⟩
    have Ev := Lib.hid hv
    have Bv := Lib.hid (show 0 ≤ v ∧ v ≤ 107374182400 by rw [hv]; exact ⟨Int.mul_nonneg (by have := BB.out; omega) HP.out.1, Int.le_trans (Int.mul_le_mul (c := 1073741824) (d := 100) (by have := BB.out; omega) HP.out.2 HP.out.1 (by omega)) (by omega)⟩)
    clear hv
    have W14 := Lib.hid (show a.tdiv 1073741824 = q by rw [← HQ.out]; exact Int.tdiv_eq_ediv_of_nonneg HA.out.1)
    have X14 := Lib.hid (show IntKind.i64.wrap (q) = q from wr64 (by have := BA.out; omega))
    have W18 := Lib.hid (show a.tmod 1073741824 = r by rw [← HR.out]; exact Int.tmod_eq_emod_of_nonneg HA.out.1)
    have X18 := Lib.hid (show IntKind.i64.wrap (r) = r from wr64 (by have := BA.out; omega))
    have W22 := Lib.hid (show b.tdiv 1073741824 = s0 by rw [← HS.out]; exact Int.tdiv_eq_ediv_of_nonneg HB.out.1)
    have X22 := Lib.hid (show IntKind.i64.wrap (s0) = s0 from wr64 (by have := BB.out; omega))
    have W27 := Lib.hid (show b.tmod 1073741824 = t by rw [← HT.out]; exact Int.tmod_eq_emod_of_nonneg HB.out.1)
    have X27 := Lib.hid (show IntKind.i64.wrap (t) = t from wr64 (by have := BB.out; omega))
    have W15 := Lib.hid (show IntKind.i64.wrap (q * 100) = x by rw [← Ex.out]; exact wr64 (by have := Bx.out; omega))
    have W19 := Lib.hid (show IntKind.i64.wrap (r * 100) = y by rw [← Ey.out]; exact wr64 (by have := By.out; omega))
    have W24 := Lib.hid (show IntKind.i64.wrap (s0 * p) = u by rw [← Eu.out]; exact wr64 (by have := Bu.out; omega))
    have W29 := Lib.hid (show IntKind.i64.wrap (t * p) = v by rw [← Ev.out]; exact wr64 (by have := Bv.out; omega))
    have W33 := Lib.hid (show y.tdiv 1073741824 = y / 1073741824 by exact Int.tdiv_eq_ediv_of_nonneg By.out.1)
    have X33 := Lib.hid (show IntKind.i64.wrap (y / 1073741824) = y / 1073741824 from wr64 (by have := By.out; omega))
    have W34 := Lib.hid (show IntKind.i64.wrap (x + y / 1073741824) = x + y / 1073741824 from wr64 (by have := Bx.out; have := By.out; omega))
    have W38 := Lib.hid (show v.tdiv 1073741824 = v / 1073741824 by exact Int.tdiv_eq_ediv_of_nonneg Bv.out.1)
    have X38 := Lib.hid (show IntKind.i64.wrap (v / 1073741824) = v / 1073741824 from wr64 (by have := Bv.out; omega))
    have W39 := Lib.hid (show IntKind.i64.wrap (u + v / 1073741824) = u + v / 1073741824 from wr64 (by have := Bu.out; have := Bv.out; omega))
    have W50 := Lib.hid (show y.tmod 1073741824 = y % 1073741824 by exact Int.tmod_eq_emod_of_nonneg By.out.1)
    have X50 := Lib.hid (show IntKind.i64.wrap (y % 1073741824) = y % 1073741824 from wr64 (by have := By.out; omega))
    have W53 := Lib.hid (show v.tmod 1073741824 = v % 1073741824 by exact Int.tmod_eq_emod_of_nonneg Bv.out.1)
    have X53 := Lib.hid (show IntKind.i64.wrap (v % 1073741824) = v % 1073741824 from wr64 (by have := Bv.out; omega))
    have FP := Lib.hid (fits_parts Ex.out Ey.out Eu.out Ev.out By.out.1 Bv.out.1)
    refine sq_ (fun K3 hK3 => ?_)
    refine startk_ (S := fun W => True) (ds := []) #[false, false, false, false, false, false, false, false, false, false] (by kernel_rfl) rfl rfl (fun W c => trivial) (fun w4 C5 hS6 => ?_)
    have C0' := Lib.hid (show Ch [] w w4 from C0.out.trans' C5 (fun x hx => absurd hx (by simp)))
    clear C0
    have C0 := C0'; clear C0'
    clear C5
    refine pure_ (i := 0) (N := some 12) (v := .int .i64 a) #[true, false, false, false, false, false, false, false, false, false] rfl rfl (by kernel_rfl) (fun c a w h => hP c a _ _ w h) (y_move rfl (by rfl) (by rfl)) rfl ?_
    (try simp only [zP, zN, zA, zB, zC])
    refine pure_ (i := 1) (N := some 13) (v := .int .i64 1073741824) #[true, true, false, false, false, false, false, false, false, false] rfl rfl (by kernel_rfl) (fun c a w h => hP c a _ _ w h) (y_move rfl (by rfl) (by rfl)) rfl ?_
    (try simp only [zP, zN, zA, zB, zC])
    refine pure_ (i := 2) (N := some 14) (v := .int .i64 q) #[true, true, true, false, false, false, false, false, false, false] rfl rfl (by kernel_rfl) (fun c a w h => hP c a _ _ w h) (y_run (by rfl) (fun W => by have d := W14.out; have d2 := X14.out; go_simp)) rfl ?_
    (try simp only [zP, zN, zA, zB, zC])
    refine pure_ (i := 3) (N := some 15) (v := .int .i64 x) #[true, true, true, true, false, false, false, false, false, false] rfl rfl (by kernel_rfl) (fun c a w h => hP c a _ _ w h) (y_run (by rfl) (fun W => by have d := W15.out; go_simp)) rfl ?_
    (try simp only [zP, zN, zA, zB, zC])
    refine pure_ (i := 4) (N := some 16) (v := .int .i64 a) #[true, true, true, true, true, false, false, false, false, false] rfl rfl (by kernel_rfl) (fun c a w h => hP c a _ _ w h) (y_move rfl (by rfl) (by rfl)) rfl ?_
    (try simp only [zP, zN, zA, zB, zC])
    refine pure_ (i := 5) (N := some 17) (v := .int .i64 1073741824) #[true, true, true, true, true, true, false, false, false, false] rfl rfl (by kernel_rfl) (fun c a w h => hP c a _ _ w h) (y_move rfl (by rfl) (by rfl)) rfl ?_
    (try simp only [zP, zN, zA, zB, zC])
    refine pure_ (i := 6) (N := some 18) (v := .int .i64 r) #[true, true, true, true, true, true, true, false, false, false] rfl rfl (by kernel_rfl) (fun c a w h => hP c a _ _ w h) (y_run (by rfl) (fun W => by have d := W18.out; have d2 := X18.out; go_simp)) rfl ?_
    (try simp only [zP, zN, zA, zB, zC])
    refine pure_ (i := 7) (N := some 19) (v := .int .i64 y) #[true, true, true, true, true, true, true, true, false, false] rfl rfl (by kernel_rfl) (fun c a w h => hP c a _ _ w h) (y_run (by rfl) (fun W => by have d := W19.out; go_simp)) rfl ?_
    (try simp only [zP, zN, zA, zB, zC])
    refine pure_ (i := 8) (N := some 8) (v := .int .i64 x) #[true, true, true, true, true, true, true, true, true, false] rfl rfl (by kernel_rfl) (fun c a w h => hP c a _ _ w h) (y_assign rfl (by rfl) (by rfl)) rfl ?_
    (try simp only [zP, zN, zA, zB, zC])
    refine pure_ (i := 9) (N := some 9) (v := .int .i64 y) #[true, true, true, true, true, true, true, true, true, true] rfl rfl (by kernel_rfl) (fun c a w h => hP c a _ _ w h) (y_assign rfl (by rfl) (by rfl)) rfl ?_
    (try simp only [zP, zN, zA, zB, zC])
    refine done_ (by kernel_rfl) (th_norm (hK3 _ _ ?_)); clear hK3 K3
    refine sq_ (fun K7 hK7 => ?_)
    refine startk_ (S := fun W => True) (ds := []) #[false, false, false, false, false, false, false, false, false, false, false, false] (by kernel_rfl) rfl rfl (fun W c => trivial) (fun w8 C9 hS10 => ?_)
    have C0' := Lib.hid (show Ch [] w w8 from C0.out.trans' C9 (fun x hx => absurd hx (by simp)))
    clear C0
    have C0 := C0'; clear C0'
    clear C9
    refine pure_ (i := 0) (N := some 20) (v := .int .i64 b) #[true, false, false, false, false, false, false, false, false, false, false, false] rfl rfl (by kernel_rfl) (fun c a w h => hP c a _ _ w h) (y_move rfl (by rfl) (by rfl)) rfl ?_
    (try simp only [zP, zN, zA, zB, zC])
    refine pure_ (i := 1) (N := some 21) (v := .int .i64 1073741824) #[true, true, false, false, false, false, false, false, false, false, false, false] rfl rfl (by kernel_rfl) (fun c a w h => hP c a _ _ w h) (y_move rfl (by rfl) (by rfl)) rfl ?_
    (try simp only [zP, zN, zA, zB, zC])
    refine pure_ (i := 2) (N := some 22) (v := .int .i64 s0) #[true, true, true, false, false, false, false, false, false, false, false, false] rfl rfl (by kernel_rfl) (fun c a w h => hP c a _ _ w h) (y_run (by rfl) (fun W => by have d := W22.out; have d2 := X22.out; go_simp)) rfl ?_
    (try simp only [zP, zN, zA, zB, zC])
    refine pure_ (i := 3) (N := some 23) (v := .int .i64 p) #[true, true, true, true, false, false, false, false, false, false, false, false] rfl rfl (by kernel_rfl) (fun c a w h => hP c a _ _ w h) (y_move rfl (by rfl) (by rfl)) rfl ?_
    (try simp only [zP, zN, zA, zB, zC])
    refine pure_ (i := 4) (N := some 24) (v := .int .i64 u) #[true, true, true, true, true, false, false, false, false, false, false, false] rfl rfl (by kernel_rfl) (fun c a w h => hP c a _ _ w h) (y_run (by rfl) (fun W => by have d := W24.out; go_simp)) rfl ?_
    (try simp only [zP, zN, zA, zB, zC])
    refine pure_ (i := 5) (N := some 25) (v := .int .i64 b) #[true, true, true, true, true, true, false, false, false, false, false, false] rfl rfl (by kernel_rfl) (fun c a w h => hP c a _ _ w h) (y_move rfl (by rfl) (by rfl)) rfl ?_
    (try simp only [zP, zN, zA, zB, zC])
    refine pure_ (i := 6) (N := some 26) (v := .int .i64 1073741824) #[true, true, true, true, true, true, true, false, false, false, false, false] rfl rfl (by kernel_rfl) (fun c a w h => hP c a _ _ w h) (y_move rfl (by rfl) (by rfl)) rfl ?_
    (try simp only [zP, zN, zA, zB, zC])
    refine pure_ (i := 7) (N := some 27) (v := .int .i64 t) #[true, true, true, true, true, true, true, true, false, false, false, false] rfl rfl (by kernel_rfl) (fun c a w h => hP c a _ _ w h) (y_run (by rfl) (fun W => by have d := W27.out; have d2 := X27.out; go_simp)) rfl ?_
    (try simp only [zP, zN, zA, zB, zC])
    refine pure_ (i := 8) (N := some 28) (v := .int .i64 p) #[true, true, true, true, true, true, true, true, true, false, false, false] rfl rfl (by kernel_rfl) (fun c a w h => hP c a _ _ w h) (y_move rfl (by rfl) (by rfl)) rfl ?_
    (try simp only [zP, zN, zA, zB, zC])
    refine pure_ (i := 9) (N := some 29) (v := .int .i64 v) #[true, true, true, true, true, true, true, true, true, true, false, false] rfl rfl (by kernel_rfl) (fun c a w h => hP c a _ _ w h) (y_run (by rfl) (fun W => by have d := W29.out; go_simp)) rfl ?_
    (try simp only [zP, zN, zA, zB, zC])
    refine pure_ (i := 10) (N := some 10) (v := .int .i64 u) #[true, true, true, true, true, true, true, true, true, true, true, false] rfl rfl (by kernel_rfl) (fun c a w h => hP c a _ _ w h) (y_assign rfl (by rfl) (by rfl)) rfl ?_
    (try simp only [zP, zN, zA, zB, zC])
    refine pure_ (i := 11) (N := some 11) (v := .int .i64 v) #[true, true, true, true, true, true, true, true, true, true, true, true] rfl rfl (by kernel_rfl) (fun c a w h => hP c a _ _ w h) (y_assign rfl (by rfl) (by rfl)) rfl ?_
    (try simp only [zP, zN, zA, zB, zC])
    refine done_ (by kernel_rfl) (th_norm (hK7 _ _ ?_)); clear hK7 K7
    refine s_ (fun K11 hK11 => ?_)
    refine pu_ (v := .int .i64 x) (y_move rfl (by rfl) (by rfl)) ?_
    (try simp only [zP, zN, zA, zB, zC])
    refine pu_ (v := .int .i64 y) (y_move rfl (by rfl) (by rfl)) ?_
    (try simp only [zP, zN, zA, zB, zC])
    refine pu_ (v := .int .i64 1073741824) (y_move rfl (by rfl) (by rfl)) ?_
    (try simp only [zP, zN, zA, zB, zC])
    refine pu_ (v := .int .i64 (y / 1073741824)) (y_run (by rfl) (fun W => by have d := W33.out; have d2 := X33.out; go_simp)) ?_
    (try simp only [zP, zN, zA, zB, zC])
    refine pu_ (v := .int .i64 (x + y / 1073741824)) (y_run (by rfl) (fun W => by have d := W34.out; go_simp)) ?_
    (try simp only [zP, zN, zA, zB, zC])
    refine pu_ (v := .int .i64 (x + y / 1073741824)) (y_assign rfl (by rfl) (by rfl)) ?_
    (try simp only [zP, zN, zA, zB, zC])
    refine nl_ (hK11 _ _ ?_); clear hK11 K11
    refine s_ (fun K12 hK12 => ?_)
    refine pu_ (v := .int .i64 u) (y_move rfl (by rfl) (by rfl)) ?_
    (try simp only [zP, zN, zA, zB, zC])
    refine pu_ (v := .int .i64 v) (y_move rfl (by rfl) (by rfl)) ?_
    (try simp only [zP, zN, zA, zB, zC])
    refine pu_ (v := .int .i64 1073741824) (y_move rfl (by rfl) (by rfl)) ?_
    (try simp only [zP, zN, zA, zB, zC])
    refine pu_ (v := .int .i64 (v / 1073741824)) (y_run (by rfl) (fun W => by have d := W38.out; have d2 := X38.out; go_simp)) ?_
    (try simp only [zP, zN, zA, zB, zC])
    refine pu_ (v := .int .i64 (u + v / 1073741824)) (y_run (by rfl) (fun W => by have d := W39.out; go_simp)) ?_
    (try simp only [zP, zN, zA, zB, zC])
    refine pu_ (v := .int .i64 (u + v / 1073741824)) (y_assign rfl (by rfl) (by rfl)) ?_
    (try simp only [zP, zN, zA, zB, zC])
    refine nl_ (hK12 _ _ ?_); clear hK12 K12
    rcases (show (x + y / 1073741824 < u + v / 1073741824) ∨ (x + y / 1073741824 = u + v / 1073741824 ∧ y % 1073741824 ≤ v % 1073741824) ∨ (x + y / 1073741824 = u + v / 1073741824 ∧ v % 1073741824 < y % 1073741824) ∨ (u + v / 1073741824 < x + y / 1073741824) by omega) with h | h | h | h
    · have HH := Lib.hid h
      clear h
      have D42 := Lib.hid (show decide (x + y / 1073741824 < u + v / 1073741824) = true from decide_eq_true (by have := HH.out; omega))
      have HRR := Lib.hid (show fitsB a b p = true by unfold fitsB; exact decide_eq_true (by rw [EA.out, EB.out]; exact FP.out.1 (by have := HH.out; omega)))
      refine sq_ (fun K13 hK13 => ?_)
      refine startk_ (S := fun W => True) (ds := []) #[false, false, false, false, false, false, false, false, false, false, false, false, false, false, false, false, false, false] (by kernel_rfl) rfl rfl (fun W c => trivial) (fun w14 C15 hS16 => ?_)
      have C0' := Lib.hid (show Ch [] w w14 from C0.out.trans' C15 (fun x hx => absurd hx (by simp)))
      clear C0
      have C0 := C0'; clear C0'
      clear C15
      refine pure_ (i := 0) (N := some 40) (v := .int .i64 (x + y / 1073741824)) #[true, false, false, false, false, false, false, false, false, false, false, false, false, false, false, false, false, false] rfl rfl (by kernel_rfl) (fun c a w h => hP c a _ _ w h) (y_move rfl (by rfl) (by rfl)) rfl ?_
      (try simp only [zP, zN, zA, zB, zC])
      refine pure_ (i := 1) (N := some 41) (v := .int .i64 (u + v / 1073741824)) #[true, true, false, false, false, false, false, false, false, false, false, false, false, false, false, false, false, false] rfl rfl (by kernel_rfl) (fun c a w h => hP c a _ _ w h) (y_move rfl (by rfl) (by rfl)) rfl ?_
      (try simp only [zP, zN, zA, zB, zC])
      refine pure_ (i := 2) (N := some 42) (v := .bool true) #[true, true, true, false, false, false, false, false, false, false, false, false, false, false, false, false, false, false] rfl rfl (by kernel_rfl) (fun c a w h => hP c a _ _ w h) (y_run (by rfl) (fun W => by have d := D42.out; go_simp)) rfl ?_
      (try simp only [zP, zN, zA, zB, zC])
      refine pure_ (i := 3) (N := some 43) (v := .bool true) #[true, true, true, true, false, false, false, false, false, false, false, false, false, false, false, false, false, false] rfl rfl (by kernel_rfl) (fun c a w h => hP c a _ _ w h) (y_move rfl (by rfl) (by rfl)) rfl ?_
      (try simp only [zP, zN, zA, zB, zC])
      refine pure_ (i := 4) (N := some 44) (v := undef) #[true, true, true, true, true, false, false, false, false, false, false, false, false, false, false, false, false, false] rfl rfl (by kernel_rfl) (fun c a w h => hP c a _ _ w h) (y_off (by rfl)) rfl ?_
      (try simp only [zP, zN, zA, zB, zC])
      refine pure_ (i := 5) (N := some 45) (v := undef) #[true, true, true, true, true, true, false, false, false, false, false, false, false, false, false, false, false, false] rfl rfl (by kernel_rfl) (fun c a w h => hP c a _ _ w h) (y_off (by rfl)) rfl ?_
      (try simp only [zP, zN, zA, zB, zC])
      refine pure_ (i := 6) (N := some 46) (v := undef) #[true, true, true, true, true, true, true, false, false, false, false, false, false, false, false, false, false, false] rfl rfl (by kernel_rfl) (fun c a w h => hP c a _ _ w h) (y_off (by rfl)) rfl ?_
      (try simp only [zP, zN, zA, zB, zC])
      refine pure_ (i := 7) (N := some 47) (v := undef) #[true, true, true, true, true, true, true, true, false, false, false, false, false, false, false, false, false, false] rfl rfl (by kernel_rfl) (fun c a w h => hP c a _ _ w h) (y_off (by rfl)) rfl ?_
      (try simp only [zP, zN, zA, zB, zC])
      refine pure_ (i := 8) (N := some 48) (v := undef) #[true, true, true, true, true, true, true, true, true, false, false, false, false, false, false, false, false, false] rfl rfl (by kernel_rfl) (fun c a w h => hP c a _ _ w h) (y_off (by rfl)) rfl ?_
      (try simp only [zP, zN, zA, zB, zC])
      refine pure_ (i := 9) (N := some 49) (v := undef) #[true, true, true, true, true, true, true, true, true, true, false, false, false, false, false, false, false, false] rfl rfl (by kernel_rfl) (fun c a w h => hP c a _ _ w h) (y_off (by rfl)) rfl ?_
      (try simp only [zP, zN, zA, zB, zC])
      refine pure_ (i := 10) (N := some 50) (v := undef) #[true, true, true, true, true, true, true, true, true, true, true, false, false, false, false, false, false, false] rfl rfl (by kernel_rfl) (fun c a w h => hP c a _ _ w h) (y_off (by rfl)) rfl ?_
      (try simp only [zP, zN, zA, zB, zC])
      refine pure_ (i := 11) (N := some 51) (v := undef) #[true, true, true, true, true, true, true, true, true, true, true, true, false, false, false, false, false, false] rfl rfl (by kernel_rfl) (fun c a w h => hP c a _ _ w h) (y_off (by rfl)) rfl ?_
      (try simp only [zP, zN, zA, zB, zC])
      refine pure_ (i := 12) (N := some 52) (v := undef) #[true, true, true, true, true, true, true, true, true, true, true, true, true, false, false, false, false, false] rfl rfl (by kernel_rfl) (fun c a w h => hP c a _ _ w h) (y_off (by rfl)) rfl ?_
      (try simp only [zP, zN, zA, zB, zC])
      refine pure_ (i := 13) (N := some 53) (v := undef) #[true, true, true, true, true, true, true, true, true, true, true, true, true, true, false, false, false, false] rfl rfl (by kernel_rfl) (fun c a w h => hP c a _ _ w h) (y_off (by rfl)) rfl ?_
      (try simp only [zP, zN, zA, zB, zC])
      refine pure_ (i := 14) (N := some 54) (v := undef) #[true, true, true, true, true, true, true, true, true, true, true, true, true, true, true, false, false, false] rfl rfl (by kernel_rfl) (fun c a w h => hP c a _ _ w h) (y_off (by rfl)) rfl ?_
      (try simp only [zP, zN, zA, zB, zC])
      refine pure_ (i := 15) (N := some 55) (v := undef) #[true, true, true, true, true, true, true, true, true, true, true, true, true, true, true, true, false, false] rfl rfl (by kernel_rfl) (fun c a w h => hP c a _ _ w h) (y_off (by rfl)) rfl ?_
      (try simp only [zP, zN, zA, zB, zC])
      refine pure_ (i := 16) (N := some 56) (v := .bool true) #[true, true, true, true, true, true, true, true, true, true, true, true, true, true, true, true, true, false] rfl rfl (by kernel_rfl) (fun c a w h => hP c a _ _ w h) (y_pick (t := true) (by rfl) rfl (by rfl) (by rfl)) rfl ?_
      (try simp only [zP, zN, zA, zB, zC])
      refine pure_ (i := 17) (N := some 6) (v := .bool true) #[true, true, true, true, true, true, true, true, true, true, true, true, true, true, true, true, true, true] rfl rfl (by kernel_rfl) (fun c a w h => hP c a _ _ w h) (y_assign rfl (by rfl) (by rfl)) rfl ?_
      (try simp only [zP, zN, zA, zB, zC])
      refine done_ (by kernel_rfl) (th_norm (hK13 _ _ ?_)); clear hK13 K13
      refine wp_ret ?_
      refine hQ _ _ _ ?_
      refine bodyPost_ret (res1 rfl (rdv_tmp (v := .bool true) (by rfl))) rfl ?_
      exact ⟨by rw [HRR.out], C0.out⟩
    · have HH := Lib.hid h
      clear h
      have D42 := Lib.hid (show decide (x + y / 1073741824 < u + v / 1073741824) = false from decide_eq_false (by have := HH.out; omega))
      have D46 := Lib.hid (show (x + y / 1073741824 == u + v / 1073741824) = true from beq_iff_eq.2 (by have := HH.out; omega))
      have D54 := Lib.hid (show decide (y % 1073741824 ≤ v % 1073741824) = true from decide_eq_true (by have := HH.out; omega))
      have HRR := Lib.hid (show fitsB a b p = true by unfold fitsB; exact decide_eq_true (by rw [EA.out, EB.out]; exact FP.out.1 (by have := HH.out; omega)))
      refine sq_ (fun K17 hK17 => ?_)
      refine startk_ (S := fun W => True) (ds := []) #[false, false, false, false, false, false, false, false, false, false, false, false, false, false, false, false, false, false] (by kernel_rfl) rfl rfl (fun W c => trivial) (fun w18 C19 hS20 => ?_)
      have C0' := Lib.hid (show Ch [] w w18 from C0.out.trans' C19 (fun x hx => absurd hx (by simp)))
      clear C0
      have C0 := C0'; clear C0'
      clear C19
      refine pure_ (i := 0) (N := some 40) (v := .int .i64 (x + y / 1073741824)) #[true, false, false, false, false, false, false, false, false, false, false, false, false, false, false, false, false, false] rfl rfl (by kernel_rfl) (fun c a w h => hP c a _ _ w h) (y_move rfl (by rfl) (by rfl)) rfl ?_
      (try simp only [zP, zN, zA, zB, zC])
      refine pure_ (i := 1) (N := some 41) (v := .int .i64 (u + v / 1073741824)) #[true, true, false, false, false, false, false, false, false, false, false, false, false, false, false, false, false, false] rfl rfl (by kernel_rfl) (fun c a w h => hP c a _ _ w h) (y_move rfl (by rfl) (by rfl)) rfl ?_
      (try simp only [zP, zN, zA, zB, zC])
      refine pure_ (i := 2) (N := some 42) (v := .bool false) #[true, true, true, false, false, false, false, false, false, false, false, false, false, false, false, false, false, false] rfl rfl (by kernel_rfl) (fun c a w h => hP c a _ _ w h) (y_run (by rfl) (fun W => by have d := D42.out; go_simp)) rfl ?_
      (try simp only [zP, zN, zA, zB, zC])
      refine pure_ (i := 3) (N := some 43) (v := .bool false) #[true, true, true, true, false, false, false, false, false, false, false, false, false, false, false, false, false, false] rfl rfl (by kernel_rfl) (fun c a w h => hP c a _ _ w h) (y_move rfl (by rfl) (by rfl)) rfl ?_
      (try simp only [zP, zN, zA, zB, zC])
      refine pure_ (i := 4) (N := some 44) (v := .int .i64 (x + y / 1073741824)) #[true, true, true, true, true, false, false, false, false, false, false, false, false, false, false, false, false, false] rfl rfl (by kernel_rfl) (fun c a w h => hP c a _ _ w h) (y_move rfl (by rfl) (by rfl)) rfl ?_
      (try simp only [zP, zN, zA, zB, zC])
      refine pure_ (i := 5) (N := some 45) (v := .int .i64 (u + v / 1073741824)) #[true, true, true, true, true, true, false, false, false, false, false, false, false, false, false, false, false, false] rfl rfl (by kernel_rfl) (fun c a w h => hP c a _ _ w h) (y_move rfl (by rfl) (by rfl)) rfl ?_
      (try simp only [zP, zN, zA, zB, zC])
      refine pure_ (i := 6) (N := some 46) (v := .bool true) #[true, true, true, true, true, true, true, false, false, false, false, false, false, false, false, false, false, false] rfl rfl (by kernel_rfl) (fun c a w h => hP c a _ _ w h) (y_run (by rfl) (fun W => by have d := D46.out; go_simp)) rfl ?_
      (try simp only [zP, zN, zA, zB, zC])
      refine pure_ (i := 7) (N := some 47) (v := .bool true) #[true, true, true, true, true, true, true, true, false, false, false, false, false, false, false, false, false, false] rfl rfl (by kernel_rfl) (fun c a w h => hP c a _ _ w h) (y_move rfl (by rfl) (by rfl)) rfl ?_
      (try simp only [zP, zN, zA, zB, zC])
      refine pure_ (i := 8) (N := some 48) (v := .int .i64 y) #[true, true, true, true, true, true, true, true, true, false, false, false, false, false, false, false, false, false] rfl rfl (by kernel_rfl) (fun c a w h => hP c a _ _ w h) (y_move rfl (by rfl) (by rfl)) rfl ?_
      (try simp only [zP, zN, zA, zB, zC])
      refine pure_ (i := 9) (N := some 49) (v := .int .i64 1073741824) #[true, true, true, true, true, true, true, true, true, true, false, false, false, false, false, false, false, false] rfl rfl (by kernel_rfl) (fun c a w h => hP c a _ _ w h) (y_move rfl (by rfl) (by rfl)) rfl ?_
      (try simp only [zP, zN, zA, zB, zC])
      refine pure_ (i := 10) (N := some 50) (v := .int .i64 (y % 1073741824)) #[true, true, true, true, true, true, true, true, true, true, true, false, false, false, false, false, false, false] rfl rfl (by kernel_rfl) (fun c a w h => hP c a _ _ w h) (y_run (by rfl) (fun W => by have d := W50.out; have d2 := X50.out; go_simp)) rfl ?_
      (try simp only [zP, zN, zA, zB, zC])
      refine pure_ (i := 11) (N := some 51) (v := .int .i64 v) #[true, true, true, true, true, true, true, true, true, true, true, true, false, false, false, false, false, false] rfl rfl (by kernel_rfl) (fun c a w h => hP c a _ _ w h) (y_move rfl (by rfl) (by rfl)) rfl ?_
      (try simp only [zP, zN, zA, zB, zC])
      refine pure_ (i := 12) (N := some 52) (v := .int .i64 1073741824) #[true, true, true, true, true, true, true, true, true, true, true, true, true, false, false, false, false, false] rfl rfl (by kernel_rfl) (fun c a w h => hP c a _ _ w h) (y_move rfl (by rfl) (by rfl)) rfl ?_
      (try simp only [zP, zN, zA, zB, zC])
      refine pure_ (i := 13) (N := some 53) (v := .int .i64 (v % 1073741824)) #[true, true, true, true, true, true, true, true, true, true, true, true, true, true, false, false, false, false] rfl rfl (by kernel_rfl) (fun c a w h => hP c a _ _ w h) (y_run (by rfl) (fun W => by have d := W53.out; have d2 := X53.out; go_simp)) rfl ?_
      (try simp only [zP, zN, zA, zB, zC])
      refine pure_ (i := 14) (N := some 54) (v := .bool true) #[true, true, true, true, true, true, true, true, true, true, true, true, true, true, true, false, false, false] rfl rfl (by kernel_rfl) (fun c a w h => hP c a _ _ w h) (y_run (by rfl) (fun W => by have d := D54.out; go_simp)) rfl ?_
      (try simp only [zP, zN, zA, zB, zC])
      refine pure_ (i := 15) (N := some 55) (v := .bool true) #[true, true, true, true, true, true, true, true, true, true, true, true, true, true, true, true, false, false] rfl rfl (by kernel_rfl) (fun c a w h => hP c a _ _ w h) (y_pick (t := true) (by rfl) rfl (by rfl) (by rfl)) rfl ?_
      (try simp only [zP, zN, zA, zB, zC])
      refine pure_ (i := 16) (N := some 56) (v := .bool true) #[true, true, true, true, true, true, true, true, true, true, true, true, true, true, true, true, true, false] rfl rfl (by kernel_rfl) (fun c a w h => hP c a _ _ w h) (y_pick (t := false) (by rfl) rfl (by rfl) (by rfl)) rfl ?_
      (try simp only [zP, zN, zA, zB, zC])
      refine pure_ (i := 17) (N := some 6) (v := .bool true) #[true, true, true, true, true, true, true, true, true, true, true, true, true, true, true, true, true, true] rfl rfl (by kernel_rfl) (fun c a w h => hP c a _ _ w h) (y_assign rfl (by rfl) (by rfl)) rfl ?_
      (try simp only [zP, zN, zA, zB, zC])
      refine done_ (by kernel_rfl) (th_norm (hK17 _ _ ?_)); clear hK17 K17
      refine wp_ret ?_
      refine hQ _ _ _ ?_
      refine bodyPost_ret (res1 rfl (rdv_tmp (v := .bool true) (by rfl))) rfl ?_
      exact ⟨by rw [HRR.out], C0.out⟩
    · have HH := Lib.hid h
      clear h
      have D42 := Lib.hid (show decide (x + y / 1073741824 < u + v / 1073741824) = false from decide_eq_false (by have := HH.out; omega))
      have D46 := Lib.hid (show (x + y / 1073741824 == u + v / 1073741824) = true from beq_iff_eq.2 (by have := HH.out; omega))
      have D54 := Lib.hid (show decide (y % 1073741824 ≤ v % 1073741824) = false from decide_eq_false (by have := HH.out; omega))
      have HRR := Lib.hid (show fitsB a b p = false by unfold fitsB; exact decide_eq_false (by rw [EA.out, EB.out]; exact fun h9 => by have := FP.out.2 h9; have := HH.out; omega))
      refine sq_ (fun K21 hK21 => ?_)
      refine startk_ (S := fun W => True) (ds := []) #[false, false, false, false, false, false, false, false, false, false, false, false, false, false, false, false, false, false] (by kernel_rfl) rfl rfl (fun W c => trivial) (fun w22 C23 hS24 => ?_)
      have C0' := Lib.hid (show Ch [] w w22 from C0.out.trans' C23 (fun x hx => absurd hx (by simp)))
      clear C0
      have C0 := C0'; clear C0'
      clear C23
      refine pure_ (i := 0) (N := some 40) (v := .int .i64 (x + y / 1073741824)) #[true, false, false, false, false, false, false, false, false, false, false, false, false, false, false, false, false, false] rfl rfl (by kernel_rfl) (fun c a w h => hP c a _ _ w h) (y_move rfl (by rfl) (by rfl)) rfl ?_
      (try simp only [zP, zN, zA, zB, zC])
      refine pure_ (i := 1) (N := some 41) (v := .int .i64 (u + v / 1073741824)) #[true, true, false, false, false, false, false, false, false, false, false, false, false, false, false, false, false, false] rfl rfl (by kernel_rfl) (fun c a w h => hP c a _ _ w h) (y_move rfl (by rfl) (by rfl)) rfl ?_
      (try simp only [zP, zN, zA, zB, zC])
      refine pure_ (i := 2) (N := some 42) (v := .bool false) #[true, true, true, false, false, false, false, false, false, false, false, false, false, false, false, false, false, false] rfl rfl (by kernel_rfl) (fun c a w h => hP c a _ _ w h) (y_run (by rfl) (fun W => by have d := D42.out; go_simp)) rfl ?_
      (try simp only [zP, zN, zA, zB, zC])
      refine pure_ (i := 3) (N := some 43) (v := .bool false) #[true, true, true, true, false, false, false, false, false, false, false, false, false, false, false, false, false, false] rfl rfl (by kernel_rfl) (fun c a w h => hP c a _ _ w h) (y_move rfl (by rfl) (by rfl)) rfl ?_
      (try simp only [zP, zN, zA, zB, zC])
      refine pure_ (i := 4) (N := some 44) (v := .int .i64 (x + y / 1073741824)) #[true, true, true, true, true, false, false, false, false, false, false, false, false, false, false, false, false, false] rfl rfl (by kernel_rfl) (fun c a w h => hP c a _ _ w h) (y_move rfl (by rfl) (by rfl)) rfl ?_
      (try simp only [zP, zN, zA, zB, zC])
      refine pure_ (i := 5) (N := some 45) (v := .int .i64 (u + v / 1073741824)) #[true, true, true, true, true, true, false, false, false, false, false, false, false, false, false, false, false, false] rfl rfl (by kernel_rfl) (fun c a w h => hP c a _ _ w h) (y_move rfl (by rfl) (by rfl)) rfl ?_
      (try simp only [zP, zN, zA, zB, zC])
      refine pure_ (i := 6) (N := some 46) (v := .bool true) #[true, true, true, true, true, true, true, false, false, false, false, false, false, false, false, false, false, false] rfl rfl (by kernel_rfl) (fun c a w h => hP c a _ _ w h) (y_run (by rfl) (fun W => by have d := D46.out; go_simp)) rfl ?_
      (try simp only [zP, zN, zA, zB, zC])
      refine pure_ (i := 7) (N := some 47) (v := .bool true) #[true, true, true, true, true, true, true, true, false, false, false, false, false, false, false, false, false, false] rfl rfl (by kernel_rfl) (fun c a w h => hP c a _ _ w h) (y_move rfl (by rfl) (by rfl)) rfl ?_
      (try simp only [zP, zN, zA, zB, zC])
      refine pure_ (i := 8) (N := some 48) (v := .int .i64 y) #[true, true, true, true, true, true, true, true, true, false, false, false, false, false, false, false, false, false] rfl rfl (by kernel_rfl) (fun c a w h => hP c a _ _ w h) (y_move rfl (by rfl) (by rfl)) rfl ?_
      (try simp only [zP, zN, zA, zB, zC])
      refine pure_ (i := 9) (N := some 49) (v := .int .i64 1073741824) #[true, true, true, true, true, true, true, true, true, true, false, false, false, false, false, false, false, false] rfl rfl (by kernel_rfl) (fun c a w h => hP c a _ _ w h) (y_move rfl (by rfl) (by rfl)) rfl ?_
      (try simp only [zP, zN, zA, zB, zC])
      refine pure_ (i := 10) (N := some 50) (v := .int .i64 (y % 1073741824)) #[true, true, true, true, true, true, true, true, true, true, true, false, false, false, false, false, false, false] rfl rfl (by kernel_rfl) (fun c a w h => hP c a _ _ w h) (y_run (by rfl) (fun W => by have d := W50.out; have d2 := X50.out; go_simp)) rfl ?_
      (try simp only [zP, zN, zA, zB, zC])
      refine pure_ (i := 11) (N := some 51) (v := .int .i64 v) #[true, true, true, true, true, true, true, true, true, true, true, true, false, false, false, false, false, false] rfl rfl (by kernel_rfl) (fun c a w h => hP c a _ _ w h) (y_move rfl (by rfl) (by rfl)) rfl ?_
      (try simp only [zP, zN, zA, zB, zC])
      refine pure_ (i := 12) (N := some 52) (v := .int .i64 1073741824) #[true, true, true, true, true, true, true, true, true, true, true, true, true, false, false, false, false, false] rfl rfl (by kernel_rfl) (fun c a w h => hP c a _ _ w h) (y_move rfl (by rfl) (by rfl)) rfl ?_
      (try simp only [zP, zN, zA, zB, zC])
      refine pure_ (i := 13) (N := some 53) (v := .int .i64 (v % 1073741824)) #[true, true, true, true, true, true, true, true, true, true, true, true, true, true, false, false, false, false] rfl rfl (by kernel_rfl) (fun c a w h => hP c a _ _ w h) (y_run (by rfl) (fun W => by have d := W53.out; have d2 := X53.out; go_simp)) rfl ?_
      (try simp only [zP, zN, zA, zB, zC])
      refine pure_ (i := 14) (N := some 54) (v := .bool false) #[true, true, true, true, true, true, true, true, true, true, true, true, true, true, true, false, false, false] rfl rfl (by kernel_rfl) (fun c a w h => hP c a _ _ w h) (y_run (by rfl) (fun W => by have d := D54.out; go_simp)) rfl ?_
      (try simp only [zP, zN, zA, zB, zC])
      refine pure_ (i := 15) (N := some 55) (v := .bool false) #[true, true, true, true, true, true, true, true, true, true, true, true, true, true, true, true, false, false] rfl rfl (by kernel_rfl) (fun c a w h => hP c a _ _ w h) (y_pick (t := true) (by rfl) rfl (by rfl) (by rfl)) rfl ?_
      (try simp only [zP, zN, zA, zB, zC])
      refine pure_ (i := 16) (N := some 56) (v := .bool false) #[true, true, true, true, true, true, true, true, true, true, true, true, true, true, true, true, true, false] rfl rfl (by kernel_rfl) (fun c a w h => hP c a _ _ w h) (y_pick (t := false) (by rfl) rfl (by rfl) (by rfl)) rfl ?_
      (try simp only [zP, zN, zA, zB, zC])
      refine pure_ (i := 17) (N := some 6) (v := .bool false) #[true, true, true, true, true, true, true, true, true, true, true, true, true, true, true, true, true, true] rfl rfl (by kernel_rfl) (fun c a w h => hP c a _ _ w h) (y_assign rfl (by rfl) (by rfl)) rfl ?_
      (try simp only [zP, zN, zA, zB, zC])
      refine done_ (by kernel_rfl) (th_norm (hK21 _ _ ?_)); clear hK21 K21
      refine wp_ret ?_
      refine hQ _ _ _ ?_
      refine bodyPost_ret (res1 rfl (rdv_tmp (v := .bool false) (by rfl))) rfl ?_
      exact ⟨by rw [HRR.out], C0.out⟩
    · have HH := Lib.hid h
      clear h
      have D42 := Lib.hid (show decide (x + y / 1073741824 < u + v / 1073741824) = false from decide_eq_false (by have := HH.out; omega))
      have D46 := Lib.hid (show (x + y / 1073741824 == u + v / 1073741824) = false from beq_eq_false_iff_ne.2 (by have := HH.out; omega))
      have HRR := Lib.hid (show fitsB a b p = false by unfold fitsB; exact decide_eq_false (by rw [EA.out, EB.out]; exact fun h9 => by have := FP.out.2 h9; have := HH.out; omega))
      refine sq_ (fun K25 hK25 => ?_)
      refine startk_ (S := fun W => True) (ds := []) #[false, false, false, false, false, false, false, false, false, false, false, false, false, false, false, false, false, false] (by kernel_rfl) rfl rfl (fun W c => trivial) (fun w26 C27 hS28 => ?_)
      have C0' := Lib.hid (show Ch [] w w26 from C0.out.trans' C27 (fun x hx => absurd hx (by simp)))
      clear C0
      have C0 := C0'; clear C0'
      clear C27
      refine pure_ (i := 0) (N := some 40) (v := .int .i64 (x + y / 1073741824)) #[true, false, false, false, false, false, false, false, false, false, false, false, false, false, false, false, false, false] rfl rfl (by kernel_rfl) (fun c a w h => hP c a _ _ w h) (y_move rfl (by rfl) (by rfl)) rfl ?_
      (try simp only [zP, zN, zA, zB, zC])
      refine pure_ (i := 1) (N := some 41) (v := .int .i64 (u + v / 1073741824)) #[true, true, false, false, false, false, false, false, false, false, false, false, false, false, false, false, false, false] rfl rfl (by kernel_rfl) (fun c a w h => hP c a _ _ w h) (y_move rfl (by rfl) (by rfl)) rfl ?_
      (try simp only [zP, zN, zA, zB, zC])
      refine pure_ (i := 2) (N := some 42) (v := .bool false) #[true, true, true, false, false, false, false, false, false, false, false, false, false, false, false, false, false, false] rfl rfl (by kernel_rfl) (fun c a w h => hP c a _ _ w h) (y_run (by rfl) (fun W => by have d := D42.out; go_simp)) rfl ?_
      (try simp only [zP, zN, zA, zB, zC])
      refine pure_ (i := 3) (N := some 43) (v := .bool false) #[true, true, true, true, false, false, false, false, false, false, false, false, false, false, false, false, false, false] rfl rfl (by kernel_rfl) (fun c a w h => hP c a _ _ w h) (y_move rfl (by rfl) (by rfl)) rfl ?_
      (try simp only [zP, zN, zA, zB, zC])
      refine pure_ (i := 4) (N := some 44) (v := .int .i64 (x + y / 1073741824)) #[true, true, true, true, true, false, false, false, false, false, false, false, false, false, false, false, false, false] rfl rfl (by kernel_rfl) (fun c a w h => hP c a _ _ w h) (y_move rfl (by rfl) (by rfl)) rfl ?_
      (try simp only [zP, zN, zA, zB, zC])
      refine pure_ (i := 5) (N := some 45) (v := .int .i64 (u + v / 1073741824)) #[true, true, true, true, true, true, false, false, false, false, false, false, false, false, false, false, false, false] rfl rfl (by kernel_rfl) (fun c a w h => hP c a _ _ w h) (y_move rfl (by rfl) (by rfl)) rfl ?_
      (try simp only [zP, zN, zA, zB, zC])
      refine pure_ (i := 6) (N := some 46) (v := .bool false) #[true, true, true, true, true, true, true, false, false, false, false, false, false, false, false, false, false, false] rfl rfl (by kernel_rfl) (fun c a w h => hP c a _ _ w h) (y_run (by rfl) (fun W => by have d := D46.out; go_simp)) rfl ?_
      (try simp only [zP, zN, zA, zB, zC])
      refine pure_ (i := 7) (N := some 47) (v := .bool false) #[true, true, true, true, true, true, true, true, false, false, false, false, false, false, false, false, false, false] rfl rfl (by kernel_rfl) (fun c a w h => hP c a _ _ w h) (y_move rfl (by rfl) (by rfl)) rfl ?_
      (try simp only [zP, zN, zA, zB, zC])
      refine pure_ (i := 8) (N := some 48) (v := undef) #[true, true, true, true, true, true, true, true, true, false, false, false, false, false, false, false, false, false] rfl rfl (by kernel_rfl) (fun c a w h => hP c a _ _ w h) (y_off (by rfl)) rfl ?_
      (try simp only [zP, zN, zA, zB, zC])
      refine pure_ (i := 9) (N := some 49) (v := undef) #[true, true, true, true, true, true, true, true, true, true, false, false, false, false, false, false, false, false] rfl rfl (by kernel_rfl) (fun c a w h => hP c a _ _ w h) (y_off (by rfl)) rfl ?_
      (try simp only [zP, zN, zA, zB, zC])
      refine pure_ (i := 10) (N := some 50) (v := undef) #[true, true, true, true, true, true, true, true, true, true, true, false, false, false, false, false, false, false] rfl rfl (by kernel_rfl) (fun c a w h => hP c a _ _ w h) (y_off (by rfl)) rfl ?_
      (try simp only [zP, zN, zA, zB, zC])
      refine pure_ (i := 11) (N := some 51) (v := undef) #[true, true, true, true, true, true, true, true, true, true, true, true, false, false, false, false, false, false] rfl rfl (by kernel_rfl) (fun c a w h => hP c a _ _ w h) (y_off (by rfl)) rfl ?_
      (try simp only [zP, zN, zA, zB, zC])
      refine pure_ (i := 12) (N := some 52) (v := undef) #[true, true, true, true, true, true, true, true, true, true, true, true, true, false, false, false, false, false] rfl rfl (by kernel_rfl) (fun c a w h => hP c a _ _ w h) (y_off (by rfl)) rfl ?_
      (try simp only [zP, zN, zA, zB, zC])
      refine pure_ (i := 13) (N := some 53) (v := undef) #[true, true, true, true, true, true, true, true, true, true, true, true, true, true, false, false, false, false] rfl rfl (by kernel_rfl) (fun c a w h => hP c a _ _ w h) (y_off (by rfl)) rfl ?_
      (try simp only [zP, zN, zA, zB, zC])
      refine pure_ (i := 14) (N := some 54) (v := undef) #[true, true, true, true, true, true, true, true, true, true, true, true, true, true, true, false, false, false] rfl rfl (by kernel_rfl) (fun c a w h => hP c a _ _ w h) (y_off (by rfl)) rfl ?_
      (try simp only [zP, zN, zA, zB, zC])
      refine pure_ (i := 15) (N := some 55) (v := .bool false) #[true, true, true, true, true, true, true, true, true, true, true, true, true, true, true, true, false, false] rfl rfl (by kernel_rfl) (fun c a w h => hP c a _ _ w h) (y_pick (t := false) (by rfl) rfl (by rfl) (by rfl)) rfl ?_
      (try simp only [zP, zN, zA, zB, zC])
      refine pure_ (i := 16) (N := some 56) (v := .bool false) #[true, true, true, true, true, true, true, true, true, true, true, true, true, true, true, true, true, false] rfl rfl (by kernel_rfl) (fun c a w h => hP c a _ _ w h) (y_pick (t := false) (by rfl) rfl (by rfl) (by rfl)) rfl ?_
      (try simp only [zP, zN, zA, zB, zC])
      refine pure_ (i := 17) (N := some 6) (v := .bool false) #[true, true, true, true, true, true, true, true, true, true, true, true, true, true, true, true, true, true] rfl rfl (by kernel_rfl) (fun c a w h => hP c a _ _ w h) (y_assign rfl (by rfl) (by rfl)) rfl ?_
      (try simp only [zP, zN, zA, zB, zC])
      refine done_ (by kernel_rfl) (th_norm (hK25 _ _ ?_)); clear hK25 K25
      refine wp_ret ?_
      refine hQ _ _ _ ?_
      refine bodyPost_ret (res1 rfl (rdv_tmp (v := .bool false) (by rfl))) rfl ?_
      exact ⟨by rw [HRR.out], C0.out⟩
theorem limit_ways (m p nn : Int) (k : Nat) (hk : k ≤ 61) : (∃ j : Nat, k = j + 1 ∧ ∃ pw : Int, pw = 2 ^ j ∧ 1 ≤ pw ∧ pw ≤ 1152921504606846976 ∧ nn + pw ≤ topZ m p) ∨ (∃ j : Nat, k = j + 1 ∧ ∃ pw : Int, pw = 2 ^ j ∧ 1 ≤ pw ∧ pw ≤ 1152921504606846976 ∧ (topZ m p < nn + pw ∧ nn + pw ≤ m)) ∨ (∃ j : Nat, k = j + 1 ∧ ∃ pw : Int, pw = 2 ^ j ∧ 1 ≤ pw ∧ pw ≤ 1152921504606846976 ∧ (topZ m p < nn + pw ∧ m < nn + pw)) ∨ k = 0 := by
  cases k with
  | zero => exact .inr (.inr (.inr rfl))
  | succ j =>
    have h1 : (1 : Int) ≤ 2 ^ j := by
      have : 0 < (2 : Int) ^ j := Int.pow_pos (by decide)
      omega
    have h2 : (2 : Int) ^ j ≤ 1152921504606846976 := by
      have h3 : (2 : Nat) ^ j ≤ 2 ^ 60 := Nat.pow_le_pow_right (by decide) (by omega)
      have h4 : ((2 ^ j : Nat) : Int) = (2 : Int) ^ j := by simp
      rw [← h4]
      have h5 : (2 : Nat) ^ 60 = 1152921504606846976 := by decide
      omega
    rcases (show nn + 2 ^ j ≤ topZ m p ∨ (topZ m p < nn + 2 ^ j ∧ nn + 2 ^ j ≤ m) ∨ (topZ m p < nn + 2 ^ j ∧ m < nn + 2 ^ j) by omega) with h | h | h
    · exact .inl ⟨j, rfl, _, rfl, h1, h2, h⟩
    · exact .inr (.inl ⟨j, rfl, _, rfl, h1, h2, h⟩)
    · exact .inr (.inr (.inl ⟨j, rfl, _, rfl, h1, h2, h⟩))
theorem rlimit_ {c m e pc : Int} (HM : Hid (SmallZ m))  :
    Calls Try.prog 8 #[.agg #[.int .i64 c, .int .i64 m, .int .i64 e], .int .i64 pc] w fun en w' => en = .returned (.int .i64 (limZ m pc)) ∧ Ch [] w w' := by
  have C0 := Lib.hid (Ch.refl [] w)
  go_enter Try.func8, Try.ntmps8
  refine q_ (fun Q hQ hP => ?_)
  refine s_ (fun K1 hK1 => ?_)
  refine ef_ (fun K2 hK2 => ?_)
  refine e_boxN (by rfl) rfl rfl (cs := #[.int .i64 c, .int .i64 m, .int .i64 e]) (v := .agg #[.int .i64 c, .int .i64 m, .int .i64 e]) (by rfl) rfl ?_
  rintro g3 w4 HG5 B6 C7
  have nw8 := Lib.hid (show w.heap.size ≤ g3 by have := C0.out.size; have := HG5.out; omega)
  have C0' := Lib.hid (show Ch [] w w4 from C0.out.trans' C7 (fun x hx => absurd hx (by simp)))
  clear C0
  have C0 := C0'; clear C0'
  have Fg3 := Lib.hid (show Blk w4 g3 (#[.int .i64 c, .int .i64 m, .int .i64 e]) 23 from B6); clear B6 C7
  refine hK2 _ _ ?_; clear hK2 K2
  (try simp only [zP, zN, zA, zB, zC])
  refine pu_ (v := .int .i64 0) (y_assign rfl (by rfl) (by rfl)) ?_
  (try simp only [zP, zN, zA, zB, zC])
  refine nl_ (hK1 _ _ ?_); clear hK1 K1
  refine sq_ (fun K9 hK9 => ?_)
  rcases (show pc < 0 ∨ 100 < pc ∨ (0 ≤ pc ∧ pc ≤ 100) by omega) with h | h | h
  · have HH := Lib.hid h
    clear h
    have D9 := Lib.hid (show decide (pc < 0) = true from decide_eq_true (by have := HH.out; omega))
    refine s_ (fun K10 hK10 => ?_)
    refine pu_ (v := .int .i64 pc) (y_move rfl (by rfl) (by rfl)) ?_
    (try simp only [zP, zN, zA, zB, zC])
    refine pu_ (v := .bool true) (y_run (by rfl) (fun W => by have d := D9.out; go_simp)) ?_
    (try simp only [zP, zN, zA, zB, zC])
    refine nl_ (hK10 _ _ ?_); clear hK10 K10
    refine wp_cond_true rfl ?_
    refine r_ ?_
    refine pu_ (v := .int .i64 0) (y_assign rfl (by rfl) (by rfl)) ?_
    (try simp only [zP, zN, zA, zB, zC])
    refine nl_ ?_
    refine th_norm (hK9 _ _ ?_); try clear hK9 K9
    refine sq_ (fun K11 hK11 => ?_)
    refine s_ (fun K12 hK12 => ?_)
    refine pu_ (v := .int .i64 0) (y_move rfl (by rfl) (by rfl)) ?_
    (try simp only [zP, zN, zA, zB, zC])
    refine pu_ (v := .bool false) (y_run (by rfl) (fun W => by first | (go_simp; done) | (go_simp; decide))) ?_
    (try simp only [zP, zN, zA, zB, zC])
    refine nl_ (hK12 _ _ ?_); clear hK12 K12
    refine wp_cond_false rfl ?_
    refine wp_skip ?_
    refine th_norm (hK11 _ _ ?_); try clear hK11 K11
    refine s_ (fun K13 hK13 => ?_)
    refine pu_ (v := .int .i64 0) (y_assign rfl (by rfl) (by rfl)) ?_
    (try simp only [zP, zN, zA, zB, zC])
    refine nl_ (hK13 _ _ ?_); clear hK13 K13
    refine sq_ (fun K14 hK14 => ?_)
    refine s_ (fun K15 hK15 => ?_)
    refine pu_ (v := .int .i64 60) (y_assign rfl (by rfl) (by rfl)) ?_
    (try simp only [zP, zN, zA, zB, zC])
    refine nl_ (hK15 _ _ ?_); clear hK15 K15
    refine wp_block ?_
    refine loopk_ (fun (kq : Nat) (a' : Act) (w' : World) => ∃ (k : Nat), ∃ (p : Int), ∃ (nn : Int), ∃ (i : Int), ∃ (us : Nat → Value), a' = ⟨#[us 0, .int .i64 p, .pointer (some ⟨g3, 0, none⟩), us 3, .int .i64 0, .int .i64 nn, .int .i64 i, us 7, us 8, us 9, us 10, us 11, us 12, us 13, us 14, us 15, us 16, us 17, us 18, us 19, us 20, us 21, us 22, us 23, us 24, us 25, us 26, us 27, us 28, us 29, us 30, us 31, us 32, us 33], []⟩ ∧ Hid (Ch [] w w') ∧ Hid (Blk w' g3 (#[.int .i64 c, .int .i64 m, .int .i64 e]) 23) ∧ Hid (k ≤ 61 ∧ kq = k ∧ i = (k : Int) - 1) ∧ Hid (p = min (max pc 0) 100 ∧ 0 ≤ p ∧ p ≤ 100) ∧ Hid (0 ≤ nn ∧ nn ≤ topZ m p ∧ topZ m p < nn + 2 ^ k)) (61) (⟨61, 0, 0, 60, fun us_ => (#[.agg #[.int .i64 c, .int .i64 m, .int .i64 e], .int .i64 0, .pointer (some ⟨g3, 0, none⟩), undef, .int .i64 0, .int .i64 0, .int .i64 60, undef, .int .i64 pc, .bool true, .int .i64 0, .bool false, undef, undef, undef, undef, undef, undef, undef, undef, undef, undef, undef, undef, undef, undef, undef, undef, undef, undef, undef, undef, undef, undef] : Array Value).getD us_ undef, rfl, C0, Fg3, Lib.hid ⟨by omega, rfl, by omega⟩, Lib.hid (by have := HH.out; omega), Lib.hid (by have h9 := top_le (m := m) (p := 0) HM.out.1 (by have := HH.out; omega); have h8 := HM.out; unfold SmallZ at h8; exact ⟨by omega, h9.1, by have : (2 : Int) ^ 61 = 2305843009213693952 := (by decide); omega⟩)⟩) ?_
    rintro kq _ w16 ⟨k, p, nn, i, us, rfl, C0, Fg3, hk, hp, hn⟩ K17 hK17
    refine sq_ (fun K18 hK18 => ?_)
    rcases limit_ways m p nn k (hk := hk.out.1) with h | h | h | h
    · obtain ⟨j, hj, pw, hpw, hpw1, hpw2, h⟩ := h
      have HJ := Lib.hid hj; have HPW := Lib.hid hpw; have HB := Lib.hid (And.intro hpw1 hpw2); have HH := Lib.hid h; clear hj hpw hpw1 hpw2 h
      have D13 := Lib.hid (show decide (i ≥ 0) = true from decide_eq_true (by have := hk.out; have := HJ.out; omega))
      have HTM := Lib.hid (top_le (m := m) (p := p) HM.out.1 hp.out.2)
      have HM2 := Lib.hid (show m ≤ 1152921504606846976 from HM.out.2)
      have EI := Lib.hid (show i = (j : Int) by have := hk.out; have := HJ.out; omega)
      have W18 := Lib.hid (show IntKind.u64.wrap i = (j : Int) by rw [EI.out]; exact wu64 (by have := hk.out; have := HJ.out; omega))
      have W19 := Lib.hid (show IntKind.i64.wrap pw = pw from wr64 (by have := HB.out; omega))
      have J64 := Lib.hid (show j < 64 by have := hk.out; have := HJ.out; omega)
      have P19 := Lib.hid (show ((2 : Int) ^ j) = pw from HPW.out.symm)
      have W20 := Lib.hid (show IntKind.i64.wrap (nn + pw) = nn + pw from wr64 (by have := HB.out; have := hn.out; have := HTM.out; have := HM2.out; omega))
      have W15 := Lib.hid (show IntKind.i64.wrap (i - 1) = (j : Int) - 1 by rw [EI.out]; exact wr64 (by have := J64.out; omega))
      have HN := Lib.hid (show 0 ≤ nn ∧ nn ≤ topZ m p ∧ topZ m p < nn + 2 * pw by have h9 := hn.out; rw [HJ.out, Int.pow_succ, ← HPW.out] at h9; omega)
      have D24 := Lib.hid (show decide (nn + pw ≤ m) = true from decide_eq_true (by have := HH.out; have := HTM.out; omega))
      have HF := Lib.hid (show fitsB (nn + pw) m p = true from decide_eq_true (fits_top.2 HH.out))
      refine s_ (fun K19 hK19 => ?_)
      refine pu_ (v := .int .i64 i) (y_move rfl (by rfl) (by rfl)) ?_
      (try simp only [zP, zN, zA, zB, zC])
      refine pu_ (v := .bool true) (y_run (by rfl) (fun W => by have d := D13.out; go_simp)) ?_
      (try simp only [zP, zN, zA, zB, zC])
      refine nl_ (hK19 _ _ ?_); clear hK19 K19
      refine wp_cond_true rfl ?_
      refine wp_skip ?_
      refine th_norm (hK18 _ _ ?_); try clear hK18 K18
      refine sq_ (fun K20 hK20 => ?_)
      refine wp_block ?_
      refine s_ (fun K21 hK21 => ?_)
      refine pu_ (v := .int .i64 nn) (y_move rfl (by rfl) (by rfl)) ?_
      (try simp only [zP, zN, zA, zB, zC])
      refine pu_ (v := .int .i64 i) (y_move rfl (by rfl) (by rfl)) ?_
      (try simp only [zP, zN, zA, zB, zC])
      refine pu_ (v := .int .u64 j) (y_run (by rfl) (fun W => by have d := W18.out; go_simp)) ?_
      (try simp only [zP, zN, zA, zB, zC])
      refine pu_ (v := .int .i64 pw) (y_run (by rfl) (fun W => by have d := W19.out; have d2 := P19.out; have d3 := J64.out; go_simp)) ?_
      (try simp only [zP, zN, zA, zB, zC])
      refine pu_ (v := .int .i64 (nn + pw)) (y_run (by rfl) (fun W => by have d := W20.out; go_simp)) ?_
      (try simp only [zP, zN, zA, zB, zC])
      refine pu_ (v := .int .i64 (nn + pw)) (y_assign rfl (by rfl) (by rfl)) ?_
      (try simp only [zP, zN, zA, zB, zC])
      refine nl_ (hK21 _ _ ?_); clear hK21 K21
      refine s_ (fun K22 hK22 => ?_)
      refine pu_ (v := .int .i64 (nn + pw)) (y_move rfl (by rfl) (by rfl)) ?_
      (try simp only [zP, zN, zA, zB, zC])
      refine pu_ (v := .pointer (some ⟨g3, 1, none⟩)) (y_run (by rfl) (fun W => by go_simp)) ?_
      (try simp only [zP, zN, zA, zB, zC])
      refine ld_ (v := .int .i64 m) rfl (by rfl) (by rfl) (run_load_one ((Fg3.out.cell 1).trans rfl) Try.underlying3 rfl) ?_
      (try simp only [zP, zN, zA, zB, zC])
      refine pu_ (v := .bool true) (y_run (by rfl) (fun W => by have d := D24.out; go_simp)) ?_
      (try simp only [zP, zN, zA, zB, zC])
      refine pu_ (v := .bool true) (y_move rfl (by rfl) (by rfl)) ?_
      (try simp only [zP, zN, zA, zB, zC])
      refine pu_ (v := .int .i64 (nn + pw)) (y_move rfl (by rfl) (by rfl)) ?_
      (try simp only [zP, zN, zA, zB, zC])
      refine pu_ (v := .pointer (some ⟨g3, 1, none⟩)) (y_run (by rfl) (fun W => by go_simp)) ?_
      (try simp only [zP, zN, zA, zB, zC])
      refine ld_ (v := .int .i64 m) rfl (by rfl) (by rfl) (run_load_one ((Fg3.out.cell 1).trans rfl) Try.underlying3 rfl) ?_
      (try simp only [zP, zN, zA, zB, zC])
      refine pu_ (v := .int .i64 p) (y_move rfl (by rfl) (by rfl)) ?_
      (try simp only [zP, zN, zA, zB, zC])
      refine ef_ (fun K23 hK23 => ?_)
      refine e_call Try.func20 (by kernel_rfl) rfl #[.int .i64 (nn + pw), .int .i64 m, .int .i64 p] (by rfl) rfl rfl (by first | rfl | (simp only [List.map_toArray, List.map_cons, List.map_nil]; first | done | rfl)) ((by have h9 := fits_ (w := w16) (a := nn + pw) (b := m) (p := p) (Lib.hid (by have := HB.out; have := hn.out; have := HH.out; have := HTM.out; have := HM2.out; omega)) (Lib.hid HM.out) (Lib.hid hp.out.2); rw [HF.out] at h9; exact h9)) ?_
      rintro en w25 ⟨rfl, cc24⟩
      refine ⟨_, rfl, ?_⟩
      have C0' := Lib.hid (show Ch [] w w25 from C0.out.trans' cc24 (fun x hx => absurd hx (by simp)))
      have Fg3' := Lib.hid (show Blk w25 g3 (#[.int .i64 c, .int .i64 m, .int .i64 e]) 23 from cc24.blk Fg3.out nin_nil)
      clear C0 Fg3
      have C0 := C0'; clear C0'
      have Fg3 := Fg3'; clear Fg3'
      clear cc24
      refine hK23 _ _ ?_; clear hK23 K23
      (try simp only [zP, zN, zA, zB, zC])
      refine pu_ (v := .bool true) (y_pick (t := true) (by rfl) rfl (by rfl) (by rfl)) ?_
      (try simp only [zP, zN, zA, zB, zC])
      refine nl_ (hK22 _ _ ?_); clear hK22 K22
      refine wp_cond_true rfl ?_
      refine r_ ?_
      refine pu_ (v := .int .i64 (nn + pw)) (y_move rfl (by rfl) (by rfl)) ?_
      (try simp only [zP, zN, zA, zB, zC])
      refine pu_ (v := .int .i64 (nn + pw)) (y_assign rfl (by rfl) (by rfl)) ?_
      (try simp only [zP, zN, zA, zB, zC])
      refine nl_ ?_
      refine ib_norm ?_
      refine th_norm (hK20 _ _ ?_); try clear hK20 K20
      refine r_ ?_
      refine pu_ (v := .int .i64 i) (y_move rfl (by rfl) (by rfl)) ?_
      (try simp only [zP, zN, zA, zB, zC])
      refine pu_ (v := .int .i64 ((j : Int) - 1)) (y_run (by rfl) (fun W => by have d := W15.out; go_simp)) ?_
      (try simp only [zP, zN, zA, zB, zC])
      refine pu_ (v := .int .i64 ((j : Int) - 1)) (y_assign rfl (by rfl) (by rfl)) ?_
      (try simp only [zP, zN, zA, zB, zC])
      refine nl_ ?_
      exact th_norm (hK17 (j) _ _ (by have := hk.out; have := HJ.out; omega) ⟨j, p, (nn + pw), ((j : Int) - 1), fun us_ => (#[us 0, .int .i64 p, .pointer (some ⟨g3, 0, none⟩), us 3, .int .i64 0, .int .i64 (nn + pw), .int .i64 ((j : Int) - 1), .int .i64 (nn + pw), us 8, us 9, us 10, us 11, .int .i64 i, .bool true, .int .i64 i, .int .i64 ((j : Int) - 1), .int .i64 nn, .int .i64 i, .int .u64 j, .int .i64 pw, .int .i64 (nn + pw), .int .i64 (nn + pw), .pointer (some ⟨g3, 1, none⟩), .int .i64 m, .bool true, .bool true, .int .i64 (nn + pw), .pointer (some ⟨g3, 1, none⟩), .int .i64 m, .int .i64 p, .bool true, .bool true, .int .i64 (nn + pw), us 33] : Array Value).getD us_ undef, rfl, C0, Fg3, Lib.hid ⟨by have := hk.out; have := HJ.out; omega, rfl, rfl⟩, hp, Lib.hid (by rw [← HPW.out]; have := HN.out; have := HH.out; have := HTM.out; have := HB.out; omega)⟩)
    · obtain ⟨j, hj, pw, hpw, hpw1, hpw2, h⟩ := h
      have HJ := Lib.hid hj; have HPW := Lib.hid hpw; have HB := Lib.hid (And.intro hpw1 hpw2); have HH := Lib.hid h; clear hj hpw hpw1 hpw2 h
      have D13 := Lib.hid (show decide (i ≥ 0) = true from decide_eq_true (by have := hk.out; have := HJ.out; omega))
      have HTM := Lib.hid (top_le (m := m) (p := p) HM.out.1 hp.out.2)
      have HM2 := Lib.hid (show m ≤ 1152921504606846976 from HM.out.2)
      have EI := Lib.hid (show i = (j : Int) by have := hk.out; have := HJ.out; omega)
      have W18 := Lib.hid (show IntKind.u64.wrap i = (j : Int) by rw [EI.out]; exact wu64 (by have := hk.out; have := HJ.out; omega))
      have W19 := Lib.hid (show IntKind.i64.wrap pw = pw from wr64 (by have := HB.out; omega))
      have J64 := Lib.hid (show j < 64 by have := hk.out; have := HJ.out; omega)
      have P19 := Lib.hid (show ((2 : Int) ^ j) = pw from HPW.out.symm)
      have W20 := Lib.hid (show IntKind.i64.wrap (nn + pw) = nn + pw from wr64 (by have := HB.out; have := hn.out; have := HTM.out; have := HM2.out; omega))
      have W15 := Lib.hid (show IntKind.i64.wrap (i - 1) = (j : Int) - 1 by rw [EI.out]; exact wr64 (by have := J64.out; omega))
      have HN := Lib.hid (show 0 ≤ nn ∧ nn ≤ topZ m p ∧ topZ m p < nn + 2 * pw by have h9 := hn.out; rw [HJ.out, Int.pow_succ, ← HPW.out] at h9; omega)
      have D24 := Lib.hid (show decide (nn + pw ≤ m) = true from decide_eq_true (by have := HH.out; have := HTM.out; omega))
      have HF := Lib.hid (show fitsB (nn + pw) m p = false from decide_eq_false (fun h9 => by have := fits_top.1 h9; have := HH.out; have := HTM.out; omega))
      refine s_ (fun K26 hK26 => ?_)
      refine pu_ (v := .int .i64 i) (y_move rfl (by rfl) (by rfl)) ?_
      (try simp only [zP, zN, zA, zB, zC])
      refine pu_ (v := .bool true) (y_run (by rfl) (fun W => by have d := D13.out; go_simp)) ?_
      (try simp only [zP, zN, zA, zB, zC])
      refine nl_ (hK26 _ _ ?_); clear hK26 K26
      refine wp_cond_true rfl ?_
      refine wp_skip ?_
      refine th_norm (hK18 _ _ ?_); try clear hK18 K18
      refine sq_ (fun K27 hK27 => ?_)
      refine wp_block ?_
      refine s_ (fun K28 hK28 => ?_)
      refine pu_ (v := .int .i64 nn) (y_move rfl (by rfl) (by rfl)) ?_
      (try simp only [zP, zN, zA, zB, zC])
      refine pu_ (v := .int .i64 i) (y_move rfl (by rfl) (by rfl)) ?_
      (try simp only [zP, zN, zA, zB, zC])
      refine pu_ (v := .int .u64 j) (y_run (by rfl) (fun W => by have d := W18.out; go_simp)) ?_
      (try simp only [zP, zN, zA, zB, zC])
      refine pu_ (v := .int .i64 pw) (y_run (by rfl) (fun W => by have d := W19.out; have d2 := P19.out; have d3 := J64.out; go_simp)) ?_
      (try simp only [zP, zN, zA, zB, zC])
      refine pu_ (v := .int .i64 (nn + pw)) (y_run (by rfl) (fun W => by have d := W20.out; go_simp)) ?_
      (try simp only [zP, zN, zA, zB, zC])
      refine pu_ (v := .int .i64 (nn + pw)) (y_assign rfl (by rfl) (by rfl)) ?_
      (try simp only [zP, zN, zA, zB, zC])
      refine nl_ (hK28 _ _ ?_); clear hK28 K28
      refine s_ (fun K29 hK29 => ?_)
      refine pu_ (v := .int .i64 (nn + pw)) (y_move rfl (by rfl) (by rfl)) ?_
      (try simp only [zP, zN, zA, zB, zC])
      refine pu_ (v := .pointer (some ⟨g3, 1, none⟩)) (y_run (by rfl) (fun W => by go_simp)) ?_
      (try simp only [zP, zN, zA, zB, zC])
      refine ld_ (v := .int .i64 m) rfl (by rfl) (by rfl) (run_load_one ((Fg3.out.cell 1).trans rfl) Try.underlying3 rfl) ?_
      (try simp only [zP, zN, zA, zB, zC])
      refine pu_ (v := .bool true) (y_run (by rfl) (fun W => by have d := D24.out; go_simp)) ?_
      (try simp only [zP, zN, zA, zB, zC])
      refine pu_ (v := .bool true) (y_move rfl (by rfl) (by rfl)) ?_
      (try simp only [zP, zN, zA, zB, zC])
      refine pu_ (v := .int .i64 (nn + pw)) (y_move rfl (by rfl) (by rfl)) ?_
      (try simp only [zP, zN, zA, zB, zC])
      refine pu_ (v := .pointer (some ⟨g3, 1, none⟩)) (y_run (by rfl) (fun W => by go_simp)) ?_
      (try simp only [zP, zN, zA, zB, zC])
      refine ld_ (v := .int .i64 m) rfl (by rfl) (by rfl) (run_load_one ((Fg3.out.cell 1).trans rfl) Try.underlying3 rfl) ?_
      (try simp only [zP, zN, zA, zB, zC])
      refine pu_ (v := .int .i64 p) (y_move rfl (by rfl) (by rfl)) ?_
      (try simp only [zP, zN, zA, zB, zC])
      refine ef_ (fun K30 hK30 => ?_)
      refine e_call Try.func20 (by kernel_rfl) rfl #[.int .i64 (nn + pw), .int .i64 m, .int .i64 p] (by rfl) rfl rfl (by first | rfl | (simp only [List.map_toArray, List.map_cons, List.map_nil]; first | done | rfl)) ((by have h9 := fits_ (w := w16) (a := nn + pw) (b := m) (p := p) (Lib.hid (by have := HB.out; have := hn.out; have := HH.out; have := HTM.out; have := HM2.out; omega)) (Lib.hid HM.out) (Lib.hid hp.out.2); rw [HF.out] at h9; exact h9)) ?_
      rintro en w32 ⟨rfl, cc31⟩
      refine ⟨_, rfl, ?_⟩
      have C0' := Lib.hid (show Ch [] w w32 from C0.out.trans' cc31 (fun x hx => absurd hx (by simp)))
      have Fg3' := Lib.hid (show Blk w32 g3 (#[.int .i64 c, .int .i64 m, .int .i64 e]) 23 from cc31.blk Fg3.out nin_nil)
      clear C0 Fg3
      have C0 := C0'; clear C0'
      have Fg3 := Fg3'; clear Fg3'
      clear cc31
      refine hK30 _ _ ?_; clear hK30 K30
      (try simp only [zP, zN, zA, zB, zC])
      refine pu_ (v := .bool false) (y_pick (t := true) (by rfl) rfl (by rfl) (by rfl)) ?_
      (try simp only [zP, zN, zA, zB, zC])
      refine nl_ (hK29 _ _ ?_); clear hK29 K29
      refine wp_cond_false rfl ?_
      refine wp_skip ?_
      refine ib_norm ?_
      refine th_norm (hK27 _ _ ?_); try clear hK27 K27
      refine r_ ?_
      refine pu_ (v := .int .i64 i) (y_move rfl (by rfl) (by rfl)) ?_
      (try simp only [zP, zN, zA, zB, zC])
      refine pu_ (v := .int .i64 ((j : Int) - 1)) (y_run (by rfl) (fun W => by have d := W15.out; go_simp)) ?_
      (try simp only [zP, zN, zA, zB, zC])
      refine pu_ (v := .int .i64 ((j : Int) - 1)) (y_assign rfl (by rfl) (by rfl)) ?_
      (try simp only [zP, zN, zA, zB, zC])
      refine nl_ ?_
      exact th_norm (hK17 (j) _ _ (by have := hk.out; have := HJ.out; omega) ⟨j, p, nn, ((j : Int) - 1), fun us_ => (#[us 0, .int .i64 p, .pointer (some ⟨g3, 0, none⟩), us 3, .int .i64 0, .int .i64 nn, .int .i64 ((j : Int) - 1), .int .i64 (nn + pw), us 8, us 9, us 10, us 11, .int .i64 i, .bool true, .int .i64 i, .int .i64 ((j : Int) - 1), .int .i64 nn, .int .i64 i, .int .u64 j, .int .i64 pw, .int .i64 (nn + pw), .int .i64 (nn + pw), .pointer (some ⟨g3, 1, none⟩), .int .i64 m, .bool true, .bool true, .int .i64 (nn + pw), .pointer (some ⟨g3, 1, none⟩), .int .i64 m, .int .i64 p, .bool false, .bool false, us 32, us 33] : Array Value).getD us_ undef, rfl, C0, Fg3, Lib.hid ⟨by have := hk.out; have := HJ.out; omega, rfl, rfl⟩, hp, Lib.hid (by rw [← HPW.out]; have := HN.out; have := HH.out; have := HTM.out; have := HB.out; omega)⟩)
    · obtain ⟨j, hj, pw, hpw, hpw1, hpw2, h⟩ := h
      have HJ := Lib.hid hj; have HPW := Lib.hid hpw; have HB := Lib.hid (And.intro hpw1 hpw2); have HH := Lib.hid h; clear hj hpw hpw1 hpw2 h
      have D13 := Lib.hid (show decide (i ≥ 0) = true from decide_eq_true (by have := hk.out; have := HJ.out; omega))
      have HTM := Lib.hid (top_le (m := m) (p := p) HM.out.1 hp.out.2)
      have HM2 := Lib.hid (show m ≤ 1152921504606846976 from HM.out.2)
      have EI := Lib.hid (show i = (j : Int) by have := hk.out; have := HJ.out; omega)
      have W18 := Lib.hid (show IntKind.u64.wrap i = (j : Int) by rw [EI.out]; exact wu64 (by have := hk.out; have := HJ.out; omega))
      have W19 := Lib.hid (show IntKind.i64.wrap pw = pw from wr64 (by have := HB.out; omega))
      have J64 := Lib.hid (show j < 64 by have := hk.out; have := HJ.out; omega)
      have P19 := Lib.hid (show ((2 : Int) ^ j) = pw from HPW.out.symm)
      have W20 := Lib.hid (show IntKind.i64.wrap (nn + pw) = nn + pw from wr64 (by have := HB.out; have := hn.out; have := HTM.out; have := HM2.out; omega))
      have W15 := Lib.hid (show IntKind.i64.wrap (i - 1) = (j : Int) - 1 by rw [EI.out]; exact wr64 (by have := J64.out; omega))
      have HN := Lib.hid (show 0 ≤ nn ∧ nn ≤ topZ m p ∧ topZ m p < nn + 2 * pw by have h9 := hn.out; rw [HJ.out, Int.pow_succ, ← HPW.out] at h9; omega)
      have D24 := Lib.hid (show decide (nn + pw ≤ m) = false from decide_eq_false (by have := HH.out; have := HTM.out; omega))
      refine s_ (fun K33 hK33 => ?_)
      refine pu_ (v := .int .i64 i) (y_move rfl (by rfl) (by rfl)) ?_
      (try simp only [zP, zN, zA, zB, zC])
      refine pu_ (v := .bool true) (y_run (by rfl) (fun W => by have d := D13.out; go_simp)) ?_
      (try simp only [zP, zN, zA, zB, zC])
      refine nl_ (hK33 _ _ ?_); clear hK33 K33
      refine wp_cond_true rfl ?_
      refine wp_skip ?_
      refine th_norm (hK18 _ _ ?_); try clear hK18 K18
      refine sq_ (fun K34 hK34 => ?_)
      refine wp_block ?_
      refine s_ (fun K35 hK35 => ?_)
      refine pu_ (v := .int .i64 nn) (y_move rfl (by rfl) (by rfl)) ?_
      (try simp only [zP, zN, zA, zB, zC])
      refine pu_ (v := .int .i64 i) (y_move rfl (by rfl) (by rfl)) ?_
      (try simp only [zP, zN, zA, zB, zC])
      refine pu_ (v := .int .u64 j) (y_run (by rfl) (fun W => by have d := W18.out; go_simp)) ?_
      (try simp only [zP, zN, zA, zB, zC])
      refine pu_ (v := .int .i64 pw) (y_run (by rfl) (fun W => by have d := W19.out; have d2 := P19.out; have d3 := J64.out; go_simp)) ?_
      (try simp only [zP, zN, zA, zB, zC])
      refine pu_ (v := .int .i64 (nn + pw)) (y_run (by rfl) (fun W => by have d := W20.out; go_simp)) ?_
      (try simp only [zP, zN, zA, zB, zC])
      refine pu_ (v := .int .i64 (nn + pw)) (y_assign rfl (by rfl) (by rfl)) ?_
      (try simp only [zP, zN, zA, zB, zC])
      refine nl_ (hK35 _ _ ?_); clear hK35 K35
      refine s_ (fun K36 hK36 => ?_)
      refine pu_ (v := .int .i64 (nn + pw)) (y_move rfl (by rfl) (by rfl)) ?_
      (try simp only [zP, zN, zA, zB, zC])
      refine pu_ (v := .pointer (some ⟨g3, 1, none⟩)) (y_run (by rfl) (fun W => by go_simp)) ?_
      (try simp only [zP, zN, zA, zB, zC])
      refine ld_ (v := .int .i64 m) rfl (by rfl) (by rfl) (run_load_one ((Fg3.out.cell 1).trans rfl) Try.underlying3 rfl) ?_
      (try simp only [zP, zN, zA, zB, zC])
      refine pu_ (v := .bool false) (y_run (by rfl) (fun W => by have d := D24.out; go_simp)) ?_
      (try simp only [zP, zN, zA, zB, zC])
      refine pu_ (v := .bool false) (y_move rfl (by rfl) (by rfl)) ?_
      (try simp only [zP, zN, zA, zB, zC])
      refine pu_ (y_off (by rfl)) ?_
      (try simp only [zP, zN, zA, zB, zC])
      refine pu_ (y_off (by rfl)) ?_
      (try simp only [zP, zN, zA, zB, zC])
      refine pu_ (y_off (by rfl)) ?_
      (try simp only [zP, zN, zA, zB, zC])
      refine pu_ (y_off (by rfl)) ?_
      (try simp only [zP, zN, zA, zB, zC])
      refine pu_ (y_off (by rfl)) ?_
      (try simp only [zP, zN, zA, zB, zC])
      refine pu_ (v := .bool false) (y_pick (t := false) (by rfl) rfl (by rfl) (by rfl)) ?_
      (try simp only [zP, zN, zA, zB, zC])
      refine nl_ (hK36 _ _ ?_); clear hK36 K36
      refine wp_cond_false rfl ?_
      refine wp_skip ?_
      refine ib_norm ?_
      refine th_norm (hK34 _ _ ?_); try clear hK34 K34
      refine r_ ?_
      refine pu_ (v := .int .i64 i) (y_move rfl (by rfl) (by rfl)) ?_
      (try simp only [zP, zN, zA, zB, zC])
      refine pu_ (v := .int .i64 ((j : Int) - 1)) (y_run (by rfl) (fun W => by have d := W15.out; go_simp)) ?_
      (try simp only [zP, zN, zA, zB, zC])
      refine pu_ (v := .int .i64 ((j : Int) - 1)) (y_assign rfl (by rfl) (by rfl)) ?_
      (try simp only [zP, zN, zA, zB, zC])
      refine nl_ ?_
      exact th_norm (hK17 (j) _ _ (by have := hk.out; have := HJ.out; omega) ⟨j, p, nn, ((j : Int) - 1), fun us_ => (#[us 0, .int .i64 p, .pointer (some ⟨g3, 0, none⟩), us 3, .int .i64 0, .int .i64 nn, .int .i64 ((j : Int) - 1), .int .i64 (nn + pw), us 8, us 9, us 10, us 11, .int .i64 i, .bool true, .int .i64 i, .int .i64 ((j : Int) - 1), .int .i64 nn, .int .i64 i, .int .u64 j, .int .i64 pw, .int .i64 (nn + pw), .int .i64 (nn + pw), .pointer (some ⟨g3, 1, none⟩), .int .i64 m, .bool false, .bool false, undef, undef, undef, undef, undef, .bool false, us 32, us 33] : Array Value).getD us_ undef, rfl, C0, Fg3, Lib.hid ⟨by have := hk.out; have := HJ.out; omega, rfl, rfl⟩, hp, Lib.hid (by rw [← HPW.out]; have := HN.out; have := HH.out; have := HTM.out; have := HB.out; omega)⟩)
    · have D13 := Lib.hid (show decide (i ≥ 0) = false from decide_eq_false (by have := hk.out; omega))
      have HR := Lib.hid (show nn = limZ m pc by rw [lim_top, ← hp.out.1]; have h9 := hn.out; rw [h] at h9; omega)
      clear h
      refine s_ (fun K37 hK37 => ?_)
      refine pu_ (v := .int .i64 i) (y_move rfl (by rfl) (by rfl)) ?_
      (try simp only [zP, zN, zA, zB, zC])
      refine pu_ (v := .bool false) (y_run (by rfl) (fun W => by have d := D13.out; go_simp)) ?_
      (try simp only [zP, zN, zA, zB, zC])
      refine nl_ (hK37 _ _ ?_); clear hK37 K37
      refine wp_cond_false rfl ?_
      refine wp_exit ?_
      refine th_exit ?_
      refine th_exit ?_
      refine ib_exit ?_
      refine th_norm (hK14 _ _ ?_); try clear hK14 K14
      refine s_ (fun K38 hK38 => ?_)
      refine pu_ (v := .int .i64 nn) (y_move rfl (by rfl) (by rfl)) ?_
      (try simp only [zP, zN, zA, zB, zC])
      refine pu_ (v := .int .i64 nn) (y_assign rfl (by rfl) (by rfl)) ?_
      (try simp only [zP, zN, zA, zB, zC])
      refine nl_ (hK38 _ _ ?_); clear hK38 K38
      refine wp_ret ?_
      refine hQ _ _ _ ?_
      refine bodyPost_ret (res1 rfl (rdv_tmp (v := .int .i64 nn) (by rfl))) rfl ?_
      exact ⟨by rw [HR.out], C0.out⟩
  · have HH := Lib.hid h
    clear h
    have D9 := Lib.hid (show decide (pc < 0) = false from decide_eq_false (by have := HH.out; omega))
    have D11 := Lib.hid (show decide (pc > 100) = true from decide_eq_true (by have := HH.out; omega))
    refine s_ (fun K39 hK39 => ?_)
    refine pu_ (v := .int .i64 pc) (y_move rfl (by rfl) (by rfl)) ?_
    (try simp only [zP, zN, zA, zB, zC])
    refine pu_ (v := .bool false) (y_run (by rfl) (fun W => by have d := D9.out; go_simp)) ?_
    (try simp only [zP, zN, zA, zB, zC])
    refine nl_ (hK39 _ _ ?_); clear hK39 K39
    refine wp_cond_false rfl ?_
    refine wp_skip ?_
    refine th_norm (hK9 _ _ ?_); try clear hK9 K9
    refine sq_ (fun K40 hK40 => ?_)
    refine s_ (fun K41 hK41 => ?_)
    refine pu_ (v := .int .i64 pc) (y_move rfl (by rfl) (by rfl)) ?_
    (try simp only [zP, zN, zA, zB, zC])
    refine pu_ (v := .bool true) (y_run (by rfl) (fun W => by have d := D11.out; go_simp)) ?_
    (try simp only [zP, zN, zA, zB, zC])
    refine nl_ (hK41 _ _ ?_); clear hK41 K41
    refine wp_cond_true rfl ?_
    refine r_ ?_
    refine pu_ (v := .int .i64 100) (y_assign rfl (by rfl) (by rfl)) ?_
    (try simp only [zP, zN, zA, zB, zC])
    refine nl_ ?_
    refine th_norm (hK40 _ _ ?_); try clear hK40 K40
    refine s_ (fun K42 hK42 => ?_)
    refine pu_ (v := .int .i64 0) (y_assign rfl (by rfl) (by rfl)) ?_
    (try simp only [zP, zN, zA, zB, zC])
    refine nl_ (hK42 _ _ ?_); clear hK42 K42
    refine sq_ (fun K43 hK43 => ?_)
    refine s_ (fun K44 hK44 => ?_)
    refine pu_ (v := .int .i64 60) (y_assign rfl (by rfl) (by rfl)) ?_
    (try simp only [zP, zN, zA, zB, zC])
    refine nl_ (hK44 _ _ ?_); clear hK44 K44
    refine wp_block ?_
    refine loopk_ (fun (kq : Nat) (a' : Act) (w' : World) => ∃ (k : Nat), ∃ (p : Int), ∃ (nn : Int), ∃ (i : Int), ∃ (us : Nat → Value), a' = ⟨#[us 0, .int .i64 p, .pointer (some ⟨g3, 0, none⟩), us 3, .int .i64 0, .int .i64 nn, .int .i64 i, us 7, us 8, us 9, us 10, us 11, us 12, us 13, us 14, us 15, us 16, us 17, us 18, us 19, us 20, us 21, us 22, us 23, us 24, us 25, us 26, us 27, us 28, us 29, us 30, us 31, us 32, us 33], []⟩ ∧ Hid (Ch [] w w') ∧ Hid (Blk w' g3 (#[.int .i64 c, .int .i64 m, .int .i64 e]) 23) ∧ Hid (k ≤ 61 ∧ kq = k ∧ i = (k : Int) - 1) ∧ Hid (p = min (max pc 0) 100 ∧ 0 ≤ p ∧ p ≤ 100) ∧ Hid (0 ≤ nn ∧ nn ≤ topZ m p ∧ topZ m p < nn + 2 ^ k)) (61) (⟨61, 100, 0, 60, fun us_ => (#[.agg #[.int .i64 c, .int .i64 m, .int .i64 e], .int .i64 100, .pointer (some ⟨g3, 0, none⟩), undef, .int .i64 0, .int .i64 0, .int .i64 60, undef, .int .i64 pc, .bool false, .int .i64 pc, .bool true, undef, undef, undef, undef, undef, undef, undef, undef, undef, undef, undef, undef, undef, undef, undef, undef, undef, undef, undef, undef, undef, undef] : Array Value).getD us_ undef, rfl, C0, Fg3, Lib.hid ⟨by omega, rfl, by omega⟩, Lib.hid (by have := HH.out; omega), Lib.hid (by have h9 := top_le (m := m) (p := 100) HM.out.1 (by have := HH.out; omega); have h8 := HM.out; unfold SmallZ at h8; exact ⟨by omega, h9.1, by have : (2 : Int) ^ 61 = 2305843009213693952 := (by decide); omega⟩)⟩) ?_
    rintro kq _ w45 ⟨k, p, nn, i, us, rfl, C0, Fg3, hk, hp, hn⟩ K46 hK46
    refine sq_ (fun K47 hK47 => ?_)
    rcases limit_ways m p nn k (hk := hk.out.1) with h | h | h | h
    · obtain ⟨j, hj, pw, hpw, hpw1, hpw2, h⟩ := h
      have HJ := Lib.hid hj; have HPW := Lib.hid hpw; have HB := Lib.hid (And.intro hpw1 hpw2); have HH := Lib.hid h; clear hj hpw hpw1 hpw2 h
      have D13 := Lib.hid (show decide (i ≥ 0) = true from decide_eq_true (by have := hk.out; have := HJ.out; omega))
      have HTM := Lib.hid (top_le (m := m) (p := p) HM.out.1 hp.out.2)
      have HM2 := Lib.hid (show m ≤ 1152921504606846976 from HM.out.2)
      have EI := Lib.hid (show i = (j : Int) by have := hk.out; have := HJ.out; omega)
      have W18 := Lib.hid (show IntKind.u64.wrap i = (j : Int) by rw [EI.out]; exact wu64 (by have := hk.out; have := HJ.out; omega))
      have W19 := Lib.hid (show IntKind.i64.wrap pw = pw from wr64 (by have := HB.out; omega))
      have J64 := Lib.hid (show j < 64 by have := hk.out; have := HJ.out; omega)
      have P19 := Lib.hid (show ((2 : Int) ^ j) = pw from HPW.out.symm)
      have W20 := Lib.hid (show IntKind.i64.wrap (nn + pw) = nn + pw from wr64 (by have := HB.out; have := hn.out; have := HTM.out; have := HM2.out; omega))
      have W15 := Lib.hid (show IntKind.i64.wrap (i - 1) = (j : Int) - 1 by rw [EI.out]; exact wr64 (by have := J64.out; omega))
      have HN := Lib.hid (show 0 ≤ nn ∧ nn ≤ topZ m p ∧ topZ m p < nn + 2 * pw by have h9 := hn.out; rw [HJ.out, Int.pow_succ, ← HPW.out] at h9; omega)
      have D24 := Lib.hid (show decide (nn + pw ≤ m) = true from decide_eq_true (by have := HH.out; have := HTM.out; omega))
      have HF := Lib.hid (show fitsB (nn + pw) m p = true from decide_eq_true (fits_top.2 HH.out))
      refine s_ (fun K48 hK48 => ?_)
      refine pu_ (v := .int .i64 i) (y_move rfl (by rfl) (by rfl)) ?_
      (try simp only [zP, zN, zA, zB, zC])
      refine pu_ (v := .bool true) (y_run (by rfl) (fun W => by have d := D13.out; go_simp)) ?_
      (try simp only [zP, zN, zA, zB, zC])
      refine nl_ (hK48 _ _ ?_); clear hK48 K48
      refine wp_cond_true rfl ?_
      refine wp_skip ?_
      refine th_norm (hK47 _ _ ?_); try clear hK47 K47
      refine sq_ (fun K49 hK49 => ?_)
      refine wp_block ?_
      refine s_ (fun K50 hK50 => ?_)
      refine pu_ (v := .int .i64 nn) (y_move rfl (by rfl) (by rfl)) ?_
      (try simp only [zP, zN, zA, zB, zC])
      refine pu_ (v := .int .i64 i) (y_move rfl (by rfl) (by rfl)) ?_
      (try simp only [zP, zN, zA, zB, zC])
      refine pu_ (v := .int .u64 j) (y_run (by rfl) (fun W => by have d := W18.out; go_simp)) ?_
      (try simp only [zP, zN, zA, zB, zC])
      refine pu_ (v := .int .i64 pw) (y_run (by rfl) (fun W => by have d := W19.out; have d2 := P19.out; have d3 := J64.out; go_simp)) ?_
      (try simp only [zP, zN, zA, zB, zC])
      refine pu_ (v := .int .i64 (nn + pw)) (y_run (by rfl) (fun W => by have d := W20.out; go_simp)) ?_
      (try simp only [zP, zN, zA, zB, zC])
      refine pu_ (v := .int .i64 (nn + pw)) (y_assign rfl (by rfl) (by rfl)) ?_
      (try simp only [zP, zN, zA, zB, zC])
      refine nl_ (hK50 _ _ ?_); clear hK50 K50
      refine s_ (fun K51 hK51 => ?_)
      refine pu_ (v := .int .i64 (nn + pw)) (y_move rfl (by rfl) (by rfl)) ?_
      (try simp only [zP, zN, zA, zB, zC])
      refine pu_ (v := .pointer (some ⟨g3, 1, none⟩)) (y_run (by rfl) (fun W => by go_simp)) ?_
      (try simp only [zP, zN, zA, zB, zC])
      refine ld_ (v := .int .i64 m) rfl (by rfl) (by rfl) (run_load_one ((Fg3.out.cell 1).trans rfl) Try.underlying3 rfl) ?_
      (try simp only [zP, zN, zA, zB, zC])
      refine pu_ (v := .bool true) (y_run (by rfl) (fun W => by have d := D24.out; go_simp)) ?_
      (try simp only [zP, zN, zA, zB, zC])
      refine pu_ (v := .bool true) (y_move rfl (by rfl) (by rfl)) ?_
      (try simp only [zP, zN, zA, zB, zC])
      refine pu_ (v := .int .i64 (nn + pw)) (y_move rfl (by rfl) (by rfl)) ?_
      (try simp only [zP, zN, zA, zB, zC])
      refine pu_ (v := .pointer (some ⟨g3, 1, none⟩)) (y_run (by rfl) (fun W => by go_simp)) ?_
      (try simp only [zP, zN, zA, zB, zC])
      refine ld_ (v := .int .i64 m) rfl (by rfl) (by rfl) (run_load_one ((Fg3.out.cell 1).trans rfl) Try.underlying3 rfl) ?_
      (try simp only [zP, zN, zA, zB, zC])
      refine pu_ (v := .int .i64 p) (y_move rfl (by rfl) (by rfl)) ?_
      (try simp only [zP, zN, zA, zB, zC])
      refine ef_ (fun K52 hK52 => ?_)
      refine e_call Try.func20 (by kernel_rfl) rfl #[.int .i64 (nn + pw), .int .i64 m, .int .i64 p] (by rfl) rfl rfl (by first | rfl | (simp only [List.map_toArray, List.map_cons, List.map_nil]; first | done | rfl)) ((by have h9 := fits_ (w := w45) (a := nn + pw) (b := m) (p := p) (Lib.hid (by have := HB.out; have := hn.out; have := HH.out; have := HTM.out; have := HM2.out; omega)) (Lib.hid HM.out) (Lib.hid hp.out.2); rw [HF.out] at h9; exact h9)) ?_
      rintro en w54 ⟨rfl, cc53⟩
      refine ⟨_, rfl, ?_⟩
      have C0' := Lib.hid (show Ch [] w w54 from C0.out.trans' cc53 (fun x hx => absurd hx (by simp)))
      have Fg3' := Lib.hid (show Blk w54 g3 (#[.int .i64 c, .int .i64 m, .int .i64 e]) 23 from cc53.blk Fg3.out nin_nil)
      clear C0 Fg3
      have C0 := C0'; clear C0'
      have Fg3 := Fg3'; clear Fg3'
      clear cc53
      refine hK52 _ _ ?_; clear hK52 K52
      (try simp only [zP, zN, zA, zB, zC])
      refine pu_ (v := .bool true) (y_pick (t := true) (by rfl) rfl (by rfl) (by rfl)) ?_
      (try simp only [zP, zN, zA, zB, zC])
      refine nl_ (hK51 _ _ ?_); clear hK51 K51
      refine wp_cond_true rfl ?_
      refine r_ ?_
      refine pu_ (v := .int .i64 (nn + pw)) (y_move rfl (by rfl) (by rfl)) ?_
      (try simp only [zP, zN, zA, zB, zC])
      refine pu_ (v := .int .i64 (nn + pw)) (y_assign rfl (by rfl) (by rfl)) ?_
      (try simp only [zP, zN, zA, zB, zC])
      refine nl_ ?_
      refine ib_norm ?_
      refine th_norm (hK49 _ _ ?_); try clear hK49 K49
      refine r_ ?_
      refine pu_ (v := .int .i64 i) (y_move rfl (by rfl) (by rfl)) ?_
      (try simp only [zP, zN, zA, zB, zC])
      refine pu_ (v := .int .i64 ((j : Int) - 1)) (y_run (by rfl) (fun W => by have d := W15.out; go_simp)) ?_
      (try simp only [zP, zN, zA, zB, zC])
      refine pu_ (v := .int .i64 ((j : Int) - 1)) (y_assign rfl (by rfl) (by rfl)) ?_
      (try simp only [zP, zN, zA, zB, zC])
      refine nl_ ?_
      exact th_norm (hK46 (j) _ _ (by have := hk.out; have := HJ.out; omega) ⟨j, p, (nn + pw), ((j : Int) - 1), fun us_ => (#[us 0, .int .i64 p, .pointer (some ⟨g3, 0, none⟩), us 3, .int .i64 0, .int .i64 (nn + pw), .int .i64 ((j : Int) - 1), .int .i64 (nn + pw), us 8, us 9, us 10, us 11, .int .i64 i, .bool true, .int .i64 i, .int .i64 ((j : Int) - 1), .int .i64 nn, .int .i64 i, .int .u64 j, .int .i64 pw, .int .i64 (nn + pw), .int .i64 (nn + pw), .pointer (some ⟨g3, 1, none⟩), .int .i64 m, .bool true, .bool true, .int .i64 (nn + pw), .pointer (some ⟨g3, 1, none⟩), .int .i64 m, .int .i64 p, .bool true, .bool true, .int .i64 (nn + pw), us 33] : Array Value).getD us_ undef, rfl, C0, Fg3, Lib.hid ⟨by have := hk.out; have := HJ.out; omega, rfl, rfl⟩, hp, Lib.hid (by rw [← HPW.out]; have := HN.out; have := HH.out; have := HTM.out; have := HB.out; omega)⟩)
    · obtain ⟨j, hj, pw, hpw, hpw1, hpw2, h⟩ := h
      have HJ := Lib.hid hj; have HPW := Lib.hid hpw; have HB := Lib.hid (And.intro hpw1 hpw2); have HH := Lib.hid h; clear hj hpw hpw1 hpw2 h
      have D13 := Lib.hid (show decide (i ≥ 0) = true from decide_eq_true (by have := hk.out; have := HJ.out; omega))
      have HTM := Lib.hid (top_le (m := m) (p := p) HM.out.1 hp.out.2)
      have HM2 := Lib.hid (show m ≤ 1152921504606846976 from HM.out.2)
      have EI := Lib.hid (show i = (j : Int) by have := hk.out; have := HJ.out; omega)
      have W18 := Lib.hid (show IntKind.u64.wrap i = (j : Int) by rw [EI.out]; exact wu64 (by have := hk.out; have := HJ.out; omega))
      have W19 := Lib.hid (show IntKind.i64.wrap pw = pw from wr64 (by have := HB.out; omega))
      have J64 := Lib.hid (show j < 64 by have := hk.out; have := HJ.out; omega)
      have P19 := Lib.hid (show ((2 : Int) ^ j) = pw from HPW.out.symm)
      have W20 := Lib.hid (show IntKind.i64.wrap (nn + pw) = nn + pw from wr64 (by have := HB.out; have := hn.out; have := HTM.out; have := HM2.out; omega))
      have W15 := Lib.hid (show IntKind.i64.wrap (i - 1) = (j : Int) - 1 by rw [EI.out]; exact wr64 (by have := J64.out; omega))
      have HN := Lib.hid (show 0 ≤ nn ∧ nn ≤ topZ m p ∧ topZ m p < nn + 2 * pw by have h9 := hn.out; rw [HJ.out, Int.pow_succ, ← HPW.out] at h9; omega)
      have D24 := Lib.hid (show decide (nn + pw ≤ m) = true from decide_eq_true (by have := HH.out; have := HTM.out; omega))
      have HF := Lib.hid (show fitsB (nn + pw) m p = false from decide_eq_false (fun h9 => by have := fits_top.1 h9; have := HH.out; have := HTM.out; omega))
      refine s_ (fun K55 hK55 => ?_)
      refine pu_ (v := .int .i64 i) (y_move rfl (by rfl) (by rfl)) ?_
      (try simp only [zP, zN, zA, zB, zC])
      refine pu_ (v := .bool true) (y_run (by rfl) (fun W => by have d := D13.out; go_simp)) ?_
      (try simp only [zP, zN, zA, zB, zC])
      refine nl_ (hK55 _ _ ?_); clear hK55 K55
      refine wp_cond_true rfl ?_
      refine wp_skip ?_
      refine th_norm (hK47 _ _ ?_); try clear hK47 K47
      refine sq_ (fun K56 hK56 => ?_)
      refine wp_block ?_
      refine s_ (fun K57 hK57 => ?_)
      refine pu_ (v := .int .i64 nn) (y_move rfl (by rfl) (by rfl)) ?_
      (try simp only [zP, zN, zA, zB, zC])
      refine pu_ (v := .int .i64 i) (y_move rfl (by rfl) (by rfl)) ?_
      (try simp only [zP, zN, zA, zB, zC])
      refine pu_ (v := .int .u64 j) (y_run (by rfl) (fun W => by have d := W18.out; go_simp)) ?_
      (try simp only [zP, zN, zA, zB, zC])
      refine pu_ (v := .int .i64 pw) (y_run (by rfl) (fun W => by have d := W19.out; have d2 := P19.out; have d3 := J64.out; go_simp)) ?_
      (try simp only [zP, zN, zA, zB, zC])
      refine pu_ (v := .int .i64 (nn + pw)) (y_run (by rfl) (fun W => by have d := W20.out; go_simp)) ?_
      (try simp only [zP, zN, zA, zB, zC])
      refine pu_ (v := .int .i64 (nn + pw)) (y_assign rfl (by rfl) (by rfl)) ?_
      (try simp only [zP, zN, zA, zB, zC])
      refine nl_ (hK57 _ _ ?_); clear hK57 K57
      refine s_ (fun K58 hK58 => ?_)
      refine pu_ (v := .int .i64 (nn + pw)) (y_move rfl (by rfl) (by rfl)) ?_
      (try simp only [zP, zN, zA, zB, zC])
      refine pu_ (v := .pointer (some ⟨g3, 1, none⟩)) (y_run (by rfl) (fun W => by go_simp)) ?_
      (try simp only [zP, zN, zA, zB, zC])
      refine ld_ (v := .int .i64 m) rfl (by rfl) (by rfl) (run_load_one ((Fg3.out.cell 1).trans rfl) Try.underlying3 rfl) ?_
      (try simp only [zP, zN, zA, zB, zC])
      refine pu_ (v := .bool true) (y_run (by rfl) (fun W => by have d := D24.out; go_simp)) ?_
      (try simp only [zP, zN, zA, zB, zC])
      refine pu_ (v := .bool true) (y_move rfl (by rfl) (by rfl)) ?_
      (try simp only [zP, zN, zA, zB, zC])
      refine pu_ (v := .int .i64 (nn + pw)) (y_move rfl (by rfl) (by rfl)) ?_
      (try simp only [zP, zN, zA, zB, zC])
      refine pu_ (v := .pointer (some ⟨g3, 1, none⟩)) (y_run (by rfl) (fun W => by go_simp)) ?_
      (try simp only [zP, zN, zA, zB, zC])
      refine ld_ (v := .int .i64 m) rfl (by rfl) (by rfl) (run_load_one ((Fg3.out.cell 1).trans rfl) Try.underlying3 rfl) ?_
      (try simp only [zP, zN, zA, zB, zC])
      refine pu_ (v := .int .i64 p) (y_move rfl (by rfl) (by rfl)) ?_
      (try simp only [zP, zN, zA, zB, zC])
      refine ef_ (fun K59 hK59 => ?_)
      refine e_call Try.func20 (by kernel_rfl) rfl #[.int .i64 (nn + pw), .int .i64 m, .int .i64 p] (by rfl) rfl rfl (by first | rfl | (simp only [List.map_toArray, List.map_cons, List.map_nil]; first | done | rfl)) ((by have h9 := fits_ (w := w45) (a := nn + pw) (b := m) (p := p) (Lib.hid (by have := HB.out; have := hn.out; have := HH.out; have := HTM.out; have := HM2.out; omega)) (Lib.hid HM.out) (Lib.hid hp.out.2); rw [HF.out] at h9; exact h9)) ?_
      rintro en w61 ⟨rfl, cc60⟩
      refine ⟨_, rfl, ?_⟩
      have C0' := Lib.hid (show Ch [] w w61 from C0.out.trans' cc60 (fun x hx => absurd hx (by simp)))
      have Fg3' := Lib.hid (show Blk w61 g3 (#[.int .i64 c, .int .i64 m, .int .i64 e]) 23 from cc60.blk Fg3.out nin_nil)
      clear C0 Fg3
      have C0 := C0'; clear C0'
      have Fg3 := Fg3'; clear Fg3'
      clear cc60
      refine hK59 _ _ ?_; clear hK59 K59
      (try simp only [zP, zN, zA, zB, zC])
      refine pu_ (v := .bool false) (y_pick (t := true) (by rfl) rfl (by rfl) (by rfl)) ?_
      (try simp only [zP, zN, zA, zB, zC])
      refine nl_ (hK58 _ _ ?_); clear hK58 K58
      refine wp_cond_false rfl ?_
      refine wp_skip ?_
      refine ib_norm ?_
      refine th_norm (hK56 _ _ ?_); try clear hK56 K56
      refine r_ ?_
      refine pu_ (v := .int .i64 i) (y_move rfl (by rfl) (by rfl)) ?_
      (try simp only [zP, zN, zA, zB, zC])
      refine pu_ (v := .int .i64 ((j : Int) - 1)) (y_run (by rfl) (fun W => by have d := W15.out; go_simp)) ?_
      (try simp only [zP, zN, zA, zB, zC])
      refine pu_ (v := .int .i64 ((j : Int) - 1)) (y_assign rfl (by rfl) (by rfl)) ?_
      (try simp only [zP, zN, zA, zB, zC])
      refine nl_ ?_
      exact th_norm (hK46 (j) _ _ (by have := hk.out; have := HJ.out; omega) ⟨j, p, nn, ((j : Int) - 1), fun us_ => (#[us 0, .int .i64 p, .pointer (some ⟨g3, 0, none⟩), us 3, .int .i64 0, .int .i64 nn, .int .i64 ((j : Int) - 1), .int .i64 (nn + pw), us 8, us 9, us 10, us 11, .int .i64 i, .bool true, .int .i64 i, .int .i64 ((j : Int) - 1), .int .i64 nn, .int .i64 i, .int .u64 j, .int .i64 pw, .int .i64 (nn + pw), .int .i64 (nn + pw), .pointer (some ⟨g3, 1, none⟩), .int .i64 m, .bool true, .bool true, .int .i64 (nn + pw), .pointer (some ⟨g3, 1, none⟩), .int .i64 m, .int .i64 p, .bool false, .bool false, us 32, us 33] : Array Value).getD us_ undef, rfl, C0, Fg3, Lib.hid ⟨by have := hk.out; have := HJ.out; omega, rfl, rfl⟩, hp, Lib.hid (by rw [← HPW.out]; have := HN.out; have := HH.out; have := HTM.out; have := HB.out; omega)⟩)
    · obtain ⟨j, hj, pw, hpw, hpw1, hpw2, h⟩ := h
      have HJ := Lib.hid hj; have HPW := Lib.hid hpw; have HB := Lib.hid (And.intro hpw1 hpw2); have HH := Lib.hid h; clear hj hpw hpw1 hpw2 h
      have D13 := Lib.hid (show decide (i ≥ 0) = true from decide_eq_true (by have := hk.out; have := HJ.out; omega))
      have HTM := Lib.hid (top_le (m := m) (p := p) HM.out.1 hp.out.2)
      have HM2 := Lib.hid (show m ≤ 1152921504606846976 from HM.out.2)
      have EI := Lib.hid (show i = (j : Int) by have := hk.out; have := HJ.out; omega)
      have W18 := Lib.hid (show IntKind.u64.wrap i = (j : Int) by rw [EI.out]; exact wu64 (by have := hk.out; have := HJ.out; omega))
      have W19 := Lib.hid (show IntKind.i64.wrap pw = pw from wr64 (by have := HB.out; omega))
      have J64 := Lib.hid (show j < 64 by have := hk.out; have := HJ.out; omega)
      have P19 := Lib.hid (show ((2 : Int) ^ j) = pw from HPW.out.symm)
      have W20 := Lib.hid (show IntKind.i64.wrap (nn + pw) = nn + pw from wr64 (by have := HB.out; have := hn.out; have := HTM.out; have := HM2.out; omega))
      have W15 := Lib.hid (show IntKind.i64.wrap (i - 1) = (j : Int) - 1 by rw [EI.out]; exact wr64 (by have := J64.out; omega))
      have HN := Lib.hid (show 0 ≤ nn ∧ nn ≤ topZ m p ∧ topZ m p < nn + 2 * pw by have h9 := hn.out; rw [HJ.out, Int.pow_succ, ← HPW.out] at h9; omega)
      have D24 := Lib.hid (show decide (nn + pw ≤ m) = false from decide_eq_false (by have := HH.out; have := HTM.out; omega))
      refine s_ (fun K62 hK62 => ?_)
      refine pu_ (v := .int .i64 i) (y_move rfl (by rfl) (by rfl)) ?_
      (try simp only [zP, zN, zA, zB, zC])
      refine pu_ (v := .bool true) (y_run (by rfl) (fun W => by have d := D13.out; go_simp)) ?_
      (try simp only [zP, zN, zA, zB, zC])
      refine nl_ (hK62 _ _ ?_); clear hK62 K62
      refine wp_cond_true rfl ?_
      refine wp_skip ?_
      refine th_norm (hK47 _ _ ?_); try clear hK47 K47
      refine sq_ (fun K63 hK63 => ?_)
      refine wp_block ?_
      refine s_ (fun K64 hK64 => ?_)
      refine pu_ (v := .int .i64 nn) (y_move rfl (by rfl) (by rfl)) ?_
      (try simp only [zP, zN, zA, zB, zC])
      refine pu_ (v := .int .i64 i) (y_move rfl (by rfl) (by rfl)) ?_
      (try simp only [zP, zN, zA, zB, zC])
      refine pu_ (v := .int .u64 j) (y_run (by rfl) (fun W => by have d := W18.out; go_simp)) ?_
      (try simp only [zP, zN, zA, zB, zC])
      refine pu_ (v := .int .i64 pw) (y_run (by rfl) (fun W => by have d := W19.out; have d2 := P19.out; have d3 := J64.out; go_simp)) ?_
      (try simp only [zP, zN, zA, zB, zC])
      refine pu_ (v := .int .i64 (nn + pw)) (y_run (by rfl) (fun W => by have d := W20.out; go_simp)) ?_
      (try simp only [zP, zN, zA, zB, zC])
      refine pu_ (v := .int .i64 (nn + pw)) (y_assign rfl (by rfl) (by rfl)) ?_
      (try simp only [zP, zN, zA, zB, zC])
      refine nl_ (hK64 _ _ ?_); clear hK64 K64
      refine s_ (fun K65 hK65 => ?_)
      refine pu_ (v := .int .i64 (nn + pw)) (y_move rfl (by rfl) (by rfl)) ?_
      (try simp only [zP, zN, zA, zB, zC])
      refine pu_ (v := .pointer (some ⟨g3, 1, none⟩)) (y_run (by rfl) (fun W => by go_simp)) ?_
      (try simp only [zP, zN, zA, zB, zC])
      refine ld_ (v := .int .i64 m) rfl (by rfl) (by rfl) (run_load_one ((Fg3.out.cell 1).trans rfl) Try.underlying3 rfl) ?_
      (try simp only [zP, zN, zA, zB, zC])
      refine pu_ (v := .bool false) (y_run (by rfl) (fun W => by have d := D24.out; go_simp)) ?_
      (try simp only [zP, zN, zA, zB, zC])
      refine pu_ (v := .bool false) (y_move rfl (by rfl) (by rfl)) ?_
      (try simp only [zP, zN, zA, zB, zC])
      refine pu_ (y_off (by rfl)) ?_
      (try simp only [zP, zN, zA, zB, zC])
      refine pu_ (y_off (by rfl)) ?_
      (try simp only [zP, zN, zA, zB, zC])
      refine pu_ (y_off (by rfl)) ?_
      (try simp only [zP, zN, zA, zB, zC])
      refine pu_ (y_off (by rfl)) ?_
      (try simp only [zP, zN, zA, zB, zC])
      refine pu_ (y_off (by rfl)) ?_
      (try simp only [zP, zN, zA, zB, zC])
      refine pu_ (v := .bool false) (y_pick (t := false) (by rfl) rfl (by rfl) (by rfl)) ?_
      (try simp only [zP, zN, zA, zB, zC])
      refine nl_ (hK65 _ _ ?_); clear hK65 K65
      refine wp_cond_false rfl ?_
      refine wp_skip ?_
      refine ib_norm ?_
      refine th_norm (hK63 _ _ ?_); try clear hK63 K63
      refine r_ ?_
      refine pu_ (v := .int .i64 i) (y_move rfl (by rfl) (by rfl)) ?_
      (try simp only [zP, zN, zA, zB, zC])
      refine pu_ (v := .int .i64 ((j : Int) - 1)) (y_run (by rfl) (fun W => by have d := W15.out; go_simp)) ?_
      (try simp only [zP, zN, zA, zB, zC])
      refine pu_ (v := .int .i64 ((j : Int) - 1)) (y_assign rfl (by rfl) (by rfl)) ?_
      (try simp only [zP, zN, zA, zB, zC])
      refine nl_ ?_
      exact th_norm (hK46 (j) _ _ (by have := hk.out; have := HJ.out; omega) ⟨j, p, nn, ((j : Int) - 1), fun us_ => (#[us 0, .int .i64 p, .pointer (some ⟨g3, 0, none⟩), us 3, .int .i64 0, .int .i64 nn, .int .i64 ((j : Int) - 1), .int .i64 (nn + pw), us 8, us 9, us 10, us 11, .int .i64 i, .bool true, .int .i64 i, .int .i64 ((j : Int) - 1), .int .i64 nn, .int .i64 i, .int .u64 j, .int .i64 pw, .int .i64 (nn + pw), .int .i64 (nn + pw), .pointer (some ⟨g3, 1, none⟩), .int .i64 m, .bool false, .bool false, undef, undef, undef, undef, undef, .bool false, us 32, us 33] : Array Value).getD us_ undef, rfl, C0, Fg3, Lib.hid ⟨by have := hk.out; have := HJ.out; omega, rfl, rfl⟩, hp, Lib.hid (by rw [← HPW.out]; have := HN.out; have := HH.out; have := HTM.out; have := HB.out; omega)⟩)
    · have D13 := Lib.hid (show decide (i ≥ 0) = false from decide_eq_false (by have := hk.out; omega))
      have HR := Lib.hid (show nn = limZ m pc by rw [lim_top, ← hp.out.1]; have h9 := hn.out; rw [h] at h9; omega)
      clear h
      refine s_ (fun K66 hK66 => ?_)
      refine pu_ (v := .int .i64 i) (y_move rfl (by rfl) (by rfl)) ?_
      (try simp only [zP, zN, zA, zB, zC])
      refine pu_ (v := .bool false) (y_run (by rfl) (fun W => by have d := D13.out; go_simp)) ?_
      (try simp only [zP, zN, zA, zB, zC])
      refine nl_ (hK66 _ _ ?_); clear hK66 K66
      refine wp_cond_false rfl ?_
      refine wp_exit ?_
      refine th_exit ?_
      refine th_exit ?_
      refine ib_exit ?_
      refine th_norm (hK43 _ _ ?_); try clear hK43 K43
      refine s_ (fun K67 hK67 => ?_)
      refine pu_ (v := .int .i64 nn) (y_move rfl (by rfl) (by rfl)) ?_
      (try simp only [zP, zN, zA, zB, zC])
      refine pu_ (v := .int .i64 nn) (y_assign rfl (by rfl) (by rfl)) ?_
      (try simp only [zP, zN, zA, zB, zC])
      refine nl_ (hK67 _ _ ?_); clear hK67 K67
      refine wp_ret ?_
      refine hQ _ _ _ ?_
      refine bodyPost_ret (res1 rfl (rdv_tmp (v := .int .i64 nn) (by rfl))) rfl ?_
      exact ⟨by rw [HR.out], C0.out⟩
  · have HH := Lib.hid h
    clear h
    have D9 := Lib.hid (show decide (pc < 0) = false from decide_eq_false (by have := HH.out; omega))
    have D11 := Lib.hid (show decide (pc > 100) = false from decide_eq_false (by have := HH.out; omega))
    refine s_ (fun K68 hK68 => ?_)
    refine pu_ (v := .int .i64 pc) (y_move rfl (by rfl) (by rfl)) ?_
    (try simp only [zP, zN, zA, zB, zC])
    refine pu_ (v := .bool false) (y_run (by rfl) (fun W => by have d := D9.out; go_simp)) ?_
    (try simp only [zP, zN, zA, zB, zC])
    refine nl_ (hK68 _ _ ?_); clear hK68 K68
    refine wp_cond_false rfl ?_
    refine wp_skip ?_
    refine th_norm (hK9 _ _ ?_); try clear hK9 K9
    refine sq_ (fun K69 hK69 => ?_)
    refine s_ (fun K70 hK70 => ?_)
    refine pu_ (v := .int .i64 pc) (y_move rfl (by rfl) (by rfl)) ?_
    (try simp only [zP, zN, zA, zB, zC])
    refine pu_ (v := .bool false) (y_run (by rfl) (fun W => by have d := D11.out; go_simp)) ?_
    (try simp only [zP, zN, zA, zB, zC])
    refine nl_ (hK70 _ _ ?_); clear hK70 K70
    refine wp_cond_false rfl ?_
    refine wp_skip ?_
    refine th_norm (hK69 _ _ ?_); try clear hK69 K69
    refine s_ (fun K71 hK71 => ?_)
    refine pu_ (v := .int .i64 0) (y_assign rfl (by rfl) (by rfl)) ?_
    (try simp only [zP, zN, zA, zB, zC])
    refine nl_ (hK71 _ _ ?_); clear hK71 K71
    refine sq_ (fun K72 hK72 => ?_)
    refine s_ (fun K73 hK73 => ?_)
    refine pu_ (v := .int .i64 60) (y_assign rfl (by rfl) (by rfl)) ?_
    (try simp only [zP, zN, zA, zB, zC])
    refine nl_ (hK73 _ _ ?_); clear hK73 K73
    refine wp_block ?_
    refine loopk_ (fun (kq : Nat) (a' : Act) (w' : World) => ∃ (k : Nat), ∃ (p : Int), ∃ (nn : Int), ∃ (i : Int), ∃ (us : Nat → Value), a' = ⟨#[us 0, .int .i64 p, .pointer (some ⟨g3, 0, none⟩), us 3, .int .i64 0, .int .i64 nn, .int .i64 i, us 7, us 8, us 9, us 10, us 11, us 12, us 13, us 14, us 15, us 16, us 17, us 18, us 19, us 20, us 21, us 22, us 23, us 24, us 25, us 26, us 27, us 28, us 29, us 30, us 31, us 32, us 33], []⟩ ∧ Hid (Ch [] w w') ∧ Hid (Blk w' g3 (#[.int .i64 c, .int .i64 m, .int .i64 e]) 23) ∧ Hid (k ≤ 61 ∧ kq = k ∧ i = (k : Int) - 1) ∧ Hid (p = min (max pc 0) 100 ∧ 0 ≤ p ∧ p ≤ 100) ∧ Hid (0 ≤ nn ∧ nn ≤ topZ m p ∧ topZ m p < nn + 2 ^ k)) (61) (⟨61, pc, 0, 60, fun us_ => (#[.agg #[.int .i64 c, .int .i64 m, .int .i64 e], .int .i64 pc, .pointer (some ⟨g3, 0, none⟩), undef, .int .i64 0, .int .i64 0, .int .i64 60, undef, .int .i64 pc, .bool false, .int .i64 pc, .bool false, undef, undef, undef, undef, undef, undef, undef, undef, undef, undef, undef, undef, undef, undef, undef, undef, undef, undef, undef, undef, undef, undef] : Array Value).getD us_ undef, rfl, C0, Fg3, Lib.hid ⟨by omega, rfl, by omega⟩, Lib.hid (by have := HH.out; omega), Lib.hid (by have h9 := top_le (m := m) (p := pc) HM.out.1 (by have := HH.out; omega); have h8 := HM.out; unfold SmallZ at h8; exact ⟨by omega, h9.1, by have : (2 : Int) ^ 61 = 2305843009213693952 := (by decide); omega⟩)⟩) ?_
    rintro kq _ w74 ⟨k, p, nn, i, us, rfl, C0, Fg3, hk, hp, hn⟩ K75 hK75
    refine sq_ (fun K76 hK76 => ?_)
    rcases limit_ways m p nn k (hk := hk.out.1) with h | h | h | h
    · obtain ⟨j, hj, pw, hpw, hpw1, hpw2, h⟩ := h
      have HJ := Lib.hid hj; have HPW := Lib.hid hpw; have HB := Lib.hid (And.intro hpw1 hpw2); have HH := Lib.hid h; clear hj hpw hpw1 hpw2 h
      have D13 := Lib.hid (show decide (i ≥ 0) = true from decide_eq_true (by have := hk.out; have := HJ.out; omega))
      have HTM := Lib.hid (top_le (m := m) (p := p) HM.out.1 hp.out.2)
      have HM2 := Lib.hid (show m ≤ 1152921504606846976 from HM.out.2)
      have EI := Lib.hid (show i = (j : Int) by have := hk.out; have := HJ.out; omega)
      have W18 := Lib.hid (show IntKind.u64.wrap i = (j : Int) by rw [EI.out]; exact wu64 (by have := hk.out; have := HJ.out; omega))
      have W19 := Lib.hid (show IntKind.i64.wrap pw = pw from wr64 (by have := HB.out; omega))
      have J64 := Lib.hid (show j < 64 by have := hk.out; have := HJ.out; omega)
      have P19 := Lib.hid (show ((2 : Int) ^ j) = pw from HPW.out.symm)
      have W20 := Lib.hid (show IntKind.i64.wrap (nn + pw) = nn + pw from wr64 (by have := HB.out; have := hn.out; have := HTM.out; have := HM2.out; omega))
      have W15 := Lib.hid (show IntKind.i64.wrap (i - 1) = (j : Int) - 1 by rw [EI.out]; exact wr64 (by have := J64.out; omega))
      have HN := Lib.hid (show 0 ≤ nn ∧ nn ≤ topZ m p ∧ topZ m p < nn + 2 * pw by have h9 := hn.out; rw [HJ.out, Int.pow_succ, ← HPW.out] at h9; omega)
      have D24 := Lib.hid (show decide (nn + pw ≤ m) = true from decide_eq_true (by have := HH.out; have := HTM.out; omega))
      have HF := Lib.hid (show fitsB (nn + pw) m p = true from decide_eq_true (fits_top.2 HH.out))
      refine s_ (fun K77 hK77 => ?_)
      refine pu_ (v := .int .i64 i) (y_move rfl (by rfl) (by rfl)) ?_
      (try simp only [zP, zN, zA, zB, zC])
      refine pu_ (v := .bool true) (y_run (by rfl) (fun W => by have d := D13.out; go_simp)) ?_
      (try simp only [zP, zN, zA, zB, zC])
      refine nl_ (hK77 _ _ ?_); clear hK77 K77
      refine wp_cond_true rfl ?_
      refine wp_skip ?_
      refine th_norm (hK76 _ _ ?_); try clear hK76 K76
      refine sq_ (fun K78 hK78 => ?_)
      refine wp_block ?_
      refine s_ (fun K79 hK79 => ?_)
      refine pu_ (v := .int .i64 nn) (y_move rfl (by rfl) (by rfl)) ?_
      (try simp only [zP, zN, zA, zB, zC])
      refine pu_ (v := .int .i64 i) (y_move rfl (by rfl) (by rfl)) ?_
      (try simp only [zP, zN, zA, zB, zC])
      refine pu_ (v := .int .u64 j) (y_run (by rfl) (fun W => by have d := W18.out; go_simp)) ?_
      (try simp only [zP, zN, zA, zB, zC])
      refine pu_ (v := .int .i64 pw) (y_run (by rfl) (fun W => by have d := W19.out; have d2 := P19.out; have d3 := J64.out; go_simp)) ?_
      (try simp only [zP, zN, zA, zB, zC])
      refine pu_ (v := .int .i64 (nn + pw)) (y_run (by rfl) (fun W => by have d := W20.out; go_simp)) ?_
      (try simp only [zP, zN, zA, zB, zC])
      refine pu_ (v := .int .i64 (nn + pw)) (y_assign rfl (by rfl) (by rfl)) ?_
      (try simp only [zP, zN, zA, zB, zC])
      refine nl_ (hK79 _ _ ?_); clear hK79 K79
      refine s_ (fun K80 hK80 => ?_)
      refine pu_ (v := .int .i64 (nn + pw)) (y_move rfl (by rfl) (by rfl)) ?_
      (try simp only [zP, zN, zA, zB, zC])
      refine pu_ (v := .pointer (some ⟨g3, 1, none⟩)) (y_run (by rfl) (fun W => by go_simp)) ?_
      (try simp only [zP, zN, zA, zB, zC])
      refine ld_ (v := .int .i64 m) rfl (by rfl) (by rfl) (run_load_one ((Fg3.out.cell 1).trans rfl) Try.underlying3 rfl) ?_
      (try simp only [zP, zN, zA, zB, zC])
      refine pu_ (v := .bool true) (y_run (by rfl) (fun W => by have d := D24.out; go_simp)) ?_
      (try simp only [zP, zN, zA, zB, zC])
      refine pu_ (v := .bool true) (y_move rfl (by rfl) (by rfl)) ?_
      (try simp only [zP, zN, zA, zB, zC])
      refine pu_ (v := .int .i64 (nn + pw)) (y_move rfl (by rfl) (by rfl)) ?_
      (try simp only [zP, zN, zA, zB, zC])
      refine pu_ (v := .pointer (some ⟨g3, 1, none⟩)) (y_run (by rfl) (fun W => by go_simp)) ?_
      (try simp only [zP, zN, zA, zB, zC])
      refine ld_ (v := .int .i64 m) rfl (by rfl) (by rfl) (run_load_one ((Fg3.out.cell 1).trans rfl) Try.underlying3 rfl) ?_
      (try simp only [zP, zN, zA, zB, zC])
      refine pu_ (v := .int .i64 p) (y_move rfl (by rfl) (by rfl)) ?_
      (try simp only [zP, zN, zA, zB, zC])
      refine ef_ (fun K81 hK81 => ?_)
      refine e_call Try.func20 (by kernel_rfl) rfl #[.int .i64 (nn + pw), .int .i64 m, .int .i64 p] (by rfl) rfl rfl (by first | rfl | (simp only [List.map_toArray, List.map_cons, List.map_nil]; first | done | rfl)) ((by have h9 := fits_ (w := w74) (a := nn + pw) (b := m) (p := p) (Lib.hid (by have := HB.out; have := hn.out; have := HH.out; have := HTM.out; have := HM2.out; omega)) (Lib.hid HM.out) (Lib.hid hp.out.2); rw [HF.out] at h9; exact h9)) ?_
      rintro en w83 ⟨rfl, cc82⟩
      refine ⟨_, rfl, ?_⟩
      have C0' := Lib.hid (show Ch [] w w83 from C0.out.trans' cc82 (fun x hx => absurd hx (by simp)))
      have Fg3' := Lib.hid (show Blk w83 g3 (#[.int .i64 c, .int .i64 m, .int .i64 e]) 23 from cc82.blk Fg3.out nin_nil)
      clear C0 Fg3
      have C0 := C0'; clear C0'
      have Fg3 := Fg3'; clear Fg3'
      clear cc82
      refine hK81 _ _ ?_; clear hK81 K81
      (try simp only [zP, zN, zA, zB, zC])
      refine pu_ (v := .bool true) (y_pick (t := true) (by rfl) rfl (by rfl) (by rfl)) ?_
      (try simp only [zP, zN, zA, zB, zC])
      refine nl_ (hK80 _ _ ?_); clear hK80 K80
      refine wp_cond_true rfl ?_
      refine r_ ?_
      refine pu_ (v := .int .i64 (nn + pw)) (y_move rfl (by rfl) (by rfl)) ?_
      (try simp only [zP, zN, zA, zB, zC])
      refine pu_ (v := .int .i64 (nn + pw)) (y_assign rfl (by rfl) (by rfl)) ?_
      (try simp only [zP, zN, zA, zB, zC])
      refine nl_ ?_
      refine ib_norm ?_
      refine th_norm (hK78 _ _ ?_); try clear hK78 K78
      refine r_ ?_
      refine pu_ (v := .int .i64 i) (y_move rfl (by rfl) (by rfl)) ?_
      (try simp only [zP, zN, zA, zB, zC])
      refine pu_ (v := .int .i64 ((j : Int) - 1)) (y_run (by rfl) (fun W => by have d := W15.out; go_simp)) ?_
      (try simp only [zP, zN, zA, zB, zC])
      refine pu_ (v := .int .i64 ((j : Int) - 1)) (y_assign rfl (by rfl) (by rfl)) ?_
      (try simp only [zP, zN, zA, zB, zC])
      refine nl_ ?_
      exact th_norm (hK75 (j) _ _ (by have := hk.out; have := HJ.out; omega) ⟨j, p, (nn + pw), ((j : Int) - 1), fun us_ => (#[us 0, .int .i64 p, .pointer (some ⟨g3, 0, none⟩), us 3, .int .i64 0, .int .i64 (nn + pw), .int .i64 ((j : Int) - 1), .int .i64 (nn + pw), us 8, us 9, us 10, us 11, .int .i64 i, .bool true, .int .i64 i, .int .i64 ((j : Int) - 1), .int .i64 nn, .int .i64 i, .int .u64 j, .int .i64 pw, .int .i64 (nn + pw), .int .i64 (nn + pw), .pointer (some ⟨g3, 1, none⟩), .int .i64 m, .bool true, .bool true, .int .i64 (nn + pw), .pointer (some ⟨g3, 1, none⟩), .int .i64 m, .int .i64 p, .bool true, .bool true, .int .i64 (nn + pw), us 33] : Array Value).getD us_ undef, rfl, C0, Fg3, Lib.hid ⟨by have := hk.out; have := HJ.out; omega, rfl, rfl⟩, hp, Lib.hid (by rw [← HPW.out]; have := HN.out; have := HH.out; have := HTM.out; have := HB.out; omega)⟩)
    · obtain ⟨j, hj, pw, hpw, hpw1, hpw2, h⟩ := h
      have HJ := Lib.hid hj; have HPW := Lib.hid hpw; have HB := Lib.hid (And.intro hpw1 hpw2); have HH := Lib.hid h; clear hj hpw hpw1 hpw2 h
      have D13 := Lib.hid (show decide (i ≥ 0) = true from decide_eq_true (by have := hk.out; have := HJ.out; omega))
      have HTM := Lib.hid (top_le (m := m) (p := p) HM.out.1 hp.out.2)
      have HM2 := Lib.hid (show m ≤ 1152921504606846976 from HM.out.2)
      have EI := Lib.hid (show i = (j : Int) by have := hk.out; have := HJ.out; omega)
      have W18 := Lib.hid (show IntKind.u64.wrap i = (j : Int) by rw [EI.out]; exact wu64 (by have := hk.out; have := HJ.out; omega))
      have W19 := Lib.hid (show IntKind.i64.wrap pw = pw from wr64 (by have := HB.out; omega))
      have J64 := Lib.hid (show j < 64 by have := hk.out; have := HJ.out; omega)
      have P19 := Lib.hid (show ((2 : Int) ^ j) = pw from HPW.out.symm)
      have W20 := Lib.hid (show IntKind.i64.wrap (nn + pw) = nn + pw from wr64 (by have := HB.out; have := hn.out; have := HTM.out; have := HM2.out; omega))
      have W15 := Lib.hid (show IntKind.i64.wrap (i - 1) = (j : Int) - 1 by rw [EI.out]; exact wr64 (by have := J64.out; omega))
      have HN := Lib.hid (show 0 ≤ nn ∧ nn ≤ topZ m p ∧ topZ m p < nn + 2 * pw by have h9 := hn.out; rw [HJ.out, Int.pow_succ, ← HPW.out] at h9; omega)
      have D24 := Lib.hid (show decide (nn + pw ≤ m) = true from decide_eq_true (by have := HH.out; have := HTM.out; omega))
      have HF := Lib.hid (show fitsB (nn + pw) m p = false from decide_eq_false (fun h9 => by have := fits_top.1 h9; have := HH.out; have := HTM.out; omega))
      refine s_ (fun K84 hK84 => ?_)
      refine pu_ (v := .int .i64 i) (y_move rfl (by rfl) (by rfl)) ?_
      (try simp only [zP, zN, zA, zB, zC])
      refine pu_ (v := .bool true) (y_run (by rfl) (fun W => by have d := D13.out; go_simp)) ?_
      (try simp only [zP, zN, zA, zB, zC])
      refine nl_ (hK84 _ _ ?_); clear hK84 K84
      refine wp_cond_true rfl ?_
      refine wp_skip ?_
      refine th_norm (hK76 _ _ ?_); try clear hK76 K76
      refine sq_ (fun K85 hK85 => ?_)
      refine wp_block ?_
      refine s_ (fun K86 hK86 => ?_)
      refine pu_ (v := .int .i64 nn) (y_move rfl (by rfl) (by rfl)) ?_
      (try simp only [zP, zN, zA, zB, zC])
      refine pu_ (v := .int .i64 i) (y_move rfl (by rfl) (by rfl)) ?_
      (try simp only [zP, zN, zA, zB, zC])
      refine pu_ (v := .int .u64 j) (y_run (by rfl) (fun W => by have d := W18.out; go_simp)) ?_
      (try simp only [zP, zN, zA, zB, zC])
      refine pu_ (v := .int .i64 pw) (y_run (by rfl) (fun W => by have d := W19.out; have d2 := P19.out; have d3 := J64.out; go_simp)) ?_
      (try simp only [zP, zN, zA, zB, zC])
      refine pu_ (v := .int .i64 (nn + pw)) (y_run (by rfl) (fun W => by have d := W20.out; go_simp)) ?_
      (try simp only [zP, zN, zA, zB, zC])
      refine pu_ (v := .int .i64 (nn + pw)) (y_assign rfl (by rfl) (by rfl)) ?_
      (try simp only [zP, zN, zA, zB, zC])
      refine nl_ (hK86 _ _ ?_); clear hK86 K86
      refine s_ (fun K87 hK87 => ?_)
      refine pu_ (v := .int .i64 (nn + pw)) (y_move rfl (by rfl) (by rfl)) ?_
      (try simp only [zP, zN, zA, zB, zC])
      refine pu_ (v := .pointer (some ⟨g3, 1, none⟩)) (y_run (by rfl) (fun W => by go_simp)) ?_
      (try simp only [zP, zN, zA, zB, zC])
      refine ld_ (v := .int .i64 m) rfl (by rfl) (by rfl) (run_load_one ((Fg3.out.cell 1).trans rfl) Try.underlying3 rfl) ?_
      (try simp only [zP, zN, zA, zB, zC])
      refine pu_ (v := .bool true) (y_run (by rfl) (fun W => by have d := D24.out; go_simp)) ?_
      (try simp only [zP, zN, zA, zB, zC])
      refine pu_ (v := .bool true) (y_move rfl (by rfl) (by rfl)) ?_
      (try simp only [zP, zN, zA, zB, zC])
      refine pu_ (v := .int .i64 (nn + pw)) (y_move rfl (by rfl) (by rfl)) ?_
      (try simp only [zP, zN, zA, zB, zC])
      refine pu_ (v := .pointer (some ⟨g3, 1, none⟩)) (y_run (by rfl) (fun W => by go_simp)) ?_
      (try simp only [zP, zN, zA, zB, zC])
      refine ld_ (v := .int .i64 m) rfl (by rfl) (by rfl) (run_load_one ((Fg3.out.cell 1).trans rfl) Try.underlying3 rfl) ?_
      (try simp only [zP, zN, zA, zB, zC])
      refine pu_ (v := .int .i64 p) (y_move rfl (by rfl) (by rfl)) ?_
      (try simp only [zP, zN, zA, zB, zC])
      refine ef_ (fun K88 hK88 => ?_)
      refine e_call Try.func20 (by kernel_rfl) rfl #[.int .i64 (nn + pw), .int .i64 m, .int .i64 p] (by rfl) rfl rfl (by first | rfl | (simp only [List.map_toArray, List.map_cons, List.map_nil]; first | done | rfl)) ((by have h9 := fits_ (w := w74) (a := nn + pw) (b := m) (p := p) (Lib.hid (by have := HB.out; have := hn.out; have := HH.out; have := HTM.out; have := HM2.out; omega)) (Lib.hid HM.out) (Lib.hid hp.out.2); rw [HF.out] at h9; exact h9)) ?_
      rintro en w90 ⟨rfl, cc89⟩
      refine ⟨_, rfl, ?_⟩
      have C0' := Lib.hid (show Ch [] w w90 from C0.out.trans' cc89 (fun x hx => absurd hx (by simp)))
      have Fg3' := Lib.hid (show Blk w90 g3 (#[.int .i64 c, .int .i64 m, .int .i64 e]) 23 from cc89.blk Fg3.out nin_nil)
      clear C0 Fg3
      have C0 := C0'; clear C0'
      have Fg3 := Fg3'; clear Fg3'
      clear cc89
      refine hK88 _ _ ?_; clear hK88 K88
      (try simp only [zP, zN, zA, zB, zC])
      refine pu_ (v := .bool false) (y_pick (t := true) (by rfl) rfl (by rfl) (by rfl)) ?_
      (try simp only [zP, zN, zA, zB, zC])
      refine nl_ (hK87 _ _ ?_); clear hK87 K87
      refine wp_cond_false rfl ?_
      refine wp_skip ?_
      refine ib_norm ?_
      refine th_norm (hK85 _ _ ?_); try clear hK85 K85
      refine r_ ?_
      refine pu_ (v := .int .i64 i) (y_move rfl (by rfl) (by rfl)) ?_
      (try simp only [zP, zN, zA, zB, zC])
      refine pu_ (v := .int .i64 ((j : Int) - 1)) (y_run (by rfl) (fun W => by have d := W15.out; go_simp)) ?_
      (try simp only [zP, zN, zA, zB, zC])
      refine pu_ (v := .int .i64 ((j : Int) - 1)) (y_assign rfl (by rfl) (by rfl)) ?_
      (try simp only [zP, zN, zA, zB, zC])
      refine nl_ ?_
      exact th_norm (hK75 (j) _ _ (by have := hk.out; have := HJ.out; omega) ⟨j, p, nn, ((j : Int) - 1), fun us_ => (#[us 0, .int .i64 p, .pointer (some ⟨g3, 0, none⟩), us 3, .int .i64 0, .int .i64 nn, .int .i64 ((j : Int) - 1), .int .i64 (nn + pw), us 8, us 9, us 10, us 11, .int .i64 i, .bool true, .int .i64 i, .int .i64 ((j : Int) - 1), .int .i64 nn, .int .i64 i, .int .u64 j, .int .i64 pw, .int .i64 (nn + pw), .int .i64 (nn + pw), .pointer (some ⟨g3, 1, none⟩), .int .i64 m, .bool true, .bool true, .int .i64 (nn + pw), .pointer (some ⟨g3, 1, none⟩), .int .i64 m, .int .i64 p, .bool false, .bool false, us 32, us 33] : Array Value).getD us_ undef, rfl, C0, Fg3, Lib.hid ⟨by have := hk.out; have := HJ.out; omega, rfl, rfl⟩, hp, Lib.hid (by rw [← HPW.out]; have := HN.out; have := HH.out; have := HTM.out; have := HB.out; omega)⟩)
    · obtain ⟨j, hj, pw, hpw, hpw1, hpw2, h⟩ := h
      have HJ := Lib.hid hj; have HPW := Lib.hid hpw; have HB := Lib.hid (And.intro hpw1 hpw2); have HH := Lib.hid h; clear hj hpw hpw1 hpw2 h
      have D13 := Lib.hid (show decide (i ≥ 0) = true from decide_eq_true (by have := hk.out; have := HJ.out; omega))
      have HTM := Lib.hid (top_le (m := m) (p := p) HM.out.1 hp.out.2)
      have HM2 := Lib.hid (show m ≤ 1152921504606846976 from HM.out.2)
      have EI := Lib.hid (show i = (j : Int) by have := hk.out; have := HJ.out; omega)
      have W18 := Lib.hid (show IntKind.u64.wrap i = (j : Int) by rw [EI.out]; exact wu64 (by have := hk.out; have := HJ.out; omega))
      have W19 := Lib.hid (show IntKind.i64.wrap pw = pw from wr64 (by have := HB.out; omega))
      have J64 := Lib.hid (show j < 64 by have := hk.out; have := HJ.out; omega)
      have P19 := Lib.hid (show ((2 : Int) ^ j) = pw from HPW.out.symm)
      have W20 := Lib.hid (show IntKind.i64.wrap (nn + pw) = nn + pw from wr64 (by have := HB.out; have := hn.out; have := HTM.out; have := HM2.out; omega))
      have W15 := Lib.hid (show IntKind.i64.wrap (i - 1) = (j : Int) - 1 by rw [EI.out]; exact wr64 (by have := J64.out; omega))
      have HN := Lib.hid (show 0 ≤ nn ∧ nn ≤ topZ m p ∧ topZ m p < nn + 2 * pw by have h9 := hn.out; rw [HJ.out, Int.pow_succ, ← HPW.out] at h9; omega)
      have D24 := Lib.hid (show decide (nn + pw ≤ m) = false from decide_eq_false (by have := HH.out; have := HTM.out; omega))
      refine s_ (fun K91 hK91 => ?_)
      refine pu_ (v := .int .i64 i) (y_move rfl (by rfl) (by rfl)) ?_
      (try simp only [zP, zN, zA, zB, zC])
      refine pu_ (v := .bool true) (y_run (by rfl) (fun W => by have d := D13.out; go_simp)) ?_
      (try simp only [zP, zN, zA, zB, zC])
      refine nl_ (hK91 _ _ ?_); clear hK91 K91
      refine wp_cond_true rfl ?_
      refine wp_skip ?_
      refine th_norm (hK76 _ _ ?_); try clear hK76 K76
      refine sq_ (fun K92 hK92 => ?_)
      refine wp_block ?_
      refine s_ (fun K93 hK93 => ?_)
      refine pu_ (v := .int .i64 nn) (y_move rfl (by rfl) (by rfl)) ?_
      (try simp only [zP, zN, zA, zB, zC])
      refine pu_ (v := .int .i64 i) (y_move rfl (by rfl) (by rfl)) ?_
      (try simp only [zP, zN, zA, zB, zC])
      refine pu_ (v := .int .u64 j) (y_run (by rfl) (fun W => by have d := W18.out; go_simp)) ?_
      (try simp only [zP, zN, zA, zB, zC])
      refine pu_ (v := .int .i64 pw) (y_run (by rfl) (fun W => by have d := W19.out; have d2 := P19.out; have d3 := J64.out; go_simp)) ?_
      (try simp only [zP, zN, zA, zB, zC])
      refine pu_ (v := .int .i64 (nn + pw)) (y_run (by rfl) (fun W => by have d := W20.out; go_simp)) ?_
      (try simp only [zP, zN, zA, zB, zC])
      refine pu_ (v := .int .i64 (nn + pw)) (y_assign rfl (by rfl) (by rfl)) ?_
      (try simp only [zP, zN, zA, zB, zC])
      refine nl_ (hK93 _ _ ?_); clear hK93 K93
      refine s_ (fun K94 hK94 => ?_)
      refine pu_ (v := .int .i64 (nn + pw)) (y_move rfl (by rfl) (by rfl)) ?_
      (try simp only [zP, zN, zA, zB, zC])
      refine pu_ (v := .pointer (some ⟨g3, 1, none⟩)) (y_run (by rfl) (fun W => by go_simp)) ?_
      (try simp only [zP, zN, zA, zB, zC])
      refine ld_ (v := .int .i64 m) rfl (by rfl) (by rfl) (run_load_one ((Fg3.out.cell 1).trans rfl) Try.underlying3 rfl) ?_
      (try simp only [zP, zN, zA, zB, zC])
      refine pu_ (v := .bool false) (y_run (by rfl) (fun W => by have d := D24.out; go_simp)) ?_
      (try simp only [zP, zN, zA, zB, zC])
      refine pu_ (v := .bool false) (y_move rfl (by rfl) (by rfl)) ?_
      (try simp only [zP, zN, zA, zB, zC])
      refine pu_ (y_off (by rfl)) ?_
      (try simp only [zP, zN, zA, zB, zC])
      refine pu_ (y_off (by rfl)) ?_
      (try simp only [zP, zN, zA, zB, zC])
      refine pu_ (y_off (by rfl)) ?_
      (try simp only [zP, zN, zA, zB, zC])
      refine pu_ (y_off (by rfl)) ?_
      (try simp only [zP, zN, zA, zB, zC])
      refine pu_ (y_off (by rfl)) ?_
      (try simp only [zP, zN, zA, zB, zC])
      refine pu_ (v := .bool false) (y_pick (t := false) (by rfl) rfl (by rfl) (by rfl)) ?_
      (try simp only [zP, zN, zA, zB, zC])
      refine nl_ (hK94 _ _ ?_); clear hK94 K94
      refine wp_cond_false rfl ?_
      refine wp_skip ?_
      refine ib_norm ?_
      refine th_norm (hK92 _ _ ?_); try clear hK92 K92
      refine r_ ?_
      refine pu_ (v := .int .i64 i) (y_move rfl (by rfl) (by rfl)) ?_
      (try simp only [zP, zN, zA, zB, zC])
      refine pu_ (v := .int .i64 ((j : Int) - 1)) (y_run (by rfl) (fun W => by have d := W15.out; go_simp)) ?_
      (try simp only [zP, zN, zA, zB, zC])
      refine pu_ (v := .int .i64 ((j : Int) - 1)) (y_assign rfl (by rfl) (by rfl)) ?_
      (try simp only [zP, zN, zA, zB, zC])
      refine nl_ ?_
      exact th_norm (hK75 (j) _ _ (by have := hk.out; have := HJ.out; omega) ⟨j, p, nn, ((j : Int) - 1), fun us_ => (#[us 0, .int .i64 p, .pointer (some ⟨g3, 0, none⟩), us 3, .int .i64 0, .int .i64 nn, .int .i64 ((j : Int) - 1), .int .i64 (nn + pw), us 8, us 9, us 10, us 11, .int .i64 i, .bool true, .int .i64 i, .int .i64 ((j : Int) - 1), .int .i64 nn, .int .i64 i, .int .u64 j, .int .i64 pw, .int .i64 (nn + pw), .int .i64 (nn + pw), .pointer (some ⟨g3, 1, none⟩), .int .i64 m, .bool false, .bool false, undef, undef, undef, undef, undef, .bool false, us 32, us 33] : Array Value).getD us_ undef, rfl, C0, Fg3, Lib.hid ⟨by have := hk.out; have := HJ.out; omega, rfl, rfl⟩, hp, Lib.hid (by rw [← HPW.out]; have := HN.out; have := HH.out; have := HTM.out; have := HB.out; omega)⟩)
    · have D13 := Lib.hid (show decide (i ≥ 0) = false from decide_eq_false (by have := hk.out; omega))
      have HR := Lib.hid (show nn = limZ m pc by rw [lim_top, ← hp.out.1]; have h9 := hn.out; rw [h] at h9; omega)
      clear h
      refine s_ (fun K95 hK95 => ?_)
      refine pu_ (v := .int .i64 i) (y_move rfl (by rfl) (by rfl)) ?_
      (try simp only [zP, zN, zA, zB, zC])
      refine pu_ (v := .bool false) (y_run (by rfl) (fun W => by have d := D13.out; go_simp)) ?_
      (try simp only [zP, zN, zA, zB, zC])
      refine nl_ (hK95 _ _ ?_); clear hK95 K95
      refine wp_cond_false rfl ?_
      refine wp_exit ?_
      refine th_exit ?_
      refine th_exit ?_
      refine ib_exit ?_
      refine th_norm (hK72 _ _ ?_); try clear hK72 K72
      refine s_ (fun K96 hK96 => ?_)
      refine pu_ (v := .int .i64 nn) (y_move rfl (by rfl) (by rfl)) ?_
      (try simp only [zP, zN, zA, zB, zC])
      refine pu_ (v := .int .i64 nn) (y_assign rfl (by rfl) (by rfl)) ?_
      (try simp only [zP, zN, zA, zB, zC])
      refine nl_ (hK96 _ _ ?_); clear hK96 K96
      refine wp_ret ?_
      refine hQ _ _ _ ?_
      refine bodyPost_ret (res1 rfl (rdv_tmp (v := .int .i64 nn) (by rfl))) rfl ?_
      exact ⟨by rw [HR.out], C0.out⟩
theorem yn_T {f : FuncId} {args : Array Value} {p : Prop} (h : Calls Try.prog f args w fun en w' => ∃ r, en = .returned (.bool r) ∧ (r = true ↔ p) ∧ Ch [] w w') (hp : p) : Calls Try.prog f args w fun en w' => en = .returned (.bool true) ∧ Ch [] w w' := h.mono fun en w' ⟨r, he, hr, c⟩ => ⟨by rw [he, hr.2 hp], c⟩
theorem yn_F {f : FuncId} {args : Array Value} {p : Prop} (h : Calls Try.prog f args w fun en w' => ∃ r, en = .returned (.bool r) ∧ (r = true ↔ p) ∧ Ch [] w w') (hp : ¬ p) : Calls Try.prog f args w fun en w' => en = .returned (.bool false) ∧ Ch [] w w' := h.mono fun en w' ⟨r, he, hr, c⟩ => ⟨by
    cases r with
    | true => exact absurd (hr.1 rfl) hp
    | false => exact he, c⟩
theorem limits_ {a b c d m e pc : Int}  :
    Calls Try.prog 3 #[.agg #[.int .i64 a, .int .i64 b, .int .i64 c], .agg #[.int .i64 d, .int .i64 m, .int .i64 e], .int .i64 pc] w fun en w' => en = .returned (.bool true) ∧ Ch [] w w' := by
  have C0 := Lib.hid (Ch.refl [] w)
  go_enter Try.func3, Try.ntmps3
  refine q_ (fun Q hQ hP => ?_)
  refine s_ (fun K1 hK1 => ?_)
  refine ef_ (fun K2 hK2 => ?_)
  refine e_boxN (by rfl) rfl rfl (cs := #[.int .i64 a, .int .i64 b, .int .i64 c]) (v := .agg #[.int .i64 a, .int .i64 b, .int .i64 c]) (by rfl) rfl ?_
  rintro g3 w4 HG5 B6 C7
  have nw8 := Lib.hid (show w.heap.size ≤ g3 by have := C0.out.size; have := HG5.out; omega)
  have C0' := Lib.hid (show Ch [] w w4 from C0.out.trans' C7 (fun x hx => absurd hx (by simp)))
  clear C0
  have C0 := C0'; clear C0'
  have Fg3 := Lib.hid (show Blk w4 g3 (#[.int .i64 a, .int .i64 b, .int .i64 c]) 23 from B6); clear B6 C7
  refine hK2 _ _ ?_; clear hK2 K2
  (try simp only [zP, zN, zA, zB, zC])
  refine ef_ (fun K9 hK9 => ?_)
  refine e_boxN (by rfl) rfl rfl (cs := #[.int .i64 d, .int .i64 m, .int .i64 e]) (v := .agg #[.int .i64 d, .int .i64 m, .int .i64 e]) (by rfl) rfl ?_
  rintro g10 w11 HG12 B13 C14
  have nw15 := Lib.hid (show w.heap.size ≤ g10 by have := C0.out.size; have := HG12.out; omega)
  have ne16 := Lib.hid (Fg3.out.ne_new HG12)
  have C0' := Lib.hid (show Ch [] w w11 from C0.out.trans' C14 (fun x hx => absurd hx (by simp)))
  have Fg3' := Lib.hid (show Blk w11 g3 (#[.int .i64 a, .int .i64 b, .int .i64 c]) 23 from C14.blk Fg3.out nin_nil)
  clear C0 Fg3
  have C0 := C0'; clear C0'
  have Fg3 := Fg3'; clear Fg3'
  have Fg10 := Lib.hid (show Blk w11 g10 (#[.int .i64 d, .int .i64 m, .int .i64 e]) 23 from B13); clear B13 C14
  refine hK9 _ _ ?_; clear hK9 K9
  (try simp only [zP, zN, zA, zB, zC])
  refine pu_ (v := .bool false) (y_assign rfl (by rfl) (by rfl)) ?_
  (try simp only [zP, zN, zA, zB, zC])
  refine nl_ (hK1 _ _ ?_); clear hK1 K1
  refine sq_ (fun K17 hK17 => ?_)
  rcases (show (¬ (SmallZ a ∧ SmallZ b ∧ SmallZ c)) ∨ ((SmallZ a ∧ SmallZ b ∧ SmallZ c) ∧ ¬ (SmallZ d ∧ SmallZ m ∧ SmallZ e)) ∨ ((SmallZ a ∧ SmallZ b ∧ SmallZ c) ∧ (SmallZ d ∧ SmallZ m ∧ SmallZ e)) from by rcases Classical.em (SmallZ a ∧ SmallZ b ∧ SmallZ c) with h1 | h1 <;> rcases Classical.em (SmallZ d ∧ SmallZ m ∧ SmallZ e) with h2 | h2 <;> simp only [h1, h2, not_true_eq_false, not_false_eq_true, and_self, and_true, true_and, or_true, true_or, false_and, and_false, or_false, false_or]) with h | h | h
  · have HH := Lib.hid h
    clear h
    have H1 := Lib.hid HH.out
    refine s_ (fun K18 hK18 => ?_)
    refine ld_ (v := .agg (#[.int .i64 a, .int .i64 b, .int .i64 c])) rfl (by rfl) (by rfl) (run_loadVar_row _ _ 23 23 (#[.int .i64 a, .int .i64 b, .int .i64 c]) (0, 0) _ Fg3.out Try.underlying23 rfl (by kernel_rfl)) ?_
    (try simp only [zP, zN, zA, zB, zC])
    refine ef_ (fun K19 hK19 => ?_)
    refine e_call Try.func6 (by kernel_rfl) rfl #[.agg (#[.int .i64 a, .int .i64 b, .int .i64 c])] (by rfl) rfl rfl (by first | rfl | (simp only [List.map_toArray, List.map_cons, List.map_nil]; first | done | rfl)) ((by obtain h9 := yn_F (small_ a b c) H1.out; exact h9)) ?_
    rintro en w21 ⟨rfl, cc20⟩
    refine ⟨_, rfl, ?_⟩
    have C0' := Lib.hid (show Ch [] w w21 from C0.out.trans' cc20 (fun x hx => absurd hx (by simp)))
    have Fg3' := Lib.hid (show Blk w21 g3 (#[.int .i64 a, .int .i64 b, .int .i64 c]) 23 from cc20.blk Fg3.out nin_nil)
    have Fg10' := Lib.hid (show Blk w21 g10 (#[.int .i64 d, .int .i64 m, .int .i64 e]) 23 from cc20.blk Fg10.out nin_nil)
    clear C0 Fg3 Fg10
    have C0 := C0'; clear C0'
    have Fg3 := Fg3'; clear Fg3'
    have Fg10 := Fg10'; clear Fg10'
    clear cc20
    refine hK19 _ _ ?_; clear hK19 K19
    (try simp only [zP, zN, zA, zB, zC])
    refine pu_ (v := .bool true) (y_run (by rfl) (fun W => by go_simp)) ?_
    (try simp only [zP, zN, zA, zB, zC])
    refine pu_ (v := .bool true) (y_move rfl (by rfl) (by rfl)) ?_
    (try simp only [zP, zN, zA, zB, zC])
    refine pu_ (y_off (by rfl)) ?_
    (try simp only [zP, zN, zA, zB, zC])
    refine pu_ (y_off (by rfl)) ?_
    (try simp only [zP, zN, zA, zB, zC])
    refine pu_ (y_off (by rfl)) ?_
    (try simp only [zP, zN, zA, zB, zC])
    refine pu_ (v := .bool true) (y_pick (t := true) (by rfl) rfl (by rfl) (by rfl)) ?_
    (try simp only [zP, zN, zA, zB, zC])
    refine nl_ (hK18 _ _ ?_); clear hK18 K18
    refine wp_cond_true rfl ?_
    refine s_ (fun K22 hK22 => ?_)
    refine ef_ (fun K23 hK23 => ?_)
    refine e_call Try.func7 (by kernel_rfl) rfl #[] (by rfl) rfl rfl (by first | rfl | (simp only [List.map_toArray, List.map_cons, List.map_nil]; first | done | rfl)) (works_) ?_
    rintro en w25 ⟨rfl, cc24⟩
    refine ⟨_, rfl, ?_⟩
    have C0' := Lib.hid (show Ch [] w w25 from C0.out.trans' cc24 (fun x hx => absurd hx (by simp)))
    have Fg3' := Lib.hid (show Blk w25 g3 (#[.int .i64 a, .int .i64 b, .int .i64 c]) 23 from cc24.blk Fg3.out nin_nil)
    have Fg10' := Lib.hid (show Blk w25 g10 (#[.int .i64 d, .int .i64 m, .int .i64 e]) 23 from cc24.blk Fg10.out nin_nil)
    clear C0 Fg3 Fg10
    have C0 := C0'; clear C0'
    have Fg3 := Fg3'; clear Fg3'
    have Fg10 := Fg10'; clear Fg10'
    clear cc24
    refine hK23 _ _ ?_; clear hK23 K23
    (try simp only [zP, zN, zA, zB, zC])
    refine pu_ (v := .bool true) (y_assign rfl (by rfl) (by rfl)) ?_
    (try simp only [zP, zN, zA, zB, zC])
    refine nl_ (hK22 _ _ ?_); clear hK22 K22
    refine wp_ret ?_
    refine th_ret ?_
    refine hQ _ _ _ ?_
    refine bodyPost_ret (res1 rfl (rdv_tmp (v := .bool true) (by rfl))) rfl ?_
    exact ⟨rfl, C0.out⟩
  · have HH := Lib.hid h
    clear h
    have H1 := Lib.hid HH.out.1
    have H2 := Lib.hid HH.out.2
    refine s_ (fun K26 hK26 => ?_)
    refine ld_ (v := .agg (#[.int .i64 a, .int .i64 b, .int .i64 c])) rfl (by rfl) (by rfl) (run_loadVar_row _ _ 23 23 (#[.int .i64 a, .int .i64 b, .int .i64 c]) (0, 0) _ Fg3.out Try.underlying23 rfl (by kernel_rfl)) ?_
    (try simp only [zP, zN, zA, zB, zC])
    refine ef_ (fun K27 hK27 => ?_)
    refine e_call Try.func6 (by kernel_rfl) rfl #[.agg (#[.int .i64 a, .int .i64 b, .int .i64 c])] (by rfl) rfl rfl (by first | rfl | (simp only [List.map_toArray, List.map_cons, List.map_nil]; first | done | rfl)) ((by obtain h9 := yn_T (small_ a b c) H1.out; exact h9)) ?_
    rintro en w29 ⟨rfl, cc28⟩
    refine ⟨_, rfl, ?_⟩
    have C0' := Lib.hid (show Ch [] w w29 from C0.out.trans' cc28 (fun x hx => absurd hx (by simp)))
    have Fg3' := Lib.hid (show Blk w29 g3 (#[.int .i64 a, .int .i64 b, .int .i64 c]) 23 from cc28.blk Fg3.out nin_nil)
    have Fg10' := Lib.hid (show Blk w29 g10 (#[.int .i64 d, .int .i64 m, .int .i64 e]) 23 from cc28.blk Fg10.out nin_nil)
    clear C0 Fg3 Fg10
    have C0 := C0'; clear C0'
    have Fg3 := Fg3'; clear Fg3'
    have Fg10 := Fg10'; clear Fg10'
    clear cc28
    refine hK27 _ _ ?_; clear hK27 K27
    (try simp only [zP, zN, zA, zB, zC])
    refine pu_ (v := .bool false) (y_run (by rfl) (fun W => by go_simp)) ?_
    (try simp only [zP, zN, zA, zB, zC])
    refine pu_ (v := .bool false) (y_move rfl (by rfl) (by rfl)) ?_
    (try simp only [zP, zN, zA, zB, zC])
    refine ld_ (v := .agg (#[.int .i64 d, .int .i64 m, .int .i64 e])) rfl (by rfl) (by rfl) (run_loadVar_row _ _ 23 23 (#[.int .i64 d, .int .i64 m, .int .i64 e]) (0, 0) _ Fg10.out Try.underlying23 rfl (by kernel_rfl)) ?_
    (try simp only [zP, zN, zA, zB, zC])
    refine ef_ (fun K30 hK30 => ?_)
    refine e_call Try.func6 (by kernel_rfl) rfl #[.agg (#[.int .i64 d, .int .i64 m, .int .i64 e])] (by rfl) rfl rfl (by first | rfl | (simp only [List.map_toArray, List.map_cons, List.map_nil]; first | done | rfl)) ((by obtain h9 := yn_F (small_ d m e) H2.out; exact h9)) ?_
    rintro en w32 ⟨rfl, cc31⟩
    refine ⟨_, rfl, ?_⟩
    have C0' := Lib.hid (show Ch [] w w32 from C0.out.trans' cc31 (fun x hx => absurd hx (by simp)))
    have Fg3' := Lib.hid (show Blk w32 g3 (#[.int .i64 a, .int .i64 b, .int .i64 c]) 23 from cc31.blk Fg3.out nin_nil)
    have Fg10' := Lib.hid (show Blk w32 g10 (#[.int .i64 d, .int .i64 m, .int .i64 e]) 23 from cc31.blk Fg10.out nin_nil)
    clear C0 Fg3 Fg10
    have C0 := C0'; clear C0'
    have Fg3 := Fg3'; clear Fg3'
    have Fg10 := Fg10'; clear Fg10'
    clear cc31
    refine hK30 _ _ ?_; clear hK30 K30
    (try simp only [zP, zN, zA, zB, zC])
    refine pu_ (v := .bool true) (y_run (by rfl) (fun W => by go_simp)) ?_
    (try simp only [zP, zN, zA, zB, zC])
    refine pu_ (v := .bool true) (y_pick (t := false) (by rfl) rfl (by rfl) (by rfl)) ?_
    (try simp only [zP, zN, zA, zB, zC])
    refine nl_ (hK26 _ _ ?_); clear hK26 K26
    refine wp_cond_true rfl ?_
    refine s_ (fun K33 hK33 => ?_)
    refine ef_ (fun K34 hK34 => ?_)
    refine e_call Try.func7 (by kernel_rfl) rfl #[] (by rfl) rfl rfl (by first | rfl | (simp only [List.map_toArray, List.map_cons, List.map_nil]; first | done | rfl)) (works_) ?_
    rintro en w36 ⟨rfl, cc35⟩
    refine ⟨_, rfl, ?_⟩
    have C0' := Lib.hid (show Ch [] w w36 from C0.out.trans' cc35 (fun x hx => absurd hx (by simp)))
    have Fg3' := Lib.hid (show Blk w36 g3 (#[.int .i64 a, .int .i64 b, .int .i64 c]) 23 from cc35.blk Fg3.out nin_nil)
    have Fg10' := Lib.hid (show Blk w36 g10 (#[.int .i64 d, .int .i64 m, .int .i64 e]) 23 from cc35.blk Fg10.out nin_nil)
    clear C0 Fg3 Fg10
    have C0 := C0'; clear C0'
    have Fg3 := Fg3'; clear Fg3'
    have Fg10 := Fg10'; clear Fg10'
    clear cc35
    refine hK34 _ _ ?_; clear hK34 K34
    (try simp only [zP, zN, zA, zB, zC])
    refine pu_ (v := .bool true) (y_assign rfl (by rfl) (by rfl)) ?_
    (try simp only [zP, zN, zA, zB, zC])
    refine nl_ (hK33 _ _ ?_); clear hK33 K33
    refine wp_ret ?_
    refine th_ret ?_
    refine hQ _ _ _ ?_
    refine bodyPost_ret (res1 rfl (rdv_tmp (v := .bool true) (by rfl))) rfl ?_
    exact ⟨rfl, C0.out⟩
  · have HH := Lib.hid h
    clear h
    have H1 := Lib.hid HH.out.1
    have H2 := Lib.hid HH.out.2
    have HM := Lib.hid (show SmallZ m from H2.out.2.1)
    refine s_ (fun K37 hK37 => ?_)
    refine ld_ (v := .agg (#[.int .i64 a, .int .i64 b, .int .i64 c])) rfl (by rfl) (by rfl) (run_loadVar_row _ _ 23 23 (#[.int .i64 a, .int .i64 b, .int .i64 c]) (0, 0) _ Fg3.out Try.underlying23 rfl (by kernel_rfl)) ?_
    (try simp only [zP, zN, zA, zB, zC])
    refine ef_ (fun K38 hK38 => ?_)
    refine e_call Try.func6 (by kernel_rfl) rfl #[.agg (#[.int .i64 a, .int .i64 b, .int .i64 c])] (by rfl) rfl rfl (by first | rfl | (simp only [List.map_toArray, List.map_cons, List.map_nil]; first | done | rfl)) ((by obtain h9 := yn_T (small_ a b c) H1.out; exact h9)) ?_
    rintro en w40 ⟨rfl, cc39⟩
    refine ⟨_, rfl, ?_⟩
    have C0' := Lib.hid (show Ch [] w w40 from C0.out.trans' cc39 (fun x hx => absurd hx (by simp)))
    have Fg3' := Lib.hid (show Blk w40 g3 (#[.int .i64 a, .int .i64 b, .int .i64 c]) 23 from cc39.blk Fg3.out nin_nil)
    have Fg10' := Lib.hid (show Blk w40 g10 (#[.int .i64 d, .int .i64 m, .int .i64 e]) 23 from cc39.blk Fg10.out nin_nil)
    clear C0 Fg3 Fg10
    have C0 := C0'; clear C0'
    have Fg3 := Fg3'; clear Fg3'
    have Fg10 := Fg10'; clear Fg10'
    clear cc39
    refine hK38 _ _ ?_; clear hK38 K38
    (try simp only [zP, zN, zA, zB, zC])
    refine pu_ (v := .bool false) (y_run (by rfl) (fun W => by go_simp)) ?_
    (try simp only [zP, zN, zA, zB, zC])
    refine pu_ (v := .bool false) (y_move rfl (by rfl) (by rfl)) ?_
    (try simp only [zP, zN, zA, zB, zC])
    refine ld_ (v := .agg (#[.int .i64 d, .int .i64 m, .int .i64 e])) rfl (by rfl) (by rfl) (run_loadVar_row _ _ 23 23 (#[.int .i64 d, .int .i64 m, .int .i64 e]) (0, 0) _ Fg10.out Try.underlying23 rfl (by kernel_rfl)) ?_
    (try simp only [zP, zN, zA, zB, zC])
    refine ef_ (fun K41 hK41 => ?_)
    refine e_call Try.func6 (by kernel_rfl) rfl #[.agg (#[.int .i64 d, .int .i64 m, .int .i64 e])] (by rfl) rfl rfl (by first | rfl | (simp only [List.map_toArray, List.map_cons, List.map_nil]; first | done | rfl)) ((by obtain h9 := yn_T (small_ d m e) H2.out; exact h9)) ?_
    rintro en w43 ⟨rfl, cc42⟩
    refine ⟨_, rfl, ?_⟩
    have C0' := Lib.hid (show Ch [] w w43 from C0.out.trans' cc42 (fun x hx => absurd hx (by simp)))
    have Fg3' := Lib.hid (show Blk w43 g3 (#[.int .i64 a, .int .i64 b, .int .i64 c]) 23 from cc42.blk Fg3.out nin_nil)
    have Fg10' := Lib.hid (show Blk w43 g10 (#[.int .i64 d, .int .i64 m, .int .i64 e]) 23 from cc42.blk Fg10.out nin_nil)
    clear C0 Fg3 Fg10
    have C0 := C0'; clear C0'
    have Fg3 := Fg3'; clear Fg3'
    have Fg10 := Fg10'; clear Fg10'
    clear cc42
    refine hK41 _ _ ?_; clear hK41 K41
    (try simp only [zP, zN, zA, zB, zC])
    refine pu_ (v := .bool false) (y_run (by rfl) (fun W => by go_simp)) ?_
    (try simp only [zP, zN, zA, zB, zC])
    refine pu_ (v := .bool false) (y_pick (t := false) (by rfl) rfl (by rfl) (by rfl)) ?_
    (try simp only [zP, zN, zA, zB, zC])
    refine nl_ (hK37 _ _ ?_); clear hK37 K37
    refine wp_cond_false rfl ?_
    refine wp_skip ?_
    refine th_norm (hK17 _ _ ?_); try clear hK17 K17
    refine s_ (fun K44 hK44 => ?_)
    refine ld_ (v := .agg (#[.int .i64 d, .int .i64 m, .int .i64 e])) rfl (by rfl) (by rfl) (run_loadVar_row _ _ 23 23 (#[.int .i64 d, .int .i64 m, .int .i64 e]) (0, 0) _ Fg10.out Try.underlying23 rfl (by kernel_rfl)) ?_
    (try simp only [zP, zN, zA, zB, zC])
    refine pu_ (v := .int .i64 pc) (y_move rfl (by rfl) (by rfl)) ?_
    (try simp only [zP, zN, zA, zB, zC])
    refine ef_ (fun K45 hK45 => ?_)
    refine e_call Try.func8 (by kernel_rfl) rfl #[.agg (#[.int .i64 d, .int .i64 m, .int .i64 e]), .int .i64 pc] (by rfl) rfl rfl (by first | rfl | (simp only [List.map_toArray, List.map_cons, List.map_nil]; first | done | rfl)) ((rlimit_ HM)) ?_
    rintro en w47 ⟨rfl, cc46⟩
    refine ⟨_, rfl, ?_⟩
    have C0' := Lib.hid (show Ch [] w w47 from C0.out.trans' cc46 (fun x hx => absurd hx (by simp)))
    have Fg3' := Lib.hid (show Blk w47 g3 (#[.int .i64 a, .int .i64 b, .int .i64 c]) 23 from cc46.blk Fg3.out nin_nil)
    have Fg10' := Lib.hid (show Blk w47 g10 (#[.int .i64 d, .int .i64 m, .int .i64 e]) 23 from cc46.blk Fg10.out nin_nil)
    clear C0 Fg3 Fg10
    have C0 := C0'; clear C0'
    have Fg3 := Fg3'; clear Fg3'
    have Fg10 := Fg10'; clear Fg10'
    clear cc46
    refine hK45 _ _ ?_; clear hK45 K45
    (try simp only [zP, zN, zA, zB, zC])
    refine pu_ (v := .int .i64 (limZ m pc)) (y_assign rfl (by rfl) (by rfl)) ?_
    (try simp only [zP, zN, zA, zB, zC])
    refine nl_ (hK44 _ _ ?_); clear hK44 K44
    refine sq_ (fun K48 hK48 => ?_)
    refine startk_ (S := fun W => Blk W g3 (#[.int .i64 a, .int .i64 b, .int .i64 c]) 23 ∧ Blk W g10 (#[.int .i64 d, .int .i64 m, .int .i64 e]) 23 ∧ True) (ds := []) #[false, false, false, false, false, false, false, false, false, false, false, false, false, false, false, false, false, false, false, false] (by kernel_rfl) rfl rfl (fun W c => ⟨c.blk Fg3.out nin_nil, c.blk Fg10.out nin_nil, trivial⟩) (fun w49 C50 hS51 => ?_)
    have C0' := Lib.hid (show Ch [] w w49 from C0.out.trans' C50 (fun x hx => absurd hx (by simp)))
    have Fg3' := Lib.hid (show Blk w49 g3 (#[.int .i64 a, .int .i64 b, .int .i64 c]) 23 from C50.blk Fg3.out nin_nil)
    have Fg10' := Lib.hid (show Blk w49 g10 (#[.int .i64 d, .int .i64 m, .int .i64 e]) 23 from C50.blk Fg10.out nin_nil)
    clear C0 Fg3 Fg10
    have C0 := C0'; clear C0'
    have Fg3 := Fg3'; clear Fg3'
    have Fg10 := Fg10'; clear Fg10'
    clear C50
    refine take_ (i := 0) (N := some 20) (v := .agg (#[.int .i64 d, .int .i64 m, .int .i64 e])) #[true, false, false, false, false, false, false, false, false, false, false, false, false, false, false, false, false, false, false, false] rfl rfl (by kernel_rfl) (fun c a w h => hP c a _ _ w h) (y_load (p := ⟨g10, 0, none⟩) rfl (by rfl) (by rfl) (fun W hS => run_loadVar_row _ _ 23 23 (#[.int .i64 d, .int .i64 m, .int .i64 e]) (0, 0) _ hS.2.1 Try.underlying23 rfl (by kernel_rfl))) hS51 rfl ?_
    (try simp only [zP, zN, zA, zB, zC])
    refine pure_ (i := 1) (N := some 21) (v := .int .i64 pc) #[true, true, false, false, false, false, false, false, false, false, false, false, false, false, false, false, false, false, false, false] rfl rfl (by kernel_rfl) (fun c a w h => hP c a _ _ w h) (y_move rfl (by rfl) (by rfl)) rfl ?_
    (try simp only [zP, zN, zA, zB, zC])
    refine pure_ (i := 3) (N := some 23) (v := .int .i64 (limZ m pc)) #[true, true, false, true, false, false, false, false, false, false, false, false, false, false, false, false, false, false, false, false] rfl rfl (by kernel_rfl) (fun c a w h => hP c a _ _ w h) (y_move rfl (by rfl) (by rfl)) rfl ?_
    (try simp only [zP, zN, zA, zB, zC])
    refine one_ (i := 2) (N := some 22) #[true, true, true, true, false, false, false, false, false, false, false, false, false, false, false, false, false, false, false, false] rfl rfl (by kernel_rfl) (by simp) (fun K52 hK52 => ?_)
    refine e_call Try.func9 (by kernel_rfl) rfl #[.agg (#[.int .i64 d, .int .i64 m, .int .i64 e]), .int .i64 pc] (by rfl) rfl rfl (by first | rfl | (simp only [List.map_toArray, List.map_cons, List.map_nil]; first | done | rfl)) ((limit_ HM)) ?_
    rintro en w54 ⟨rfl, cc53⟩
    refine ⟨_, rfl, ?_⟩
    have C0' := Lib.hid (show Ch [] w w54 from C0.out.trans' cc53 (fun x hx => absurd hx (by simp)))
    have Fg3' := Lib.hid (show Blk w54 g3 (#[.int .i64 a, .int .i64 b, .int .i64 c]) 23 from cc53.blk Fg3.out nin_nil)
    have Fg10' := Lib.hid (show Blk w54 g10 (#[.int .i64 d, .int .i64 m, .int .i64 e]) 23 from cc53.blk Fg10.out nin_nil)
    clear C0 Fg3 Fg10
    have C0 := C0'; clear C0'
    have Fg3 := Fg3'; clear Fg3'
    have Fg10 := Fg10'; clear Fg10'
    clear cc53
    refine hK52.out _ _ ⟨Fg3.out, Fg10.out, trivial⟩ (fun hS55 => ?_); clear hK52 K52
    (try simp only [zP, zN, zA, zB, zC])
    refine pure_ (i := 4) (N := some 24) (v := .bool true) #[true, true, true, true, true, false, false, false, false, false, false, false, false, false, false, false, false, false, false, false] rfl rfl (by kernel_rfl) (fun c a w h => hP c a _ _ w h) (y_run (by rfl) (fun W => by go_simp)) rfl ?_
    (try simp only [zP, zN, zA, zB, zC])
    refine pure_ (i := 5) (N := some 25) (v := .bool true) #[true, true, true, true, true, true, false, false, false, false, false, false, false, false, false, false, false, false, false, false] rfl rfl (by kernel_rfl) (fun c a w h => hP c a _ _ w h) (y_move rfl (by rfl) (by rfl)) rfl ?_
    (try simp only [zP, zN, zA, zB, zC])
    refine take_ (i := 6) (N := some 26) (v := .agg (#[.int .i64 a, .int .i64 b, .int .i64 c])) #[true, true, true, true, true, true, true, false, false, false, false, false, false, false, false, false, false, false, false, false] rfl rfl (by kernel_rfl) (fun c a w h => hP c a _ _ w h) (y_load (p := ⟨g3, 0, none⟩) rfl (by rfl) (by rfl) (fun W hS => run_loadVar_row _ _ 23 23 (#[.int .i64 a, .int .i64 b, .int .i64 c]) (0, 0) _ hS.1 Try.underlying23 rfl (by kernel_rfl))) hS55 rfl ?_
    (try simp only [zP, zN, zA, zB, zC])
    refine take_ (i := 7) (N := some 27) (v := .agg (#[.int .i64 d, .int .i64 m, .int .i64 e])) #[true, true, true, true, true, true, true, true, false, false, false, false, false, false, false, false, false, false, false, false] rfl rfl (by kernel_rfl) (fun c a w h => hP c a _ _ w h) (y_load (p := ⟨g10, 0, none⟩) rfl (by rfl) (by rfl) (fun W hS => run_loadVar_row _ _ 23 23 (#[.int .i64 d, .int .i64 m, .int .i64 e]) (0, 0) _ hS.2.1 Try.underlying23 rfl (by kernel_rfl))) hS55 rfl ?_
    (try simp only [zP, zN, zA, zB, zC])
    refine pure_ (i := 8) (N := some 28) (v := .int .i64 pc) #[true, true, true, true, true, true, true, true, true, false, false, false, false, false, false, false, false, false, false, false] rfl rfl (by kernel_rfl) (fun c a w h => hP c a _ _ w h) (y_move rfl (by rfl) (by rfl)) rfl ?_
    (try simp only [zP, zN, zA, zB, zC])
    refine pure_ (i := 10) (N := some 30) (v := .pointer (some ⟨g3, 1, none⟩)) #[true, true, true, true, true, true, true, true, true, false, true, false, false, false, false, false, false, false, false, false] rfl rfl (by kernel_rfl) (fun c a w h => hP c a _ _ w h) (y_run (by rfl) (fun W => by go_simp)) rfl ?_
    (try simp only [zP, zN, zA, zB, zC])
    refine take_ (i := 11) (N := some 31) (v := .int .i64 b) #[true, true, true, true, true, true, true, true, true, false, true, true, false, false, false, false, false, false, false, false] rfl rfl (by kernel_rfl) (fun c a w h => hP c a _ _ w h) (y_load (p := ⟨g3, 1, none⟩) rfl (by rfl) (by rfl) (fun W hS => run_load_one ((hS.1.cell 1).trans rfl) Try.underlying3 rfl)) hS55 rfl ?_
    (try simp only [zP, zN, zA, zB, zC])
    refine pure_ (i := 12) (N := some 32) (v := .int .i64 (limZ m pc)) #[true, true, true, true, true, true, true, true, true, false, true, true, true, false, false, false, false, false, false, false] rfl rfl (by kernel_rfl) (fun c a w h => hP c a _ _ w h) (y_move rfl (by rfl) (by rfl)) rfl ?_
    (try simp only [zP, zN, zA, zB, zC])
    refine pure_ (i := 13) (N := some 33) (v := .bool (decide (b > limZ m pc))) #[true, true, true, true, true, true, true, true, true, false, true, true, true, true, false, false, false, false, false, false] rfl rfl (by kernel_rfl) (fun c a w h => hP c a _ _ w h) (y_run (by rfl) (fun W => by go_simp)) rfl ?_
    (try simp only [zP, zN, zA, zB, zC])
    refine one_ (i := 9) (N := some 29) #[true, true, true, true, true, true, true, true, true, true, true, true, true, true, false, false, false, false, false, false] rfl rfl (by kernel_rfl) (by simp) (fun K56 hK56 => ?_)
    refine e_call Try.func10 (by kernel_rfl) rfl #[.agg (#[.int .i64 a, .int .i64 b, .int .i64 c]), .agg (#[.int .i64 d, .int .i64 m, .int .i64 e]), .int .i64 pc] (by rfl) rfl rfl (by first | rfl | (simp only [List.map_toArray, List.map_cons, List.map_nil]; first | done | rfl)) ((short_ HM)) ?_
    rintro en w58 ⟨rfl, cc57⟩
    refine ⟨_, rfl, ?_⟩
    have C0' := Lib.hid (show Ch [] w w58 from C0.out.trans' cc57 (fun x hx => absurd hx (by simp)))
    have Fg3' := Lib.hid (show Blk w58 g3 (#[.int .i64 a, .int .i64 b, .int .i64 c]) 23 from cc57.blk Fg3.out nin_nil)
    have Fg10' := Lib.hid (show Blk w58 g10 (#[.int .i64 d, .int .i64 m, .int .i64 e]) 23 from cc57.blk Fg10.out nin_nil)
    clear C0 Fg3 Fg10
    have C0 := C0'; clear C0'
    have Fg3 := Fg3'; clear Fg3'
    have Fg10 := Fg10'; clear Fg10'
    clear cc57
    refine hK56.out _ _ ⟨Fg3.out, Fg10.out, trivial⟩ (fun hS59 => ?_); clear hK56 K56
    (try simp only [zP, zN, zA, zB, zC])
    refine pure_ (i := 14) (N := some 34) (v := .bool true) #[true, true, true, true, true, true, true, true, true, true, true, true, true, true, true, false, false, false, false, false] rfl rfl (by kernel_rfl) (fun c a w h => hP c a _ _ w h) (y_run (by rfl) (fun W => by go_simp)) rfl ?_
    (try simp only [zP, zN, zA, zB, zC])
    refine pure_ (i := 15) (N := some 35) (v := .bool true) #[true, true, true, true, true, true, true, true, true, true, true, true, true, true, true, true, false, false, false, false] rfl rfl (by kernel_rfl) (fun c a w h => hP c a _ _ w h) (y_pick (t := true) (by rfl) rfl (by rfl) (by rfl)) rfl ?_
    (try simp only [zP, zN, zA, zB, zC])
    refine pure_ (i := 16) (N := some 36) (v := .bool true) #[true, true, true, true, true, true, true, true, true, true, true, true, true, true, true, true, true, false, false, false] rfl rfl (by kernel_rfl) (fun c a w h => hP c a _ _ w h) (y_move rfl (by rfl) (by rfl)) rfl ?_
    (try simp only [zP, zN, zA, zB, zC])
    refine one_ (i := 17) (N := some 37) #[true, true, true, true, true, true, true, true, true, true, true, true, true, true, true, true, true, true, false, false] rfl rfl (by kernel_rfl) (by simp) (fun K60 hK60 => ?_)
    refine e_call Try.func7 (by kernel_rfl) rfl #[] (by rfl) rfl rfl (by first | rfl | (simp only [List.map_toArray, List.map_cons, List.map_nil]; first | done | rfl)) (works_) ?_
    rintro en w62 ⟨rfl, cc61⟩
    refine ⟨_, rfl, ?_⟩
    have C0' := Lib.hid (show Ch [] w w62 from C0.out.trans' cc61 (fun x hx => absurd hx (by simp)))
    have Fg3' := Lib.hid (show Blk w62 g3 (#[.int .i64 a, .int .i64 b, .int .i64 c]) 23 from cc61.blk Fg3.out nin_nil)
    have Fg10' := Lib.hid (show Blk w62 g10 (#[.int .i64 d, .int .i64 m, .int .i64 e]) 23 from cc61.blk Fg10.out nin_nil)
    clear C0 Fg3 Fg10
    have C0 := C0'; clear C0'
    have Fg3 := Fg3'; clear Fg3'
    have Fg10 := Fg10'; clear Fg10'
    clear cc61
    refine hK60.out _ _ ⟨Fg3.out, Fg10.out, trivial⟩ (fun hS63 => ?_); clear hK60 K60
    (try simp only [zP, zN, zA, zB, zC])
    refine pure_ (i := 18) (N := some 38) (v := .bool true) #[true, true, true, true, true, true, true, true, true, true, true, true, true, true, true, true, true, true, true, false] rfl rfl (by kernel_rfl) (fun c a w h => hP c a _ _ w h) (y_pick (t := true) (by rfl) rfl (by rfl) (by rfl)) rfl ?_
    (try simp only [zP, zN, zA, zB, zC])
    refine pure_ (i := 19) (N := some 6) (v := .bool true) #[true, true, true, true, true, true, true, true, true, true, true, true, true, true, true, true, true, true, true, true] rfl rfl (by kernel_rfl) (fun c a w h => hP c a _ _ w h) (y_assign rfl (by rfl) (by rfl)) rfl ?_
    (try simp only [zP, zN, zA, zB, zC])
    refine done_ (by kernel_rfl) (th_norm (hK48 _ _ ?_)); clear hK48 K48
    refine wp_ret ?_
    refine hQ _ _ _ ?_
    refine bodyPost_ret (res1 rfl (rdv_tmp (v := .bool true) (by rfl))) rfl ?_
    exact ⟨rfl, C0.out⟩
end
end Go.Proofs.Ytmoelehhofmhcaa.V
