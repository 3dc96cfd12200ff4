/- The walks of the document's limit, and of the law PressLimits. -/
import Derived.Test.YtmoelehhofmhcaaPrL
namespace Go.Proofs.Ytmoelehhofmhcaa.V
open Go Go.RowKit Go.Proofs.Ytmoelehhofmhcaa.K Go.Proofs.YtmoelehhofmhcaaW.PrintLast
set_option linter.unusedVariables false
set_option linter.unusedSimpArgs false
set_option maxRecDepth 100000
set_option maxHeartbeats 1600000
section
variable {w : World}
theorem fits_ {a b p : Int} (HA : Hid (0 ≤ a ∧ a ≤ 1152921504606846976)) (HB : Hid (0 ≤ b ∧ b ≤ 1152921504606846976)) (HP : Hid (0 ≤ p ∧ p ≤ 100))  :
  Calls Try.prog 20 #[.int .i64 a, .int .i64 b, .int .i64 p] w fun en w' => en = .returned (.bool (fitsB a b p)) ∧ Ch [] w w' := by
 have C0 := qh (Ch.refl [] w)
 go_enter Try.func20, Try.ntmps20
 refine q_ (fun Q hQ hP => ?_)
 refine s_ (fun K1 hK1 => ?_)
 refine pu_ (v := .bool false) (y_assign rfl (by rfl) (by rfl)) ?_
 try simp only [zP,zN,zA,zB,zC]
 refine nl_ (hK1 _ _ ?_); clear hK1 K1
 refine s_ (fun K2 hK2 => ?_)
 refine pu_ (v := .int .i64 1073741824) (y_assign rfl (by rfl) (by rfl)) ?_
 try simp only [zP,zN,zA,zB,zC]
 refine nl_ (hK2 _ _ ?_); clear hK2 K2
 skip
 ·obtain ⟨q, r, hq, hr, ha, hr0, hr1, hq0⟩ := split30 a HA.out.1
  obtain ⟨s0, t, hs, ht, hb, ht0, ht1, hs0⟩ := split30 b HB.out.1
  have HQ := qh hq; have HR := qh hr; have HS := qh hs; have HT := qh ht; have EA := qh ha; have EB := qh hb
  have BA := qh (show 0 ≤ q ∧ q ≤ 2147483648 ∧ 0 ≤ r ∧ r < 1073741824 by have := HA.out; omega)
  have BB := qh (show 0 ≤ s0 ∧ s0 ≤ 1073741824 ∧ 0 ≤ t ∧ t < 1073741824 by have := HB.out; omega)
  clear hq hr hs ht ha hb hr0 hr1 hq0 ht0 ht1 hs0
  obtain ⟨x, hx⟩ : ∃ z, z = q * 100 := ⟨_, rfl⟩
  have Ex := qh hx
  have Bx := qh (show 0 ≤ x ∧ x ≤ 214748364800 by have := BA.out; omega)
  clear hx
  obtain ⟨y, hy⟩ : ∃ z, z = r * 100 := ⟨_, rfl⟩
  have Ey := qh hy
  have By := qh (show 0 ≤ y ∧ y ≤ 107374182400 by have := BA.out; omega)
  clear hy
  obtain ⟨u, hu⟩ : ∃ z, z = s0 * p := ⟨_, rfl⟩
  have Eu := qh hu
  have Bu := qh (show 0 ≤ u ∧ u ≤ 107374182400 by rw [hu]; exact ⟨Int.mul_nonneg (by have := BB.out; omega) HP.out.1, Int.le_trans (Int.mul_le_mul (c := 1073741824) (d := 100) (by have := BB.out; omega) HP.out.2 HP.out.1 (by omega)) (by omega)⟩)
  clear hu
  obtain ⟨v, hv⟩ : ∃ z, z = t * p := ⟨_, rfl⟩
  have Ev := qh hv
  have Bv := qh (show 0 ≤ v ∧ v ≤ 107374182400 by rw [hv]; exact ⟨Int.mul_nonneg (by have := BB.out; omega) HP.out.1, Int.le_trans (Int.mul_le_mul (c := 1073741824) (d := 100) (by have := BB.out; omega) HP.out.2 HP.out.1 (by omega)) (by omega)⟩)
  clear hv
  have W14 := qh (show a.tdiv 1073741824 = q by rw [← HQ.out]; exact Int.tdiv_eq_ediv_of_nonneg HA.out.1)
  have X14 := qh (show IntKind.i64.wrap (q) = q from wr64 (by have := BA.out; omega))
  have W18 := qh (show a.tmod 1073741824 = r by rw [← HR.out]; exact Int.tmod_eq_emod_of_nonneg HA.out.1)
  have X18 := qh (show IntKind.i64.wrap (r) = r from wr64 (by have := BA.out; omega))
  have W22 := qh (show b.tdiv 1073741824 = s0 by rw [← HS.out]; exact Int.tdiv_eq_ediv_of_nonneg HB.out.1)
  have X22 := qh (show IntKind.i64.wrap (s0) = s0 from wr64 (by have := BB.out; omega))
  have W27 := qh (show b.tmod 1073741824 = t by rw [← HT.out]; exact Int.tmod_eq_emod_of_nonneg HB.out.1)
  have X27 := qh (show IntKind.i64.wrap (t) = t from wr64 (by have := BB.out; omega))
  have W15 := qh (show IntKind.i64.wrap (q * 100) = x by rw [← Ex.out]; exact wr64 (by have := Bx.out; omega))
  have W19 := qh (show IntKind.i64.wrap (r * 100) = y by rw [← Ey.out]; exact wr64 (by have := By.out; omega))
  have W24 := qh (show IntKind.i64.wrap (s0 * p) = u by rw [← Eu.out]; exact wr64 (by have := Bu.out; omega))
  have W29 := qh (show IntKind.i64.wrap (t * p) = v by rw [← Ev.out]; exact wr64 (by have := Bv.out; omega))
  have W33 := qh (show y.tdiv 1073741824 = y / 1073741824 by exact Int.tdiv_eq_ediv_of_nonneg By.out.1)
  have X33 := qh (show IntKind.i64.wrap (y / 1073741824) = y / 1073741824 from wr64 (by have := By.out; omega))
  have W34 := qh (show IntKind.i64.wrap (x + y / 1073741824) = x + y / 1073741824 from wr64 (by have := Bx.out; have := By.out; omega))
  have W38 := qh (show v.tdiv 1073741824 = v / 1073741824 by exact Int.tdiv_eq_ediv_of_nonneg Bv.out.1)
  have X38 := qh (show IntKind.i64.wrap (v / 1073741824) = v / 1073741824 from wr64 (by have := Bv.out; omega))
  have W39 := qh (show IntKind.i64.wrap (u + v / 1073741824) = u + v / 1073741824 from wr64 (by have := Bu.out; have := Bv.out; omega))
  have W50 := qh (show y.tmod 1073741824 = y % 1073741824 by exact Int.tmod_eq_emod_of_nonneg By.out.1)
  have X50 := qh (show IntKind.i64.wrap (y % 1073741824) = y % 1073741824 from wr64 (by have := By.out; omega))
  have W53 := qh (show v.tmod 1073741824 = v % 1073741824 by exact Int.tmod_eq_emod_of_nonneg Bv.out.1)
  have X53 := qh (show IntKind.i64.wrap (v % 1073741824) = v % 1073741824 from wr64 (by have := Bv.out; omega))
  have FP := qh (fits_parts Ex.out Ey.out Eu.out Ev.out By.out.1 Bv.out.1)
  refine sq_ (fun K3 hK3 => ?_)
  refine startk_ (S := fun W => True) (ds := []) (msk 10 0) (by kernel_rfl) rfl (by kernel_rfl) (fun W c => trivial) (fun w4 C5 hS6 => ?_)
  replace C0 := qh (C0.out.trans' C5 inw_nil)
  clear C5
  refine pureh_ (i := 0) (N := some 12) (v := .int .i64 a) (msk 10 1) rfl rfl (by kernel_rfl) hP (y_move rfl (by rfl) (by rfl)) rfl ?_
  try simp only [zP,zN,zA,zB,zC]
  refine pureh_ (i := 1) (N := some 13) (v := .int .i64 1073741824) (msk 10 3) rfl rfl (by kernel_rfl) hP (y_move rfl (by rfl) (by rfl)) rfl ?_
  try simp only [zP,zN,zA,zB,zC]
  refine pureh_ (i := 2) (N := some 14) (v := .int .i64 q) (msk 10 7) rfl rfl (by kernel_rfl) hP (y_run (by rfl) (fun W => by have d := W14.out; have d2 := X14.out; go_simp)) rfl ?_
  try simp only [zP,zN,zA,zB,zC]
  refine pureh_ (i := 3) (N := some 15) (v := .int .i64 x) (msk 10 15) rfl rfl (by kernel_rfl) hP (y_run (by rfl) (fun W => by have d := W15.out; go_simp)) rfl ?_
  try simp only [zP,zN,zA,zB,zC]
  refine pureh_ (i := 4) (N := some 16) (v := .int .i64 a) (msk 10 31) rfl rfl (by kernel_rfl) hP (y_move rfl (by rfl) (by rfl)) rfl ?_
  try simp only [zP,zN,zA,zB,zC]
  refine pureh_ (i := 5) (N := some 17) (v := .int .i64 1073741824) (msk 10 63) rfl rfl (by kernel_rfl) hP (y_move rfl (by rfl) (by rfl)) rfl ?_
  try simp only [zP,zN,zA,zB,zC]
  refine pureh_ (i := 6) (N := some 18) (v := .int .i64 r) (msk 10 127) rfl rfl (by kernel_rfl) hP (y_run (by rfl) (fun W => by have d := W18.out; have d2 := X18.out; go_simp)) rfl ?_
  try simp only [zP,zN,zA,zB,zC]
  refine pureh_ (i := 7) (N := some 19) (v := .int .i64 y) (msk 10 255) rfl rfl (by kernel_rfl) hP (y_run (by rfl) (fun W => by have d := W19.out; go_simp)) rfl ?_
  try simp only [zP,zN,zA,zB,zC]
  refine pureh_ (i := 8) (N := some 8) (v := .int .i64 x) (msk 10 511) rfl rfl (by kernel_rfl) hP (y_assign rfl (by rfl) (by rfl)) rfl ?_
  try simp only [zP,zN,zA,zB,zC]
  refine pureh_ (i := 9) (N := some 9) (v := .int .i64 y) (msk 10 1023) rfl rfl (by kernel_rfl) hP (y_assign rfl (by rfl) (by rfl)) rfl ?_
  try simp only [zP,zN,zA,zB,zC]
  refine done_ (by kernel_rfl) (th_norm (hK3 _ _ ?_)); clear hK3 K3
  refine sq_ (fun K7 hK7 => ?_)
  refine startk_ (S := fun W => True) (ds := []) (msk 12 0) (by kernel_rfl) rfl (by kernel_rfl) (fun W c => trivial) (fun w8 C9 hS10 => ?_)
  replace C0 := qh (C0.out.trans' C9 inw_nil)
  clear C9
  refine pureh_ (i := 0) (N := some 20) (v := .int .i64 b) (msk 12 1) rfl rfl (by kernel_rfl) hP (y_move rfl (by rfl) (by rfl)) rfl ?_
  try simp only [zP,zN,zA,zB,zC]
  refine pureh_ (i := 1) (N := some 21) (v := .int .i64 1073741824) (msk 12 3) rfl rfl (by kernel_rfl) hP (y_move rfl (by rfl) (by rfl)) rfl ?_
  try simp only [zP,zN,zA,zB,zC]
  refine pureh_ (i := 2) (N := some 22) (v := .int .i64 s0) (msk 12 7) rfl rfl (by kernel_rfl) hP (y_run (by rfl) (fun W => by have d := W22.out; have d2 := X22.out; go_simp)) rfl ?_
  try simp only [zP,zN,zA,zB,zC]
  refine pureh_ (i := 3) (N := some 23) (v := .int .i64 p) (msk 12 15) rfl rfl (by kernel_rfl) hP (y_move rfl (by rfl) (by rfl)) rfl ?_
  try simp only [zP,zN,zA,zB,zC]
  refine pureh_ (i := 4) (N := some 24) (v := .int .i64 u) (msk 12 31) rfl rfl (by kernel_rfl) hP (y_run (by rfl) (fun W => by have d := W24.out; go_simp)) rfl ?_
  try simp only [zP,zN,zA,zB,zC]
  refine pureh_ (i := 5) (N := some 25) (v := .int .i64 b) (msk 12 63) rfl rfl (by kernel_rfl) hP (y_move rfl (by rfl) (by rfl)) rfl ?_
  try simp only [zP,zN,zA,zB,zC]
  refine pureh_ (i := 6) (N := some 26) (v := .int .i64 1073741824) (msk 12 127) rfl rfl (by kernel_rfl) hP (y_move rfl (by rfl) (by rfl)) rfl ?_
  try simp only [zP,zN,zA,zB,zC]
  refine pureh_ (i := 7) (N := some 27) (v := .int .i64 t) (msk 12 255) rfl rfl (by kernel_rfl) hP (y_run (by rfl) (fun W => by have d := W27.out; have d2 := X27.out; go_simp)) rfl ?_
  try simp only [zP,zN,zA,zB,zC]
  refine pureh_ (i := 8) (N := some 28) (v := .int .i64 p) (msk 12 511) rfl rfl (by kernel_rfl) hP (y_move rfl (by rfl) (by rfl)) rfl ?_
  try simp only [zP,zN,zA,zB,zC]
  refine pureh_ (i := 9) (N := some 29) (v := .int .i64 v) (msk 12 1023) rfl rfl (by kernel_rfl) hP (y_run (by rfl) (fun W => by have d := W29.out; go_simp)) rfl ?_
  try simp only [zP,zN,zA,zB,zC]
  refine pureh_ (i := 10) (N := some 10) (v := .int .i64 u) (msk 12 2047) rfl rfl (by kernel_rfl) hP (y_assign rfl (by rfl) (by rfl)) rfl ?_
  try simp only [zP,zN,zA,zB,zC]
  refine pureh_ (i := 11) (N := some 11) (v := .int .i64 v) (msk 12 4095) rfl rfl (by kernel_rfl) hP (y_assign rfl (by rfl) (by rfl)) rfl ?_
  try simp only [zP,zN,zA,zB,zC]
  refine done_ (by kernel_rfl) (th_norm (hK7 _ _ ?_)); clear hK7 K7
  refine s_ (fun K11 hK11 => ?_)
  refine pu_ (v := .int .i64 x) (y_move rfl (by rfl) (by rfl)) ?_
  try simp only [zP,zN,zA,zB,zC]
  refine pu_ (v := .int .i64 y) (y_move rfl (by rfl) (by rfl)) ?_
  try simp only [zP,zN,zA,zB,zC]
  refine pu_ (v := .int .i64 1073741824) (y_move rfl (by rfl) (by rfl)) ?_
  try simp only [zP,zN,zA,zB,zC]
  refine pu_ (v := .int .i64 (y / 1073741824)) (y_run (by rfl) (fun W => by have d := W33.out; have d2 := X33.out; go_simp)) ?_
  try simp only [zP,zN,zA,zB,zC]
  refine pu_ (v := .int .i64 (x + y / 1073741824)) (y_run (by rfl) (fun W => by have d := W34.out; go_simp)) ?_
  try simp only [zP,zN,zA,zB,zC]
  refine pu_ (v := .int .i64 (x + y / 1073741824)) (y_assign rfl (by rfl) (by rfl)) ?_
  try simp only [zP,zN,zA,zB,zC]
  refine nl_ (hK11 _ _ ?_); clear hK11 K11
  refine s_ (fun K12 hK12 => ?_)
  refine pu_ (v := .int .i64 u) (y_move rfl (by rfl) (by rfl)) ?_
  try simp only [zP,zN,zA,zB,zC]
  refine pu_ (v := .int .i64 v) (y_move rfl (by rfl) (by rfl)) ?_
  try simp only [zP,zN,zA,zB,zC]
  refine pu_ (v := .int .i64 1073741824) (y_move rfl (by rfl) (by rfl)) ?_
  try simp only [zP,zN,zA,zB,zC]
  refine pu_ (v := .int .i64 (v / 1073741824)) (y_run (by rfl) (fun W => by have d := W38.out; have d2 := X38.out; go_simp)) ?_
  try simp only [zP,zN,zA,zB,zC]
  refine pu_ (v := .int .i64 (u + v / 1073741824)) (y_run (by rfl) (fun W => by have d := W39.out; go_simp)) ?_
  try simp only [zP,zN,zA,zB,zC]
  refine pu_ (v := .int .i64 (u + v / 1073741824)) (y_assign rfl (by rfl) (by rfl)) ?_
  try simp only [zP,zN,zA,zB,zC]
  refine nl_ (hK12 _ _ ?_); clear hK12 K12
  rcases (show (x + y / 1073741824 < u + v / 1073741824) ∨ (x + y / 1073741824 = u + v / 1073741824 ∧ y % 1073741824 ≤ v % 1073741824) ∨ (x + y / 1073741824 = u + v / 1073741824 ∧ v % 1073741824 < y % 1073741824) ∨ (u + v / 1073741824 < x + y / 1073741824) by omega) with h | h | h | h
  ·have HH := qh h
   clear h
   have D42 := qh (show decide (x + y / 1073741824 < u + v / 1073741824) = true from decide_eq_true (by have := HH.out; omega))
   have HRR := qh (show fitsB a b p = true by unfold fitsB; exact decide_eq_true (by rw [EA.out, EB.out]; exact FP.out.1 (by have := HH.out; omega)))
   refine sq_ (fun K13 hK13 => ?_)
   refine startk_ (S := fun W => True) (ds := []) (msk 18 0) (by kernel_rfl) rfl (by kernel_rfl) (fun W c => trivial) (fun w14 C15 hS16 => ?_)
   replace C0 := qh (C0.out.trans' C15 inw_nil)
   clear C15
   refine pureh_ (i := 0) (N := some 40) (v := .int .i64 (x + y / 1073741824)) (msk 18 1) rfl rfl (by kernel_rfl) hP (y_move rfl (by rfl) (by rfl)) rfl ?_
   try simp only [zP,zN,zA,zB,zC]
   refine pureh_ (i := 1) (N := some 41) (v := .int .i64 (u + v / 1073741824)) (msk 18 3) rfl rfl (by kernel_rfl) hP (y_move rfl (by rfl) (by rfl)) rfl ?_
   try simp only [zP,zN,zA,zB,zC]
   refine pureh_ (i := 2) (N := some 42) (v := .bool true) (msk 18 7) rfl rfl (by kernel_rfl) hP (y_run (by rfl) (fun W => by have d := D42.out; go_simp)) rfl ?_
   try simp only [zP,zN,zA,zB,zC]
   refine pureh_ (i := 3) (N := some 43) (v := .bool true) (msk 18 15) rfl rfl (by kernel_rfl) hP (y_move rfl (by rfl) (by rfl)) rfl ?_
   try simp only [zP,zN,zA,zB,zC]
   refine pureh_ (i := 4) (N := some 44) (v := undef) (msk 18 31) rfl rfl (by kernel_rfl) hP (y_off (by rfl)) rfl ?_
   try simp only [zP,zN,zA,zB,zC]
   refine pureh_ (i := 5) (N := some 45) (v := undef) (msk 18 63) rfl rfl (by kernel_rfl) hP (y_off (by rfl)) rfl ?_
   try simp only [zP,zN,zA,zB,zC]
   refine pureh_ (i := 6) (N := some 46) (v := undef) (msk 18 127) rfl rfl (by kernel_rfl) hP (y_off (by rfl)) rfl ?_
   try simp only [zP,zN,zA,zB,zC]
   refine pureh_ (i := 7) (N := some 47) (v := undef) (msk 18 255) rfl rfl (by kernel_rfl) hP (y_off (by rfl)) rfl ?_
   try simp only [zP,zN,zA,zB,zC]
   refine pureh_ (i := 8) (N := some 48) (v := undef) (msk 18 511) rfl rfl (by kernel_rfl) hP (y_off (by rfl)) rfl ?_
   try simp only [zP,zN,zA,zB,zC]
   refine pureh_ (i := 9) (N := some 49) (v := undef) (msk 18 1023) rfl rfl (by kernel_rfl) hP (y_off (by rfl)) rfl ?_
   try simp only [zP,zN,zA,zB,zC]
   refine pureh_ (i := 10) (N := some 50) (v := undef) (msk 18 2047) rfl rfl (by kernel_rfl) hP (y_off (by rfl)) rfl ?_
   try simp only [zP,zN,zA,zB,zC]
   refine pureh_ (i := 11) (N := some 51) (v := undef) (msk 18 4095) rfl rfl (by kernel_rfl) hP (y_off (by rfl)) rfl ?_
   try simp only [zP,zN,zA,zB,zC]
   refine pureh_ (i := 12) (N := some 52) (v := undef) (msk 18 8191) rfl rfl (by kernel_rfl) hP (y_off (by rfl)) rfl ?_
   try simp only [zP,zN,zA,zB,zC]
   refine pureh_ (i := 13) (N := some 53) (v := undef) (msk 18 16383) rfl rfl (by kernel_rfl) hP (y_off (by rfl)) rfl ?_
   try simp only [zP,zN,zA,zB,zC]
   refine pureh_ (i := 14) (N := some 54) (v := undef) (msk 18 32767) rfl rfl (by kernel_rfl) hP (y_off (by rfl)) rfl ?_
   try simp only [zP,zN,zA,zB,zC]
   refine pureh_ (i := 15) (N := some 55) (v := undef) (msk 18 65535) rfl rfl (by kernel_rfl) hP (y_off (by rfl)) rfl ?_
   try simp only [zP,zN,zA,zB,zC]
   refine pureh_ (i := 16) (N := some 56) (v := .bool true) (msk 18 131071) rfl rfl (by kernel_rfl) hP (y_pick (t := true) (by rfl) rfl (by rfl) (by rfl)) rfl ?_
   try simp only [zP,zN,zA,zB,zC]
   refine pureh_ (i := 17) (N := some 6) (v := .bool true) (msk 18 262143) rfl rfl (by kernel_rfl) hP (y_assign rfl (by rfl) (by rfl)) rfl ?_
   try simp only [zP,zN,zA,zB,zC]
   refine done_ (by kernel_rfl) (th_norm (hK13 _ _ ?_)); clear hK13 K13
   refine wp_ret ?_
   refine hQ _ _ _ ?_
   refine bodyPost_ret (res1 rfl (rdv_tmp (v := .bool true) (by rfl))) rfl ?_
   exact ⟨by rw [HRR.out], C0.out⟩
  ·have HH := qh h
   clear h
   have D42 := qh (show decide (x + y / 1073741824 < u + v / 1073741824) = false from decide_eq_false (by have := HH.out; omega))
   have D46 := qh (show (x + y / 1073741824 == u + v / 1073741824) = true from beq_iff_eq.2 (by have := HH.out; omega))
   have D54 := qh (show decide (y % 1073741824 ≤ v % 1073741824) = true from decide_eq_true (by have := HH.out; omega))
   have HRR := qh (show fitsB a b p = true by unfold fitsB; exact decide_eq_true (by rw [EA.out, EB.out]; exact FP.out.1 (by have := HH.out; omega)))
   refine sq_ (fun K17 hK17 => ?_)
   refine startk_ (S := fun W => True) (ds := []) (msk 18 0) (by kernel_rfl) rfl (by kernel_rfl) (fun W c => trivial) (fun w18 C19 hS20 => ?_)
   replace C0 := qh (C0.out.trans' C19 inw_nil)
   clear C19
   refine pureh_ (i := 0) (N := some 40) (v := .int .i64 (x + y / 1073741824)) (msk 18 1) rfl rfl (by kernel_rfl) hP (y_move rfl (by rfl) (by rfl)) rfl ?_
   try simp only [zP,zN,zA,zB,zC]
   refine pureh_ (i := 1) (N := some 41) (v := .int .i64 (u + v / 1073741824)) (msk 18 3) rfl rfl (by kernel_rfl) hP (y_move rfl (by rfl) (by rfl)) rfl ?_
   try simp only [zP,zN,zA,zB,zC]
   refine pureh_ (i := 2) (N := some 42) (v := .bool false) (msk 18 7) rfl rfl (by kernel_rfl) hP (y_run (by rfl) (fun W => by have d := D42.out; go_simp)) rfl ?_
   try simp only [zP,zN,zA,zB,zC]
   refine pureh_ (i := 3) (N := some 43) (v := .bool false) (msk 18 15) rfl rfl (by kernel_rfl) hP (y_move rfl (by rfl) (by rfl)) rfl ?_
   try simp only [zP,zN,zA,zB,zC]
   refine pureh_ (i := 4) (N := some 44) (v := .int .i64 (x + y / 1073741824)) (msk 18 31) rfl rfl (by kernel_rfl) hP (y_move rfl (by rfl) (by rfl)) rfl ?_
   try simp only [zP,zN,zA,zB,zC]
   refine pureh_ (i := 5) (N := some 45) (v := .int .i64 (u + v / 1073741824)) (msk 18 63) rfl rfl (by kernel_rfl) hP (y_move rfl (by rfl) (by rfl)) rfl ?_
   try simp only [zP,zN,zA,zB,zC]
   refine pureh_ (i := 6) (N := some 46) (v := .bool true) (msk 18 127) rfl rfl (by kernel_rfl) hP (y_run (by rfl) (fun W => by have d := D46.out; go_simp)) rfl ?_
   try simp only [zP,zN,zA,zB,zC]
   refine pureh_ (i := 7) (N := some 47) (v := .bool true) (msk 18 255) rfl rfl (by kernel_rfl) hP (y_move rfl (by rfl) (by rfl)) rfl ?_
   try simp only [zP,zN,zA,zB,zC]
   refine pureh_ (i := 8) (N := some 48) (v := .int .i64 y) (msk 18 511) rfl rfl (by kernel_rfl) hP (y_move rfl (by rfl) (by rfl)) rfl ?_
   try simp only [zP,zN,zA,zB,zC]
   refine pureh_ (i := 9) (N := some 49) (v := .int .i64 1073741824) (msk 18 1023) rfl rfl (by kernel_rfl) hP (y_move rfl (by rfl) (by rfl)) rfl ?_
   try simp only [zP,zN,zA,zB,zC]
   refine pureh_ (i := 10) (N := some 50) (v := .int .i64 (y % 1073741824)) (msk 18 2047) rfl rfl (by kernel_rfl) hP (y_run (by rfl) (fun W => by have d := W50.out; have d2 := X50.out; go_simp)) rfl ?_
   try simp only [zP,zN,zA,zB,zC]
   refine pureh_ (i := 11) (N := some 51) (v := .int .i64 v) (msk 18 4095) rfl rfl (by kernel_rfl) hP (y_move rfl (by rfl) (by rfl)) rfl ?_
   try simp only [zP,zN,zA,zB,zC]
   refine pureh_ (i := 12) (N := some 52) (v := .int .i64 1073741824) (msk 18 8191) rfl rfl (by kernel_rfl) hP (y_move rfl (by rfl) (by rfl)) rfl ?_
   try simp only [zP,zN,zA,zB,zC]
   refine pureh_ (i := 13) (N := some 53) (v := .int .i64 (v % 1073741824)) (msk 18 16383) rfl rfl (by kernel_rfl) hP (y_run (by rfl) (fun W => by have d := W53.out; have d2 := X53.out; go_simp)) rfl ?_
   try simp only [zP,zN,zA,zB,zC]
   refine pureh_ (i := 14) (N := some 54) (v := .bool true) (msk 18 32767) rfl rfl (by kernel_rfl) hP (y_run (by rfl) (fun W => by have d := D54.out; go_simp)) rfl ?_
   try simp only [zP,zN,zA,zB,zC]
   refine pureh_ (i := 15) (N := some 55) (v := .bool true) (msk 18 65535) rfl rfl (by kernel_rfl) hP (y_pick (t := true) (by rfl) rfl (by rfl) (by rfl)) rfl ?_
   try simp only [zP,zN,zA,zB,zC]
   refine pureh_ (i := 16) (N := some 56) (v := .bool true) (msk 18 131071) rfl rfl (by kernel_rfl) hP (y_pick (t := false) (by rfl) rfl (by rfl) (by rfl)) rfl ?_
   try simp only [zP,zN,zA,zB,zC]
   refine pureh_ (i := 17) (N := some 6) (v := .bool true) (msk 18 262143) rfl rfl (by kernel_rfl) hP (y_assign rfl (by rfl) (by rfl)) rfl ?_
   try simp only [zP,zN,zA,zB,zC]
   refine done_ (by kernel_rfl) (th_norm (hK17 _ _ ?_)); clear hK17 K17
   refine wp_ret ?_
   refine hQ _ _ _ ?_
   refine bodyPost_ret (res1 rfl (rdv_tmp (v := .bool true) (by rfl))) rfl ?_
   exact ⟨by rw [HRR.out], C0.out⟩
  ·have HH := qh h
   clear h
   have D42 := qh (show decide (x + y / 1073741824 < u + v / 1073741824) = false from decide_eq_false (by have := HH.out; omega))
   have D46 := qh (show (x + y / 1073741824 == u + v / 1073741824) = true from beq_iff_eq.2 (by have := HH.out; omega))
   have D54 := qh (show decide (y % 1073741824 ≤ v % 1073741824) = false from decide_eq_false (by have := HH.out; omega))
   have HRR := qh (show fitsB a b p = false by unfold fitsB; exact decide_eq_false (by rw [EA.out, EB.out]; exact fun h9 => by have := FP.out.2 h9; have := HH.out; omega))
   refine sq_ (fun K21 hK21 => ?_)
   refine startk_ (S := fun W => True) (ds := []) (msk 18 0) (by kernel_rfl) rfl (by kernel_rfl) (fun W c => trivial) (fun w22 C23 hS24 => ?_)
   replace C0 := qh (C0.out.trans' C23 inw_nil)
   clear C23
   refine pureh_ (i := 0) (N := some 40) (v := .int .i64 (x + y / 1073741824)) (msk 18 1) rfl rfl (by kernel_rfl) hP (y_move rfl (by rfl) (by rfl)) rfl ?_
   try simp only [zP,zN,zA,zB,zC]
   refine pureh_ (i := 1) (N := some 41) (v := .int .i64 (u + v / 1073741824)) (msk 18 3) rfl rfl (by kernel_rfl) hP (y_move rfl (by rfl) (by rfl)) rfl ?_
   try simp only [zP,zN,zA,zB,zC]
   refine pureh_ (i := 2) (N := some 42) (v := .bool false) (msk 18 7) rfl rfl (by kernel_rfl) hP (y_run (by rfl) (fun W => by have d := D42.out; go_simp)) rfl ?_
   try simp only [zP,zN,zA,zB,zC]
   refine pureh_ (i := 3) (N := some 43) (v := .bool false) (msk 18 15) rfl rfl (by kernel_rfl) hP (y_move rfl (by rfl) (by rfl)) rfl ?_
   try simp only [zP,zN,zA,zB,zC]
   refine pureh_ (i := 4) (N := some 44) (v := .int .i64 (x + y / 1073741824)) (msk 18 31) rfl rfl (by kernel_rfl) hP (y_move rfl (by rfl) (by rfl)) rfl ?_
   try simp only [zP,zN,zA,zB,zC]
   refine pureh_ (i := 5) (N := some 45) (v := .int .i64 (u + v / 1073741824)) (msk 18 63) rfl rfl (by kernel_rfl) hP (y_move rfl (by rfl) (by rfl)) rfl ?_
   try simp only [zP,zN,zA,zB,zC]
   refine pureh_ (i := 6) (N := some 46) (v := .bool true) (msk 18 127) rfl rfl (by kernel_rfl) hP (y_run (by rfl) (fun W => by have d := D46.out; go_simp)) rfl ?_
   try simp only [zP,zN,zA,zB,zC]
   refine pureh_ (i := 7) (N := some 47) (v := .bool true) (msk 18 255) rfl rfl (by kernel_rfl) hP (y_move rfl (by rfl) (by rfl)) rfl ?_
   try simp only [zP,zN,zA,zB,zC]
   refine pureh_ (i := 8) (N := some 48) (v := .int .i64 y) (msk 18 511) rfl rfl (by kernel_rfl) hP (y_move rfl (by rfl) (by rfl)) rfl ?_
   try simp only [zP,zN,zA,zB,zC]
   refine pureh_ (i := 9) (N := some 49) (v := .int .i64 1073741824) (msk 18 1023) rfl rfl (by kernel_rfl) hP (y_move rfl (by rfl) (by rfl)) rfl ?_
   try simp only [zP,zN,zA,zB,zC]
   refine pureh_ (i := 10) (N := some 50) (v := .int .i64 (y % 1073741824)) (msk 18 2047) rfl rfl (by kernel_rfl) hP (y_run (by rfl) (fun W => by have d := W50.out; have d2 := X50.out; go_simp)) rfl ?_
   try simp only [zP,zN,zA,zB,zC]
   refine pureh_ (i := 11) (N := some 51) (v := .int .i64 v) (msk 18 4095) rfl rfl (by kernel_rfl) hP (y_move rfl (by rfl) (by rfl)) rfl ?_
   try simp only [zP,zN,zA,zB,zC]
   refine pureh_ (i := 12) (N := some 52) (v := .int .i64 1073741824) (msk 18 8191) rfl rfl (by kernel_rfl) hP (y_move rfl (by rfl) (by rfl)) rfl ?_
   try simp only [zP,zN,zA,zB,zC]
   refine pureh_ (i := 13) (N := some 53) (v := .int .i64 (v % 1073741824)) (msk 18 16383) rfl rfl (by kernel_rfl) hP (y_run (by rfl) (fun W => by have d := W53.out; have d2 := X53.out; go_simp)) rfl ?_
   try simp only [zP,zN,zA,zB,zC]
   refine pureh_ (i := 14) (N := some 54) (v := .bool false) (msk 18 32767) rfl rfl (by kernel_rfl) hP (y_run (by rfl) (fun W => by have d := D54.out; go_simp)) rfl ?_
   try simp only [zP,zN,zA,zB,zC]
   refine pureh_ (i := 15) (N := some 55) (v := .bool false) (msk 18 65535) rfl rfl (by kernel_rfl) hP (y_pick (t := true) (by rfl) rfl (by rfl) (by rfl)) rfl ?_
   try simp only [zP,zN,zA,zB,zC]
   refine pureh_ (i := 16) (N := some 56) (v := .bool false) (msk 18 131071) rfl rfl (by kernel_rfl) hP (y_pick (t := false) (by rfl) rfl (by rfl) (by rfl)) rfl ?_
   try simp only [zP,zN,zA,zB,zC]
   refine pureh_ (i := 17) (N := some 6) (v := .bool false) (msk 18 262143) rfl rfl (by kernel_rfl) hP (y_assign rfl (by rfl) (by rfl)) rfl ?_
   try simp only [zP,zN,zA,zB,zC]
   refine done_ (by kernel_rfl) (th_norm (hK21 _ _ ?_)); clear hK21 K21
   refine wp_ret ?_
   refine hQ _ _ _ ?_
   refine bodyPost_ret (res1 rfl (rdv_tmp (v := .bool false) (by rfl))) rfl ?_
   exact ⟨by rw [HRR.out], C0.out⟩
  ·have HH := qh h
   clear h
   have D42 := qh (show decide (x + y / 1073741824 < u + v / 1073741824) = false from decide_eq_false (by have := HH.out; omega))
   have D46 := qh (show (x + y / 1073741824 == u + v / 1073741824) = false from beq_eq_false_iff_ne.2 (by have := HH.out; omega))
   have HRR := qh (show fitsB a b p = false by unfold fitsB; exact decide_eq_false (by rw [EA.out, EB.out]; exact fun h9 => by have := FP.out.2 h9; have := HH.out; omega))
   refine sq_ (fun K25 hK25 => ?_)
   refine startk_ (S := fun W => True) (ds := []) (msk 18 0) (by kernel_rfl) rfl (by kernel_rfl) (fun W c => trivial) (fun w26 C27 hS28 => ?_)
   replace C0 := qh (C0.out.trans' C27 inw_nil)
   clear C27
   refine pureh_ (i := 0) (N := some 40) (v := .int .i64 (x + y / 1073741824)) (msk 18 1) rfl rfl (by kernel_rfl) hP (y_move rfl (by rfl) (by rfl)) rfl ?_
   try simp only [zP,zN,zA,zB,zC]
   refine pureh_ (i := 1) (N := some 41) (v := .int .i64 (u + v / 1073741824)) (msk 18 3) rfl rfl (by kernel_rfl) hP (y_move rfl (by rfl) (by rfl)) rfl ?_
   try simp only [zP,zN,zA,zB,zC]
   refine pureh_ (i := 2) (N := some 42) (v := .bool false) (msk 18 7) rfl rfl (by kernel_rfl) hP (y_run (by rfl) (fun W => by have d := D42.out; go_simp)) rfl ?_
   try simp only [zP,zN,zA,zB,zC]
   refine pureh_ (i := 3) (N := some 43) (v := .bool false) (msk 18 15) rfl rfl (by kernel_rfl) hP (y_move rfl (by rfl) (by rfl)) rfl ?_
   try simp only [zP,zN,zA,zB,zC]
   refine pureh_ (i := 4) (N := some 44) (v := .int .i64 (x + y / 1073741824)) (msk 18 31) rfl rfl (by kernel_rfl) hP (y_move rfl (by rfl) (by rfl)) rfl ?_
   try simp only [zP,zN,zA,zB,zC]
   refine pureh_ (i := 5) (N := some 45) (v := .int .i64 (u + v / 1073741824)) (msk 18 63) rfl rfl (by kernel_rfl) hP (y_move rfl (by rfl) (by rfl)) rfl ?_
   try simp only [zP,zN,zA,zB,zC]
   refine pureh_ (i := 6) (N := some 46) (v := .bool false) (msk 18 127) rfl rfl (by kernel_rfl) hP (y_run (by rfl) (fun W => by have d := D46.out; go_simp)) rfl ?_
   try simp only [zP,zN,zA,zB,zC]
   refine pureh_ (i := 7) (N := some 47) (v := .bool false) (msk 18 255) rfl rfl (by kernel_rfl) hP (y_move rfl (by rfl) (by rfl)) rfl ?_
   try simp only [zP,zN,zA,zB,zC]
   refine pureh_ (i := 8) (N := some 48) (v := undef) (msk 18 511) rfl rfl (by kernel_rfl) hP (y_off (by rfl)) rfl ?_
   try simp only [zP,zN,zA,zB,zC]
   refine pureh_ (i := 9) (N := some 49) (v := undef) (msk 18 1023) rfl rfl (by kernel_rfl) hP (y_off (by rfl)) rfl ?_
   try simp only [zP,zN,zA,zB,zC]
   refine pureh_ (i := 10) (N := some 50) (v := undef) (msk 18 2047) rfl rfl (by kernel_rfl) hP (y_off (by rfl)) rfl ?_
   try simp only [zP,zN,zA,zB,zC]
   refine pureh_ (i := 11) (N := some 51) (v := undef) (msk 18 4095) rfl rfl (by kernel_rfl) hP (y_off (by rfl)) rfl ?_
   try simp only [zP,zN,zA,zB,zC]
   refine pureh_ (i := 12) (N := some 52) (v := undef) (msk 18 8191) rfl rfl (by kernel_rfl) hP (y_off (by rfl)) rfl ?_
   try simp only [zP,zN,zA,zB,zC]
   refine pureh_ (i := 13) (N := some 53) (v := undef) (msk 18 16383) rfl rfl (by kernel_rfl) hP (y_off (by rfl)) rfl ?_
   try simp only [zP,zN,zA,zB,zC]
   refine pureh_ (i := 14) (N := some 54) (v := undef) (msk 18 32767) rfl rfl (by kernel_rfl) hP (y_off (by rfl)) rfl ?_
   try simp only [zP,zN,zA,zB,zC]
   refine pureh_ (i := 15) (N := some 55) (v := .bool false) (msk 18 65535) rfl rfl (by kernel_rfl) hP (y_pick (t := false) (by rfl) rfl (by rfl) (by rfl)) rfl ?_
   try simp only [zP,zN,zA,zB,zC]
   refine pureh_ (i := 16) (N := some 56) (v := .bool false) (msk 18 131071) rfl rfl (by kernel_rfl) hP (y_pick (t := false) (by rfl) rfl (by rfl) (by rfl)) rfl ?_
   try simp only [zP,zN,zA,zB,zC]
   refine pureh_ (i := 17) (N := some 6) (v := .bool false) (msk 18 262143) rfl rfl (by kernel_rfl) hP (y_assign rfl (by rfl) (by rfl)) rfl ?_
   try simp only [zP,zN,zA,zB,zC]
   refine done_ (by kernel_rfl) (th_norm (hK25 _ _ ?_)); clear hK25 K25
   refine wp_ret ?_
   refine hQ _ _ _ ?_
   refine bodyPost_ret (res1 rfl (rdv_tmp (v := .bool false) (by rfl))) rfl ?_
   exact ⟨by rw [HRR.out], C0.out⟩
theorem limit_ways (m p nn : Int) (k : Nat) (hk : k ≤ 61) : (∃ j : Nat, k = j + 1 ∧ ∃ pw : Int, pw = 2 ^ j ∧ 1 ≤ pw ∧ pw ≤ 1152921504606846976 ∧ nn + pw ≤ topZ m p) ∨ (∃ j : Nat, k = j + 1 ∧ ∃ pw : Int, pw = 2 ^ j ∧ 1 ≤ pw ∧ pw ≤ 1152921504606846976 ∧ (topZ m p < nn + pw ∧ nn + pw ≤ m)) ∨ (∃ j : Nat, k = j + 1 ∧ ∃ pw : Int, pw = 2 ^ j ∧ 1 ≤ pw ∧ pw ≤ 1152921504606846976 ∧ (topZ m p < nn + pw ∧ m < nn + pw)) ∨ k = 0 := by
 cases k with
 | zero => exact .inr (.inr (.inr rfl))
 | succ j =>
  have h1 : (1 : Int) ≤ 2 ^ j := by
   have : 0 < (2 : Int) ^ j := Int.pow_pos (by decide)
   omega
  have h2 : (2 : Int) ^ j ≤ 1152921504606846976 := by
   have h3 : (2 : Nat) ^ j ≤ 2 ^ 60 := Nat.pow_le_pow_right (by decide) (by omega)
   have h4 : ((2 ^ j : Nat) : Int) = (2 : Int) ^ j := by simp
   rw [← h4]
   have h5 : (2 : Nat) ^ 60 = 1152921504606846976 := by decide
   omega
  rcases (show nn + 2 ^ j ≤ topZ m p ∨ (topZ m p < nn + 2 ^ j ∧ nn + 2 ^ j ≤ m) ∨ (topZ m p < nn + 2 ^ j ∧ m < nn + 2 ^ j) by omega) with h | h | h
  ·exact .inl ⟨j, rfl, _, rfl, h1, h2, h⟩
  ·exact .inr (.inl ⟨j, rfl, _, rfl, h1, h2, h⟩)
  ·exact .inr (.inr (.inl ⟨j, rfl, _, rfl, h1, h2, h⟩))
theorem rlimit_ {c m e pc : Int} (HM : Hid (SmallZ m))  :
  Calls Try.prog 8 #[.agg #[.int .i64 c, .int .i64 m, .int .i64 e], .int .i64 pc] w fun en w' => en = .returned (.int .i64 (limZ m pc)) ∧ Ch [] w w' := by
 have C0 := qh (Ch.refl [] w)
 go_enter Try.func8, Try.ntmps8
 refine q_ (fun Q hQ hP => ?_)
 refine s_ (fun K1 hK1 => ?_)
 refine ef_ (fun K2 hK2 => ?_)
 refine e_boxN (by rfl) rfl rfl (cs := #[.int .i64 c, .int .i64 m, .int .i64 e]) (v := .agg #[.int .i64 c, .int .i64 m, .int .i64 e]) (by rfl) rfl ?_
 rintro g3 w4 HG5 B6 C7
 have nw8 := qh (show w.heap.size ≤ g3 by have := C0.out.size; have := HG5.out; omega)
 replace C0 := qh (C0.out.trans' C7 inw_nil)
 have Fg3 := qh (show Blk w4 g3 (#[.int .i64 c, .int .i64 m, .int .i64 e]) 23 from B6); clear B6 C7
 refine hK2 _ _ ?_; clear hK2 K2
 try simp only [zP,zN,zA,zB,zC]
 refine pu_ (v := .int .i64 0) (y_assign rfl (by rfl) (by rfl)) ?_
 try simp only [zP,zN,zA,zB,zC]
 refine nl_ (hK1 _ _ ?_); clear hK1 K1
 refine sq_ (fun K9 hK9 => ?_)
 rcases (show pc < 0 ∨ 100 < pc ∨ (0 ≤ pc ∧ pc ≤ 100) by omega) with h | h | h
 ·have HH := qh h
  clear h
  have D9 := qh (show decide (pc < 0) = true from decide_eq_true (by have := HH.out; omega))
  refine s_ (fun K10 hK10 => ?_)
  refine pu_ (v := .int .i64 pc) (y_move rfl (by rfl) (by rfl)) ?_
  try simp only [zP,zN,zA,zB,zC]
  refine pu_ (v := .bool true) (y_run (by rfl) (fun W => by have d := D9.out; go_simp)) ?_
  try simp only [zP,zN,zA,zB,zC]
  refine nl_ (hK10 _ _ ?_); clear hK10 K10
  refine wp_cond_true rfl ?_
  refine r_ ?_
  refine pu_ (v := .int .i64 0) (y_assign rfl (by rfl) (by rfl)) ?_
  try simp only [zP,zN,zA,zB,zC]
  refine nl_ ?_
  refine th_norm (hK9 _ _ ?_); try clear hK9 K9
  refine sq_ (fun K11 hK11 => ?_)
  refine s_ (fun K12 hK12 => ?_)
  refine pu_ (v := .int .i64 0) (y_move rfl (by rfl) (by rfl)) ?_
  try simp only [zP,zN,zA,zB,zC]
  refine pu_ (v := .bool false) (y_run (by rfl) (fun W => by first | (go_simp; done) | (go_simp; decide))) ?_
  try simp only [zP,zN,zA,zB,zC]
  refine nl_ (hK12 _ _ ?_); clear hK12 K12
  refine wp_cond_false rfl ?_
  refine wp_skip ?_
  refine th_norm (hK11 _ _ ?_); try clear hK11 K11
  refine s_ (fun K13 hK13 => ?_)
  refine pu_ (v := .int .i64 0) (y_assign rfl (by rfl) (by rfl)) ?_
  try simp only [zP,zN,zA,zB,zC]
  refine nl_ (hK13 _ _ ?_); clear hK13 K13
  refine sq_ (fun K14 hK14 => ?_)
  refine s_ (fun K15 hK15 => ?_)
  refine pu_ (v := .int .i64 60) (y_assign rfl (by rfl) (by rfl)) ?_
  try simp only [zP,zN,zA,zB,zC]
  refine nl_ (hK15 _ _ ?_); clear hK15 K15
  refine wp_block ?_
  refine loopk_ (fun (kq : Nat) (a' : Act) (w' : World) => ∃ (k : Nat), ∃ (p : Int), ∃ (nn : Int), ∃ (i : Int), a' = ⟨#[uo a' 0, .int .i64 p, .pointer (some ⟨g3, 0, none⟩), uo a' 3, .int .i64 0, .int .i64 nn, .int .i64 i, uo a' 7, uo a' 8, uo a' 9, uo a' 10, uo a' 11, uo a' 12, uo a' 13, uo a' 14, uo a' 15, uo a' 16, uo a' 17, uo a' 18, uo a' 19, uo a' 20, uo a' 21, uo a' 22, uo a' 23, uo a' 24, uo a' 25, uo a' 26, uo a' 27, uo a' 28, uo a' 29, uo a' 30, uo a' 31, uo a' 32, uo a' 33], []⟩ ∧ Hid (Ch [] w w') ∧ Hid (Blk w' g3 (#[.int .i64 c, .int .i64 m, .int .i64 e]) 23) ∧ Hid (k ≤ 61 ∧ kq = k ∧ i = (k : Int) - 1) ∧ Hid (p = min (max pc 0) 100 ∧ 0 ≤ p ∧ p ≤ 100) ∧ Hid (0 ≤ nn ∧ nn ≤ topZ m p ∧ topZ m p < nn + 2 ^ k)) (61) (⟨61, 0, 0, 60, rfl, C0, Fg3, qh ⟨by omega, rfl, by omega⟩, qh (by have := HH.out; omega), qh (by have h9 := top_le (m := m) (p := 0) HM.out.1 (by have := HH.out; omega); have h8 := HM.out; unfold SmallZ at h8; exact ⟨by omega, h9.1, by have : (2 : Int) ^ 61 = 2305843009213693952 := (by decide); omega⟩)⟩) ?_
  rintro kq a_ w16 ⟨k, p, nn, i, ha_, C0, Fg3, hk, hp, hn⟩ K17 hK17
  obtain ⟨us, hus_⟩ : ∃ us, us = uo a_ := ⟨_, rfl⟩; try rw [← hus_] at ha_
  subst ha_; clear hus_
  refine sq_ (fun K18 hK18 => ?_)
  rcases limit_ways m p nn k (hk := hk.out.1) with h | h | h | h
  ·obtain ⟨j, hj, pw, hpw, hpw1, hpw2, h⟩ := h
   have HJ := qh hj; have HPW := qh hpw; have HB := qh (And.intro hpw1 hpw2); have HH := qh h; clear hj hpw hpw1 hpw2 h
   have D13 := qh (show decide (i ≥ 0) = true from decide_eq_true (by have := hk.out; have := HJ.out; omega))
   have HTM := qh (top_le (m := m) (p := p) HM.out.1 hp.out.2)
   have HM2 := qh (show m ≤ 1152921504606846976 from HM.out.2)
   have EI := qh (show i = (j : Int) by have := hk.out; have := HJ.out; omega)
   have W18 := qh (show IntKind.u64.wrap i = (j : Int) by rw [EI.out]; exact wu64 (by have := hk.out; have := HJ.out; omega))
   have W19 := qh (show IntKind.i64.wrap pw = pw from wr64 (by have := HB.out; omega))
   have J64 := qh (show j < 64 by have := hk.out; have := HJ.out; omega)
   have P19 := qh (show ((2 : Int) ^ j) = pw from HPW.out.symm)
   have W20 := qh (show IntKind.i64.wrap (nn + pw) = nn + pw from wr64 (by have := HB.out; have := hn.out; have := HTM.out; have := HM2.out; omega))
   have W15 := qh (show IntKind.i64.wrap (i - 1) = (j : Int) - 1 by rw [EI.out]; exact wr64 (by have := J64.out; omega))
   have HN := qh (show 0 ≤ nn ∧ nn ≤ topZ m p ∧ topZ m p < nn + 2 * pw by have h9 := hn.out; rw [HJ.out, Int.pow_succ, ← HPW.out] at h9; omega)
   have D24 := qh (show decide (nn + pw ≤ m) = true from decide_eq_true (by have := HH.out; have := HTM.out; omega))
   have HF := qh (show fitsB (nn + pw) m p = true from decide_eq_true (fits_top.2 HH.out))
   refine s_ (fun K19 hK19 => ?_)
   refine pu_ (v := .int .i64 i) (y_move rfl (by rfl) (by rfl)) ?_
   try simp only [zP,zN,zA,zB,zC]
   refine pu_ (v := .bool true) (y_run (by rfl) (fun W => by have d := D13.out; go_simp)) ?_
   try simp only [zP,zN,zA,zB,zC]
   refine nl_ (hK19 _ _ ?_); clear hK19 K19
   refine wp_cond_true rfl ?_
   refine wp_skip ?_
   refine th_norm (hK18 _ _ ?_); try clear hK18 K18
   refine sq_ (fun K20 hK20 => ?_)
   refine wp_block ?_
   refine s_ (fun K21 hK21 => ?_)
   refine pu_ (v := .int .i64 nn) (y_move rfl (by rfl) (by rfl)) ?_
   try simp only [zP,zN,zA,zB,zC]
   refine pu_ (v := .int .i64 i) (y_move rfl (by rfl) (by rfl)) ?_
   try simp only [zP,zN,zA,zB,zC]
   refine pu_ (v := .int .u64 j) (y_run (by rfl) (fun W => by have d := W18.out; go_simp)) ?_
   try simp only [zP,zN,zA,zB,zC]
   refine pu_ (v := .int .i64 pw) (y_run (by rfl) (fun W => by have d := W19.out; have d2 := P19.out; have d3 := J64.out; go_simp)) ?_
   try simp only [zP,zN,zA,zB,zC]
   refine pu_ (v := .int .i64 (nn + pw)) (y_run (by rfl) (fun W => by have d := W20.out; go_simp)) ?_
   try simp only [zP,zN,zA,zB,zC]
   refine pu_ (v := .int .i64 (nn + pw)) (y_assign rfl (by rfl) (by rfl)) ?_
   try simp only [zP,zN,zA,zB,zC]
   refine nl_ (hK21 _ _ ?_); clear hK21 K21
   refine s_ (fun K22 hK22 => ?_)
   refine pu_ (v := .int .i64 (nn + pw)) (y_move rfl (by rfl) (by rfl)) ?_
   try simp only [zP,zN,zA,zB,zC]
   refine pu_ (v := .pointer (some ⟨g3, 1, none⟩)) (y_run (by rfl) (fun W => by go_simp)) ?_
   try simp only [zP,zN,zA,zB,zC]
   refine ld_ (v := .int .i64 m) rfl (by rfl) (by rfl) (run_load_one ((Fg3.out.cell 1).trans rfl) Try.underlying3 rfl) ?_
   try simp only [zP,zN,zA,zB,zC]
   refine pu_ (v := .bool true) (y_run (by rfl) (fun W => by have d := D24.out; go_simp)) ?_
   try simp only [zP,zN,zA,zB,zC]
   refine pu_ (v := .bool true) (y_move rfl (by rfl) (by rfl)) ?_
   try simp only [zP,zN,zA,zB,zC]
   refine pu_ (v := .int .i64 (nn + pw)) (y_move rfl (by rfl) (by rfl)) ?_
   try simp only [zP,zN,zA,zB,zC]
   refine pu_ (v := .pointer (some ⟨g3, 1, none⟩)) (y_run (by rfl) (fun W => by go_simp)) ?_
   try simp only [zP,zN,zA,zB,zC]
   refine ld_ (v := .int .i64 m) rfl (by rfl) (by rfl) (run_load_one ((Fg3.out.cell 1).trans rfl) Try.underlying3 rfl) ?_
   try simp only [zP,zN,zA,zB,zC]
   refine pu_ (v := .int .i64 p) (y_move rfl (by rfl) (by rfl)) ?_
   try simp only [zP,zN,zA,zB,zC]
   refine ef_ (fun K23 hK23 => ?_)
   refine e_call Try.func20 (by kernel_rfl) rfl #[.int .i64 (nn + pw), .int .i64 m, .int .i64 p] (by rfl) rfl rfl (mp3 rfl rfl rfl) ((by have h9 := fits_ (w := w16) (a := nn + pw) (b := m) (p := p) (qh (by have := HB.out; have := hn.out; have := HH.out; have := HTM.out; have := HM2.out; omega)) (qh HM.out) (qh hp.out.2); rw [HF.out] at h9; exact h9)) ?_
   rintro en w25 ⟨rfl, cc24⟩
   refine ⟨_, rfl, ?_⟩
   replace C0 := qh (C0.out.trans' cc24 inw_nil)
   replace Fg3 := qh (cc24.blk Fg3.out nin_nil)
   clear cc24
   refine hK23 _ _ ?_; clear hK23 K23
   try simp only [zP,zN,zA,zB,zC]
   refine pu_ (v := .bool true) (y_pick (t := true) (by rfl) rfl (by rfl) (by rfl)) ?_
   try simp only [zP,zN,zA,zB,zC]
   refine nl_ (hK22 _ _ ?_); clear hK22 K22
   refine wp_cond_true rfl ?_
   refine r_ ?_
   refine pu_ (v := .int .i64 (nn + pw)) (y_move rfl (by rfl) (by rfl)) ?_
   try simp only [zP,zN,zA,zB,zC]
   refine pu_ (v := .int .i64 (nn + pw)) (y_assign rfl (by rfl) (by rfl)) ?_
   try simp only [zP,zN,zA,zB,zC]
   refine nl_ ?_
   refine ib_norm ?_
   refine th_norm (hK20 _ _ ?_); try clear hK20 K20
   refine r_ ?_
   refine pu_ (v := .int .i64 i) (y_move rfl (by rfl) (by rfl)) ?_
   try simp only [zP,zN,zA,zB,zC]
   refine pu_ (v := .int .i64 ((j : Int) - 1)) (y_run (by rfl) (fun W => by have d := W15.out; go_simp)) ?_
   try simp only [zP,zN,zA,zB,zC]
   refine pu_ (v := .int .i64 ((j : Int) - 1)) (y_assign rfl (by rfl) (by rfl)) ?_
   try simp only [zP,zN,zA,zB,zC]
   refine nl_ ?_
   exact th_norm (hK17 (j) _ _ (by have := hk.out; have := HJ.out; omega) ⟨j, p, (nn + pw), ((j : Int) - 1), rfl, C0, Fg3, qh ⟨by have := hk.out; have := HJ.out; omega, rfl, rfl⟩, hp, qh (by rw [← HPW.out]; have := HN.out; have := HH.out; have := HTM.out; have := HB.out; omega)⟩)
  ·obtain ⟨j, hj, pw, hpw, hpw1, hpw2, h⟩ := h
   have HJ := qh hj; have HPW := qh hpw; have HB := qh (And.intro hpw1 hpw2); have HH := qh h; clear hj hpw hpw1 hpw2 h
   have D13 := qh (show decide (i ≥ 0) = true from decide_eq_true (by have := hk.out; have := HJ.out; omega))
   have HTM := qh (top_le (m := m) (p := p) HM.out.1 hp.out.2)
   have HM2 := qh (show m ≤ 1152921504606846976 from HM.out.2)
   have EI := qh (show i = (j : Int) by have := hk.out; have := HJ.out; omega)
   have W18 := qh (show IntKind.u64.wrap i = (j : Int) by rw [EI.out]; exact wu64 (by have := hk.out; have := HJ.out; omega))
   have W19 := qh (show IntKind.i64.wrap pw = pw from wr64 (by have := HB.out; omega))
   have J64 := qh (show j < 64 by have := hk.out; have := HJ.out; omega)
   have P19 := qh (show ((2 : Int) ^ j) = pw from HPW.out.symm)
   have W20 := qh (show IntKind.i64.wrap (nn + pw) = nn + pw from wr64 (by have := HB.out; have := hn.out; have := HTM.out; have := HM2.out; omega))
   have W15 := qh (show IntKind.i64.wrap (i - 1) = (j : Int) - 1 by rw [EI.out]; exact wr64 (by have := J64.out; omega))
   have HN := qh (show 0 ≤ nn ∧ nn ≤ topZ m p ∧ topZ m p < nn + 2 * pw by have h9 := hn.out; rw [HJ.out, Int.pow_succ, ← HPW.out] at h9; omega)
   have D24 := qh (show decide (nn + pw ≤ m) = true from decide_eq_true (by have := HH.out; have := HTM.out; omega))
   have HF := qh (show fitsB (nn + pw) m p = false from decide_eq_false (fun h9 => by have := fits_top.1 h9; have := HH.out; have := HTM.out; omega))
   refine s_ (fun K26 hK26 => ?_)
   refine pu_ (v := .int .i64 i) (y_move rfl (by rfl) (by rfl)) ?_
   try simp only [zP,zN,zA,zB,zC]
   refine pu_ (v := .bool true) (y_run (by rfl) (fun W => by have d := D13.out; go_simp)) ?_
   try simp only [zP,zN,zA,zB,zC]
   refine nl_ (hK26 _ _ ?_); clear hK26 K26
   refine wp_cond_true rfl ?_
   refine wp_skip ?_
   refine th_norm (hK18 _ _ ?_); try clear hK18 K18
   refine sq_ (fun K27 hK27 => ?_)
   refine wp_block ?_
   refine s_ (fun K28 hK28 => ?_)
   refine pu_ (v := .int .i64 nn) (y_move rfl (by rfl) (by rfl)) ?_
   try simp only [zP,zN,zA,zB,zC]
   refine pu_ (v := .int .i64 i) (y_move rfl (by rfl) (by rfl)) ?_
   try simp only [zP,zN,zA,zB,zC]
   refine pu_ (v := .int .u64 j) (y_run (by rfl) (fun W => by have d := W18.out; go_simp)) ?_
   try simp only [zP,zN,zA,zB,zC]
   refine pu_ (v := .int .i64 pw) (y_run (by rfl) (fun W => by have d := W19.out; have d2 := P19.out; have d3 := J64.out; go_simp)) ?_
   try simp only [zP,zN,zA,zB,zC]
   refine pu_ (v := .int .i64 (nn + pw)) (y_run (by rfl) (fun W => by have d := W20.out; go_simp)) ?_
   try simp only [zP,zN,zA,zB,zC]
   refine pu_ (v := .int .i64 (nn + pw)) (y_assign rfl (by rfl) (by rfl)) ?_
   try simp only [zP,zN,zA,zB,zC]
   refine nl_ (hK28 _ _ ?_); clear hK28 K28
   refine s_ (fun K29 hK29 => ?_)
   refine pu_ (v := .int .i64 (nn + pw)) (y_move rfl (by rfl) (by rfl)) ?_
   try simp only [zP,zN,zA,zB,zC]
   refine pu_ (v := .pointer (some ⟨g3, 1, none⟩)) (y_run (by rfl) (fun W => by go_simp)) ?_
   try simp only [zP,zN,zA,zB,zC]
   refine ld_ (v := .int .i64 m) rfl (by rfl) (by rfl) (run_load_one ((Fg3.out.cell 1).trans rfl) Try.underlying3 rfl) ?_
   try simp only [zP,zN,zA,zB,zC]
   refine pu_ (v := .bool true) (y_run (by rfl) (fun W => by have d := D24.out; go_simp)) ?_
   try simp only [zP,zN,zA,zB,zC]
   refine pu_ (v := .bool true) (y_move rfl (by rfl) (by rfl)) ?_
   try simp only [zP,zN,zA,zB,zC]
   refine pu_ (v := .int .i64 (nn + pw)) (y_move rfl (by rfl) (by rfl)) ?_
   try simp only [zP,zN,zA,zB,zC]
   refine pu_ (v := .pointer (some ⟨g3, 1, none⟩)) (y_run (by rfl) (fun W => by go_simp)) ?_
   try simp only [zP,zN,zA,zB,zC]
   refine ld_ (v := .int .i64 m) rfl (by rfl) (by rfl) (run_load_one ((Fg3.out.cell 1).trans rfl) Try.underlying3 rfl) ?_
   try simp only [zP,zN,zA,zB,zC]
   refine pu_ (v := .int .i64 p) (y_move rfl (by rfl) (by rfl)) ?_
   try simp only [zP,zN,zA,zB,zC]
   refine ef_ (fun K30 hK30 => ?_)
   refine e_call Try.func20 (by kernel_rfl) rfl #[.int .i64 (nn + pw), .int .i64 m, .int .i64 p] (by rfl) rfl rfl (mp3 rfl rfl rfl) ((by have h9 := fits_ (w := w16) (a := nn + pw) (b := m) (p := p) (qh (by have := HB.out; have := hn.out; have := HH.out; have := HTM.out; have := HM2.out; omega)) (qh HM.out) (qh hp.out.2); rw [HF.out] at h9; exact h9)) ?_
   rintro en w32 ⟨rfl, cc31⟩
   refine ⟨_, rfl, ?_⟩
   replace C0 := qh (C0.out.trans' cc31 inw_nil)
   replace Fg3 := qh (cc31.blk Fg3.out nin_nil)
   clear cc31
   refine hK30 _ _ ?_; clear hK30 K30
   try simp only [zP,zN,zA,zB,zC]
   refine pu_ (v := .bool false) (y_pick (t := true) (by rfl) rfl (by rfl) (by rfl)) ?_
   try simp only [zP,zN,zA,zB,zC]
   refine nl_ (hK29 _ _ ?_); clear hK29 K29
   refine wp_cond_false rfl ?_
   refine wp_skip ?_
   refine ib_norm ?_
   refine th_norm (hK27 _ _ ?_); try clear hK27 K27
   refine r_ ?_
   refine pu_ (v := .int .i64 i) (y_move rfl (by rfl) (by rfl)) ?_
   try simp only [zP,zN,zA,zB,zC]
   refine pu_ (v := .int .i64 ((j : Int) - 1)) (y_run (by rfl) (fun W => by have d := W15.out; go_simp)) ?_
   try simp only [zP,zN,zA,zB,zC]
   refine pu_ (v := .int .i64 ((j : Int) - 1)) (y_assign rfl (by rfl) (by rfl)) ?_
   try simp only [zP,zN,zA,zB,zC]
   refine nl_ ?_
   exact th_norm (hK17 (j) _ _ (by have := hk.out; have := HJ.out; omega) ⟨j, p, nn, ((j : Int) - 1), rfl, C0, Fg3, qh ⟨by have := hk.out; have := HJ.out; omega, rfl, rfl⟩, hp, qh (by rw [← HPW.out]; have := HN.out; have := HH.out; have := HTM.out; have := HB.out; omega)⟩)
  ·obtain ⟨j, hj, pw, hpw, hpw1, hpw2, h⟩ := h
   have HJ := qh hj; have HPW := qh hpw; have HB := qh (And.intro hpw1 hpw2); have HH := qh h; clear hj hpw hpw1 hpw2 h
   have D13 := qh (show decide (i ≥ 0) = true from decide_eq_true (by have := hk.out; have := HJ.out; omega))
   have HTM := qh (top_le (m := m) (p := p) HM.out.1 hp.out.2)
   have HM2 := qh (show m ≤ 1152921504606846976 from HM.out.2)
   have EI := qh (show i = (j : Int) by have := hk.out; have := HJ.out; omega)
   have W18 := qh (show IntKind.u64.wrap i = (j : Int) by rw [EI.out]; exact wu64 (by have := hk.out; have := HJ.out; omega))
   have W19 := qh (show IntKind.i64.wrap pw = pw from wr64 (by have := HB.out; omega))
   have J64 := qh (show j < 64 by have := hk.out; have := HJ.out; omega)
   have P19 := qh (show ((2 : Int) ^ j) = pw from HPW.out.symm)
   have W20 := qh (show IntKind.i64.wrap (nn + pw) = nn + pw from wr64 (by have := HB.out; have := hn.out; have := HTM.out; have := HM2.out; omega))
   have W15 := qh (show IntKind.i64.wrap (i - 1) = (j : Int) - 1 by rw [EI.out]; exact wr64 (by have := J64.out; omega))
   have HN := qh (show 0 ≤ nn ∧ nn ≤ topZ m p ∧ topZ m p < nn + 2 * pw by have h9 := hn.out; rw [HJ.out, Int.pow_succ, ← HPW.out] at h9; omega)
   have D24 := qh (show decide (nn + pw ≤ m) = false from decide_eq_false (by have := HH.out; have := HTM.out; omega))
   refine s_ (fun K33 hK33 => ?_)
   refine pu_ (v := .int .i64 i) (y_move rfl (by rfl) (by rfl)) ?_
   try simp only [zP,zN,zA,zB,zC]
   refine pu_ (v := .bool true) (y_run (by rfl) (fun W => by have d := D13.out; go_simp)) ?_
   try simp only [zP,zN,zA,zB,zC]
   refine nl_ (hK33 _ _ ?_); clear hK33 K33
   refine wp_cond_true rfl ?_
   refine wp_skip ?_
   refine th_norm (hK18 _ _ ?_); try clear hK18 K18
   refine sq_ (fun K34 hK34 => ?_)
   refine wp_block ?_
   refine s_ (fun K35 hK35 => ?_)
   refine pu_ (v := .int .i64 nn) (y_move rfl (by rfl) (by rfl)) ?_
   try simp only [zP,zN,zA,zB,zC]
   refine pu_ (v := .int .i64 i) (y_move rfl (by rfl) (by rfl)) ?_
   try simp only [zP,zN,zA,zB,zC]
   refine pu_ (v := .int .u64 j) (y_run (by rfl) (fun W => by have d := W18.out; go_simp)) ?_
   try simp only [zP,zN,zA,zB,zC]
   refine pu_ (v := .int .i64 pw) (y_run (by rfl) (fun W => by have d := W19.out; have d2 := P19.out; have d3 := J64.out; go_simp)) ?_
   try simp only [zP,zN,zA,zB,zC]
   refine pu_ (v := .int .i64 (nn + pw)) (y_run (by rfl) (fun W => by have d := W20.out; go_simp)) ?_
   try simp only [zP,zN,zA,zB,zC]
   refine pu_ (v := .int .i64 (nn + pw)) (y_assign rfl (by rfl) (by rfl)) ?_
   try simp only [zP,zN,zA,zB,zC]
   refine nl_ (hK35 _ _ ?_); clear hK35 K35
   refine s_ (fun K36 hK36 => ?_)
   refine pu_ (v := .int .i64 (nn + pw)) (y_move rfl (by rfl) (by rfl)) ?_
   try simp only [zP,zN,zA,zB,zC]
   refine pu_ (v := .pointer (some ⟨g3, 1, none⟩)) (y_run (by rfl) (fun W => by go_simp)) ?_
   try simp only [zP,zN,zA,zB,zC]
   refine ld_ (v := .int .i64 m) rfl (by rfl) (by rfl) (run_load_one ((Fg3.out.cell 1).trans rfl) Try.underlying3 rfl) ?_
   try simp only [zP,zN,zA,zB,zC]
   refine pu_ (v := .bool false) (y_run (by rfl) (fun W => by have d := D24.out; go_simp)) ?_
   try simp only [zP,zN,zA,zB,zC]
   refine pu_ (v := .bool false) (y_move rfl (by rfl) (by rfl)) ?_
   try simp only [zP,zN,zA,zB,zC]
   refine pu_ (y_off (by rfl)) ?_
   try simp only [zP,zN,zA,zB,zC]
   refine pu_ (y_off (by rfl)) ?_
   try simp only [zP,zN,zA,zB,zC]
   refine pu_ (y_off (by rfl)) ?_
   try simp only [zP,zN,zA,zB,zC]
   refine pu_ (y_off (by rfl)) ?_
   try simp only [zP,zN,zA,zB,zC]
   refine pu_ (y_off (by rfl)) ?_
   try simp only [zP,zN,zA,zB,zC]
   refine pu_ (v := .bool false) (y_pick (t := false) (by rfl) rfl (by rfl) (by rfl)) ?_
   try simp only [zP,zN,zA,zB,zC]
   refine nl_ (hK36 _ _ ?_); clear hK36 K36
   refine wp_cond_false rfl ?_
   refine wp_skip ?_
   refine ib_norm ?_
   refine th_norm (hK34 _ _ ?_); try clear hK34 K34
   refine r_ ?_
   refine pu_ (v := .int .i64 i) (y_move rfl (by rfl) (by rfl)) ?_
   try simp only [zP,zN,zA,zB,zC]
   refine pu_ (v := .int .i64 ((j : Int) - 1)) (y_run (by rfl) (fun W => by have d := W15.out; go_simp)) ?_
   try simp only [zP,zN,zA,zB,zC]
   refine pu_ (v := .int .i64 ((j : Int) - 1)) (y_assign rfl (by rfl) (by rfl)) ?_
   try simp only [zP,zN,zA,zB,zC]
   refine nl_ ?_
   exact th_norm (hK17 (j) _ _ (by have := hk.out; have := HJ.out; omega) ⟨j, p, nn, ((j : Int) - 1), rfl, C0, Fg3, qh ⟨by have := hk.out; have := HJ.out; omega, rfl, rfl⟩, hp, qh (by rw [← HPW.out]; have := HN.out; have := HH.out; have := HTM.out; have := HB.out; omega)⟩)
  ·have D13 := qh (show decide (i ≥ 0) = false from decide_eq_false (by have := hk.out; omega))
   have HR := qh (show nn = limZ m pc by rw [lim_top, ← hp.out.1]; have h9 := hn.out; rw [h] at h9; omega)
   clear h
   refine s_ (fun K37 hK37 => ?_)
   refine pu_ (v := .int .i64 i) (y_move rfl (by rfl) (by rfl)) ?_
   try simp only [zP,zN,zA,zB,zC]
   refine pu_ (v := .bool false) (y_run (by rfl) (fun W => by have d := D13.out; go_simp)) ?_
   try simp only [zP,zN,zA,zB,zC]
   refine nl_ (hK37 _ _ ?_); clear hK37 K37
   refine wp_cond_false rfl ?_
   refine wp_exit ?_
   refine th_exit ?_
   refine th_exit ?_
   refine ib_exit ?_
   refine th_norm (hK14 _ _ ?_); try clear hK14 K14
   refine s_ (fun K38 hK38 => ?_)
   refine pu_ (v := .int .i64 nn) (y_move rfl (by rfl) (by rfl)) ?_
   try simp only [zP,zN,zA,zB,zC]
   refine pu_ (v := .int .i64 nn) (y_assign rfl (by rfl) (by rfl)) ?_
   try simp only [zP,zN,zA,zB,zC]
   refine nl_ (hK38 _ _ ?_); clear hK38 K38
   refine wp_ret ?_
   refine hQ _ _ _ ?_
   refine bodyPost_ret (res1 rfl (rdv_tmp (v := .int .i64 nn) (by rfl))) rfl ?_
   exact ⟨by rw [HR.out], C0.out⟩
 ·have HH := qh h
  clear h
  have D9 := qh (show decide (pc < 0) = false from decide_eq_false (by have := HH.out; omega))
  have D11 := qh (show decide (pc > 100) = true from decide_eq_true (by have := HH.out; omega))
  refine s_ (fun K39 hK39 => ?_)
  refine pu_ (v := .int .i64 pc) (y_move rfl (by rfl) (by rfl)) ?_
  try simp only [zP,zN,zA,zB,zC]
  refine pu_ (v := .bool false) (y_run (by rfl) (fun W => by have d := D9.out; go_simp)) ?_
  try simp only [zP,zN,zA,zB,zC]
  refine nl_ (hK39 _ _ ?_); clear hK39 K39
  refine wp_cond_false rfl ?_
  refine wp_skip ?_
  refine th_norm (hK9 _ _ ?_); try clear hK9 K9
  refine sq_ (fun K40 hK40 => ?_)
  refine s_ (fun K41 hK41 => ?_)
  refine pu_ (v := .int .i64 pc) (y_move rfl (by rfl) (by rfl)) ?_
  try simp only [zP,zN,zA,zB,zC]
  refine pu_ (v := .bool true) (y_run (by rfl) (fun W => by have d := D11.out; go_simp)) ?_
  try simp only [zP,zN,zA,zB,zC]
  refine nl_ (hK41 _ _ ?_); clear hK41 K41
  refine wp_cond_true rfl ?_
  refine r_ ?_
  refine pu_ (v := .int .i64 100) (y_assign rfl (by rfl) (by rfl)) ?_
  try simp only [zP,zN,zA,zB,zC]
  refine nl_ ?_
  refine th_norm (hK40 _ _ ?_); try clear hK40 K40
  refine s_ (fun K42 hK42 => ?_)
  refine pu_ (v := .int .i64 0) (y_assign rfl (by rfl) (by rfl)) ?_
  try simp only [zP,zN,zA,zB,zC]
  refine nl_ (hK42 _ _ ?_); clear hK42 K42
  refine sq_ (fun K43 hK43 => ?_)
  refine s_ (fun K44 hK44 => ?_)
  refine pu_ (v := .int .i64 60) (y_assign rfl (by rfl) (by rfl)) ?_
  try simp only [zP,zN,zA,zB,zC]
  refine nl_ (hK44 _ _ ?_); clear hK44 K44
  refine wp_block ?_
  refine loopk_ (fun (kq : Nat) (a' : Act) (w' : World) => ∃ (k : Nat), ∃ (p : Int), ∃ (nn : Int), ∃ (i : Int), a' = ⟨#[uo a' 0, .int .i64 p, .pointer (some ⟨g3, 0, none⟩), uo a' 3, .int .i64 0, .int .i64 nn, .int .i64 i, uo a' 7, uo a' 8, uo a' 9, uo a' 10, uo a' 11, uo a' 12, uo a' 13, uo a' 14, uo a' 15, uo a' 16, uo a' 17, uo a' 18, uo a' 19, uo a' 20, uo a' 21, uo a' 22, uo a' 23, uo a' 24, uo a' 25, uo a' 26, uo a' 27, uo a' 28, uo a' 29, uo a' 30, uo a' 31, uo a' 32, uo a' 33], []⟩ ∧ Hid (Ch [] w w') ∧ Hid (Blk w' g3 (#[.int .i64 c, .int .i64 m, .int .i64 e]) 23) ∧ Hid (k ≤ 61 ∧ kq = k ∧ i = (k : Int) - 1) ∧ Hid (p = min (max pc 0) 100 ∧ 0 ≤ p ∧ p ≤ 100) ∧ Hid (0 ≤ nn ∧ nn ≤ topZ m p ∧ topZ m p < nn + 2 ^ k)) (61) (⟨61, 100, 0, 60, rfl, C0, Fg3, qh ⟨by omega, rfl, by omega⟩, qh (by have := HH.out; omega), qh (by have h9 := top_le (m := m) (p := 100) HM.out.1 (by have := HH.out; omega); have h8 := HM.out; unfold SmallZ at h8; exact ⟨by omega, h9.1, by have : (2 : Int) ^ 61 = 2305843009213693952 := (by decide); omega⟩)⟩) ?_
  rintro kq a_ w45 ⟨k, p, nn, i, ha_, C0, Fg3, hk, hp, hn⟩ K46 hK46
  obtain ⟨us, hus_⟩ : ∃ us, us = uo a_ := ⟨_, rfl⟩; try rw [← hus_] at ha_
  subst ha_; clear hus_
  refine sq_ (fun K47 hK47 => ?_)
  rcases limit_ways m p nn k (hk := hk.out.1) with h | h | h | h
  ·obtain ⟨j, hj, pw, hpw, hpw1, hpw2, h⟩ := h
   have HJ := qh hj; have HPW := qh hpw; have HB := qh (And.intro hpw1 hpw2); have HH := qh h; clear hj hpw hpw1 hpw2 h
   have D13 := qh (show decide (i ≥ 0) = true from decide_eq_true (by have := hk.out; have := HJ.out; omega))
   have HTM := qh (top_le (m := m) (p := p) HM.out.1 hp.out.2)
   have HM2 := qh (show m ≤ 1152921504606846976 from HM.out.2)
   have EI := qh (show i = (j : Int) by have := hk.out; have := HJ.out; omega)
   have W18 := qh (show IntKind.u64.wrap i = (j : Int) by rw [EI.out]; exact wu64 (by have := hk.out; have := HJ.out; omega))
   have W19 := qh (show IntKind.i64.wrap pw = pw from wr64 (by have := HB.out; omega))
   have J64 := qh (show j < 64 by have := hk.out; have := HJ.out; omega)
   have P19 := qh (show ((2 : Int) ^ j) = pw from HPW.out.symm)
   have W20 := qh (show IntKind.i64.wrap (nn + pw) = nn + pw from wr64 (by have := HB.out; have := hn.out; have := HTM.out; have := HM2.out; omega))
   have W15 := qh (show IntKind.i64.wrap (i - 1) = (j : Int) - 1 by rw [EI.out]; exact wr64 (by have := J64.out; omega))
   have HN := qh (show 0 ≤ nn ∧ nn ≤ topZ m p ∧ topZ m p < nn + 2 * pw by have h9 := hn.out; rw [HJ.out, Int.pow_succ, ← HPW.out] at h9; omega)
   have D24 := qh (show decide (nn + pw ≤ m) = true from decide_eq_true (by have := HH.out; have := HTM.out; omega))
   have HF := qh (show fitsB (nn + pw) m p = true from decide_eq_true (fits_top.2 HH.out))
   refine s_ (fun K48 hK48 => ?_)
   refine pu_ (v := .int .i64 i) (y_move rfl (by rfl) (by rfl)) ?_
   try simp only [zP,zN,zA,zB,zC]
   refine pu_ (v := .bool true) (y_run (by rfl) (fun W => by have d := D13.out; go_simp)) ?_
   try simp only [zP,zN,zA,zB,zC]
   refine nl_ (hK48 _ _ ?_); clear hK48 K48
   refine wp_cond_true rfl ?_
   refine wp_skip ?_
   refine th_norm (hK47 _ _ ?_); try clear hK47 K47
   refine sq_ (fun K49 hK49 => ?_)
   refine wp_block ?_
   refine s_ (fun K50 hK50 => ?_)
   refine pu_ (v := .int .i64 nn) (y_move rfl (by rfl) (by rfl)) ?_
   try simp only [zP,zN,zA,zB,zC]
   refine pu_ (v := .int .i64 i) (y_move rfl (by rfl) (by rfl)) ?_
   try simp only [zP,zN,zA,zB,zC]
   refine pu_ (v := .int .u64 j) (y_run (by rfl) (fun W => by have d := W18.out; go_simp)) ?_
   try simp only [zP,zN,zA,zB,zC]
   refine pu_ (v := .int .i64 pw) (y_run (by rfl) (fun W => by have d := W19.out; have d2 := P19.out; have d3 := J64.out; go_simp)) ?_
   try simp only [zP,zN,zA,zB,zC]
   refine pu_ (v := .int .i64 (nn + pw)) (y_run (by rfl) (fun W => by have d := W20.out; go_simp)) ?_
   try simp only [zP,zN,zA,zB,zC]
   refine pu_ (v := .int .i64 (nn + pw)) (y_assign rfl (by rfl) (by rfl)) ?_
   try simp only [zP,zN,zA,zB,zC]
   refine nl_ (hK50 _ _ ?_); clear hK50 K50
   refine s_ (fun K51 hK51 => ?_)
   refine pu_ (v := .int .i64 (nn + pw)) (y_move rfl (by rfl) (by rfl)) ?_
   try simp only [zP,zN,zA,zB,zC]
   refine pu_ (v := .pointer (some ⟨g3, 1, none⟩)) (y_run (by rfl) (fun W => by go_simp)) ?_
   try simp only [zP,zN,zA,zB,zC]
   refine ld_ (v := .int .i64 m) rfl (by rfl) (by rfl) (run_load_one ((Fg3.out.cell 1).trans rfl) Try.underlying3 rfl) ?_
   try simp only [zP,zN,zA,zB,zC]
   refine pu_ (v := .bool true) (y_run (by rfl) (fun W => by have d := D24.out; go_simp)) ?_
   try simp only [zP,zN,zA,zB,zC]
   refine pu_ (v := .bool true) (y_move rfl (by rfl) (by rfl)) ?_
   try simp only [zP,zN,zA,zB,zC]
   refine pu_ (v := .int .i64 (nn + pw)) (y_move rfl (by rfl) (by rfl)) ?_
   try simp only [zP,zN,zA,zB,zC]
   refine pu_ (v := .pointer (some ⟨g3, 1, none⟩)) (y_run (by rfl) (fun W => by go_simp)) ?_
   try simp only [zP,zN,zA,zB,zC]
   refine ld_ (v := .int .i64 m) rfl (by rfl) (by rfl) (run_load_one ((Fg3.out.cell 1).trans rfl) Try.underlying3 rfl) ?_
   try simp only [zP,zN,zA,zB,zC]
   refine pu_ (v := .int .i64 p) (y_move rfl (by rfl) (by rfl)) ?_
   try simp only [zP,zN,zA,zB,zC]
   refine ef_ (fun K52 hK52 => ?_)
   refine e_call Try.func20 (by kernel_rfl) rfl #[.int .i64 (nn + pw), .int .i64 m, .int .i64 p] (by rfl) rfl rfl (mp3 rfl rfl rfl) ((by have h9 := fits_ (w := w45) (a := nn + pw) (b := m) (p := p) (qh (by have := HB.out; have := hn.out; have := HH.out; have := HTM.out; have := HM2.out; omega)) (qh HM.out) (qh hp.out.2); rw [HF.out] at h9; exact h9)) ?_
   rintro en w54 ⟨rfl, cc53⟩
   refine ⟨_, rfl, ?_⟩
   replace C0 := qh (C0.out.trans' cc53 inw_nil)
   replace Fg3 := qh (cc53.blk Fg3.out nin_nil)
   clear cc53
   refine hK52 _ _ ?_; clear hK52 K52
   try simp only [zP,zN,zA,zB,zC]
   refine pu_ (v := .bool true) (y_pick (t := true) (by rfl) rfl (by rfl) (by rfl)) ?_
   try simp only [zP,zN,zA,zB,zC]
   refine nl_ (hK51 _ _ ?_); clear hK51 K51
   refine wp_cond_true rfl ?_
   refine r_ ?_
   refine pu_ (v := .int .i64 (nn + pw)) (y_move rfl (by rfl) (by rfl)) ?_
   try simp only [zP,zN,zA,zB,zC]
   refine pu_ (v := .int .i64 (nn + pw)) (y_assign rfl (by rfl) (by rfl)) ?_
   try simp only [zP,zN,zA,zB,zC]
   refine nl_ ?_
   refine ib_norm ?_
   refine th_norm (hK49 _ _ ?_); try clear hK49 K49
   refine r_ ?_
   refine pu_ (v := .int .i64 i) (y_move rfl (by rfl) (by rfl)) ?_
   try simp only [zP,zN,zA,zB,zC]
   refine pu_ (v := .int .i64 ((j : Int) - 1)) (y_run (by rfl) (fun W => by have d := W15.out; go_simp)) ?_
   try simp only [zP,zN,zA,zB,zC]
   refine pu_ (v := .int .i64 ((j : Int) - 1)) (y_assign rfl (by rfl) (by rfl)) ?_
   try simp only [zP,zN,zA,zB,zC]
   refine nl_ ?_
   exact th_norm (hK46 (j) _ _ (by have := hk.out; have := HJ.out; omega) ⟨j, p, (nn + pw), ((j : Int) - 1), rfl, C0, Fg3, qh ⟨by have := hk.out; have := HJ.out; omega, rfl, rfl⟩, hp, qh (by rw [← HPW.out]; have := HN.out; have := HH.out; have := HTM.out; have := HB.out; omega)⟩)
  ·obtain ⟨j, hj, pw, hpw, hpw1, hpw2, h⟩ := h
   have HJ := qh hj; have HPW := qh hpw; have HB := qh (And.intro hpw1 hpw2); have HH := qh h; clear hj hpw hpw1 hpw2 h
   have D13 := qh (show decide (i ≥ 0) = true from decide_eq_true (by have := hk.out; have := HJ.out; omega))
   have HTM := qh (top_le (m := m) (p := p) HM.out.1 hp.out.2)
   have HM2 := qh (show m ≤ 1152921504606846976 from HM.out.2)
   have EI := qh (show i = (j : Int) by have := hk.out; have := HJ.out; omega)
   have W18 := qh (show IntKind.u64.wrap i = (j : Int) by rw [EI.out]; exact wu64 (by have := hk.out; have := HJ.out; omega))
   have W19 := qh (show IntKind.i64.wrap pw = pw from wr64 (by have := HB.out; omega))
   have J64 := qh (show j < 64 by have := hk.out; have := HJ.out; omega)
   have P19 := qh (show ((2 : Int) ^ j) = pw from HPW.out.symm)
   have W20 := qh (show IntKind.i64.wrap (nn + pw) = nn + pw from wr64 (by have := HB.out; have := hn.out; have := HTM.out; have := HM2.out; omega))
   have W15 := qh (show IntKind.i64.wrap (i - 1) = (j : Int) - 1 by rw [EI.out]; exact wr64 (by have := J64.out; omega))
   have HN := qh (show 0 ≤ nn ∧ nn ≤ topZ m p ∧ topZ m p < nn + 2 * pw by have h9 := hn.out; rw [HJ.out, Int.pow_succ, ← HPW.out] at h9; omega)
   have D24 := qh (show decide (nn + pw ≤ m) = true from decide_eq_true (by have := HH.out; have := HTM.out; omega))
   have HF := qh (show fitsB (nn + pw) m p = false from decide_eq_false (fun h9 => by have := fits_top.1 h9; have := HH.out; have := HTM.out; omega))
   refine s_ (fun K55 hK55 => ?_)
   refine pu_ (v := .int .i64 i) (y_move rfl (by rfl) (by rfl)) ?_
   try simp only [zP,zN,zA,zB,zC]
   refine pu_ (v := .bool true) (y_run (by rfl) (fun W => by have d := D13.out; go_simp)) ?_
   try simp only [zP,zN,zA,zB,zC]
   refine nl_ (hK55 _ _ ?_); clear hK55 K55
   refine wp_cond_true rfl ?_
   refine wp_skip ?_
   refine th_norm (hK47 _ _ ?_); try clear hK47 K47
   refine sq_ (fun K56 hK56 => ?_)
   refine wp_block ?_
   refine s_ (fun K57 hK57 => ?_)
   refine pu_ (v := .int .i64 nn) (y_move rfl (by rfl) (by rfl)) ?_
   try simp only [zP,zN,zA,zB,zC]
   refine pu_ (v := .int .i64 i) (y_move rfl (by rfl) (by rfl)) ?_
   try simp only [zP,zN,zA,zB,zC]
   refine pu_ (v := .int .u64 j) (y_run (by rfl) (fun W => by have d := W18.out; go_simp)) ?_
   try simp only [zP,zN,zA,zB,zC]
   refine pu_ (v := .int .i64 pw) (y_run (by rfl) (fun W => by have d := W19.out; have d2 := P19.out; have d3 := J64.out; go_simp)) ?_
   try simp only [zP,zN,zA,zB,zC]
   refine pu_ (v := .int .i64 (nn + pw)) (y_run (by rfl) (fun W => by have d := W20.out; go_simp)) ?_
   try simp only [zP,zN,zA,zB,zC]
   refine pu_ (v := .int .i64 (nn + pw)) (y_assign rfl (by rfl) (by rfl)) ?_
   try simp only [zP,zN,zA,zB,zC]
   refine nl_ (hK57 _ _ ?_); clear hK57 K57
   refine s_ (fun K58 hK58 => ?_)
   refine pu_ (v := .int .i64 (nn + pw)) (y_move rfl (by rfl) (by rfl)) ?_
   try simp only [zP,zN,zA,zB,zC]
   refine pu_ (v := .pointer (some ⟨g3, 1, none⟩)) (y_run (by rfl) (fun W => by go_simp)) ?_
   try simp only [zP,zN,zA,zB,zC]
   refine ld_ (v := .int .i64 m) rfl (by rfl) (by rfl) (run_load_one ((Fg3.out.cell 1).trans rfl) Try.underlying3 rfl) ?_
   try simp only [zP,zN,zA,zB,zC]
   refine pu_ (v := .bool true) (y_run (by rfl) (fun W => by have d := D24.out; go_simp)) ?_
   try simp only [zP,zN,zA,zB,zC]
   refine pu_ (v := .bool true) (y_move rfl (by rfl) (by rfl)) ?_
   try simp only [zP,zN,zA,zB,zC]
   refine pu_ (v := .int .i64 (nn + pw)) (y_move rfl (by rfl) (by rfl)) ?_
   try simp only [zP,zN,zA,zB,zC]
   refine pu_ (v := .pointer (some ⟨g3, 1, none⟩)) (y_run (by rfl) (fun W => by go_simp)) ?_
   try simp only [zP,zN,zA,zB,zC]
   refine ld_ (v := .int .i64 m) rfl (by rfl) (by rfl) (run_load_one ((Fg3.out.cell 1).trans rfl) Try.underlying3 rfl) ?_
   try simp only [zP,zN,zA,zB,zC]
   refine pu_ (v := .int .i64 p) (y_move rfl (by rfl) (by rfl)) ?_
   try simp only [zP,zN,zA,zB,zC]
   refine ef_ (fun K59 hK59 => ?_)
   refine e_call Try.func20 (by kernel_rfl) rfl #[.int .i64 (nn + pw), .int .i64 m, .int .i64 p] (by rfl) rfl rfl (mp3 rfl rfl rfl) ((by have h9 := fits_ (w := w45) (a := nn + pw) (b := m) (p := p) (qh (by have := HB.out; have := hn.out; have := HH.out; have := HTM.out; have := HM2.out; omega)) (qh HM.out) (qh hp.out.2); rw [HF.out] at h9; exact h9)) ?_
   rintro en w61 ⟨rfl, cc60⟩
   refine ⟨_, rfl, ?_⟩
   replace C0 := qh (C0.out.trans' cc60 inw_nil)
   replace Fg3 := qh (cc60.blk Fg3.out nin_nil)
   clear cc60
   refine hK59 _ _ ?_; clear hK59 K59
   try simp only [zP,zN,zA,zB,zC]
   refine pu_ (v := .bool false) (y_pick (t := true) (by rfl) rfl (by rfl) (by rfl)) ?_
   try simp only [zP,zN,zA,zB,zC]
   refine nl_ (hK58 _ _ ?_); clear hK58 K58
   refine wp_cond_false rfl ?_
   refine wp_skip ?_
   refine ib_norm ?_
   refine th_norm (hK56 _ _ ?_); try clear hK56 K56
   refine r_ ?_
   refine pu_ (v := .int .i64 i) (y_move rfl (by rfl) (by rfl)) ?_
   try simp only [zP,zN,zA,zB,zC]
   refine pu_ (v := .int .i64 ((j : Int) - 1)) (y_run (by rfl) (fun W => by have d := W15.out; go_simp)) ?_
   try simp only [zP,zN,zA,zB,zC]
   refine pu_ (v := .int .i64 ((j : Int) - 1)) (y_assign rfl (by rfl) (by rfl)) ?_
   try simp only [zP,zN,zA,zB,zC]
   refine nl_ ?_
   exact th_norm (hK46 (j) _ _ (by have := hk.out; have := HJ.out; omega) ⟨j, p, nn, ((j : Int) - 1), rfl, C0, Fg3, qh ⟨by have := hk.out; have := HJ.out; omega, rfl, rfl⟩, hp, qh (by rw [← HPW.out]; have := HN.out; have := HH.out; have := HTM.out; have := HB.out; omega)⟩)
  ·obtain ⟨j, hj, pw, hpw, hpw1, hpw2, h⟩ := h
   have HJ := qh hj; have HPW := qh hpw; have HB := qh (And.intro hpw1 hpw2); have HH := qh h; clear hj hpw hpw1 hpw2 h
   have D13 := qh (show decide (i ≥ 0) = true from decide_eq_true (by have := hk.out; have := HJ.out; omega))
   have HTM := qh (top_le (m := m) (p := p) HM.out.1 hp.out.2)
   have HM2 := qh (show m ≤ 1152921504606846976 from HM.out.2)
   have EI := qh (show i = (j : Int) by have := hk.out; have := HJ.out; omega)
   have W18 := qh (show IntKind.u64.wrap i = (j : Int) by rw [EI.out]; exact wu64 (by have := hk.out; have := HJ.out; omega))
   have W19 := qh (show IntKind.i64.wrap pw = pw from wr64 (by have := HB.out; omega))
   have J64 := qh (show j < 64 by have := hk.out; have := HJ.out; omega)
   have P19 := qh (show ((2 : Int) ^ j) = pw from HPW.out.symm)
   have W20 := qh (show IntKind.i64.wrap (nn + pw) = nn + pw from wr64 (by have := HB.out; have := hn.out; have := HTM.out; have := HM2.out; omega))
   have W15 := qh (show IntKind.i64.wrap (i - 1) = (j : Int) - 1 by rw [EI.out]; exact wr64 (by have := J64.out; omega))
   have HN := qh (show 0 ≤ nn ∧ nn ≤ topZ m p ∧ topZ m p < nn + 2 * pw by have h9 := hn.out; rw [HJ.out, Int.pow_succ, ← HPW.out] at h9; omega)
   have D24 := qh (show decide (nn + pw ≤ m) = false from decide_eq_false (by have := HH.out; have := HTM.out; omega))
   refine s_ (fun K62 hK62 => ?_)
   refine pu_ (v := .int .i64 i) (y_move rfl (by rfl) (by rfl)) ?_
   try simp only [zP,zN,zA,zB,zC]
   refine pu_ (v := .bool true) (y_run (by rfl) (fun W => by have d := D13.out; go_simp)) ?_
   try simp only [zP,zN,zA,zB,zC]
   refine nl_ (hK62 _ _ ?_); clear hK62 K62
   refine wp_cond_true rfl ?_
   refine wp_skip ?_
   refine th_norm (hK47 _ _ ?_); try clear hK47 K47
   refine sq_ (fun K63 hK63 => ?_)
   refine wp_block ?_
   refine s_ (fun K64 hK64 => ?_)
   refine pu_ (v := .int .i64 nn) (y_move rfl (by rfl) (by rfl)) ?_
   try simp only [zP,zN,zA,zB,zC]
   refine pu_ (v := .int .i64 i) (y_move rfl (by rfl) (by rfl)) ?_
   try simp only [zP,zN,zA,zB,zC]
   refine pu_ (v := .int .u64 j) (y_run (by rfl) (fun W => by have d := W18.out; go_simp)) ?_
   try simp only [zP,zN,zA,zB,zC]
   refine pu_ (v := .int .i64 pw) (y_run (by rfl) (fun W => by have d := W19.out; have d2 := P19.out; have d3 := J64.out; go_simp)) ?_
   try simp only [zP,zN,zA,zB,zC]
   refine pu_ (v := .int .i64 (nn + pw)) (y_run (by rfl) (fun W => by have d := W20.out; go_simp)) ?_
   try simp only [zP,zN,zA,zB,zC]
   refine pu_ (v := .int .i64 (nn + pw)) (y_assign rfl (by rfl) (by rfl)) ?_
   try simp only [zP,zN,zA,zB,zC]
   refine nl_ (hK64 _ _ ?_); clear hK64 K64
   refine s_ (fun K65 hK65 => ?_)
   refine pu_ (v := .int .i64 (nn + pw)) (y_move rfl (by rfl) (by rfl)) ?_
   try simp only [zP,zN,zA,zB,zC]
   refine pu_ (v := .pointer (some ⟨g3, 1, none⟩)) (y_run (by rfl) (fun W => by go_simp)) ?_
   try simp only [zP,zN,zA,zB,zC]
   refine ld_ (v := .int .i64 m) rfl (by rfl) (by rfl) (run_load_one ((Fg3.out.cell 1).trans rfl) Try.underlying3 rfl) ?_
   try simp only [zP,zN,zA,zB,zC]
   refine pu_ (v := .bool false) (y_run (by rfl) (fun W => by have d := D24.out; go_simp)) ?_
   try simp only [zP,zN,zA,zB,zC]
   refine pu_ (v := .bool false) (y_move rfl (by rfl) (by rfl)) ?_
   try simp only [zP,zN,zA,zB,zC]
   refine pu_ (y_off (by rfl)) ?_
   try simp only [zP,zN,zA,zB,zC]
   refine pu_ (y_off (by rfl)) ?_
   try simp only [zP,zN,zA,zB,zC]
   refine pu_ (y_off (by rfl)) ?_
   try simp only [zP,zN,zA,zB,zC]
   refine pu_ (y_off (by rfl)) ?_
   try simp only [zP,zN,zA,zB,zC]
   refine pu_ (y_off (by rfl)) ?_
   try simp only [zP,zN,zA,zB,zC]
   refine pu_ (v := .bool false) (y_pick (t := false) (by rfl) rfl (by rfl) (by rfl)) ?_
   try simp only [zP,zN,zA,zB,zC]
   refine nl_ (hK65 _ _ ?_); clear hK65 K65
   refine wp_cond_false rfl ?_
   refine wp_skip ?_
   refine ib_norm ?_
   refine th_norm (hK63 _ _ ?_); try clear hK63 K63
   refine r_ ?_
   refine pu_ (v := .int .i64 i) (y_move rfl (by rfl) (by rfl)) ?_
   try simp only [zP,zN,zA,zB,zC]
   refine pu_ (v := .int .i64 ((j : Int) - 1)) (y_run (by rfl) (fun W => by have d := W15.out; go_simp)) ?_
   try simp only [zP,zN,zA,zB,zC]
   refine pu_ (v := .int .i64 ((j : Int) - 1)) (y_assign rfl (by rfl) (by rfl)) ?_
   try simp only [zP,zN,zA,zB,zC]
   refine nl_ ?_
   exact th_norm (hK46 (j) _ _ (by have := hk.out; have := HJ.out; omega) ⟨j, p, nn, ((j : Int) - 1), rfl, C0, Fg3, qh ⟨by have := hk.out; have := HJ.out; omega, rfl, rfl⟩, hp, qh (by rw [← HPW.out]; have := HN.out; have := HH.out; have := HTM.out; have := HB.out; omega)⟩)
  ·have D13 := qh (show decide (i ≥ 0) = false from decide_eq_false (by have := hk.out; omega))
   have HR := qh (show nn = limZ m pc by rw [lim_top, ← hp.out.1]; have h9 := hn.out; rw [h] at h9; omega)
   clear h
   refine s_ (fun K66 hK66 => ?_)
   refine pu_ (v := .int .i64 i) (y_move rfl (by rfl) (by rfl)) ?_
   try simp only [zP,zN,zA,zB,zC]
   refine pu_ (v := .bool false) (y_run (by rfl) (fun W => by have d := D13.out; go_simp)) ?_
   try simp only [zP,zN,zA,zB,zC]
   refine nl_ (hK66 _ _ ?_); clear hK66 K66
   refine wp_cond_false rfl ?_
   refine wp_exit ?_
   refine th_exit ?_
   refine th_exit ?_
   refine ib_exit ?_
   refine th_norm (hK43 _ _ ?_); try clear hK43 K43
   refine s_ (fun K67 hK67 => ?_)
   refine pu_ (v := .int .i64 nn) (y_move rfl (by rfl) (by rfl)) ?_
   try simp only [zP,zN,zA,zB,zC]
   refine pu_ (v := .int .i64 nn) (y_assign rfl (by rfl) (by rfl)) ?_
   try simp only [zP,zN,zA,zB,zC]
   refine nl_ (hK67 _ _ ?_); clear hK67 K67
   refine wp_ret ?_
   refine hQ _ _ _ ?_
   refine bodyPost_ret (res1 rfl (rdv_tmp (v := .int .i64 nn) (by rfl))) rfl ?_
   exact ⟨by rw [HR.out], C0.out⟩
 ·have HH := qh h
  clear h
  have D9 := qh (show decide (pc < 0) = false from decide_eq_false (by have := HH.out; omega))
  have D11 := qh (show decide (pc > 100) = false from decide_eq_false (by have := HH.out; omega))
  refine s_ (fun K68 hK68 => ?_)
  refine pu_ (v := .int .i64 pc) (y_move rfl (by rfl) (by rfl)) ?_
  try simp only [zP,zN,zA,zB,zC]
  refine pu_ (v := .bool false) (y_run (by rfl) (fun W => by have d := D9.out; go_simp)) ?_
  try simp only [zP,zN,zA,zB,zC]
  refine nl_ (hK68 _ _ ?_); clear hK68 K68
  refine wp_cond_false rfl ?_
  refine wp_skip ?_
  refine th_norm (hK9 _ _ ?_); try clear hK9 K9
  refine sq_ (fun K69 hK69 => ?_)
  refine s_ (fun K70 hK70 => ?_)
  refine pu_ (v := .int .i64 pc) (y_move rfl (by rfl) (by rfl)) ?_
  try simp only [zP,zN,zA,zB,zC]
  refine pu_ (v := .bool false) (y_run (by rfl) (fun W => by have d := D11.out; go_simp)) ?_
  try simp only [zP,zN,zA,zB,zC]
  refine nl_ (hK70 _ _ ?_); clear hK70 K70
  refine wp_cond_false rfl ?_
  refine wp_skip ?_
  refine th_norm (hK69 _ _ ?_); try clear hK69 K69
  refine s_ (fun K71 hK71 => ?_)
  refine pu_ (v := .int .i64 0) (y_assign rfl (by rfl) (by rfl)) ?_
  try simp only [zP,zN,zA,zB,zC]
  refine nl_ (hK71 _ _ ?_); clear hK71 K71
  refine sq_ (fun K72 hK72 => ?_)
  refine s_ (fun K73 hK73 => ?_)
  refine pu_ (v := .int .i64 60) (y_assign rfl (by rfl) (by rfl)) ?_
  try simp only [zP,zN,zA,zB,zC]
  refine nl_ (hK73 _ _ ?_); clear hK73 K73
  refine wp_block ?_
  refine loopk_ (fun (kq : Nat) (a' : Act) (w' : World) => ∃ (k : Nat), ∃ (p : Int), ∃ (nn : Int), ∃ (i : Int), a' = ⟨#[uo a' 0, .int .i64 p, .pointer (some ⟨g3, 0, none⟩), uo a' 3, .int .i64 0, .int .i64 nn, .int .i64 i, uo a' 7, uo a' 8, uo a' 9, uo a' 10, uo a' 11, uo a' 12, uo a' 13, uo a' 14, uo a' 15, uo a' 16, uo a' 17, uo a' 18, uo a' 19, uo a' 20, uo a' 21, uo a' 22, uo a' 23, uo a' 24, uo a' 25, uo a' 26, uo a' 27, uo a' 28, uo a' 29, uo a' 30, uo a' 31, uo a' 32, uo a' 33], []⟩ ∧ Hid (Ch [] w w') ∧ Hid (Blk w' g3 (#[.int .i64 c, .int .i64 m, .int .i64 e]) 23) ∧ Hid (k ≤ 61 ∧ kq = k ∧ i = (k : Int) - 1) ∧ Hid (p = min (max pc 0) 100 ∧ 0 ≤ p ∧ p ≤ 100) ∧ Hid (0 ≤ nn ∧ nn ≤ topZ m p ∧ topZ m p < nn + 2 ^ k)) (61) (⟨61, pc, 0, 60, rfl, C0, Fg3, qh ⟨by omega, rfl, by omega⟩, qh (by have := HH.out; omega), qh (by have h9 := top_le (m := m) (p := pc) HM.out.1 (by have := HH.out; omega); have h8 := HM.out; unfold SmallZ at h8; exact ⟨by omega, h9.1, by have : (2 : Int) ^ 61 = 2305843009213693952 := (by decide); omega⟩)⟩) ?_
  rintro kq a_ w74 ⟨k, p, nn, i, ha_, C0, Fg3, hk, hp, hn⟩ K75 hK75
  obtain ⟨us, hus_⟩ : ∃ us, us = uo a_ := ⟨_, rfl⟩; try rw [← hus_] at ha_
  subst ha_; clear hus_
  refine sq_ (fun K76 hK76 => ?_)
  rcases limit_ways m p nn k (hk := hk.out.1) with h | h | h | h
  ·obtain ⟨j, hj, pw, hpw, hpw1, hpw2, h⟩ := h
   have HJ := qh hj; have HPW := qh hpw; have HB := qh (And.intro hpw1 hpw2); have HH := qh h; clear hj hpw hpw1 hpw2 h
   have D13 := qh (show decide (i ≥ 0) = true from decide_eq_true (by have := hk.out; have := HJ.out; omega))
   have HTM := qh (top_le (m := m) (p := p) HM.out.1 hp.out.2)
   have HM2 := qh (show m ≤ 1152921504606846976 from HM.out.2)
   have EI := qh (show i = (j : Int) by have := hk.out; have := HJ.out; omega)
   have W18 := qh (show IntKind.u64.wrap i = (j : Int) by rw [EI.out]; exact wu64 (by have := hk.out; have := HJ.out; omega))
   have W19 := qh (show IntKind.i64.wrap pw = pw from wr64 (by have := HB.out; omega))
   have J64 := qh (show j < 64 by have := hk.out; have := HJ.out; omega)
   have P19 := qh (show ((2 : Int) ^ j) = pw from HPW.out.symm)
   have W20 := qh (show IntKind.i64.wrap (nn + pw) = nn + pw from wr64 (by have := HB.out; have := hn.out; have := HTM.out; have := HM2.out; omega))
   have W15 := qh (show IntKind.i64.wrap (i - 1) = (j : Int) - 1 by rw [EI.out]; exact wr64 (by have := J64.out; omega))
   have HN := qh (show 0 ≤ nn ∧ nn ≤ topZ m p ∧ topZ m p < nn + 2 * pw by have h9 := hn.out; rw [HJ.out, Int.pow_succ, ← HPW.out] at h9; omega)
   have D24 := qh (show decide (nn + pw ≤ m) = true from decide_eq_true (by have := HH.out; have := HTM.out; omega))
   have HF := qh (show fitsB (nn + pw) m p = true from decide_eq_true (fits_top.2 HH.out))
   refine s_ (fun K77 hK77 => ?_)
   refine pu_ (v := .int .i64 i) (y_move rfl (by rfl) (by rfl)) ?_
   try simp only [zP,zN,zA,zB,zC]
   refine pu_ (v := .bool true) (y_run (by rfl) (fun W => by have d := D13.out; go_simp)) ?_
   try simp only [zP,zN,zA,zB,zC]
   refine nl_ (hK77 _ _ ?_); clear hK77 K77
   refine wp_cond_true rfl ?_
   refine wp_skip ?_
   refine th_norm (hK76 _ _ ?_); try clear hK76 K76
   refine sq_ (fun K78 hK78 => ?_)
   refine wp_block ?_
   refine s_ (fun K79 hK79 => ?_)
   refine pu_ (v := .int .i64 nn) (y_move rfl (by rfl) (by rfl)) ?_
   try simp only [zP,zN,zA,zB,zC]
   refine pu_ (v := .int .i64 i) (y_move rfl (by rfl) (by rfl)) ?_
   try simp only [zP,zN,zA,zB,zC]
   refine pu_ (v := .int .u64 j) (y_run (by rfl) (fun W => by have d := W18.out; go_simp)) ?_
   try simp only [zP,zN,zA,zB,zC]
   refine pu_ (v := .int .i64 pw) (y_run (by rfl) (fun W => by have d := W19.out; have d2 := P19.out; have d3 := J64.out; go_simp)) ?_
   try simp only [zP,zN,zA,zB,zC]
   refine pu_ (v := .int .i64 (nn + pw)) (y_run (by rfl) (fun W => by have d := W20.out; go_simp)) ?_
   try simp only [zP,zN,zA,zB,zC]
   refine pu_ (v := .int .i64 (nn + pw)) (y_assign rfl (by rfl) (by rfl)) ?_
   try simp only [zP,zN,zA,zB,zC]
   refine nl_ (hK79 _ _ ?_); clear hK79 K79
   refine s_ (fun K80 hK80 => ?_)
   refine pu_ (v := .int .i64 (nn + pw)) (y_move rfl (by rfl) (by rfl)) ?_
   try simp only [zP,zN,zA,zB,zC]
   refine pu_ (v := .pointer (some ⟨g3, 1, none⟩)) (y_run (by rfl) (fun W => by go_simp)) ?_
   try simp only [zP,zN,zA,zB,zC]
   refine ld_ (v := .int .i64 m) rfl (by rfl) (by rfl) (run_load_one ((Fg3.out.cell 1).trans rfl) Try.underlying3 rfl) ?_
   try simp only [zP,zN,zA,zB,zC]
   refine pu_ (v := .bool true) (y_run (by rfl) (fun W => by have d := D24.out; go_simp)) ?_
   try simp only [zP,zN,zA,zB,zC]
   refine pu_ (v := .bool true) (y_move rfl (by rfl) (by rfl)) ?_
   try simp only [zP,zN,zA,zB,zC]
   refine pu_ (v := .int .i64 (nn + pw)) (y_move rfl (by rfl) (by rfl)) ?_
   try simp only [zP,zN,zA,zB,zC]
   refine pu_ (v := .pointer (some ⟨g3, 1, none⟩)) (y_run (by rfl) (fun W => by go_simp)) ?_
   try simp only [zP,zN,zA,zB,zC]
   refine ld_ (v := .int .i64 m) rfl (by rfl) (by rfl) (run_load_one ((Fg3.out.cell 1).trans rfl) Try.underlying3 rfl) ?_
   try simp only [zP,zN,zA,zB,zC]
   refine pu_ (v := .int .i64 p) (y_move rfl (by rfl) (by rfl)) ?_
   try simp only [zP,zN,zA,zB,zC]
   refine ef_ (fun K81 hK81 => ?_)
   refine e_call Try.func20 (by kernel_rfl) rfl #[.int .i64 (nn + pw), .int .i64 m, .int .i64 p] (by rfl) rfl rfl (mp3 rfl rfl rfl) ((by have h9 := fits_ (w := w74) (a := nn + pw) (b := m) (p := p) (qh (by have := HB.out; have := hn.out; have := HH.out; have := HTM.out; have := HM2.out; omega)) (qh HM.out) (qh hp.out.2); rw [HF.out] at h9; exact h9)) ?_
   rintro en w83 ⟨rfl, cc82⟩
   refine ⟨_, rfl, ?_⟩
   replace C0 := qh (C0.out.trans' cc82 inw_nil)
   replace Fg3 := qh (cc82.blk Fg3.out nin_nil)
   clear cc82
   refine hK81 _ _ ?_; clear hK81 K81
   try simp only [zP,zN,zA,zB,zC]
   refine pu_ (v := .bool true) (y_pick (t := true) (by rfl) rfl (by rfl) (by rfl)) ?_
   try simp only [zP,zN,zA,zB,zC]
   refine nl_ (hK80 _ _ ?_); clear hK80 K80
   refine wp_cond_true rfl ?_
   refine r_ ?_
   refine pu_ (v := .int .i64 (nn + pw)) (y_move rfl (by rfl) (by rfl)) ?_
   try simp only [zP,zN,zA,zB,zC]
   refine pu_ (v := .int .i64 (nn + pw)) (y_assign rfl (by rfl) (by rfl)) ?_
   try simp only [zP,zN,zA,zB,zC]
   refine nl_ ?_
   refine ib_norm ?_
   refine th_norm (hK78 _ _ ?_); try clear hK78 K78
   refine r_ ?_
   refine pu_ (v := .int .i64 i) (y_move rfl (by rfl) (by rfl)) ?_
   try simp only [zP,zN,zA,zB,zC]
   refine pu_ (v := .int .i64 ((j : Int) - 1)) (y_run (by rfl) (fun W => by have d := W15.out; go_simp)) ?_
   try simp only [zP,zN,zA,zB,zC]
   refine pu_ (v := .int .i64 ((j : Int) - 1)) (y_assign rfl (by rfl) (by rfl)) ?_
   try simp only [zP,zN,zA,zB,zC]
   refine nl_ ?_
   exact th_norm (hK75 (j) _ _ (by have := hk.out; have := HJ.out; omega) ⟨j, p, (nn + pw), ((j : Int) - 1), rfl, C0, Fg3, qh ⟨by have := hk.out; have := HJ.out; omega, rfl, rfl⟩, hp, qh (by rw [← HPW.out]; have := HN.out; have := HH.out; have := HTM.out; have := HB.out; omega)⟩)
  ·obtain ⟨j, hj, pw, hpw, hpw1, hpw2, h⟩ := h
   have HJ := qh hj; have HPW := qh hpw; have HB := qh (And.intro hpw1 hpw2); have HH := qh h; clear hj hpw hpw1 hpw2 h
   have D13 := qh (show decide (i ≥ 0) = true from decide_eq_true (by have := hk.out; have := HJ.out; omega))
   have HTM := qh (top_le (m := m) (p := p) HM.out.1 hp.out.2)
   have HM2 := qh (show m ≤ 1152921504606846976 from HM.out.2)
   have EI := qh (show i = (j : Int) by have := hk.out; have := HJ.out; omega)
   have W18 := qh (show IntKind.u64.wrap i = (j : Int) by rw [EI.out]; exact wu64 (by have := hk.out; have := HJ.out; omega))
   have W19 := qh (show IntKind.i64.wrap pw = pw from wr64 (by have := HB.out; omega))
   have J64 := qh (show j < 64 by have := hk.out; have := HJ.out; omega)
   have P19 := qh (show ((2 : Int) ^ j) = pw from HPW.out.symm)
   have W20 := qh (show IntKind.i64.wrap (nn + pw) = nn + pw from wr64 (by have := HB.out; have := hn.out; have := HTM.out; have := HM2.out; omega))
   have W15 := qh (show IntKind.i64.wrap (i - 1) = (j : Int) - 1 by rw [EI.out]; exact wr64 (by have := J64.out; omega))
   have HN := qh (show 0 ≤ nn ∧ nn ≤ topZ m p ∧ topZ m p < nn + 2 * pw by have h9 := hn.out; rw [HJ.out, Int.pow_succ, ← HPW.out] at h9; omega)
   have D24 := qh (show decide (nn + pw ≤ m) = true from decide_eq_true (by have := HH.out; have := HTM.out; omega))
   have HF := qh (show fitsB (nn + pw) m p = false from decide_eq_false (fun h9 => by have := fits_top.1 h9; have := HH.out; have := HTM.out; omega))
   refine s_ (fun K84 hK84 => ?_)
   refine pu_ (v := .int .i64 i) (y_move rfl (by rfl) (by rfl)) ?_
   try simp only [zP,zN,zA,zB,zC]
   refine pu_ (v := .bool true) (y_run (by rfl) (fun W => by have d := D13.out; go_simp)) ?_
   try simp only [zP,zN,zA,zB,zC]
   refine nl_ (hK84 _ _ ?_); clear hK84 K84
   refine wp_cond_true rfl ?_
   refine wp_skip ?_
   refine th_norm (hK76 _ _ ?_); try clear hK76 K76
   refine sq_ (fun K85 hK85 => ?_)
   refine wp_block ?_
   refine s_ (fun K86 hK86 => ?_)
   refine pu_ (v := .int .i64 nn) (y_move rfl (by rfl) (by rfl)) ?_
   try simp only [zP,zN,zA,zB,zC]
   refine pu_ (v := .int .i64 i) (y_move rfl (by rfl) (by rfl)) ?_
   try simp only [zP,zN,zA,zB,zC]
   refine pu_ (v := .int .u64 j) (y_run (by rfl) (fun W => by have d := W18.out; go_simp)) ?_
   try simp only [zP,zN,zA,zB,zC]
   refine pu_ (v := .int .i64 pw) (y_run (by rfl) (fun W => by have d := W19.out; have d2 := P19.out; have d3 := J64.out; go_simp)) ?_
   try simp only [zP,zN,zA,zB,zC]
   refine pu_ (v := .int .i64 (nn + pw)) (y_run (by rfl) (fun W => by have d := W20.out; go_simp)) ?_
   try simp only [zP,zN,zA,zB,zC]
   refine pu_ (v := .int .i64 (nn + pw)) (y_assign rfl (by rfl) (by rfl)) ?_
   try simp only [zP,zN,zA,zB,zC]
   refine nl_ (hK86 _ _ ?_); clear hK86 K86
   refine s_ (fun K87 hK87 => ?_)
   refine pu_ (v := .int .i64 (nn + pw)) (y_move rfl (by rfl) (by rfl)) ?_
   try simp only [zP,zN,zA,zB,zC]
   refine pu_ (v := .pointer (some ⟨g3, 1, none⟩)) (y_run (by rfl) (fun W => by go_simp)) ?_
   try simp only [zP,zN,zA,zB,zC]
   refine ld_ (v := .int .i64 m) rfl (by rfl) (by rfl) (run_load_one ((Fg3.out.cell 1).trans rfl) Try.underlying3 rfl) ?_
   try simp only [zP,zN,zA,zB,zC]
   refine pu_ (v := .bool true) (y_run (by rfl) (fun W => by have d := D24.out; go_simp)) ?_
   try simp only [zP,zN,zA,zB,zC]
   refine pu_ (v := .bool true) (y_move rfl (by rfl) (by rfl)) ?_
   try simp only [zP,zN,zA,zB,zC]
   refine pu_ (v := .int .i64 (nn + pw)) (y_move rfl (by rfl) (by rfl)) ?_
   try simp only [zP,zN,zA,zB,zC]
   refine pu_ (v := .pointer (some ⟨g3, 1, none⟩)) (y_run (by rfl) (fun W => by go_simp)) ?_
   try simp only [zP,zN,zA,zB,zC]
   refine ld_ (v := .int .i64 m) rfl (by rfl) (by rfl) (run_load_one ((Fg3.out.cell 1).trans rfl) Try.underlying3 rfl) ?_
   try simp only [zP,zN,zA,zB,zC]
   refine pu_ (v := .int .i64 p) (y_move rfl (by rfl) (by rfl)) ?_
   try simp only [zP,zN,zA,zB,zC]
   refine ef_ (fun K88 hK88 => ?_)
   refine e_call Try.func20 (by kernel_rfl) rfl #[.int .i64 (nn + pw), .int .i64 m, .int .i64 p] (by rfl) rfl rfl (mp3 rfl rfl rfl) ((by have h9 := fits_ (w := w74) (a := nn + pw) (b := m) (p := p) (qh (by have := HB.out; have := hn.out; have := HH.out; have := HTM.out; have := HM2.out; omega)) (qh HM.out) (qh hp.out.2); rw [HF.out] at h9; exact h9)) ?_
   rintro en w90 ⟨rfl, cc89⟩
   refine ⟨_, rfl, ?_⟩
   replace C0 := qh (C0.out.trans' cc89 inw_nil)
   replace Fg3 := qh (cc89.blk Fg3.out nin_nil)
   clear cc89
   refine hK88 _ _ ?_; clear hK88 K88
   try simp only [zP,zN,zA,zB,zC]
   refine pu_ (v := .bool false) (y_pick (t := true) (by rfl) rfl (by rfl) (by rfl)) ?_
   try simp only [zP,zN,zA,zB,zC]
   refine nl_ (hK87 _ _ ?_); clear hK87 K87
   refine wp_cond_false rfl ?_
   refine wp_skip ?_
   refine ib_norm ?_
   refine th_norm (hK85 _ _ ?_); try clear hK85 K85
   refine r_ ?_
   refine pu_ (v := .int .i64 i) (y_move rfl (by rfl) (by rfl)) ?_
   try simp only [zP,zN,zA,zB,zC]
   refine pu_ (v := .int .i64 ((j : Int) - 1)) (y_run (by rfl) (fun W => by have d := W15.out; go_simp)) ?_
   try simp only [zP,zN,zA,zB,zC]
   refine pu_ (v := .int .i64 ((j : Int) - 1)) (y_assign rfl (by rfl) (by rfl)) ?_
   try simp only [zP,zN,zA,zB,zC]
   refine nl_ ?_
   exact th_norm (hK75 (j) _ _ (by have := hk.out; have := HJ.out; omega) ⟨j, p, nn, ((j : Int) - 1), rfl, C0, Fg3, qh ⟨by have := hk.out; have := HJ.out; omega, rfl, rfl⟩, hp, qh (by rw [← HPW.out]; have := HN.out; have := HH.out; have := HTM.out; have := HB.out; omega)⟩)
  ·obtain ⟨j, hj, pw, hpw, hpw1, hpw2, h⟩ := h
   have HJ := qh hj; have HPW := qh hpw; have HB := qh (And.intro hpw1 hpw2); have HH := qh h; clear hj hpw hpw1 hpw2 h
   have D13 := qh (show decide (i ≥ 0) = true from decide_eq_true (by have := hk.out; have := HJ.out; omega))
   have HTM := qh (top_le (m := m) (p := p) HM.out.1 hp.out.2)
   have HM2 := qh (show m ≤ 1152921504606846976 from HM.out.2)
   have EI := qh (show i = (j : Int) by have := hk.out; have := HJ.out; omega)
   have W18 := qh (show IntKind.u64.wrap i = (j : Int) by rw [EI.out]; exact wu64 (by have := hk.out; have := HJ.out; omega))
   have W19 := qh (show IntKind.i64.wrap pw = pw from wr64 (by have := HB.out; omega))
   have J64 := qh (show j < 64 by have := hk.out; have := HJ.out; omega)
   have P19 := qh (show ((2 : Int) ^ j) = pw from HPW.out.symm)
   have W20 := qh (show IntKind.i64.wrap (nn + pw) = nn + pw from wr64 (by have := HB.out; have := hn.out; have := HTM.out; have := HM2.out; omega))
   have W15 := qh (show IntKind.i64.wrap (i - 1) = (j : Int) - 1 by rw [EI.out]; exact wr64 (by have := J64.out; omega))
   have HN := qh (show 0 ≤ nn ∧ nn ≤ topZ m p ∧ topZ m p < nn + 2 * pw by have h9 := hn.out; rw [HJ.out, Int.pow_succ, ← HPW.out] at h9; omega)
   have D24 := qh (show decide (nn + pw ≤ m) = false from decide_eq_false (by have := HH.out; have := HTM.out; omega))
   refine s_ (fun K91 hK91 => ?_)
   refine pu_ (v := .int .i64 i) (y_move rfl (by rfl) (by rfl)) ?_
   try simp only [zP,zN,zA,zB,zC]
   refine pu_ (v := .bool true) (y_run (by rfl) (fun W => by have d := D13.out; go_simp)) ?_
   try simp only [zP,zN,zA,zB,zC]
   refine nl_ (hK91 _ _ ?_); clear hK91 K91
   refine wp_cond_true rfl ?_
   refine wp_skip ?_
   refine th_norm (hK76 _ _ ?_); try clear hK76 K76
   refine sq_ (fun K92 hK92 => ?_)
   refine wp_block ?_
   refine s_ (fun K93 hK93 => ?_)
   refine pu_ (v := .int .i64 nn) (y_move rfl (by rfl) (by rfl)) ?_
   try simp only [zP,zN,zA,zB,zC]
   refine pu_ (v := .int .i64 i) (y_move rfl (by rfl) (by rfl)) ?_
   try simp only [zP,zN,zA,zB,zC]
   refine pu_ (v := .int .u64 j) (y_run (by rfl) (fun W => by have d := W18.out; go_simp)) ?_
   try simp only [zP,zN,zA,zB,zC]
   refine pu_ (v := .int .i64 pw) (y_run (by rfl) (fun W => by have d := W19.out; have d2 := P19.out; have d3 := J64.out; go_simp)) ?_
   try simp only [zP,zN,zA,zB,zC]
   refine pu_ (v := .int .i64 (nn + pw)) (y_run (by rfl) (fun W => by have d := W20.out; go_simp)) ?_
   try simp only [zP,zN,zA,zB,zC]
   refine pu_ (v := .int .i64 (nn + pw)) (y_assign rfl (by rfl) (by rfl)) ?_
   try simp only [zP,zN,zA,zB,zC]
   refine nl_ (hK93 _ _ ?_); clear hK93 K93
   refine s_ (fun K94 hK94 => ?_)
   refine pu_ (v := .int .i64 (nn + pw)) (y_move rfl (by rfl) (by rfl)) ?_
   try simp only [zP,zN,zA,zB,zC]
   refine pu_ (v := .pointer (some ⟨g3, 1, none⟩)) (y_run (by rfl) (fun W => by go_simp)) ?_
   try simp only [zP,zN,zA,zB,zC]
   refine ld_ (v := .int .i64 m) rfl (by rfl) (by rfl) (run_load_one ((Fg3.out.cell 1).trans rfl) Try.underlying3 rfl) ?_
   try simp only [zP,zN,zA,zB,zC]
   refine pu_ (v := .bool false) (y_run (by rfl) (fun W => by have d := D24.out; go_simp)) ?_
   try simp only [zP,zN,zA,zB,zC]
   refine pu_ (v := .bool false) (y_move rfl (by rfl) (by rfl)) ?_
   try simp only [zP,zN,zA,zB,zC]
   refine pu_ (y_off (by rfl)) ?_
   try simp only [zP,zN,zA,zB,zC]
   refine pu_ (y_off (by rfl)) ?_
   try simp only [zP,zN,zA,zB,zC]
   refine pu_ (y_off (by rfl)) ?_
   try simp only [zP,zN,zA,zB,zC]
   refine pu_ (y_off (by rfl)) ?_
   try simp only [zP,zN,zA,zB,zC]
   refine pu_ (y_off (by rfl)) ?_
   try simp only [zP,zN,zA,zB,zC]
   refine pu_ (v := .bool false) (y_pick (t := false) (by rfl) rfl (by rfl) (by rfl)) ?_
   try simp only [zP,zN,zA,zB,zC]
   refine nl_ (hK94 _ _ ?_); clear hK94 K94
   refine wp_cond_false rfl ?_
   refine wp_skip ?_
   refine ib_norm ?_
   refine th_norm (hK92 _ _ ?_); try clear hK92 K92
   refine r_ ?_
   refine pu_ (v := .int .i64 i) (y_move rfl (by rfl) (by rfl)) ?_
   try simp only [zP,zN,zA,zB,zC]
   refine pu_ (v := .int .i64 ((j : Int) - 1)) (y_run (by rfl) (fun W => by have d := W15.out; go_simp)) ?_
   try simp only [zP,zN,zA,zB,zC]
   refine pu_ (v := .int .i64 ((j : Int) - 1)) (y_assign rfl (by rfl) (by rfl)) ?_
   try simp only [zP,zN,zA,zB,zC]
   refine nl_ ?_
   exact th_norm (hK75 (j) _ _ (by have := hk.out; have := HJ.out; omega) ⟨j, p, nn, ((j : Int) - 1), rfl, C0, Fg3, qh ⟨by have := hk.out; have := HJ.out; omega, rfl, rfl⟩, hp, qh (by rw [← HPW.out]; have := HN.out; have := HH.out; have := HTM.out; have := HB.out; omega)⟩)
  ·have D13 := qh (show decide (i ≥ 0) = false from decide_eq_false (by have := hk.out; omega))
   have HR := qh (show nn = limZ m pc by rw [lim_top, ← hp.out.1]; have h9 := hn.out; rw [h] at h9; omega)
   clear h
   refine s_ (fun K95 hK95 => ?_)
   refine pu_ (v := .int .i64 i) (y_move rfl (by rfl) (by rfl)) ?_
   try simp only [zP,zN,zA,zB,zC]
   refine pu_ (v := .bool false) (y_run (by rfl) (fun W => by have d := D13.out; go_simp)) ?_
   try simp only [zP,zN,zA,zB,zC]
   refine nl_ (hK95 _ _ ?_); clear hK95 K95
   refine wp_cond_false rfl ?_
   refine wp_exit ?_
   refine th_exit ?_
   refine th_exit ?_
   refine ib_exit ?_
   refine th_norm (hK72 _ _ ?_); try clear hK72 K72
   refine s_ (fun K96 hK96 => ?_)
   refine pu_ (v := .int .i64 nn) (y_move rfl (by rfl) (by rfl)) ?_
   try simp only [zP,zN,zA,zB,zC]
   refine pu_ (v := .int .i64 nn) (y_assign rfl (by rfl) (by rfl)) ?_
   try simp only [zP,zN,zA,zB,zC]
   refine nl_ (hK96 _ _ ?_); clear hK96 K96
   refine wp_ret ?_
   refine hQ _ _ _ ?_
   refine bodyPost_ret (res1 rfl (rdv_tmp (v := .int .i64 nn) (by rfl))) rfl ?_
   exact ⟨by rw [HR.out], C0.out⟩
end
end Go.Proofs.Ytmoelehhofmhcaa.V
