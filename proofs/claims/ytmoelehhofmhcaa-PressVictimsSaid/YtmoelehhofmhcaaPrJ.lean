/- The walks of the document's sums, of what is above, and of who goes first. -/
import Derived.Test.YtmoelehhofmhcaaPrZ
namespace Go.Proofs.Ytmoelehhofmhcaa.V
open Go Go.RowKit Go.Proofs.Ytmoelehhofmhcaa.K Go.Proofs.YtmoelehhofmhcaaW.PrintLast
set_option linter.unusedVariables false
set_option linter.unusedSimpArgs false
set_option maxRecDepth 100000
set_option maxHeartbeats 1600000
section
variable {w : World}
theorem dadd1_ {a b : Int} (HA : Hid (I64 a)) (HB : Hid (I64 b))  :
  Calls Try.prog 65 #[.int .i64 a, .int .i64 b] w fun en w' => en = .returned (.tuple #[.int .i64 (add1 a b).1, .bool (add1 a b).2]) ∧ Ch [] w w' := by
 have C0 := qh (Ch.refl [] w)
 go_enter Try.func65, Try.ntmps65
 refine q_ (fun Q hQ hP => ?_)
 refine s_ (fun K1 hK1 => ?_)
 refine pu_ (v := .int .i64 0) (y_assign rfl (by rfl) (by rfl)) ?_
 try simp only [zP,zN,zA,zB,zC]
 refine pu_ (v := .bool false) (y_assign rfl (by rfl) (by rfl)) ?_
 try simp only [zP,zN,zA,zB,zC]
 refine nl_ (hK1 _ _ ?_); clear hK1 K1
 refine sq_ (fun K2 hK2 => ?_)
 rcases (show (0 ≤ b ∧ a > 9223372036854775807 - b) ∨ (0 ≤ b ∧ a ≤ 9223372036854775807 - b) ∨ (b < 0 ∧ a < (-9223372036854775808) - b) ∨ (b < 0 ∧ ¬ a < (-9223372036854775808) - b) by omega) with h | h | h | h
 ·have HH := qh h
  clear h
  have BU := qh (show -9223372036854775808 ≤ a ∧ a ≤ 9223372036854775807 ∧ -9223372036854775808 ≤ b ∧ b ≤ 9223372036854775807 from ⟨HA.out.1, HA.out.2, HB.out.1, HB.out.2⟩)
  have D7 := qh (show decide (b ≥ 0) = true from decide_eq_true (by have := HH.out; have := BU.out; omega))
  have W11 := qh (show IntKind.i64.wrap (9223372036854775807 - b) = 9223372036854775807 - b from wr64 (by have := BU.out; have := HH.out; omega))
  have D12 := qh (show decide (a > 9223372036854775807 - b) = true from decide_eq_true (by have := HH.out; have := BU.out; omega))
  have HR := qh (show add1 a b = (0, false) from add_no (by have := HH.out; omega))
  refine s_ (fun K3 hK3 => ?_)
  refine pu_ (v := .int .i64 b) (y_move rfl (by rfl) (by rfl)) ?_
  try simp only [zP,zN,zA,zB,zC]
  refine pu_ (v := .bool true) (y_run (by rfl) (fun W => by have d := D7.out; go_simp)) ?_
  try simp only [zP,zN,zA,zB,zC]
  refine pu_ (v := .bool true) (y_move rfl (by rfl) (by rfl)) ?_
  try simp only [zP,zN,zA,zB,zC]
  refine pu_ (v := .int .i64 a) (y_move rfl (by rfl) (by rfl)) ?_
  try simp only [zP,zN,zA,zB,zC]
  refine pu_ (v := .int .i64 b) (y_move rfl (by rfl) (by rfl)) ?_
  try simp only [zP,zN,zA,zB,zC]
  refine pu_ (v := .int .i64 (9223372036854775807 - b)) (y_run (by rfl) (fun W => by have d := W11.out; go_simp)) ?_
  try simp only [zP,zN,zA,zB,zC]
  refine pu_ (v := .bool true) (y_run (by rfl) (fun W => by have d := D12.out; go_simp)) ?_
  try simp only [zP,zN,zA,zB,zC]
  refine pu_ (v := .bool true) (y_pick (t := true) (by rfl) rfl (by rfl) (by rfl)) ?_
  try simp only [zP,zN,zA,zB,zC]
  refine pu_ (v := .bool true) (y_move rfl (by rfl) (by rfl)) ?_
  try simp only [zP,zN,zA,zB,zC]
  refine pu_ (y_off (by rfl)) ?_
  try simp only [zP,zN,zA,zB,zC]
  refine pu_ (y_off (by rfl)) ?_
  try simp only [zP,zN,zA,zB,zC]
  refine pu_ (y_off (by rfl)) ?_
  try simp only [zP,zN,zA,zB,zC]
  refine pu_ (y_off (by rfl)) ?_
  try simp only [zP,zN,zA,zB,zC]
  refine pu_ (y_off (by rfl)) ?_
  try simp only [zP,zN,zA,zB,zC]
  refine pu_ (y_off (by rfl)) ?_
  try simp only [zP,zN,zA,zB,zC]
  refine pu_ (y_off (by rfl)) ?_
  try simp only [zP,zN,zA,zB,zC]
  refine pu_ (y_off (by rfl)) ?_
  try simp only [zP,zN,zA,zB,zC]
  refine pu_ (v := .bool true) (y_pick (t := true) (by rfl) rfl (by rfl) (by rfl)) ?_
  try simp only [zP,zN,zA,zB,zC]
  refine nl_ (hK3 _ _ ?_); clear hK3 K3
  refine wp_cond_true rfl ?_
  refine s_ (fun K4 hK4 => ?_)
  refine pu_ (v := .int .i64 0) (y_assign rfl (by rfl) (by rfl)) ?_
  try simp only [zP,zN,zA,zB,zC]
  refine pu_ (v := .bool false) (y_assign rfl (by rfl) (by rfl)) ?_
  try simp only [zP,zN,zA,zB,zC]
  refine nl_ (hK4 _ _ ?_); clear hK4 K4
  refine wp_ret ?_
  refine th_ret ?_
  refine hQ _ _ _ ?_
  refine bodyPost_ret (res2 rfl (rdv_tmp (v := .int .i64 0) (by rfl)) (rdv_tmp (v := .bool false) (by rfl))) rfl ?_
  exact ⟨by rw [HR.out], C0.out⟩
 ·have HH := qh h
  clear h
  have BU := qh (show -9223372036854775808 ≤ a ∧ a ≤ 9223372036854775807 ∧ -9223372036854775808 ≤ b ∧ b ≤ 9223372036854775807 from ⟨HA.out.1, HA.out.2, HB.out.1, HB.out.2⟩)
  have D7 := qh (show decide (b ≥ 0) = true from decide_eq_true (by have := HH.out; have := BU.out; omega))
  have W11 := qh (show IntKind.i64.wrap (9223372036854775807 - b) = 9223372036854775807 - b from wr64 (by have := BU.out; have := HH.out; omega))
  have D12 := qh (show decide (a > 9223372036854775807 - b) = false from decide_eq_false (by have := HH.out; have := BU.out; omega))
  have D16 := qh (show decide (b < 0) = false from decide_eq_false (by have := HH.out; have := BU.out; omega))
  have W26 := qh (show IntKind.i64.wrap (a + b) = a + b from wr64 (by have := BU.out; have := HH.out; omega))
  have HR := qh (show add1 a b = (a + b, true) from add_yes (by have := HH.out; have := BU.out; omega))
  refine s_ (fun K5 hK5 => ?_)
  refine pu_ (v := .int .i64 b) (y_move rfl (by rfl) (by rfl)) ?_
  try simp only [zP,zN,zA,zB,zC]
  refine pu_ (v := .bool true) (y_run (by rfl) (fun W => by have d := D7.out; go_simp)) ?_
  try simp only [zP,zN,zA,zB,zC]
  refine pu_ (v := .bool true) (y_move rfl (by rfl) (by rfl)) ?_
  try simp only [zP,zN,zA,zB,zC]
  refine pu_ (v := .int .i64 a) (y_move rfl (by rfl) (by rfl)) ?_
  try simp only [zP,zN,zA,zB,zC]
  refine pu_ (v := .int .i64 b) (y_move rfl (by rfl) (by rfl)) ?_
  try simp only [zP,zN,zA,zB,zC]
  refine pu_ (v := .int .i64 (9223372036854775807 - b)) (y_run (by rfl) (fun W => by have d := W11.out; go_simp)) ?_
  try simp only [zP,zN,zA,zB,zC]
  refine pu_ (v := .bool false) (y_run (by rfl) (fun W => by have d := D12.out; go_simp)) ?_
  try simp only [zP,zN,zA,zB,zC]
  refine pu_ (v := .bool false) (y_pick (t := true) (by rfl) rfl (by rfl) (by rfl)) ?_
  try simp only [zP,zN,zA,zB,zC]
  refine pu_ (v := .bool false) (y_move rfl (by rfl) (by rfl)) ?_
  try simp only [zP,zN,zA,zB,zC]
  refine pu_ (v := .int .i64 b) (y_move rfl (by rfl) (by rfl)) ?_
  try simp only [zP,zN,zA,zB,zC]
  refine pu_ (v := .bool false) (y_run (by rfl) (fun W => by have d := D16.out; go_simp)) ?_
  try simp only [zP,zN,zA,zB,zC]
  refine pu_ (v := .bool false) (y_move rfl (by rfl) (by rfl)) ?_
  try simp only [zP,zN,zA,zB,zC]
  refine pu_ (y_off (by rfl)) ?_
  try simp only [zP,zN,zA,zB,zC]
  refine pu_ (y_off (by rfl)) ?_
  try simp only [zP,zN,zA,zB,zC]
  refine pu_ (y_off (by rfl)) ?_
  try simp only [zP,zN,zA,zB,zC]
  refine pu_ (y_off (by rfl)) ?_
  try simp only [zP,zN,zA,zB,zC]
  refine pu_ (v := .bool false) (y_pick (t := false) (by rfl) rfl (by rfl) (by rfl)) ?_
  try simp only [zP,zN,zA,zB,zC]
  refine pu_ (v := .bool false) (y_pick (t := false) (by rfl) rfl (by rfl) (by rfl)) ?_
  try simp only [zP,zN,zA,zB,zC]
  refine nl_ (hK5 _ _ ?_); clear hK5 K5
  refine wp_cond_false rfl ?_
  refine wp_skip ?_
  refine th_norm (hK2 _ _ ?_); try clear hK2 K2
  refine s_ (fun K6 hK6 => ?_)
  refine pu_ (v := .int .i64 a) (y_move rfl (by rfl) (by rfl)) ?_
  try simp only [zP,zN,zA,zB,zC]
  refine pu_ (v := .int .i64 b) (y_move rfl (by rfl) (by rfl)) ?_
  try simp only [zP,zN,zA,zB,zC]
  refine pu_ (v := .int .i64 (a + b)) (y_run (by rfl) (fun W => by have d := W26.out; go_simp)) ?_
  try simp only [zP,zN,zA,zB,zC]
  refine pu_ (v := .int .i64 (a + b)) (y_assign rfl (by rfl) (by rfl)) ?_
  try simp only [zP,zN,zA,zB,zC]
  refine pu_ (v := .bool true) (y_assign rfl (by rfl) (by rfl)) ?_
  try simp only [zP,zN,zA,zB,zC]
  refine nl_ (hK6 _ _ ?_); clear hK6 K6
  refine wp_ret ?_
  refine hQ _ _ _ ?_
  refine bodyPost_ret (res2 rfl (rdv_tmp (v := .int .i64 (a + b)) (by rfl)) (rdv_tmp (v := .bool true) (by rfl))) rfl ?_
  exact ⟨by rw [HR.out], C0.out⟩
 ·have HH := qh h
  clear h
  have BU := qh (show -9223372036854775808 ≤ a ∧ a ≤ 9223372036854775807 ∧ -9223372036854775808 ≤ b ∧ b ≤ 9223372036854775807 from ⟨HA.out.1, HA.out.2, HB.out.1, HB.out.2⟩)
  have D7 := qh (show decide (b ≥ 0) = false from decide_eq_false (by have := HH.out; have := BU.out; omega))
  have D16 := qh (show decide (b < 0) = true from decide_eq_true (by have := HH.out; have := BU.out; omega))
  have W20 := qh (show IntKind.i64.wrap ((-9223372036854775808) - b) = (-9223372036854775808) - b from wr64 (by have := BU.out; have := HH.out; omega))
  have D21 := qh (show decide (a < (-9223372036854775808) - b) = true from decide_eq_true (by have := HH.out; have := BU.out; omega))
  have HR := qh (show add1 a b = (0, false) from add_no (by have := HH.out; omega))
  refine s_ (fun K7 hK7 => ?_)
  refine pu_ (v := .int .i64 b) (y_move rfl (by rfl) (by rfl)) ?_
  try simp only [zP,zN,zA,zB,zC]
  refine pu_ (v := .bool false) (y_run (by rfl) (fun W => by have d := D7.out; go_simp)) ?_
  try simp only [zP,zN,zA,zB,zC]
  refine pu_ (v := .bool false) (y_move rfl (by rfl) (by rfl)) ?_
  try simp only [zP,zN,zA,zB,zC]
  refine pu_ (y_off (by rfl)) ?_
  try simp only [zP,zN,zA,zB,zC]
  refine pu_ (y_off (by rfl)) ?_
  try simp only [zP,zN,zA,zB,zC]
  refine pu_ (y_off (by rfl)) ?_
  try simp only [zP,zN,zA,zB,zC]
  refine pu_ (y_off (by rfl)) ?_
  try simp only [zP,zN,zA,zB,zC]
  refine pu_ (v := .bool false) (y_pick (t := false) (by rfl) rfl (by rfl) (by rfl)) ?_
  try simp only [zP,zN,zA,zB,zC]
  refine pu_ (v := .bool false) (y_move rfl (by rfl) (by rfl)) ?_
  try simp only [zP,zN,zA,zB,zC]
  refine pu_ (v := .int .i64 b) (y_move rfl (by rfl) (by rfl)) ?_
  try simp only [zP,zN,zA,zB,zC]
  refine pu_ (v := .bool true) (y_run (by rfl) (fun W => by have d := D16.out; go_simp)) ?_
  try simp only [zP,zN,zA,zB,zC]
  refine pu_ (v := .bool true) (y_move rfl (by rfl) (by rfl)) ?_
  try simp only [zP,zN,zA,zB,zC]
  refine pu_ (v := .int .i64 a) (y_move rfl (by rfl) (by rfl)) ?_
  try simp only [zP,zN,zA,zB,zC]
  refine pu_ (v := .int .i64 b) (y_move rfl (by rfl) (by rfl)) ?_
  try simp only [zP,zN,zA,zB,zC]
  refine pu_ (v := .int .i64 ((-9223372036854775808) - b)) (y_run (by rfl) (fun W => by have d := W20.out; go_simp)) ?_
  try simp only [zP,zN,zA,zB,zC]
  refine pu_ (v := .bool true) (y_run (by rfl) (fun W => by have d := D21.out; go_simp)) ?_
  try simp only [zP,zN,zA,zB,zC]
  refine pu_ (v := .bool true) (y_pick (t := true) (by rfl) rfl (by rfl) (by rfl)) ?_
  try simp only [zP,zN,zA,zB,zC]
  refine pu_ (v := .bool true) (y_pick (t := false) (by rfl) rfl (by rfl) (by rfl)) ?_
  try simp only [zP,zN,zA,zB,zC]
  refine nl_ (hK7 _ _ ?_); clear hK7 K7
  refine wp_cond_true rfl ?_
  refine s_ (fun K8 hK8 => ?_)
  refine pu_ (v := .int .i64 0) (y_assign rfl (by rfl) (by rfl)) ?_
  try simp only [zP,zN,zA,zB,zC]
  refine pu_ (v := .bool false) (y_assign rfl (by rfl) (by rfl)) ?_
  try simp only [zP,zN,zA,zB,zC]
  refine nl_ (hK8 _ _ ?_); clear hK8 K8
  refine wp_ret ?_
  refine th_ret ?_
  refine hQ _ _ _ ?_
  refine bodyPost_ret (res2 rfl (rdv_tmp (v := .int .i64 0) (by rfl)) (rdv_tmp (v := .bool false) (by rfl))) rfl ?_
  exact ⟨by rw [HR.out], C0.out⟩
 ·have HH := qh h
  clear h
  have BU := qh (show -9223372036854775808 ≤ a ∧ a ≤ 9223372036854775807 ∧ -9223372036854775808 ≤ b ∧ b ≤ 9223372036854775807 from ⟨HA.out.1, HA.out.2, HB.out.1, HB.out.2⟩)
  have D7 := qh (show decide (b ≥ 0) = false from decide_eq_false (by have := HH.out; have := BU.out; omega))
  have D16 := qh (show decide (b < 0) = true from decide_eq_true (by have := HH.out; have := BU.out; omega))
  have W20 := qh (show IntKind.i64.wrap ((-9223372036854775808) - b) = (-9223372036854775808) - b from wr64 (by have := BU.out; have := HH.out; omega))
  have D21 := qh (show decide (a < (-9223372036854775808) - b) = false from decide_eq_false (by have := HH.out; have := BU.out; omega))
  have W26 := qh (show IntKind.i64.wrap (a + b) = a + b from wr64 (by have := BU.out; have := HH.out; omega))
  have HR := qh (show add1 a b = (a + b, true) from add_yes (by have := HH.out; have := BU.out; omega))
  refine s_ (fun K9 hK9 => ?_)
  refine pu_ (v := .int .i64 b) (y_move rfl (by rfl) (by rfl)) ?_
  try simp only [zP,zN,zA,zB,zC]
  refine pu_ (v := .bool false) (y_run (by rfl) (fun W => by have d := D7.out; go_simp)) ?_
  try simp only [zP,zN,zA,zB,zC]
  refine pu_ (v := .bool false) (y_move rfl (by rfl) (by rfl)) ?_
  try simp only [zP,zN,zA,zB,zC]
  refine pu_ (y_off (by rfl)) ?_
  try simp only [zP,zN,zA,zB,zC]
  refine pu_ (y_off (by rfl)) ?_
  try simp only [zP,zN,zA,zB,zC]
  refine pu_ (y_off (by rfl)) ?_
  try simp only [zP,zN,zA,zB,zC]
  refine pu_ (y_off (by rfl)) ?_
  try simp only [zP,zN,zA,zB,zC]
  refine pu_ (v := .bool false) (y_pick (t := false) (by rfl) rfl (by rfl) (by rfl)) ?_
  try simp only [zP,zN,zA,zB,zC]
  refine pu_ (v := .bool false) (y_move rfl (by rfl) (by rfl)) ?_
  try simp only [zP,zN,zA,zB,zC]
  refine pu_ (v := .int .i64 b) (y_move rfl (by rfl) (by rfl)) ?_
  try simp only [zP,zN,zA,zB,zC]
  refine pu_ (v := .bool true) (y_run (by rfl) (fun W => by have d := D16.out; go_simp)) ?_
  try simp only [zP,zN,zA,zB,zC]
  refine pu_ (v := .bool true) (y_move rfl (by rfl) (by rfl)) ?_
  try simp only [zP,zN,zA,zB,zC]
  refine pu_ (v := .int .i64 a) (y_move rfl (by rfl) (by rfl)) ?_
  try simp only [zP,zN,zA,zB,zC]
  refine pu_ (v := .int .i64 b) (y_move rfl (by rfl) (by rfl)) ?_
  try simp only [zP,zN,zA,zB,zC]
  refine pu_ (v := .int .i64 ((-9223372036854775808) - b)) (y_run (by rfl) (fun W => by have d := W20.out; go_simp)) ?_
  try simp only [zP,zN,zA,zB,zC]
  refine pu_ (v := .bool false) (y_run (by rfl) (fun W => by have d := D21.out; go_simp)) ?_
  try simp only [zP,zN,zA,zB,zC]
  refine pu_ (v := .bool false) (y_pick (t := true) (by rfl) rfl (by rfl) (by rfl)) ?_
  try simp only [zP,zN,zA,zB,zC]
  refine pu_ (v := .bool false) (y_pick (t := false) (by rfl) rfl (by rfl) (by rfl)) ?_
  try simp only [zP,zN,zA,zB,zC]
  refine nl_ (hK9 _ _ ?_); clear hK9 K9
  refine wp_cond_false rfl ?_
  refine wp_skip ?_
  refine th_norm (hK2 _ _ ?_); try clear hK2 K2
  refine s_ (fun K10 hK10 => ?_)
  refine pu_ (v := .int .i64 a) (y_move rfl (by rfl) (by rfl)) ?_
  try simp only [zP,zN,zA,zB,zC]
  refine pu_ (v := .int .i64 b) (y_move rfl (by rfl) (by rfl)) ?_
  try simp only [zP,zN,zA,zB,zC]
  refine pu_ (v := .int .i64 (a + b)) (y_run (by rfl) (fun W => by have d := W26.out; go_simp)) ?_
  try simp only [zP,zN,zA,zB,zC]
  refine pu_ (v := .int .i64 (a + b)) (y_assign rfl (by rfl) (by rfl)) ?_
  try simp only [zP,zN,zA,zB,zC]
  refine pu_ (v := .bool true) (y_assign rfl (by rfl) (by rfl)) ?_
  try simp only [zP,zN,zA,zB,zC]
  refine nl_ (hK10 _ _ ?_); clear hK10 K10
  refine wp_ret ?_
  refine hQ _ _ _ ?_
  refine bodyPost_ret (res2 rfl (rdv_tmp (v := .int .i64 (a + b)) (by rfl)) (rdv_tmp (v := .bool true) (by rfl))) rfl ?_
  exact ⟨by rw [HR.out], C0.out⟩
theorem dmore_ {a b : Int}  :
  Calls Try.prog 61 #[.int .i64 a, .int .i64 b] w fun en w' => en = .returned (.int .i64 (max a b)) ∧ Ch [] w w' := by
 have C0 := qh (Ch.refl [] w)
 go_enter Try.func61, Try.ntmps61
 refine q_ (fun Q hQ hP => ?_)
 refine s_ (fun K1 hK1 => ?_)
 refine pu_ (v := .int .i64 0) (y_assign rfl (by rfl) (by rfl)) ?_
 try simp only [zP,zN,zA,zB,zC]
 refine nl_ (hK1 _ _ ?_); clear hK1 K1
 refine sq_ (fun K2 hK2 => ?_)
 rcases (show a < b ∨ b ≤ a by omega) with h | h
 ·have HH := qh h
  clear h
  have BU := qh True.intro
  have D7 := qh (show decide (a < b) = true from decide_eq_true (by have := HH.out; omega))
  have HR := qh (show max a b = b by have := HH.out; omega)
  refine s_ (fun K3 hK3 => ?_)
  refine pu_ (v := .int .i64 a) (y_move rfl (by rfl) (by rfl)) ?_
  try simp only [zP,zN,zA,zB,zC]
  refine pu_ (v := .int .i64 b) (y_move rfl (by rfl) (by rfl)) ?_
  try simp only [zP,zN,zA,zB,zC]
  refine pu_ (v := .bool true) (y_run (by rfl) (fun W => by have d := D7.out; go_simp)) ?_
  try simp only [zP,zN,zA,zB,zC]
  refine nl_ (hK3 _ _ ?_); clear hK3 K3
  refine wp_cond_true rfl ?_
  refine s_ (fun K4 hK4 => ?_)
  refine pu_ (v := .int .i64 b) (y_move rfl (by rfl) (by rfl)) ?_
  try simp only [zP,zN,zA,zB,zC]
  refine pu_ (v := .int .i64 b) (y_assign rfl (by rfl) (by rfl)) ?_
  try simp only [zP,zN,zA,zB,zC]
  refine nl_ (hK4 _ _ ?_); clear hK4 K4
  refine wp_ret ?_
  refine th_ret ?_
  refine hQ _ _ _ ?_
  refine bodyPost_ret (res1 rfl (rdv_tmp (v := .int .i64 b) (by rfl))) rfl ?_
  exact ⟨by rw [HR.out], C0.out⟩
 ·have HH := qh h
  clear h
  have BU := qh True.intro
  have D7 := qh (show decide (a < b) = false from decide_eq_false (by have := HH.out; omega))
  have HR := qh (show max a b = a by have := HH.out; omega)
  refine s_ (fun K5 hK5 => ?_)
  refine pu_ (v := .int .i64 a) (y_move rfl (by rfl) (by rfl)) ?_
  try simp only [zP,zN,zA,zB,zC]
  refine pu_ (v := .int .i64 b) (y_move rfl (by rfl) (by rfl)) ?_
  try simp only [zP,zN,zA,zB,zC]
  refine pu_ (v := .bool false) (y_run (by rfl) (fun W => by have d := D7.out; go_simp)) ?_
  try simp only [zP,zN,zA,zB,zC]
  refine nl_ (hK5 _ _ ?_); clear hK5 K5
  refine wp_cond_false rfl ?_
  refine wp_skip ?_
  refine th_norm (hK2 _ _ ?_); try clear hK2 K2
  refine s_ (fun K6 hK6 => ?_)
  refine pu_ (v := .int .i64 a) (y_move rfl (by rfl) (by rfl)) ?_
  try simp only [zP,zN,zA,zB,zC]
  refine pu_ (v := .int .i64 a) (y_assign rfl (by rfl) (by rfl)) ?_
  try simp only [zP,zN,zA,zB,zC]
  refine nl_ (hK6 _ _ ?_); clear hK6 K6
  refine wp_ret ?_
  refine hQ _ _ _ ?_
  refine bodyPost_ret (res1 rfl (rdv_tmp (v := .int .i64 a) (by rfl))) rfl ?_
  exact ⟨by rw [HR.out], C0.out⟩
theorem wu64m (x : Int) : IntKind.u64.wrap x = x % 18446744073709551616 := by simp [IntKind.wrap, IntKind.bits, IntKind.signed]
theorem dleft_ {a b : Int} (HA : Hid (I64 a)) (HB : Hid (I64 b))  :
  Calls Try.prog 62 #[.int .i64 a, .int .i64 b] w fun en w' => en = .returned (.tuple #[.int .i64 (minus1 a b).1, .bool (minus1 a b).2]) ∧ Ch [] w w' := by
 have C0 := qh (Ch.refl [] w)
 go_enter Try.func62, Try.ntmps62
 refine q_ (fun Q hQ hP => ?_)
 refine s_ (fun K1 hK1 => ?_)
 refine pu_ (v := .int .i64 0) (y_assign rfl (by rfl) (by rfl)) ?_
 try simp only [zP,zN,zA,zB,zC]
 refine pu_ (v := .bool false) (y_assign rfl (by rfl) (by rfl)) ?_
 try simp only [zP,zN,zA,zB,zC]
 refine nl_ (hK1 _ _ ?_); clear hK1 K1
 refine sq_ (fun K2 hK2 => ?_)
 rcases (show b > a ∨ (b ≤ a ∧ a - b > 9223372036854775807) ∨ (b ≤ a ∧ a - b ≤ 9223372036854775807) by omega) with h | h | h
 ·have HH := qh h
  clear h
  have BU := qh (show -9223372036854775808 ≤ a ∧ a ≤ 9223372036854775807 ∧ -9223372036854775808 ≤ b ∧ b ≤ 9223372036854775807 from ⟨HA.out.1, HA.out.2, HB.out.1, HB.out.2⟩)
  have D9 := qh (show decide (b > a) = true from decide_eq_true (by have := HH.out; have := BU.out; omega))
  have HR := qh (show minus1 a b = (0, false) by unfold minus1; rw [if_pos HH.out])
  refine s_ (fun K3 hK3 => ?_)
  refine pu_ (v := .int .i64 b) (y_move rfl (by rfl) (by rfl)) ?_
  try simp only [zP,zN,zA,zB,zC]
  refine pu_ (v := .int .i64 a) (y_move rfl (by rfl) (by rfl)) ?_
  try simp only [zP,zN,zA,zB,zC]
  refine pu_ (v := .bool true) (y_run (by rfl) (fun W => by have d := D9.out; go_simp)) ?_
  try simp only [zP,zN,zA,zB,zC]
  refine nl_ (hK3 _ _ ?_); clear hK3 K3
  refine wp_cond_true rfl ?_
  refine s_ (fun K4 hK4 => ?_)
  refine pu_ (v := .int .i64 0) (y_assign rfl (by rfl) (by rfl)) ?_
  try simp only [zP,zN,zA,zB,zC]
  refine pu_ (v := .bool false) (y_assign rfl (by rfl) (by rfl)) ?_
  try simp only [zP,zN,zA,zB,zC]
  refine nl_ (hK4 _ _ ?_); clear hK4 K4
  refine wp_ret ?_
  refine th_ret ?_
  refine hQ _ _ _ ?_
  refine bodyPost_ret (res2 rfl (rdv_tmp (v := .int .i64 0) (by rfl)) (rdv_tmp (v := .bool false) (by rfl))) rfl ?_
  exact ⟨by rw [HR.out], C0.out⟩
 ·have HH := qh h
  clear h
  have BU := qh (show -9223372036854775808 ≤ a ∧ a ≤ 9223372036854775807 ∧ -9223372036854775808 ≤ b ∧ b ≤ 9223372036854775807 from ⟨HA.out.1, HA.out.2, HB.out.1, HB.out.2⟩)
  have D9 := qh (show decide (b > a) = false from decide_eq_false (by have := HH.out; have := BU.out; omega))
  obtain ⟨ua, hua⟩ : ∃ ua, IntKind.u64.wrap a = ua := ⟨_, rfl⟩
  obtain ⟨ub, hub⟩ : ∃ ub, IntKind.u64.wrap b = ub := ⟨_, rfl⟩
  have W11 := qh hua
  have W13 := qh hub
  have W14 := qh (show IntKind.u64.wrap (ua - ub) = a - b by rw [← hua, ← hub, wu64m, wu64m, wu64m]; have := BU.out; have := HH.out; omega)
  clear hua hub
  have D16 := qh (show decide (a - b > 9223372036854775807) = true from decide_eq_true (by have := HH.out; have := BU.out; omega))
  have HR := qh (show minus1 a b = (0, false) by unfold minus1; rw [if_neg (by have := HH.out; omega), if_pos (by have := HH.out; omega)])
  refine s_ (fun K5 hK5 => ?_)
  refine pu_ (v := .int .i64 b) (y_move rfl (by rfl) (by rfl)) ?_
  try simp only [zP,zN,zA,zB,zC]
  refine pu_ (v := .int .i64 a) (y_move rfl (by rfl) (by rfl)) ?_
  try simp only [zP,zN,zA,zB,zC]
  refine pu_ (v := .bool false) (y_run (by rfl) (fun W => by have d := D9.out; go_simp)) ?_
  try simp only [zP,zN,zA,zB,zC]
  refine nl_ (hK5 _ _ ?_); clear hK5 K5
  refine wp_cond_false rfl ?_
  refine wp_skip ?_
  refine th_norm (hK2 _ _ ?_); try clear hK2 K2
  refine s_ (fun K6 hK6 => ?_)
  refine pu_ (v := .int .i64 a) (y_move rfl (by rfl) (by rfl)) ?_
  try simp only [zP,zN,zA,zB,zC]
  refine pu_ (v := .int .u64 ua) (y_run (by rfl) (fun W => by have d := W11.out; go_simp)) ?_
  try simp only [zP,zN,zA,zB,zC]
  refine pu_ (v := .int .i64 b) (y_move rfl (by rfl) (by rfl)) ?_
  try simp only [zP,zN,zA,zB,zC]
  refine pu_ (v := .int .u64 ub) (y_run (by rfl) (fun W => by have d := W13.out; go_simp)) ?_
  try simp only [zP,zN,zA,zB,zC]
  refine pu_ (v := .int .u64 (a - b)) (y_run (by rfl) (fun W => by have d := W14.out; go_simp)) ?_
  try simp only [zP,zN,zA,zB,zC]
  refine pu_ (v := .int .u64 (a - b)) (y_assign rfl (by rfl) (by rfl)) ?_
  try simp only [zP,zN,zA,zB,zC]
  refine nl_ (hK6 _ _ ?_); clear hK6 K6
  refine sq_ (fun K7 hK7 => ?_)
  refine s_ (fun K8 hK8 => ?_)
  refine pu_ (v := .int .u64 (a - b)) (y_move rfl (by rfl) (by rfl)) ?_
  try simp only [zP,zN,zA,zB,zC]
  refine pu_ (v := .bool true) (y_run (by rfl) (fun W => by have d := D16.out; go_simp)) ?_
  try simp only [zP,zN,zA,zB,zC]
  refine nl_ (hK8 _ _ ?_); clear hK8 K8
  refine wp_cond_true rfl ?_
  refine s_ (fun K9 hK9 => ?_)
  refine pu_ (v := .int .i64 0) (y_assign rfl (by rfl) (by rfl)) ?_
  try simp only [zP,zN,zA,zB,zC]
  refine pu_ (v := .bool false) (y_assign rfl (by rfl) (by rfl)) ?_
  try simp only [zP,zN,zA,zB,zC]
  refine nl_ (hK9 _ _ ?_); clear hK9 K9
  refine wp_ret ?_
  refine th_ret ?_
  refine hQ _ _ _ ?_
  refine bodyPost_ret (res2 rfl (rdv_tmp (v := .int .i64 0) (by rfl)) (rdv_tmp (v := .bool false) (by rfl))) rfl ?_
  exact ⟨by rw [HR.out], C0.out⟩
 ·have HH := qh h
  clear h
  have BU := qh (show -9223372036854775808 ≤ a ∧ a ≤ 9223372036854775807 ∧ -9223372036854775808 ≤ b ∧ b ≤ 9223372036854775807 from ⟨HA.out.1, HA.out.2, HB.out.1, HB.out.2⟩)
  have D9 := qh (show decide (b > a) = false from decide_eq_false (by have := HH.out; have := BU.out; omega))
  obtain ⟨ua, hua⟩ : ∃ ua, IntKind.u64.wrap a = ua := ⟨_, rfl⟩
  obtain ⟨ub, hub⟩ : ∃ ub, IntKind.u64.wrap b = ub := ⟨_, rfl⟩
  have W11 := qh hua
  have W13 := qh hub
  have W14 := qh (show IntKind.u64.wrap (ua - ub) = a - b by rw [← hua, ← hub, wu64m, wu64m, wu64m]; have := BU.out; have := HH.out; omega)
  clear hua hub
  have D16 := qh (show decide (a - b > 9223372036854775807) = false from decide_eq_false (by have := HH.out; have := BU.out; omega))
  have W18 := qh (show IntKind.i64.wrap (a - b) = a - b from wr64 (by have := BU.out; have := HH.out; omega))
  have HR := qh (show minus1 a b = (a - b, true) by unfold minus1; rw [if_neg (by have := HH.out; omega), if_neg (by have := HH.out; have := BU.out; omega)])
  refine s_ (fun K10 hK10 => ?_)
  refine pu_ (v := .int .i64 b) (y_move rfl (by rfl) (by rfl)) ?_
  try simp only [zP,zN,zA,zB,zC]
  refine pu_ (v := .int .i64 a) (y_move rfl (by rfl) (by rfl)) ?_
  try simp only [zP,zN,zA,zB,zC]
  refine pu_ (v := .bool false) (y_run (by rfl) (fun W => by have d := D9.out; go_simp)) ?_
  try simp only [zP,zN,zA,zB,zC]
  refine nl_ (hK10 _ _ ?_); clear hK10 K10
  refine wp_cond_false rfl ?_
  refine wp_skip ?_
  refine th_norm (hK2 _ _ ?_); try clear hK2 K2
  refine s_ (fun K11 hK11 => ?_)
  refine pu_ (v := .int .i64 a) (y_move rfl (by rfl) (by rfl)) ?_
  try simp only [zP,zN,zA,zB,zC]
  refine pu_ (v := .int .u64 ua) (y_run (by rfl) (fun W => by have d := W11.out; go_simp)) ?_
  try simp only [zP,zN,zA,zB,zC]
  refine pu_ (v := .int .i64 b) (y_move rfl (by rfl) (by rfl)) ?_
  try simp only [zP,zN,zA,zB,zC]
  refine pu_ (v := .int .u64 ub) (y_run (by rfl) (fun W => by have d := W13.out; go_simp)) ?_
  try simp only [zP,zN,zA,zB,zC]
  refine pu_ (v := .int .u64 (a - b)) (y_run (by rfl) (fun W => by have d := W14.out; go_simp)) ?_
  try simp only [zP,zN,zA,zB,zC]
  refine pu_ (v := .int .u64 (a - b)) (y_assign rfl (by rfl) (by rfl)) ?_
  try simp only [zP,zN,zA,zB,zC]
  refine nl_ (hK11 _ _ ?_); clear hK11 K11
  refine sq_ (fun K12 hK12 => ?_)
  refine s_ (fun K13 hK13 => ?_)
  refine pu_ (v := .int .u64 (a - b)) (y_move rfl (by rfl) (by rfl)) ?_
  try simp only [zP,zN,zA,zB,zC]
  refine pu_ (v := .bool false) (y_run (by rfl) (fun W => by have d := D16.out; go_simp)) ?_
  try simp only [zP,zN,zA,zB,zC]
  refine nl_ (hK13 _ _ ?_); clear hK13 K13
  refine wp_cond_false rfl ?_
  refine wp_skip ?_
  refine th_norm (hK12 _ _ ?_); try clear hK12 K12
  refine s_ (fun K14 hK14 => ?_)
  refine pu_ (v := .int .u64 (a - b)) (y_move rfl (by rfl) (by rfl)) ?_
  try simp only [zP,zN,zA,zB,zC]
  refine pu_ (v := .int .i64 (a - b)) (y_run (by rfl) (fun W => by have d := W18.out; go_simp)) ?_
  try simp only [zP,zN,zA,zB,zC]
  refine pu_ (v := .int .i64 (a - b)) (y_assign rfl (by rfl) (by rfl)) ?_
  try simp only [zP,zN,zA,zB,zC]
  refine pu_ (v := .bool true) (y_assign rfl (by rfl) (by rfl)) ?_
  try simp only [zP,zN,zA,zB,zC]
  refine nl_ (hK14 _ _ ?_); clear hK14 K14
  refine wp_ret ?_
  refine hQ _ _ _ ?_
  refine bodyPost_ret (res2 rfl (rdv_tmp (v := .int .i64 (a - b)) (by rfl)) (rdv_tmp (v := .bool true) (by rfl))) rfl ?_
  exact ⟨by rw [HR.out], C0.out⟩
theorem dover1_ {a b : Int} (HA : Hid (I64 a)) (HB : Hid (I64 b))  :
  Calls Try.prog 52 #[.int .i64 a, .int .i64 b] w fun en w' => en = .returned (.int .i64 (over1 a b)) ∧ Ch [] w w' := by
 have C0 := qh (Ch.refl [] w)
 go_enter Try.func52, Try.ntmps52
 refine q_ (fun Q hQ hP => ?_)
 refine s_ (fun K1 hK1 => ?_)
 refine pu_ (v := .int .i64 0) (y_assign rfl (by rfl) (by rfl)) ?_
 try simp only [zP,zN,zA,zB,zC]
 refine nl_ (hK1 _ _ ?_); clear hK1 K1
 rcases over_ways a b with h | h | h
 ·have HH := qh h
  clear h
  have HMI := qh HH.out.2.2.1
  have HR := qh HH.out.2.2.2
  refine s_ (fun K2 hK2 => ?_)
  refine pu_ (v := .int .i64 a) (y_move rfl (by rfl) (by rfl)) ?_
  try simp only [zP,zN,zA,zB,zC]
  refine pu_ (v := .int .i64 b) (y_move rfl (by rfl) (by rfl)) ?_
  try simp only [zP,zN,zA,zB,zC]
  refine ef_ (fun K3 hK3 => ?_)
  refine e_call Try.func62 (by kernel_rfl) rfl #[.int .i64 a, .int .i64 b] (by rfl) rfl rfl (mp2 rfl rfl) ((by have h9 := dleft_ (w := w) HA HB; rw [HMI.out] at h9; exact h9)) ?_
  rintro en w5 ⟨rfl, cc4⟩
  refine ⟨_, rfl, ?_⟩
  replace C0 := qh (C0.out.trans' cc4 inw_nil)
  clear cc4
  refine hK3 _ _ ?_; clear hK3 K3
  try simp only [zP,zN,zA,zB,zC]
  refine pu_ (v := .tuple #[.int .i64 (a - b), .bool true]) (y_move rfl (by rfl) (by rfl)) ?_
  try simp only [zP,zN,zA,zB,zC]
  refine pu_ (v := .int .i64 (a - b)) (y_run (by rfl) (fun W => by go_simp)) ?_
  try simp only [zP,zN,zA,zB,zC]
  refine pu_ (v := .bool true) (y_run (by rfl) (fun W => by go_simp)) ?_
  try simp only [zP,zN,zA,zB,zC]
  refine pu_ (v := .int .i64 (a - b)) (y_assign rfl (by rfl) (by rfl)) ?_
  try simp only [zP,zN,zA,zB,zC]
  refine pu_ (v := .bool true) (y_assign rfl (by rfl) (by rfl)) ?_
  try simp only [zP,zN,zA,zB,zC]
  refine nl_ (hK2 _ _ ?_); clear hK2 K2
  refine sq_ (fun K6 hK6 => ?_)
  refine s_ (fun K7 hK7 => ?_)
  refine pu_ (v := .bool true) (y_move rfl (by rfl) (by rfl)) ?_
  try simp only [zP,zN,zA,zB,zC]
  refine pu_ (v := .bool false) (y_run (by rfl) (fun W => by go_simp)) ?_
  try simp only [zP,zN,zA,zB,zC]
  refine pu_ (v := .bool false) (y_move rfl (by rfl) (by rfl)) ?_
  try simp only [zP,zN,zA,zB,zC]
  refine pu_ (y_off (by rfl)) ?_
  try simp only [zP,zN,zA,zB,zC]
  refine pu_ (y_off (by rfl)) ?_
  try simp only [zP,zN,zA,zB,zC]
  refine pu_ (y_off (by rfl)) ?_
  try simp only [zP,zN,zA,zB,zC]
  refine pu_ (v := .bool false) (y_pick (t := false) (by rfl) rfl (by rfl) (by rfl)) ?_
  try simp only [zP,zN,zA,zB,zC]
  refine nl_ (hK7 _ _ ?_); clear hK7 K7
  refine wp_cond_false rfl ?_
  refine wp_skip ?_
  refine th_norm (hK6 _ _ ?_); try clear hK6 K6
  refine s_ (fun K8 hK8 => ?_)
  refine pu_ (v := .int .i64 (a - b)) (y_move rfl (by rfl) (by rfl)) ?_
  try simp only [zP,zN,zA,zB,zC]
  refine pu_ (v := .int .i64 (a - b)) (y_assign rfl (by rfl) (by rfl)) ?_
  try simp only [zP,zN,zA,zB,zC]
  refine nl_ (hK8 _ _ ?_); clear hK8 K8
  refine wp_ret ?_
  refine hQ _ _ _ ?_
  refine bodyPost_ret (res1 rfl (rdv_tmp (v := .int .i64 (a - b)) (by rfl))) rfl ?_
  exact ⟨by rw [HR.out], C0.out⟩
 ·have HH := qh h
  clear h
  have HMI := qh HH.out.2.1
  have HR := qh HH.out.2.2
  have D18 := qh (show decide (a > b) = true from decide_eq_true (by have := HH.out; omega))
  refine s_ (fun K9 hK9 => ?_)
  refine pu_ (v := .int .i64 a) (y_move rfl (by rfl) (by rfl)) ?_
  try simp only [zP,zN,zA,zB,zC]
  refine pu_ (v := .int .i64 b) (y_move rfl (by rfl) (by rfl)) ?_
  try simp only [zP,zN,zA,zB,zC]
  refine ef_ (fun K10 hK10 => ?_)
  refine e_call Try.func62 (by kernel_rfl) rfl #[.int .i64 a, .int .i64 b] (by rfl) rfl rfl (mp2 rfl rfl) ((by have h9 := dleft_ (w := w) HA HB; rw [HMI.out] at h9; exact h9)) ?_
  rintro en w12 ⟨rfl, cc11⟩
  refine ⟨_, rfl, ?_⟩
  replace C0 := qh (C0.out.trans' cc11 inw_nil)
  clear cc11
  refine hK10 _ _ ?_; clear hK10 K10
  try simp only [zP,zN,zA,zB,zC]
  refine pu_ (v := .tuple #[.int .i64 0, .bool false]) (y_move rfl (by rfl) (by rfl)) ?_
  try simp only [zP,zN,zA,zB,zC]
  refine pu_ (v := .int .i64 0) (y_run (by rfl) (fun W => by go_simp)) ?_
  try simp only [zP,zN,zA,zB,zC]
  refine pu_ (v := .bool false) (y_run (by rfl) (fun W => by go_simp)) ?_
  try simp only [zP,zN,zA,zB,zC]
  refine pu_ (v := .int .i64 0) (y_assign rfl (by rfl) (by rfl)) ?_
  try simp only [zP,zN,zA,zB,zC]
  refine pu_ (v := .bool false) (y_assign rfl (by rfl) (by rfl)) ?_
  try simp only [zP,zN,zA,zB,zC]
  refine nl_ (hK9 _ _ ?_); clear hK9 K9
  refine sq_ (fun K13 hK13 => ?_)
  refine s_ (fun K14 hK14 => ?_)
  refine pu_ (v := .bool false) (y_move rfl (by rfl) (by rfl)) ?_
  try simp only [zP,zN,zA,zB,zC]
  refine pu_ (v := .bool true) (y_run (by rfl) (fun W => by go_simp)) ?_
  try simp only [zP,zN,zA,zB,zC]
  refine pu_ (v := .bool true) (y_move rfl (by rfl) (by rfl)) ?_
  try simp only [zP,zN,zA,zB,zC]
  refine pu_ (v := .int .i64 a) (y_move rfl (by rfl) (by rfl)) ?_
  try simp only [zP,zN,zA,zB,zC]
  refine pu_ (v := .int .i64 b) (y_move rfl (by rfl) (by rfl)) ?_
  try simp only [zP,zN,zA,zB,zC]
  refine pu_ (v := .bool true) (y_run (by rfl) (fun W => by have d := D18.out; go_simp)) ?_
  try simp only [zP,zN,zA,zB,zC]
  refine pu_ (v := .bool true) (y_pick (t := true) (by rfl) rfl (by rfl) (by rfl)) ?_
  try simp only [zP,zN,zA,zB,zC]
  refine nl_ (hK14 _ _ ?_); clear hK14 K14
  refine wp_cond_true rfl ?_
  refine s_ (fun K15 hK15 => ?_)
  refine pu_ (v := .int .i64 9223372036854775807) (y_assign rfl (by rfl) (by rfl)) ?_
  try simp only [zP,zN,zA,zB,zC]
  refine nl_ (hK15 _ _ ?_); clear hK15 K15
  refine wp_ret ?_
  refine th_ret ?_
  refine hQ _ _ _ ?_
  refine bodyPost_ret (res1 rfl (rdv_tmp (v := .int .i64 9223372036854775807) (by rfl))) rfl ?_
  exact ⟨by rw [HR.out], C0.out⟩
 ·have HH := qh h
  clear h
  have HMI := qh HH.out.2.1
  have HR := qh HH.out.2.2
  have D18 := qh (show decide (a > b) = false from decide_eq_false (by have := HH.out; omega))
  refine s_ (fun K16 hK16 => ?_)
  refine pu_ (v := .int .i64 a) (y_move rfl (by rfl) (by rfl)) ?_
  try simp only [zP,zN,zA,zB,zC]
  refine pu_ (v := .int .i64 b) (y_move rfl (by rfl) (by rfl)) ?_
  try simp only [zP,zN,zA,zB,zC]
  refine ef_ (fun K17 hK17 => ?_)
  refine e_call Try.func62 (by kernel_rfl) rfl #[.int .i64 a, .int .i64 b] (by rfl) rfl rfl (mp2 rfl rfl) ((by have h9 := dleft_ (w := w) HA HB; rw [HMI.out] at h9; exact h9)) ?_
  rintro en w19 ⟨rfl, cc18⟩
  refine ⟨_, rfl, ?_⟩
  replace C0 := qh (C0.out.trans' cc18 inw_nil)
  clear cc18
  refine hK17 _ _ ?_; clear hK17 K17
  try simp only [zP,zN,zA,zB,zC]
  refine pu_ (v := .tuple #[.int .i64 0, .bool false]) (y_move rfl (by rfl) (by rfl)) ?_
  try simp only [zP,zN,zA,zB,zC]
  refine pu_ (v := .int .i64 0) (y_run (by rfl) (fun W => by go_simp)) ?_
  try simp only [zP,zN,zA,zB,zC]
  refine pu_ (v := .bool false) (y_run (by rfl) (fun W => by go_simp)) ?_
  try simp only [zP,zN,zA,zB,zC]
  refine pu_ (v := .int .i64 0) (y_assign rfl (by rfl) (by rfl)) ?_
  try simp only [zP,zN,zA,zB,zC]
  refine pu_ (v := .bool false) (y_assign rfl (by rfl) (by rfl)) ?_
  try simp only [zP,zN,zA,zB,zC]
  refine nl_ (hK16 _ _ ?_); clear hK16 K16
  refine sq_ (fun K20 hK20 => ?_)
  refine s_ (fun K21 hK21 => ?_)
  refine pu_ (v := .bool false) (y_move rfl (by rfl) (by rfl)) ?_
  try simp only [zP,zN,zA,zB,zC]
  refine pu_ (v := .bool true) (y_run (by rfl) (fun W => by go_simp)) ?_
  try simp only [zP,zN,zA,zB,zC]
  refine pu_ (v := .bool true) (y_move rfl (by rfl) (by rfl)) ?_
  try simp only [zP,zN,zA,zB,zC]
  refine pu_ (v := .int .i64 a) (y_move rfl (by rfl) (by rfl)) ?_
  try simp only [zP,zN,zA,zB,zC]
  refine pu_ (v := .int .i64 b) (y_move rfl (by rfl) (by rfl)) ?_
  try simp only [zP,zN,zA,zB,zC]
  refine pu_ (v := .bool false) (y_run (by rfl) (fun W => by have d := D18.out; go_simp)) ?_
  try simp only [zP,zN,zA,zB,zC]
  refine pu_ (v := .bool false) (y_pick (t := true) (by rfl) rfl (by rfl) (by rfl)) ?_
  try simp only [zP,zN,zA,zB,zC]
  refine nl_ (hK21 _ _ ?_); clear hK21 K21
  refine wp_cond_false rfl ?_
  refine wp_skip ?_
  refine th_norm (hK20 _ _ ?_); try clear hK20 K20
  refine s_ (fun K22 hK22 => ?_)
  refine pu_ (v := .int .i64 0) (y_move rfl (by rfl) (by rfl)) ?_
  try simp only [zP,zN,zA,zB,zC]
  refine pu_ (v := .int .i64 0) (y_assign rfl (by rfl) (by rfl)) ?_
  try simp only [zP,zN,zA,zB,zC]
  refine nl_ (hK22 _ _ ?_); clear hK22 K22
  refine wp_ret ?_
  refine hQ _ _ _ ?_
  refine bodyPost_ret (res1 rfl (rdv_tmp (v := .int .i64 0) (by rfl))) rfl ?_
  exact ⟨by rw [HR.out], C0.out⟩
theorem dover_ {x0 x1 x2 y0 y1 y2 : Int} (HX : Hid (I3 (x0, x1, x2))) (HY : Hid (I3 (y0, y1, y2)))  :
  Calls Try.prog 44 #[.agg #[.int .i64 x0, .int .i64 x1, .int .i64 x2], .agg #[.int .i64 y0, .int .i64 y1, .int .i64 y2]] w fun en w' => en = .returned (.agg #[.int .i64 (over1 x0 y0), .int .i64 (over1 x1 y1), .int .i64 (over1 x2 y2)]) ∧ Ch [] w w' := by
 have C0 := qh (Ch.refl [] w)
 go_enter Try.func44, Try.ntmps44
 refine q_ (fun Q hQ hP => ?_)
 refine s_ (fun K1 hK1 => ?_)
 refine ef_ (fun K2 hK2 => ?_)
 refine e_boxN (by rfl) rfl rfl (cs := #[.int .i64 x0, .int .i64 x1, .int .i64 x2]) (v := .agg #[.int .i64 x0, .int .i64 x1, .int .i64 x2]) (by rfl) rfl ?_
 rintro gx w3 HG4 B5 C6
 have nw7 := qh (show w.heap.size ≤ gx by have := C0.out.size; have := HG4.out; omega)
 replace C0 := qh (C0.out.trans' C6 inw_nil)
 have Fgx := qh (show Blk w3 gx (#[.int .i64 x0, .int .i64 x1, .int .i64 x2]) 23 from B5); clear B5 C6
 refine hK2 _ _ ?_; clear hK2 K2
 try simp only [zP,zN,zA,zB,zC]
 refine ef_ (fun K8 hK8 => ?_)
 refine e_boxN (by rfl) rfl rfl (cs := #[.int .i64 y0, .int .i64 y1, .int .i64 y2]) (v := .agg #[.int .i64 y0, .int .i64 y1, .int .i64 y2]) (by rfl) rfl ?_
 rintro gy w9 HG10 B11 C12
 have nw13 := qh (show w.heap.size ≤ gy by have := C0.out.size; have := HG10.out; omega)
 have ne14 := qh (Fgx.out.ne_new HG10)
 replace C0 := qh (C0.out.trans' C12 inw_nil)
 replace Fgx := qh (C12.blk Fgx.out nin_nil)
 have Fgy := qh (show Blk w9 gy (#[.int .i64 y0, .int .i64 y1, .int .i64 y2]) 23 from B11); clear B11 C12
 refine hK8 _ _ ?_; clear hK8 K8
 try simp only [zP,zN,zA,zB,zC]
 refine ef_ (fun K15 hK15 => ?_)
 refine e_alloc (by rfl) rfl rfl (cs := #[.int .i64 0, .int .i64 0, .int .i64 0]) (by kernel_rfl) ?_
 rintro gr w16 HG17 B18 C19
 have nw20 := qh (show w.heap.size ≤ gr by have := C0.out.size; have := HG17.out; omega)
 have ne21 := qh (Fgx.out.ne_new HG17)
 have ne22 := qh (Fgy.out.ne_new HG17)
 replace C0 := qh (C0.out.trans' C19 inw_nil)
 replace Fgx := qh (C19.blk Fgx.out nin_nil)
 replace Fgy := qh (C19.blk Fgy.out nin_nil)
 have Fgr := qh (show Blk w16 gr (#[.int .i64 0, .int .i64 0, .int .i64 0]) 23 from B18); clear B18 C19
 refine hK15 _ _ ?_; clear hK15 K15
 try simp only [zP,zN,zA,zB,zC]
 refine nl_ (hK1 _ _ ?_); clear hK1 K1
 refine sq_ (fun K23 hK23 => ?_)
 refine startk_ (S := fun W => Blk W gx (#[.int .i64 x0, .int .i64 x1, .int .i64 x2]) 23 ∧ Blk W gy (#[.int .i64 y0, .int .i64 y1, .int .i64 y2]) 23 ∧ True) (ds := []) (msk 17 0) (by kernel_rfl) rfl (by kernel_rfl) (fun W c => ⟨c.blk Fgx.out nin_nil, c.blk Fgy.out nin_nil, trivial⟩) (fun w24 C25 hS26 => ?_)
 replace C0 := qh (C0.out.trans' C25 inw_nil)
 replace Fgx := qh (C25.blk Fgx.out nin_nil)
 replace Fgy := qh (C25.blk Fgy.out nin_nil)
 replace Fgr := qh (C25.blk Fgr.out nin_nil)
 clear C25
 refine pureh_ (i := 0) (N := some 5) (v := .pointer (some ⟨gx, 0, none⟩)) (msk 17 1) rfl rfl (by kernel_rfl) hP (y_run (by rfl) (fun W => by go_simp)) rfl ?_
 try simp only [zP,zN,zA,zB,zC]
 refine takeh_ (i := 1) (N := some 6) (v := .int .i64 x0) (msk 17 3) rfl rfl (by kernel_rfl) hP (y_load (p := ⟨gx, 0, none⟩) rfl (by rfl) (by rfl) (fun W hS => run_load_one ((hS.1.cell 0).trans rfl) Try.underlying3 rfl)) hS26 rfl ?_
 try simp only [zP,zN,zA,zB,zC]
 refine pureh_ (i := 2) (N := some 7) (v := .pointer (some ⟨gy, 0, none⟩)) (msk 17 7) rfl rfl (by kernel_rfl) hP (y_run (by rfl) (fun W => by go_simp)) rfl ?_
 try simp only [zP,zN,zA,zB,zC]
 refine takeh_ (i := 3) (N := some 8) (v := .int .i64 y0) (msk 17 15) rfl rfl (by kernel_rfl) hP (y_load (p := ⟨gy, 0, none⟩) rfl (by rfl) (by rfl) (fun W hS => run_load_one ((hS.2.1.cell 0).trans rfl) Try.underlying3 rfl)) hS26 rfl ?_
 try simp only [zP,zN,zA,zB,zC]
 refine pureh_ (i := 5) (N := some 10) (v := .pointer (some ⟨gx, 1, none⟩)) (msk 17 47) rfl rfl (by kernel_rfl) hP (y_run (by rfl) (fun W => by go_simp)) rfl ?_
 try simp only [zP,zN,zA,zB,zC]
 refine takeh_ (i := 6) (N := some 11) (v := .int .i64 x1) (msk 17 111) rfl rfl (by kernel_rfl) hP (y_load (p := ⟨gx, 1, none⟩) rfl (by rfl) (by rfl) (fun W hS => run_load_one ((hS.1.cell 1).trans rfl) Try.underlying3 rfl)) hS26 rfl ?_
 try simp only [zP,zN,zA,zB,zC]
 refine pureh_ (i := 7) (N := some 12) (v := .pointer (some ⟨gy, 1, none⟩)) (msk 17 239) rfl rfl (by kernel_rfl) hP (y_run (by rfl) (fun W => by go_simp)) rfl ?_
 try simp only [zP,zN,zA,zB,zC]
 refine takeh_ (i := 8) (N := some 13) (v := .int .i64 y1) (msk 17 495) rfl rfl (by kernel_rfl) hP (y_load (p := ⟨gy, 1, none⟩) rfl (by rfl) (by rfl) (fun W hS => run_load_one ((hS.2.1.cell 1).trans rfl) Try.underlying3 rfl)) hS26 rfl ?_
 try simp only [zP,zN,zA,zB,zC]
 refine pureh_ (i := 10) (N := some 15) (v := .pointer (some ⟨gx, 2, none⟩)) (msk 17 1519) rfl rfl (by kernel_rfl) hP (y_run (by rfl) (fun W => by go_simp)) rfl ?_
 try simp only [zP,zN,zA,zB,zC]
 refine takeh_ (i := 11) (N := some 16) (v := .int .i64 x2) (msk 17 3567) rfl rfl (by kernel_rfl) hP (y_load (p := ⟨gx, 2, none⟩) rfl (by rfl) (by rfl) (fun W hS => run_load_one ((hS.1.cell 2).trans rfl) Try.underlying3 rfl)) hS26 rfl ?_
 try simp only [zP,zN,zA,zB,zC]
 refine pureh_ (i := 12) (N := some 17) (v := .pointer (some ⟨gy, 2, none⟩)) (msk 17 7663) rfl rfl (by kernel_rfl) hP (y_run (by rfl) (fun W => by go_simp)) rfl ?_
 try simp only [zP,zN,zA,zB,zC]
 refine takeh_ (i := 13) (N := some 18) (v := .int .i64 y2) (msk 17 15855) rfl rfl (by kernel_rfl) hP (y_load (p := ⟨gy, 2, none⟩) rfl (by rfl) (by rfl) (fun W hS => run_load_one ((hS.2.1.cell 2).trans rfl) Try.underlying3 rfl)) hS26 rfl ?_
 try simp only [zP,zN,zA,zB,zC]
 refine one_ (i := 4) (N := some 9) (msk 17 15871) rfl rfl (by kernel_rfl) (by simp) (fun K27 hK27 => ?_)
 refine e_call Try.func52 (by kernel_rfl) rfl #[.int .i64 x0, .int .i64 y0] (by rfl) rfl rfl (mp2 rfl rfl) ((dover1_ (qh HX.out.1) (qh HY.out.1))) ?_
 rintro en w29 ⟨rfl, cc28⟩
 refine ⟨_, rfl, ?_⟩
 replace C0 := qh (C0.out.trans' cc28 inw_nil)
 replace Fgx := qh (cc28.blk Fgx.out nin_nil)
 replace Fgy := qh (cc28.blk Fgy.out nin_nil)
 replace Fgr := qh (cc28.blk Fgr.out nin_nil)
 clear cc28
 refine hK27.out _ _ ⟨Fgx.out, Fgy.out, trivial⟩ (fun hS30 => ?_); clear hK27 K27
 try simp only [zP,zN,zA,zB,zC]
 refine one_ (i := 9) (N := some 14) (msk 17 16383) rfl rfl (by kernel_rfl) (by simp) (fun K31 hK31 => ?_)
 refine e_call Try.func52 (by kernel_rfl) rfl #[.int .i64 x1, .int .i64 y1] (by rfl) rfl rfl (mp2 rfl rfl) ((dover1_ (qh HX.out.2.1) (qh HY.out.2.1))) ?_
 rintro en w33 ⟨rfl, cc32⟩
 refine ⟨_, rfl, ?_⟩
 replace C0 := qh (C0.out.trans' cc32 inw_nil)
 replace Fgx := qh (cc32.blk Fgx.out nin_nil)
 replace Fgy := qh (cc32.blk Fgy.out nin_nil)
 replace Fgr := qh (cc32.blk Fgr.out nin_nil)
 clear cc32
 refine hK31.out _ _ ⟨Fgx.out, Fgy.out, trivial⟩ (fun hS34 => ?_); clear hK31 K31
 try simp only [zP,zN,zA,zB,zC]
 refine one_ (i := 14) (N := some 19) (msk 17 32767) rfl rfl (by kernel_rfl) (by simp) (fun K35 hK35 => ?_)
 refine e_call Try.func52 (by kernel_rfl) rfl #[.int .i64 x2, .int .i64 y2] (by rfl) rfl rfl (mp2 rfl rfl) ((dover1_ (qh HX.out.2.2) (qh HY.out.2.2))) ?_
 rintro en w37 ⟨rfl, cc36⟩
 refine ⟨_, rfl, ?_⟩
 replace C0 := qh (C0.out.trans' cc36 inw_nil)
 replace Fgx := qh (cc36.blk Fgx.out nin_nil)
 replace Fgy := qh (cc36.blk Fgy.out nin_nil)
 replace Fgr := qh (cc36.blk Fgr.out nin_nil)
 clear cc36
 refine hK35.out _ _ ⟨Fgx.out, Fgy.out, trivial⟩ (fun hS38 => ?_); clear hK35 K35
 try simp only [zP,zN,zA,zB,zC]
 refine pureh_ (i := 15) (N := some 20) (v := .agg #[.int .i64 (over1 x0 y0), .int .i64 (over1 x1 y1), .int .i64 (over1 x2 y2)]) (msk 17 65535) rfl rfl (by kernel_rfl) hP (y_build (vs := #[(0, .int .i64 (over1 x0 y0)), (1, .int .i64 (over1 x1 y1)), (2, .int .i64 (over1 x2 y2))]) (by rfl) rfl (by first | rfl | (simp only [List.map_toArray, List.map_cons, List.map_nil]; first | done | rfl)) (by kernel_rfl)) rfl ?_
 try simp only [zP,zN,zA,zB,zC]
 refine one_ (i := 16) (N := none) (msk 17 131071) rfl rfl (by kernel_rfl) (by simp) (fun K39 hK39 => ?_)
 refine e_storeN (cells := #[.int .i64 (over1 x0 y0), .int .i64 (over1 x1 y1), .int .i64 (over1 x2 y2)]) (by rfl) rfl rfl (by rfl) (by rfl) Fgr.out (by kernel_rfl) (by rfl) (ones_cons rfl (ones_cons rfl (ones_cons rfl ones_nil))) ?_
 rintro w40 B41 C42
 replace C0 := qh (C0.out.trans' C42 (inw_cons (.inr nw20.out) inw_nil))
 replace Fgx := qh (C42.blk Fgx.out (nin_cons ne21.out nin_nil))
 replace Fgy := qh (C42.blk Fgy.out (nin_cons ne22.out nin_nil))
 clear Fgr; have Fgr := qh (show Blk w40 gr (#[.int .i64 (over1 x0 y0), .int .i64 (over1 x1 y1), .int .i64 (over1 x2 y2)]) 23 from B41); clear B41 C42
 refine hK39.out _ _ ⟨Fgx.out, Fgy.out, trivial⟩ (fun hS43 => ?_); clear hK39 K39
 try simp only [zP,zN,zA,zB,zC]
 refine done_ (by kernel_rfl) (th_norm (hK23 _ _ ?_)); clear hK23 K23
 refine wp_ret ?_
 refine hQ _ _ _ ?_
 refine bodyPost_ret (res1 rfl (rdv_cell (by rfl) (run_loadVar_row _ _ 23 23 (#[.int .i64 (over1 x0 y0), .int .i64 (over1 x1 y1), .int .i64 (over1 x2 y2)]) (0, 0) _ Fgr.out Try.underlying23 rfl (by kernel_rfl)))) rfl ?_
 exact ⟨rfl, C0.out⟩
theorem dmax_ {x0 x1 x2 y0 y1 y2 : Int}  :
  Calls Try.prog 51 #[.agg #[.int .i64 x0, .int .i64 x1, .int .i64 x2], .agg #[.int .i64 y0, .int .i64 y1, .int .i64 y2]] w fun en w' => en = .returned (.agg #[.int .i64 (max x0 y0), .int .i64 (max x1 y1), .int .i64 (max x2 y2)]) ∧ Ch [] w w' := by
 have C0 := qh (Ch.refl [] w)
 go_enter Try.func51, Try.ntmps51
 refine q_ (fun Q hQ hP => ?_)
 refine s_ (fun K1 hK1 => ?_)
 refine ef_ (fun K2 hK2 => ?_)
 refine e_boxN (by rfl) rfl rfl (cs := #[.int .i64 x0, .int .i64 x1, .int .i64 x2]) (v := .agg #[.int .i64 x0, .int .i64 x1, .int .i64 x2]) (by rfl) rfl ?_
 rintro gx w3 HG4 B5 C6
 have nw7 := qh (show w.heap.size ≤ gx by have := C0.out.size; have := HG4.out; omega)
 replace C0 := qh (C0.out.trans' C6 inw_nil)
 have Fgx := qh (show Blk w3 gx (#[.int .i64 x0, .int .i64 x1, .int .i64 x2]) 23 from B5); clear B5 C6
 refine hK2 _ _ ?_; clear hK2 K2
 try simp only [zP,zN,zA,zB,zC]
 refine ef_ (fun K8 hK8 => ?_)
 refine e_boxN (by rfl) rfl rfl (cs := #[.int .i64 y0, .int .i64 y1, .int .i64 y2]) (v := .agg #[.int .i64 y0, .int .i64 y1, .int .i64 y2]) (by rfl) rfl ?_
 rintro gy w9 HG10 B11 C12
 have nw13 := qh (show w.heap.size ≤ gy by have := C0.out.size; have := HG10.out; omega)
 have ne14 := qh (Fgx.out.ne_new HG10)
 replace C0 := qh (C0.out.trans' C12 inw_nil)
 replace Fgx := qh (C12.blk Fgx.out nin_nil)
 have Fgy := qh (show Blk w9 gy (#[.int .i64 y0, .int .i64 y1, .int .i64 y2]) 23 from B11); clear B11 C12
 refine hK8 _ _ ?_; clear hK8 K8
 try simp only [zP,zN,zA,zB,zC]
 refine ef_ (fun K15 hK15 => ?_)
 refine e_alloc (by rfl) rfl rfl (cs := #[.int .i64 0, .int .i64 0, .int .i64 0]) (by kernel_rfl) ?_
 rintro gr w16 HG17 B18 C19
 have nw20 := qh (show w.heap.size ≤ gr by have := C0.out.size; have := HG17.out; omega)
 have ne21 := qh (Fgx.out.ne_new HG17)
 have ne22 := qh (Fgy.out.ne_new HG17)
 replace C0 := qh (C0.out.trans' C19 inw_nil)
 replace Fgx := qh (C19.blk Fgx.out nin_nil)
 replace Fgy := qh (C19.blk Fgy.out nin_nil)
 have Fgr := qh (show Blk w16 gr (#[.int .i64 0, .int .i64 0, .int .i64 0]) 23 from B18); clear B18 C19
 refine hK15 _ _ ?_; clear hK15 K15
 try simp only [zP,zN,zA,zB,zC]
 refine nl_ (hK1 _ _ ?_); clear hK1 K1
 refine sq_ (fun K23 hK23 => ?_)
 refine startk_ (S := fun W => Blk W gx (#[.int .i64 x0, .int .i64 x1, .int .i64 x2]) 23 ∧ Blk W gy (#[.int .i64 y0, .int .i64 y1, .int .i64 y2]) 23 ∧ True) (ds := []) (msk 17 0) (by kernel_rfl) rfl (by kernel_rfl) (fun W c => ⟨c.blk Fgx.out nin_nil, c.blk Fgy.out nin_nil, trivial⟩) (fun w24 C25 hS26 => ?_)
 replace C0 := qh (C0.out.trans' C25 inw_nil)
 replace Fgx := qh (C25.blk Fgx.out nin_nil)
 replace Fgy := qh (C25.blk Fgy.out nin_nil)
 replace Fgr := qh (C25.blk Fgr.out nin_nil)
 clear C25
 refine pureh_ (i := 0) (N := some 5) (v := .pointer (some ⟨gx, 0, none⟩)) (msk 17 1) rfl rfl (by kernel_rfl) hP (y_run (by rfl) (fun W => by go_simp)) rfl ?_
 try simp only [zP,zN,zA,zB,zC]
 refine takeh_ (i := 1) (N := some 6) (v := .int .i64 x0) (msk 17 3) rfl rfl (by kernel_rfl) hP (y_load (p := ⟨gx, 0, none⟩) rfl (by rfl) (by rfl) (fun W hS => run_load_one ((hS.1.cell 0).trans rfl) Try.underlying3 rfl)) hS26 rfl ?_
 try simp only [zP,zN,zA,zB,zC]
 refine pureh_ (i := 2) (N := some 7) (v := .pointer (some ⟨gy, 0, none⟩)) (msk 17 7) rfl rfl (by kernel_rfl) hP (y_run (by rfl) (fun W => by go_simp)) rfl ?_
 try simp only [zP,zN,zA,zB,zC]
 refine takeh_ (i := 3) (N := some 8) (v := .int .i64 y0) (msk 17 15) rfl rfl (by kernel_rfl) hP (y_load (p := ⟨gy, 0, none⟩) rfl (by rfl) (by rfl) (fun W hS => run_load_one ((hS.2.1.cell 0).trans rfl) Try.underlying3 rfl)) hS26 rfl ?_
 try simp only [zP,zN,zA,zB,zC]
 refine pureh_ (i := 5) (N := some 10) (v := .pointer (some ⟨gx, 1, none⟩)) (msk 17 47) rfl rfl (by kernel_rfl) hP (y_run (by rfl) (fun W => by go_simp)) rfl ?_
 try simp only [zP,zN,zA,zB,zC]
 refine takeh_ (i := 6) (N := some 11) (v := .int .i64 x1) (msk 17 111) rfl rfl (by kernel_rfl) hP (y_load (p := ⟨gx, 1, none⟩) rfl (by rfl) (by rfl) (fun W hS => run_load_one ((hS.1.cell 1).trans rfl) Try.underlying3 rfl)) hS26 rfl ?_
 try simp only [zP,zN,zA,zB,zC]
 refine pureh_ (i := 7) (N := some 12) (v := .pointer (some ⟨gy, 1, none⟩)) (msk 17 239) rfl rfl (by kernel_rfl) hP (y_run (by rfl) (fun W => by go_simp)) rfl ?_
 try simp only [zP,zN,zA,zB,zC]
 refine takeh_ (i := 8) (N := some 13) (v := .int .i64 y1) (msk 17 495) rfl rfl (by kernel_rfl) hP (y_load (p := ⟨gy, 1, none⟩) rfl (by rfl) (by rfl) (fun W hS => run_load_one ((hS.2.1.cell 1).trans rfl) Try.underlying3 rfl)) hS26 rfl ?_
 try simp only [zP,zN,zA,zB,zC]
 refine pureh_ (i := 10) (N := some 15) (v := .pointer (some ⟨gx, 2, none⟩)) (msk 17 1519) rfl rfl (by kernel_rfl) hP (y_run (by rfl) (fun W => by go_simp)) rfl ?_
 try simp only [zP,zN,zA,zB,zC]
 refine takeh_ (i := 11) (N := some 16) (v := .int .i64 x2) (msk 17 3567) rfl rfl (by kernel_rfl) hP (y_load (p := ⟨gx, 2, none⟩) rfl (by rfl) (by rfl) (fun W hS => run_load_one ((hS.1.cell 2).trans rfl) Try.underlying3 rfl)) hS26 rfl ?_
 try simp only [zP,zN,zA,zB,zC]
 refine pureh_ (i := 12) (N := some 17) (v := .pointer (some ⟨gy, 2, none⟩)) (msk 17 7663) rfl rfl (by kernel_rfl) hP (y_run (by rfl) (fun W => by go_simp)) rfl ?_
 try simp only [zP,zN,zA,zB,zC]
 refine takeh_ (i := 13) (N := some 18) (v := .int .i64 y2) (msk 17 15855) rfl rfl (by kernel_rfl) hP (y_load (p := ⟨gy, 2, none⟩) rfl (by rfl) (by rfl) (fun W hS => run_load_one ((hS.2.1.cell 2).trans rfl) Try.underlying3 rfl)) hS26 rfl ?_
 try simp only [zP,zN,zA,zB,zC]
 refine one_ (i := 4) (N := some 9) (msk 17 15871) rfl rfl (by kernel_rfl) (by simp) (fun K27 hK27 => ?_)
 refine e_call Try.func61 (by kernel_rfl) rfl #[.int .i64 x0, .int .i64 y0] (by rfl) rfl rfl (mp2 rfl rfl) (dmore_) ?_
 rintro en w29 ⟨rfl, cc28⟩
 refine ⟨_, rfl, ?_⟩
 replace C0 := qh (C0.out.trans' cc28 inw_nil)
 replace Fgx := qh (cc28.blk Fgx.out nin_nil)
 replace Fgy := qh (cc28.blk Fgy.out nin_nil)
 replace Fgr := qh (cc28.blk Fgr.out nin_nil)
 clear cc28
 refine hK27.out _ _ ⟨Fgx.out, Fgy.out, trivial⟩ (fun hS30 => ?_); clear hK27 K27
 try simp only [zP,zN,zA,zB,zC]
 refine one_ (i := 9) (N := some 14) (msk 17 16383) rfl rfl (by kernel_rfl) (by simp) (fun K31 hK31 => ?_)
 refine e_call Try.func61 (by kernel_rfl) rfl #[.int .i64 x1, .int .i64 y1] (by rfl) rfl rfl (mp2 rfl rfl) (dmore_) ?_
 rintro en w33 ⟨rfl, cc32⟩
 refine ⟨_, rfl, ?_⟩
 replace C0 := qh (C0.out.trans' cc32 inw_nil)
 replace Fgx := qh (cc32.blk Fgx.out nin_nil)
 replace Fgy := qh (cc32.blk Fgy.out nin_nil)
 replace Fgr := qh (cc32.blk Fgr.out nin_nil)
 clear cc32
 refine hK31.out _ _ ⟨Fgx.out, Fgy.out, trivial⟩ (fun hS34 => ?_); clear hK31 K31
 try simp only [zP,zN,zA,zB,zC]
 refine one_ (i := 14) (N := some 19) (msk 17 32767) rfl rfl (by kernel_rfl) (by simp) (fun K35 hK35 => ?_)
 refine e_call Try.func61 (by kernel_rfl) rfl #[.int .i64 x2, .int .i64 y2] (by rfl) rfl rfl (mp2 rfl rfl) (dmore_) ?_
 rintro en w37 ⟨rfl, cc36⟩
 refine ⟨_, rfl, ?_⟩
 replace C0 := qh (C0.out.trans' cc36 inw_nil)
 replace Fgx := qh (cc36.blk Fgx.out nin_nil)
 replace Fgy := qh (cc36.blk Fgy.out nin_nil)
 replace Fgr := qh (cc36.blk Fgr.out nin_nil)
 clear cc36
 refine hK35.out _ _ ⟨Fgx.out, Fgy.out, trivial⟩ (fun hS38 => ?_); clear hK35 K35
 try simp only [zP,zN,zA,zB,zC]
 refine pureh_ (i := 15) (N := some 20) (v := .agg #[.int .i64 (max x0 y0), .int .i64 (max x1 y1), .int .i64 (max x2 y2)]) (msk 17 65535) rfl rfl (by kernel_rfl) hP (y_build (vs := #[(0, .int .i64 (max x0 y0)), (1, .int .i64 (max x1 y1)), (2, .int .i64 (max x2 y2))]) (by rfl) rfl (by first | rfl | (simp only [List.map_toArray, List.map_cons, List.map_nil]; first | done | rfl)) (by kernel_rfl)) rfl ?_
 try simp only [zP,zN,zA,zB,zC]
 refine one_ (i := 16) (N := none) (msk 17 131071) rfl rfl (by kernel_rfl) (by simp) (fun K39 hK39 => ?_)
 refine e_storeN (cells := #[.int .i64 (max x0 y0), .int .i64 (max x1 y1), .int .i64 (max x2 y2)]) (by rfl) rfl rfl (by rfl) (by rfl) Fgr.out (by kernel_rfl) (by rfl) (ones_cons rfl (ones_cons rfl (ones_cons rfl ones_nil))) ?_
 rintro w40 B41 C42
 replace C0 := qh (C0.out.trans' C42 (inw_cons (.inr nw20.out) inw_nil))
 replace Fgx := qh (C42.blk Fgx.out (nin_cons ne21.out nin_nil))
 replace Fgy := qh (C42.blk Fgy.out (nin_cons ne22.out nin_nil))
 clear Fgr; have Fgr := qh (show Blk w40 gr (#[.int .i64 (max x0 y0), .int .i64 (max x1 y1), .int .i64 (max x2 y2)]) 23 from B41); clear B41 C42
 refine hK39.out _ _ ⟨Fgx.out, Fgy.out, trivial⟩ (fun hS43 => ?_); clear hK39 K39
 try simp only [zP,zN,zA,zB,zC]
 refine done_ (by kernel_rfl) (th_norm (hK23 _ _ ?_)); clear hK23 K23
 refine wp_ret ?_
 refine hQ _ _ _ ?_
 refine bodyPost_ret (res1 rfl (rdv_cell (by rfl) (run_loadVar_row _ _ 23 23 (#[.int .i64 (max x0 y0), .int .i64 (max x1 y1), .int .i64 (max x2 y2)]) (0, 0) _ Fgr.out Try.underlying23 rfl (by kernel_rfl)))) rfl ?_
 exact ⟨rfl, C0.out⟩
theorem dadd_ {x0 x1 x2 y0 y1 y2 : Int} (HX : Hid (I3 (x0, x1, x2))) (HY : Hid (I3 (y0, y1, y2)))  :
  Calls Try.prog 60 #[.agg #[.int .i64 x0, .int .i64 x1, .int .i64 x2], .agg #[.int .i64 y0, .int .i64 y1, .int .i64 y2]] w fun en w' => en = .returned (.tuple #[.agg #[.int .i64 (add3 (x0, x1, x2) (y0, y1, y2)).1.1, .int .i64 (add3 (x0, x1, x2) (y0, y1, y2)).1.2.1, .int .i64 (add3 (x0, x1, x2) (y0, y1, y2)).1.2.2], .bool (add3 (x0, x1, x2) (y0, y1, y2)).2]) ∧ Ch [] w w' := by
 have C0 := qh (Ch.refl [] w)
 go_enter Try.func60, Try.ntmps60
 refine q_ (fun Q hQ hP => ?_)
 refine s_ (fun K1 hK1 => ?_)
 refine ef_ (fun K2 hK2 => ?_)
 refine e_boxN (by rfl) rfl rfl (cs := #[.int .i64 x0, .int .i64 x1, .int .i64 x2]) (v := .agg #[.int .i64 x0, .int .i64 x1, .int .i64 x2]) (by rfl) rfl ?_
 rintro gx w3 HG4 B5 C6
 have nw7 := qh (show w.heap.size ≤ gx by have := C0.out.size; have := HG4.out; omega)
 replace C0 := qh (C0.out.trans' C6 inw_nil)
 have Fgx := qh (show Blk w3 gx (#[.int .i64 x0, .int .i64 x1, .int .i64 x2]) 23 from B5); clear B5 C6
 refine hK2 _ _ ?_; clear hK2 K2
 try simp only [zP,zN,zA,zB,zC]
 refine ef_ (fun K8 hK8 => ?_)
 refine e_boxN (by rfl) rfl rfl (cs := #[.int .i64 y0, .int .i64 y1, .int .i64 y2]) (v := .agg #[.int .i64 y0, .int .i64 y1, .int .i64 y2]) (by rfl) rfl ?_
 rintro gy w9 HG10 B11 C12
 have nw13 := qh (show w.heap.size ≤ gy by have := C0.out.size; have := HG10.out; omega)
 have ne14 := qh (Fgx.out.ne_new HG10)
 replace C0 := qh (C0.out.trans' C12 inw_nil)
 replace Fgx := qh (C12.blk Fgx.out nin_nil)
 have Fgy := qh (show Blk w9 gy (#[.int .i64 y0, .int .i64 y1, .int .i64 y2]) 23 from B11); clear B11 C12
 refine hK8 _ _ ?_; clear hK8 K8
 try simp only [zP,zN,zA,zB,zC]
 refine ef_ (fun K15 hK15 => ?_)
 refine e_alloc (by rfl) rfl rfl (cs := #[.int .i64 0, .int .i64 0, .int .i64 0]) (by kernel_rfl) ?_
 rintro gr w16 HG17 B18 C19
 have nw20 := qh (show w.heap.size ≤ gr by have := C0.out.size; have := HG17.out; omega)
 have ne21 := qh (Fgx.out.ne_new HG17)
 have ne22 := qh (Fgy.out.ne_new HG17)
 replace C0 := qh (C0.out.trans' C19 inw_nil)
 replace Fgx := qh (C19.blk Fgx.out nin_nil)
 replace Fgy := qh (C19.blk Fgy.out nin_nil)
 have Fgr := qh (show Blk w16 gr (#[.int .i64 0, .int .i64 0, .int .i64 0]) 23 from B18); clear B18 C19
 refine hK15 _ _ ?_; clear hK15 K15
 try simp only [zP,zN,zA,zB,zC]
 refine pu_ (v := .bool false) (y_assign rfl (by rfl) (by rfl)) ?_
 try simp only [zP,zN,zA,zB,zC]
 refine nl_ (hK1 _ _ ?_); clear hK1 K1
 skip
 ·obtain ⟨b0, hb0⟩ : ∃ b, (add1 x0 y0).2 = b := ⟨_, rfl⟩
  have HO0 := qh hb0
  clear hb0
  obtain ⟨b1, hb1⟩ : ∃ b, (add1 x1 y1).2 = b := ⟨_, rfl⟩
  have HO1 := qh hb1
  clear hb1
  obtain ⟨b2, hb2⟩ : ∃ b, (add1 x2 y2).2 = b := ⟨_, rfl⟩
  have HO2 := qh hb2
  clear hb2
  refine s_ (fun K23 hK23 => ?_)
  refine pu_ (v := .pointer (some ⟨gx, 0, none⟩)) (y_run (by rfl) (fun W => by go_simp)) ?_
  try simp only [zP,zN,zA,zB,zC]
  refine ld_ (v := .int .i64 x0) rfl (by rfl) (by rfl) (run_load_one ((Fgx.out.cell 0).trans rfl) Try.underlying3 rfl) ?_
  try simp only [zP,zN,zA,zB,zC]
  refine pu_ (v := .pointer (some ⟨gy, 0, none⟩)) (y_run (by rfl) (fun W => by go_simp)) ?_
  try simp only [zP,zN,zA,zB,zC]
  refine ld_ (v := .int .i64 y0) rfl (by rfl) (by rfl) (run_load_one ((Fgy.out.cell 0).trans rfl) Try.underlying3 rfl) ?_
  try simp only [zP,zN,zA,zB,zC]
  refine ef_ (fun K24 hK24 => ?_)
  refine e_call Try.func65 (by kernel_rfl) rfl #[.int .i64 x0, .int .i64 y0] (by rfl) rfl rfl (mp2 rfl rfl) ((by have h9 := dadd1_ (w := w16) (a := x0) (b := y0) (qh HX.out.1) (qh HY.out.1); rw [HO0.out] at h9; exact h9)) ?_
  rintro en w26 ⟨rfl, cc25⟩
  refine ⟨_, rfl, ?_⟩
  replace C0 := qh (C0.out.trans' cc25 inw_nil)
  replace Fgx := qh (cc25.blk Fgx.out nin_nil)
  replace Fgy := qh (cc25.blk Fgy.out nin_nil)
  replace Fgr := qh (cc25.blk Fgr.out nin_nil)
  clear cc25
  refine hK24 _ _ ?_; clear hK24 K24
  try simp only [zP,zN,zA,zB,zC]
  refine pu_ (v := .tuple #[.int .i64 ((add1 x0 y0).1), .bool b0]) (y_move rfl (by rfl) (by rfl)) ?_
  try simp only [zP,zN,zA,zB,zC]
  refine pu_ (v := .int .i64 ((add1 x0 y0).1)) (y_run (by rfl) (fun W => by go_simp)) ?_
  try simp only [zP,zN,zA,zB,zC]
  refine pu_ (v := .bool b0) (y_run (by rfl) (fun W => by go_simp)) ?_
  try simp only [zP,zN,zA,zB,zC]
  refine pu_ (v := .int .i64 ((add1 x0 y0).1)) (y_assign rfl (by rfl) (by rfl)) ?_
  try simp only [zP,zN,zA,zB,zC]
  refine pu_ (v := .bool b0) (y_assign rfl (by rfl) (by rfl)) ?_
  try simp only [zP,zN,zA,zB,zC]
  refine nl_ (hK23 _ _ ?_); clear hK23 K23
  refine s_ (fun K27 hK27 => ?_)
  refine pu_ (v := .pointer (some ⟨gx, 1, none⟩)) (y_run (by rfl) (fun W => by go_simp)) ?_
  try simp only [zP,zN,zA,zB,zC]
  refine ld_ (v := .int .i64 x1) rfl (by rfl) (by rfl) (run_load_one ((Fgx.out.cell 1).trans rfl) Try.underlying3 rfl) ?_
  try simp only [zP,zN,zA,zB,zC]
  refine pu_ (v := .pointer (some ⟨gy, 1, none⟩)) (y_run (by rfl) (fun W => by go_simp)) ?_
  try simp only [zP,zN,zA,zB,zC]
  refine ld_ (v := .int .i64 y1) rfl (by rfl) (by rfl) (run_load_one ((Fgy.out.cell 1).trans rfl) Try.underlying3 rfl) ?_
  try simp only [zP,zN,zA,zB,zC]
  refine ef_ (fun K28 hK28 => ?_)
  refine e_call Try.func65 (by kernel_rfl) rfl #[.int .i64 x1, .int .i64 y1] (by rfl) rfl rfl (mp2 rfl rfl) ((by have h9 := dadd1_ (w := w26) (a := x1) (b := y1) (qh HX.out.2.1) (qh HY.out.2.1); rw [HO1.out] at h9; exact h9)) ?_
  rintro en w30 ⟨rfl, cc29⟩
  refine ⟨_, rfl, ?_⟩
  replace C0 := qh (C0.out.trans' cc29 inw_nil)
  replace Fgx := qh (cc29.blk Fgx.out nin_nil)
  replace Fgy := qh (cc29.blk Fgy.out nin_nil)
  replace Fgr := qh (cc29.blk Fgr.out nin_nil)
  clear cc29
  refine hK28 _ _ ?_; clear hK28 K28
  try simp only [zP,zN,zA,zB,zC]
  refine pu_ (v := .tuple #[.int .i64 ((add1 x1 y1).1), .bool b1]) (y_move rfl (by rfl) (by rfl)) ?_
  try simp only [zP,zN,zA,zB,zC]
  refine pu_ (v := .int .i64 ((add1 x1 y1).1)) (y_run (by rfl) (fun W => by go_simp)) ?_
  try simp only [zP,zN,zA,zB,zC]
  refine pu_ (v := .bool b1) (y_run (by rfl) (fun W => by go_simp)) ?_
  try simp only [zP,zN,zA,zB,zC]
  refine pu_ (v := .int .i64 ((add1 x1 y1).1)) (y_assign rfl (by rfl) (by rfl)) ?_
  try simp only [zP,zN,zA,zB,zC]
  refine pu_ (v := .bool b1) (y_assign rfl (by rfl) (by rfl)) ?_
  try simp only [zP,zN,zA,zB,zC]
  refine nl_ (hK27 _ _ ?_); clear hK27 K27
  refine s_ (fun K31 hK31 => ?_)
  refine pu_ (v := .pointer (some ⟨gx, 2, none⟩)) (y_run (by rfl) (fun W => by go_simp)) ?_
  try simp only [zP,zN,zA,zB,zC]
  refine ld_ (v := .int .i64 x2) rfl (by rfl) (by rfl) (run_load_one ((Fgx.out.cell 2).trans rfl) Try.underlying3 rfl) ?_
  try simp only [zP,zN,zA,zB,zC]
  refine pu_ (v := .pointer (some ⟨gy, 2, none⟩)) (y_run (by rfl) (fun W => by go_simp)) ?_
  try simp only [zP,zN,zA,zB,zC]
  refine ld_ (v := .int .i64 y2) rfl (by rfl) (by rfl) (run_load_one ((Fgy.out.cell 2).trans rfl) Try.underlying3 rfl) ?_
  try simp only [zP,zN,zA,zB,zC]
  refine ef_ (fun K32 hK32 => ?_)
  refine e_call Try.func65 (by kernel_rfl) rfl #[.int .i64 x2, .int .i64 y2] (by rfl) rfl rfl (mp2 rfl rfl) ((by have h9 := dadd1_ (w := w30) (a := x2) (b := y2) (qh HX.out.2.2) (qh HY.out.2.2); rw [HO2.out] at h9; exact h9)) ?_
  rintro en w34 ⟨rfl, cc33⟩
  refine ⟨_, rfl, ?_⟩
  replace C0 := qh (C0.out.trans' cc33 inw_nil)
  replace Fgx := qh (cc33.blk Fgx.out nin_nil)
  replace Fgy := qh (cc33.blk Fgy.out nin_nil)
  replace Fgr := qh (cc33.blk Fgr.out nin_nil)
  clear cc33
  refine hK32 _ _ ?_; clear hK32 K32
  try simp only [zP,zN,zA,zB,zC]
  refine pu_ (v := .tuple #[.int .i64 ((add1 x2 y2).1), .bool b2]) (y_move rfl (by rfl) (by rfl)) ?_
  try simp only [zP,zN,zA,zB,zC]
  refine pu_ (v := .int .i64 ((add1 x2 y2).1)) (y_run (by rfl) (fun W => by go_simp)) ?_
  try simp only [zP,zN,zA,zB,zC]
  refine pu_ (v := .bool b2) (y_run (by rfl) (fun W => by go_simp)) ?_
  try simp only [zP,zN,zA,zB,zC]
  refine pu_ (v := .int .i64 ((add1 x2 y2).1)) (y_assign rfl (by rfl) (by rfl)) ?_
  try simp only [zP,zN,zA,zB,zC]
  refine pu_ (v := .bool b2) (y_assign rfl (by rfl) (by rfl)) ?_
  try simp only [zP,zN,zA,zB,zC]
  refine nl_ (hK31 _ _ ?_); clear hK31 K31
  refine sq_ (fun K35 hK35 => ?_)
  rcases (show b0 = false ∨ (b0 = true ∧ b1 = false) ∨ (b0 = true ∧ b1 = true ∧ b2 = false) ∨ (b0 = true ∧ b1 = true ∧ b2 = true) by cases b0 <;> cases b1 <;> cases b2 <;> simp) with rfl | ⟨rfl, rfl⟩ | ⟨rfl, rfl, rfl⟩ | ⟨rfl, rfl, rfl⟩
  ·have HR := qh (show add3 (x0, x1, x2) (y0, y1, y2) = ((0, 0, 0), false) from if_neg (fun h9 => by have h8 := h9.1; rw [show ((x0, x1, x2) : R3).1 = x0 from rfl, show ((y0, y1, y2) : R3).1 = y0 from rfl, HO0.out] at h8; cases h8))
   refine s_ (fun K36 hK36 => ?_)
   refine pu_ (v := .bool false) (y_move rfl (by rfl) (by rfl)) ?_
   try simp only [zP,zN,zA,zB,zC]
   refine pu_ (v := .bool true) (y_run (by rfl) (fun W => by go_simp)) ?_
   try simp only [zP,zN,zA,zB,zC]
   refine pu_ (v := .bool true) (y_move rfl (by rfl) (by rfl)) ?_
   try simp only [zP,zN,zA,zB,zC]
   refine pu_ (y_off (by rfl)) ?_
   try simp only [zP,zN,zA,zB,zC]
   refine pu_ (y_off (by rfl)) ?_
   try simp only [zP,zN,zA,zB,zC]
   refine pu_ (v := .bool true) (y_pick (t := true) (by rfl) rfl (by rfl) (by rfl)) ?_
   try simp only [zP,zN,zA,zB,zC]
   refine pu_ (v := .bool true) (y_move rfl (by rfl) (by rfl)) ?_
   try simp only [zP,zN,zA,zB,zC]
   refine pu_ (y_off (by rfl)) ?_
   try simp only [zP,zN,zA,zB,zC]
   refine pu_ (y_off (by rfl)) ?_
   try simp only [zP,zN,zA,zB,zC]
   refine pu_ (v := .bool true) (y_pick (t := true) (by rfl) rfl (by rfl) (by rfl)) ?_
   try simp only [zP,zN,zA,zB,zC]
   refine nl_ (hK36 _ _ ?_); clear hK36 K36
   refine wp_cond_true rfl ?_
   refine s_ (fun K37 hK37 => ?_)
   refine pu_ (v := .agg #[.int .i64 0, .int .i64 0, .int .i64 0]) (y_build (vs := #[]) (by rfl) rfl (by first | rfl | (simp only [List.map_toArray, List.map_cons, List.map_nil]; first | done | rfl)) (by kernel_rfl)) ?_
   try simp only [zP,zN,zA,zB,zC]
   refine ef_ (fun K38 hK38 => ?_)
   refine e_storeN (cells := #[.int .i64 0, .int .i64 0, .int .i64 0]) (by rfl) rfl rfl (by rfl) (by rfl) Fgr.out (by kernel_rfl) (by rfl) (ones_cons rfl (ones_cons rfl (ones_cons rfl ones_nil))) ?_
   rintro w39 B40 C41
   replace C0 := qh (C0.out.trans' C41 (inw_cons (.inr nw20.out) inw_nil))
   replace Fgx := qh (C41.blk Fgx.out (nin_cons ne21.out nin_nil))
   replace Fgy := qh (C41.blk Fgy.out (nin_cons ne22.out nin_nil))
   clear Fgr; have Fgr := qh (show Blk w39 gr (#[.int .i64 0, .int .i64 0, .int .i64 0]) 23 from B40); clear B40 C41
   refine hK38 _ _ ?_; clear hK38 K38
   try simp only [zP,zN,zA,zB,zC]
   refine pu_ (v := .bool false) (y_assign rfl (by rfl) (by rfl)) ?_
   try simp only [zP,zN,zA,zB,zC]
   refine nl_ (hK37 _ _ ?_); clear hK37 K37
   refine wp_ret ?_
   refine th_ret ?_
   refine hQ _ _ _ ?_
   refine bodyPost_ret (res2 rfl (rdv_cell (by rfl) (run_loadVar_row _ _ 23 23 (#[.int .i64 0, .int .i64 0, .int .i64 0]) (0, 0) _ Fgr.out Try.underlying23 rfl (by kernel_rfl))) (rdv_tmp (v := .bool false) (by rfl))) rfl ?_
   exact ⟨by rw [HR.out], C0.out⟩
  ·have HR := qh (show add3 (x0, x1, x2) (y0, y1, y2) = ((0, 0, 0), false) from if_neg (fun h9 => by have h8 := h9.2.1; rw [show ((x0, x1, x2) : R3).2.1 = x1 from rfl, show ((y0, y1, y2) : R3).2.1 = y1 from rfl, HO1.out] at h8; cases h8))
   refine s_ (fun K42 hK42 => ?_)
   refine pu_ (v := .bool true) (y_move rfl (by rfl) (by rfl)) ?_
   try simp only [zP,zN,zA,zB,zC]
   refine pu_ (v := .bool false) (y_run (by rfl) (fun W => by go_simp)) ?_
   try simp only [zP,zN,zA,zB,zC]
   refine pu_ (v := .bool false) (y_move rfl (by rfl) (by rfl)) ?_
   try simp only [zP,zN,zA,zB,zC]
   refine pu_ (v := .bool false) (y_move rfl (by rfl) (by rfl)) ?_
   try simp only [zP,zN,zA,zB,zC]
   refine pu_ (v := .bool true) (y_run (by rfl) (fun W => by go_simp)) ?_
   try simp only [zP,zN,zA,zB,zC]
   refine pu_ (v := .bool true) (y_pick (t := false) (by rfl) rfl (by rfl) (by rfl)) ?_
   try simp only [zP,zN,zA,zB,zC]
   refine pu_ (v := .bool true) (y_move rfl (by rfl) (by rfl)) ?_
   try simp only [zP,zN,zA,zB,zC]
   refine pu_ (y_off (by rfl)) ?_
   try simp only [zP,zN,zA,zB,zC]
   refine pu_ (y_off (by rfl)) ?_
   try simp only [zP,zN,zA,zB,zC]
   refine pu_ (v := .bool true) (y_pick (t := true) (by rfl) rfl (by rfl) (by rfl)) ?_
   try simp only [zP,zN,zA,zB,zC]
   refine nl_ (hK42 _ _ ?_); clear hK42 K42
   refine wp_cond_true rfl ?_
   refine s_ (fun K43 hK43 => ?_)
   refine pu_ (v := .agg #[.int .i64 0, .int .i64 0, .int .i64 0]) (y_build (vs := #[]) (by rfl) rfl (by first | rfl | (simp only [List.map_toArray, List.map_cons, List.map_nil]; first | done | rfl)) (by kernel_rfl)) ?_
   try simp only [zP,zN,zA,zB,zC]
   refine ef_ (fun K44 hK44 => ?_)
   refine e_storeN (cells := #[.int .i64 0, .int .i64 0, .int .i64 0]) (by rfl) rfl rfl (by rfl) (by rfl) Fgr.out (by kernel_rfl) (by rfl) (ones_cons rfl (ones_cons rfl (ones_cons rfl ones_nil))) ?_
   rintro w45 B46 C47
   replace C0 := qh (C0.out.trans' C47 (inw_cons (.inr nw20.out) inw_nil))
   replace Fgx := qh (C47.blk Fgx.out (nin_cons ne21.out nin_nil))
   replace Fgy := qh (C47.blk Fgy.out (nin_cons ne22.out nin_nil))
   clear Fgr; have Fgr := qh (show Blk w45 gr (#[.int .i64 0, .int .i64 0, .int .i64 0]) 23 from B46); clear B46 C47
   refine hK44 _ _ ?_; clear hK44 K44
   try simp only [zP,zN,zA,zB,zC]
   refine pu_ (v := .bool false) (y_assign rfl (by rfl) (by rfl)) ?_
   try simp only [zP,zN,zA,zB,zC]
   refine nl_ (hK43 _ _ ?_); clear hK43 K43
   refine wp_ret ?_
   refine th_ret ?_
   refine hQ _ _ _ ?_
   refine bodyPost_ret (res2 rfl (rdv_cell (by rfl) (run_loadVar_row _ _ 23 23 (#[.int .i64 0, .int .i64 0, .int .i64 0]) (0, 0) _ Fgr.out Try.underlying23 rfl (by kernel_rfl))) (rdv_tmp (v := .bool false) (by rfl))) rfl ?_
   exact ⟨by rw [HR.out], C0.out⟩
  ·have HR := qh (show add3 (x0, x1, x2) (y0, y1, y2) = ((0, 0, 0), false) from if_neg (fun h9 => by have h8 := h9.2.2; rw [show ((x0, x1, x2) : R3).2.2 = x2 from rfl, show ((y0, y1, y2) : R3).2.2 = y2 from rfl, HO2.out] at h8; cases h8))
   refine s_ (fun K48 hK48 => ?_)
   refine pu_ (v := .bool true) (y_move rfl (by rfl) (by rfl)) ?_
   try simp only [zP,zN,zA,zB,zC]
   refine pu_ (v := .bool false) (y_run (by rfl) (fun W => by go_simp)) ?_
   try simp only [zP,zN,zA,zB,zC]
   refine pu_ (v := .bool false) (y_move rfl (by rfl) (by rfl)) ?_
   try simp only [zP,zN,zA,zB,zC]
   refine pu_ (v := .bool true) (y_move rfl (by rfl) (by rfl)) ?_
   try simp only [zP,zN,zA,zB,zC]
   refine pu_ (v := .bool false) (y_run (by rfl) (fun W => by go_simp)) ?_
   try simp only [zP,zN,zA,zB,zC]
   refine pu_ (v := .bool false) (y_pick (t := false) (by rfl) rfl (by rfl) (by rfl)) ?_
   try simp only [zP,zN,zA,zB,zC]
   refine pu_ (v := .bool false) (y_move rfl (by rfl) (by rfl)) ?_
   try simp only [zP,zN,zA,zB,zC]
   refine pu_ (v := .bool false) (y_move rfl (by rfl) (by rfl)) ?_
   try simp only [zP,zN,zA,zB,zC]
   refine pu_ (v := .bool true) (y_run (by rfl) (fun W => by go_simp)) ?_
   try simp only [zP,zN,zA,zB,zC]
   refine pu_ (v := .bool true) (y_pick (t := false) (by rfl) rfl (by rfl) (by rfl)) ?_
   try simp only [zP,zN,zA,zB,zC]
   refine nl_ (hK48 _ _ ?_); clear hK48 K48
   refine wp_cond_true rfl ?_
   refine s_ (fun K49 hK49 => ?_)
   refine pu_ (v := .agg #[.int .i64 0, .int .i64 0, .int .i64 0]) (y_build (vs := #[]) (by rfl) rfl (by first | rfl | (simp only [List.map_toArray, List.map_cons, List.map_nil]; first | done | rfl)) (by kernel_rfl)) ?_
   try simp only [zP,zN,zA,zB,zC]
   refine ef_ (fun K50 hK50 => ?_)
   refine e_storeN (cells := #[.int .i64 0, .int .i64 0, .int .i64 0]) (by rfl) rfl rfl (by rfl) (by rfl) Fgr.out (by kernel_rfl) (by rfl) (ones_cons rfl (ones_cons rfl (ones_cons rfl ones_nil))) ?_
   rintro w51 B52 C53
   replace C0 := qh (C0.out.trans' C53 (inw_cons (.inr nw20.out) inw_nil))
   replace Fgx := qh (C53.blk Fgx.out (nin_cons ne21.out nin_nil))
   replace Fgy := qh (C53.blk Fgy.out (nin_cons ne22.out nin_nil))
   clear Fgr; have Fgr := qh (show Blk w51 gr (#[.int .i64 0, .int .i64 0, .int .i64 0]) 23 from B52); clear B52 C53
   refine hK50 _ _ ?_; clear hK50 K50
   try simp only [zP,zN,zA,zB,zC]
   refine pu_ (v := .bool false) (y_assign rfl (by rfl) (by rfl)) ?_
   try simp only [zP,zN,zA,zB,zC]
   refine nl_ (hK49 _ _ ?_); clear hK49 K49
   refine wp_ret ?_
   refine th_ret ?_
   refine hQ _ _ _ ?_
   refine bodyPost_ret (res2 rfl (rdv_cell (by rfl) (run_loadVar_row _ _ 23 23 (#[.int .i64 0, .int .i64 0, .int .i64 0]) (0, 0) _ Fgr.out Try.underlying23 rfl (by kernel_rfl))) (rdv_tmp (v := .bool false) (by rfl))) rfl ?_
   exact ⟨by rw [HR.out], C0.out⟩
  ·have HR := qh (show add3 (x0, x1, x2) (y0, y1, y2) = (((add1 x0 y0).1, (add1 x1 y1).1, (add1 x2 y2).1), true) from if_pos ⟨HO0.out, HO1.out, HO2.out⟩)
   refine s_ (fun K54 hK54 => ?_)
   refine pu_ (v := .bool true) (y_move rfl (by rfl) (by rfl)) ?_
   try simp only [zP,zN,zA,zB,zC]
   refine pu_ (v := .bool false) (y_run (by rfl) (fun W => by go_simp)) ?_
   try simp only [zP,zN,zA,zB,zC]
   refine pu_ (v := .bool false) (y_move rfl (by rfl) (by rfl)) ?_
   try simp only [zP,zN,zA,zB,zC]
   refine pu_ (v := .bool true) (y_move rfl (by rfl) (by rfl)) ?_
   try simp only [zP,zN,zA,zB,zC]
   refine pu_ (v := .bool false) (y_run (by rfl) (fun W => by go_simp)) ?_
   try simp only [zP,zN,zA,zB,zC]
   refine pu_ (v := .bool false) (y_pick (t := false) (by rfl) rfl (by rfl) (by rfl)) ?_
   try simp only [zP,zN,zA,zB,zC]
   refine pu_ (v := .bool false) (y_move rfl (by rfl) (by rfl)) ?_
   try simp only [zP,zN,zA,zB,zC]
   refine pu_ (v := .bool true) (y_move rfl (by rfl) (by rfl)) ?_
   try simp only [zP,zN,zA,zB,zC]
   refine pu_ (v := .bool false) (y_run (by rfl) (fun W => by go_simp)) ?_
   try simp only [zP,zN,zA,zB,zC]
   refine pu_ (v := .bool false) (y_pick (t := false) (by rfl) rfl (by rfl) (by rfl)) ?_
   try simp only [zP,zN,zA,zB,zC]
   refine nl_ (hK54 _ _ ?_); clear hK54 K54
   refine wp_cond_false rfl ?_
   refine wp_skip ?_
   refine th_norm (hK35 _ _ ?_); try clear hK35 K35
   refine s_ (fun K55 hK55 => ?_)
   refine pu_ (v := .int .i64 ((add1 x0 y0).1)) (y_move rfl (by rfl) (by rfl)) ?_
   try simp only [zP,zN,zA,zB,zC]
   refine pu_ (v := .int .i64 ((add1 x1 y1).1)) (y_move rfl (by rfl) (by rfl)) ?_
   try simp only [zP,zN,zA,zB,zC]
   refine pu_ (v := .int .i64 ((add1 x2 y2).1)) (y_move rfl (by rfl) (by rfl)) ?_
   try simp only [zP,zN,zA,zB,zC]
   refine pu_ (v := .agg #[.int .i64 ((add1 x0 y0).1), .int .i64 ((add1 x1 y1).1), .int .i64 ((add1 x2 y2).1)]) (y_build (vs := #[(0, .int .i64 ((add1 x0 y0).1)), (1, .int .i64 ((add1 x1 y1).1)), (2, .int .i64 ((add1 x2 y2).1))]) (by rfl) rfl (by first | rfl | (simp only [List.map_toArray, List.map_cons, List.map_nil]; first | done | rfl)) (by kernel_rfl)) ?_
   try simp only [zP,zN,zA,zB,zC]
   refine ef_ (fun K56 hK56 => ?_)
   refine e_storeN (cells := #[.int .i64 ((add1 x0 y0).1), .int .i64 ((add1 x1 y1).1), .int .i64 ((add1 x2 y2).1)]) (by rfl) rfl rfl (by rfl) (by rfl) Fgr.out (by kernel_rfl) (by rfl) (ones_cons rfl (ones_cons rfl (ones_cons rfl ones_nil))) ?_
   rintro w57 B58 C59
   replace C0 := qh (C0.out.trans' C59 (inw_cons (.inr nw20.out) inw_nil))
   replace Fgx := qh (C59.blk Fgx.out (nin_cons ne21.out nin_nil))
   replace Fgy := qh (C59.blk Fgy.out (nin_cons ne22.out nin_nil))
   clear Fgr; have Fgr := qh (show Blk w57 gr (#[.int .i64 ((add1 x0 y0).1), .int .i64 ((add1 x1 y1).1), .int .i64 ((add1 x2 y2).1)]) 23 from B58); clear B58 C59
   refine hK56 _ _ ?_; clear hK56 K56
   try simp only [zP,zN,zA,zB,zC]
   refine pu_ (v := .bool true) (y_assign rfl (by rfl) (by rfl)) ?_
   try simp only [zP,zN,zA,zB,zC]
   refine nl_ (hK55 _ _ ?_); clear hK55 K55
   refine wp_ret ?_
   refine hQ _ _ _ ?_
   refine bodyPost_ret (res2 rfl (rdv_cell (by rfl) (run_loadVar_row _ _ 23 23 (#[.int .i64 ((add1 x0 y0).1), .int .i64 ((add1 x1 y1).1), .int .i64 ((add1 x2 y2).1)]) (0, 0) _ Fgr.out Try.underlying23 rfl (by kernel_rfl))) (rdv_tmp (v := .bool true) (by rfl))) rfl ?_
   exact ⟨by rw [HR.out], C0.out⟩
theorem dsum3_ {A : Option Addr} {z : Nat} {L : List R3} (HN : Hid (L.length ≤ 1000)) (HL3 : Hid (∀ r ∈ L, I3 r)) (SL : Hid (SrcIs w (.slice A L.length z) (L.length) (L.flatMap r3C) 3)) :
  Calls Try.prog 50 #[.slice A L.length z] w fun en w' => en = .returned (.tuple #[.agg #[.int .i64 (sum3 (0, 0, 0) L).1.1, .int .i64 (sum3 (0, 0, 0) L).1.2.1, .int .i64 (sum3 (0, 0, 0) L).1.2.2], .bool (sum3 (0, 0, 0) L).2]) ∧ Ch [] w w' := by
 have C0 := qh (Ch.refl [] w)
 go_enter Try.func50, Try.ntmps50
 refine q_ (fun Q hQ hP => ?_)
 refine s_ (fun K1 hK1 => ?_)
 refine ef_ (fun K2 hK2 => ?_)
 refine e_alloc (by rfl) rfl rfl (cs := #[.int .i64 0, .int .i64 0, .int .i64 0]) (by kernel_rfl) ?_
 rintro gr w3 HG4 B5 C6
 have nw7 := qh (show w.heap.size ≤ gr by have := C0.out.size; have := HG4.out; omega)
 have nx8 := qh (SL.out.ne_new (by decide) HG4)
 replace C0 := qh (C0.out.trans' C6 inw_nil)
 replace SL := qh (SL.out.chx C6 xnin_nil)
 have Fgr := qh (show Blk w3 gr (#[.int .i64 0, .int .i64 0, .int .i64 0]) 23 from B5); clear B5 C6
 refine hK2 _ _ ?_; clear hK2 K2
 try simp only [zP,zN,zA,zB,zC]
 refine pu_ (v := .bool false) (y_assign rfl (by rfl) (by rfl)) ?_
 try simp only [zP,zN,zA,zB,zC]
 refine nl_ (hK1 _ _ ?_); clear hK1 K1
 refine s_ (fun K9 hK9 => ?_)
 refine ef_ (fun K10 hK10 => ?_)
 refine e_alloc (by rfl) rfl rfl (cs := #[.int .i64 0, .int .i64 0, .int .i64 0]) (by kernel_rfl) ?_
 rintro gs w11 HG12 B13 C14
 have nw15 := qh (show w.heap.size ≤ gs by have := C0.out.size; have := HG12.out; omega)
 have nx16 := qh (SL.out.ne_new (by decide) HG12)
 have ne17 := qh (Fgr.out.ne_new HG12)
 replace C0 := qh (C0.out.trans' C14 inw_nil)
 replace SL := qh (SL.out.chx C14 xnin_nil)
 replace Fgr := qh (C14.blk Fgr.out nin_nil)
 have Fgs := qh (show Blk w11 gs (#[.int .i64 0, .int .i64 0, .int .i64 0]) 23 from B13); clear B13 C14
 refine hK10 _ _ ?_; clear hK10 K10
 try simp only [zP,zN,zA,zB,zC]
 refine nl_ (hK9 _ _ ?_); clear hK9 K9
 refine sq_ (fun K18 hK18 => ?_)
 refine s_ (fun K19 hK19 => ?_)
 refine pu_ (v := .int .i64 0) (y_assign rfl (by rfl) (by rfl)) ?_
 try simp only [zP,zN,zA,zB,zC]
 refine nl_ (hK19 _ _ ?_); clear hK19 K19
 refine wp_block ?_
 refine loopk_ (fun (kq : Nat) (a' : Act) (w' : World) => ∃ (k : Nat), ∃ (q : R3), a' = ⟨#[.slice A L.length z, uo a' 1, .pointer (some ⟨gr, 0, none⟩), .bool false, .pointer (some ⟨gs, 0, none⟩), .int .i64 k, uo a' 6, uo a' 7, uo a' 8, uo a' 9, uo a' 10, uo a' 11, uo a' 12, uo a' 13, uo a' 14, uo a' 15, uo a' 16, uo a' 17, uo a' 18, uo a' 19, uo a' 20, uo a' 21, uo a' 22, uo a' 23, uo a' 24, uo a' 25, uo a' 26, uo a' 27], []⟩ ∧ Hid (Ch [] w w') ∧ Hid (SrcIs w' (.slice A L.length z) (L.length) (L.flatMap r3C) 3) ∧ Hid (Blk w' gr (#[.int .i64 0, .int .i64 0, .int .i64 0]) 23) ∧ Hid (Blk w' gs (#[.int .i64 q.1, .int .i64 q.2.1, .int .i64 q.2.2]) 23) ∧ Hid (k ≤ L.length ∧ kq + k = L.length) ∧ Hid (sum3 (0, 0, 0) L = sum3 q (L.drop k)) ∧ Hid (I3 q)) (L.length) (⟨0, (0, 0, 0), rfl, C0, SL, Fgr, Fgs, qh ⟨by omega, by omega⟩, qh rfl, qh zero_i3⟩) ?_
 rintro kq a_ w20 ⟨k, q, ha_, C0, SL, FR, FS, hk, hs, hi⟩ K21 hK21
 obtain ⟨us, hus_⟩ : ∃ us, us = uo a_ := ⟨_, rfl⟩; try rw [← hus_] at ha_
 subst ha_; clear hus_
 refine sq_ (fun K22 hK22 => ?_)
 rcases at_ways' hk.out.1 with ⟨r, ho0, hlt0⟩ | h
 ·have hlt := qh hlt0
  have ho := qh ho0
  obtain ⟨b9, hb⟩ : ∃ b, (add3 q r).2 = b := ⟨_, rfl⟩
  have HOK := qh hb
  clear hlt0 ho0 hb
  obtain ⟨a, hsm_a⟩ := src_some SL.out (by have := hlt.out; omega)
  subst hsm_a
  have D11 := qh (show (k : Int) < (L.length : Int) by have := hlt.out; omega)
  have Wk := qh (show IntKind.i64.wrap ((k : Int) + 1) = ((k + 1 : Nat) : Int) by rw [wr64 (by have := hlt.out; have h7 := HN.out; omega)]; omega)
  refine s_ (fun K23 hK23 => ?_)
  refine pu_ (v := .int .i64 k) (y_move rfl (by rfl) (by rfl)) ?_
  try simp only [zP,zN,zA,zB,zC]
  refine pu_ (v := .slice (some a) L.length z) (y_move rfl (by rfl) (by rfl)) ?_
  try simp only [zP,zN,zA,zB,zC]
  refine pu_ (v := .int .i64 L.length) (y_run (by rfl) (fun W => by go_simp)) ?_
  try simp only [zP,zN,zA,zB,zC]
  refine pu_ (v := .bool true) (y_run (by rfl) (fun W => by have d := D11.out; go_simp)) ?_
  try simp only [zP,zN,zA,zB,zC]
  refine nl_ (hK23 _ _ ?_); clear hK23 K23
  refine wp_cond_true rfl ?_
  refine wp_skip ?_
  refine th_norm (hK22 _ _ ?_); try clear hK22 K22
  refine sq_ (fun K24 hK24 => ?_)
  refine wp_block ?_
  refine sq_ (fun K25 hK25 => ?_)
  refine startk_ (S := fun W => SrcIs W (.slice (some a) L.length z) (L.length) (L.flatMap r3C) 3 ∧ Blk W gs (#[.int .i64 q.1, .int .i64 q.2.1, .int .i64 q.2.2]) 23 ∧ True) (ds := []) (msk 12 0) (by kernel_rfl) rfl (by kernel_rfl) (fun W c => ⟨SL.out.chx c xnin_nil, c.blk FS.out nin_nil, trivial⟩) (fun w26 C27 hS28 => ?_)
  replace C0 := qh (C0.out.trans' C27 inw_nil)
  replace SL := qh (SL.out.chx C27 xnin_nil)
  replace FR := qh (C27.blk FR.out nin_nil)
  replace FS := qh (C27.blk FS.out nin_nil)
  clear C27
  refine takeh_ (i := 0) (N := some 15) (v := .agg (#[.int .i64 q.1, .int .i64 q.2.1, .int .i64 q.2.2])) (msk 12 1) rfl rfl (by kernel_rfl) hP (y_load (p := ⟨gs, 0, none⟩) rfl (by rfl) (by rfl) (fun W hS => run_loadVar_row _ _ 23 23 (#[.int .i64 q.1, .int .i64 q.2.1, .int .i64 q.2.2]) (0, 0) _ hS.2.1 Try.underlying23 rfl (by kernel_rfl))) hS28 rfl ?_
  try simp only [zP,zN,zA,zB,zC]
  refine pureh_ (i := 1) (N := some 16) (v := .slice (some a) L.length z) (msk 12 3) rfl rfl (by kernel_rfl) hP (y_move rfl (by rfl) (by rfl)) rfl ?_
  try simp only [zP,zN,zA,zB,zC]
  refine pureh_ (i := 2) (N := some 17) (v := .int .i64 k) (msk 12 7) rfl rfl (by kernel_rfl) hP (y_move rfl (by rfl) (by rfl)) rfl ?_
  try simp only [zP,zN,zA,zB,zC]
  refine pureh_ (i := 3) (N := some 18) (v := .pointer (some (a.add (k * 3)))) (msk 12 15) rfl rfl (by kernel_rfl) hP (y_run (by rfl) (fun W => by have d := D11.out; go_simp)) rfl ?_
  try simp only [zP,zN,zA,zB,zC]
  refine takeh_ (i := 4) (N := some 19) (v := .agg #[.int .i64 r.1, .int .i64 r.2.1, .int .i64 r.2.2]) (msk 12 31) rfl rfl (by kernel_rfl) hP (y_load (p := (a.add (k * 3))) rfl (by rfl) (by rfl) (fun W hS => run_loadVar_at (cs := r3C r) (src_at r3C_len hS.1 ho.out) Try.underlying23 rfl (by kernel_rfl))) hS28 rfl ?_
  try simp only [zP,zN,zA,zB,zC]
  refine two_ (i := 5) (j := 9) (Ni := some 20) (Nj := some 6) (msk 12 63) (msk 12 543) rfl rfl rfl rfl (by kernel_rfl) (by simp) (by simp) (fun K29 hK29 => ?_) (fun K30 hK30 => ?_)
  ·refine e_call Try.func60 (by kernel_rfl) rfl #[.agg (#[.int .i64 q.1, .int .i64 q.2.1, .int .i64 q.2.2]), .agg #[.int .i64 r.1, .int .i64 r.2.1, .int .i64 r.2.2]] (by rfl) rfl rfl (mp2 rfl rfl) ((by have h9 := dadd_ (w := w26) (x0 := q.1) (x1 := q.2.1) (x2 := q.2.2) (y0 := r.1) (y1 := r.2.1) (y2 := r.2.2) (qh hi.out) (qh (HL3.out _ (List.mem_of_getElem? ho.out))); rw [show add3 (q.1, q.2.1, q.2.2) (r.1, r.2.1, r.2.2) = add3 q r from rfl, HOK.out] at h9; exact h9)) ?_
   rintro en w32 ⟨rfl, cc31⟩
   refine ⟨_, rfl, ?_⟩
   replace C0 := qh (C0.out.trans' cc31 inw_nil)
   replace SL := qh (SL.out.chx cc31 xnin_nil)
   replace FR := qh (cc31.blk FR.out nin_nil)
   replace FS := qh (cc31.blk FS.out nin_nil)
   clear cc31
   refine hK29.out _ _ ⟨SL.out, FS.out, trivial⟩ (fun hS33 => ?_); clear hK29 K29
   try simp only [zP,zN,zA,zB,zC]
   refine pureh_ (i := 6) (N := some 14) (v := .tuple #[.agg #[.int .i64 (add3 q r).1.1, .int .i64 (add3 q r).1.2.1, .int .i64 (add3 q r).1.2.2], .bool b9]) (msk 12 127) rfl rfl (by kernel_rfl) hP (y_move rfl (by rfl) (by rfl)) rfl ?_
   try simp only [zP,zN,zA,zB,zC]
   refine pureh_ (i := 7) (N := some 21) (v := .agg #[.int .i64 (add3 q r).1.1, .int .i64 (add3 q r).1.2.1, .int .i64 (add3 q r).1.2.2]) (msk 12 255) rfl rfl (by kernel_rfl) hP (y_run (by rfl) (fun W => by go_simp)) rfl ?_
   try simp only [zP,zN,zA,zB,zC]
   refine pureh_ (i := 8) (N := some 22) (v := .bool b9) (msk 12 511) rfl rfl (by kernel_rfl) hP (y_run (by rfl) (fun W => by go_simp)) rfl ?_
   try simp only [zP,zN,zA,zB,zC]
   refine one_ (i := 9) (N := some 6) (msk 12 1023) rfl rfl (by kernel_rfl) (by simp) (fun K34 hK34 => ?_)
   refine e_alloc (by rfl) rfl rfl (cs := #[.int .i64 0, .int .i64 0, .int .i64 0]) (by kernel_rfl) ?_
   rintro g35 w36 HG37 B38 C39
   have nw40 := qh (show w.heap.size ≤ g35 by have := C0.out.size; have := HG37.out; omega)
   have nx41 := qh (SL.out.ne_new (by decide) HG37)
   have ne42 := qh (FR.out.ne_new HG37)
   have ne43 := qh (FS.out.ne_new HG37)
   replace C0 := qh (C0.out.trans' C39 inw_nil)
   replace SL := qh (SL.out.chx C39 xnin_nil)
   replace FR := qh (C39.blk FR.out nin_nil)
   replace FS := qh (C39.blk FS.out nin_nil)
   have Fg35 := qh (show Blk w36 g35 (#[.int .i64 0, .int .i64 0, .int .i64 0]) 23 from B38); clear B38 C39
   refine hK34.out _ _ ⟨SL.out, FS.out, trivial⟩ (fun hS44 => ?_); clear hK34 K34
   try simp only [zP,zN,zA,zB,zC]
   refine one_ (i := 10) (N := none) (msk 12 2047) rfl rfl (by kernel_rfl) (by simp) (fun K45 hK45 => ?_)
   refine e_storeN (cells := #[.int .i64 (add3 q r).1.1, .int .i64 (add3 q r).1.2.1, .int .i64 (add3 q r).1.2.2]) (by rfl) rfl rfl (by rfl) (by rfl) Fg35.out (by kernel_rfl) (by rfl) (ones_cons rfl (ones_cons rfl (ones_cons rfl ones_nil))) ?_
   rintro w46 B47 C48
   replace C0 := qh (C0.out.trans' C48 (inw_cons (.inr nw40.out) inw_nil))
   replace SL := qh (SL.out.chx C48 (xnin_cons nx41.out xnin_nil))
   replace FR := qh (C48.blk FR.out (nin_cons ne42.out nin_nil))
   replace FS := qh (C48.blk FS.out (nin_cons ne43.out nin_nil))
   clear Fg35; have Fg35 := qh (show Blk w46 g35 (#[.int .i64 (add3 q r).1.1, .int .i64 (add3 q r).1.2.1, .int .i64 (add3 q r).1.2.2]) 23 from B47); clear B47 C48
   refine hK45.out _ _ ⟨SL.out, FS.out, trivial⟩ (fun hS49 => ?_); clear hK45 K45
   try simp only [zP,zN,zA,zB,zC]
   refine pureh_ (i := 11) (N := some 7) (v := .bool b9) (msk 12 4095) rfl rfl (by kernel_rfl) hP (y_assign rfl (by rfl) (by rfl)) rfl ?_
   try simp only [zP,zN,zA,zB,zC]
   refine done_ (by kernel_rfl) (th_norm (hK25 _ _ ?_)); clear hK25 K25
   refine sq_ (fun K50 hK50 => ?_)
   rcases Bool.eq_false_or_eq_true b9 with rfl | rfl
   ·refine s_ (fun K51 hK51 => ?_)
    refine pu_ (v := .bool true) (y_move rfl (by rfl) (by rfl)) ?_
    try simp only [zP,zN,zA,zB,zC]
    refine pu_ (v := .bool false) (y_run (by rfl) (fun W => by go_simp)) ?_
    try simp only [zP,zN,zA,zB,zC]
    refine nl_ (hK51 _ _ ?_); clear hK51 K51
    refine wp_cond_false rfl ?_
    refine wp_skip ?_
    refine th_norm (hK50 _ _ ?_); try clear hK50 K50
    refine r_ ?_
    refine ld_ (v := .agg (#[.int .i64 (add3 q r).1.1, .int .i64 (add3 q r).1.2.1, .int .i64 (add3 q r).1.2.2])) rfl (by rfl) (by rfl) (run_loadVar_row _ _ 23 23 (#[.int .i64 (add3 q r).1.1, .int .i64 (add3 q r).1.2.1, .int .i64 (add3 q r).1.2.2]) (0, 0) _ Fg35.out Try.underlying23 rfl (by kernel_rfl)) ?_
    try simp only [zP,zN,zA,zB,zC]
    refine ef_ (fun K52 hK52 => ?_)
    refine e_storeN (cells := (#[.int .i64 (add3 q r).1.1, .int .i64 (add3 q r).1.2.1, .int .i64 (add3 q r).1.2.2])) (by rfl) rfl rfl (by rfl) (by rfl) FS.out (by kernel_rfl) (by rfl) (ones_cons rfl (ones_cons rfl (ones_cons rfl ones_nil))) ?_
    rintro w53 B54 C55
    replace C0 := qh (C0.out.trans' C55 (inw_cons (.inr nw15.out) inw_nil))
    replace SL := qh (SL.out.chx C55 (xnin_cons nx16.out xnin_nil))
    replace FR := qh (C55.blk FR.out (nin_cons ne17.out nin_nil))
    replace Fg35 := qh (C55.blk Fg35.out (nin_cons (Ne.symm ne43.out) nin_nil))
    clear FS; have FS := qh (show Blk w53 gs ((#[.int .i64 (add3 q r).1.1, .int .i64 (add3 q r).1.2.1, .int .i64 (add3 q r).1.2.2])) 23 from B54); clear B54 C55
    refine hK52 _ _ ?_; clear hK52 K52
    try simp only [zP,zN,zA,zB,zC]
    refine nl_ ?_
    refine ib_norm ?_
    refine th_norm (hK24 _ _ ?_); try clear hK24 K24
    refine r_ ?_
    refine pu_ (v := .int .i64 k) (y_move rfl (by rfl) (by rfl)) ?_
    try simp only [zP,zN,zA,zB,zC]
    refine pu_ (v := .int .i64 (k + 1 : Nat)) (y_run (by rfl) (fun W => by have d := Wk.out; go_simp)) ?_
    try simp only [zP,zN,zA,zB,zC]
    refine pu_ (v := .int .i64 (k + 1 : Nat)) (y_assign rfl (by rfl) (by rfl)) ?_
    try simp only [zP,zN,zA,zB,zC]
    refine nl_ ?_
    exact th_norm (hK21 (kq - 1) _ _ (by have := hlt.out; have := hk.out; omega) ⟨k + 1, (add3 q r).1, rfl, C0, SL, FR, FS, qh ⟨by have := hlt.out; omega, by have := hlt.out; have := hk.out; omega⟩, qh (sum_step hs.out ho.out HOK.out), qh add_i3⟩)
   ·have HR := qh (sum_fail hs.out ho.out HOK.out)
    refine s_ (fun K56 hK56 => ?_)
    refine pu_ (v := .bool false) (y_move rfl (by rfl) (by rfl)) ?_
    try simp only [zP,zN,zA,zB,zC]
    refine pu_ (v := .bool true) (y_run (by rfl) (fun W => by go_simp)) ?_
    try simp only [zP,zN,zA,zB,zC]
    refine nl_ (hK56 _ _ ?_); clear hK56 K56
    refine wp_cond_true rfl ?_
    refine s_ (fun K57 hK57 => ?_)
    refine pu_ (v := .agg #[.int .i64 0, .int .i64 0, .int .i64 0]) (y_build (vs := #[]) (by rfl) rfl (by first | rfl | (simp only [List.map_toArray, List.map_cons, List.map_nil]; first | done | rfl)) (by kernel_rfl)) ?_
    try simp only [zP,zN,zA,zB,zC]
    refine ef_ (fun K58 hK58 => ?_)
    refine e_storeN (cells := #[.int .i64 0, .int .i64 0, .int .i64 0]) (by rfl) rfl rfl (by rfl) (by rfl) FR.out (by kernel_rfl) (by rfl) (ones_cons rfl (ones_cons rfl (ones_cons rfl ones_nil))) ?_
    rintro w59 B60 C61
    replace C0 := qh (C0.out.trans' C61 (inw_cons (.inr nw7.out) inw_nil))
    replace SL := qh (SL.out.chx C61 (xnin_cons nx8.out xnin_nil))
    replace FS := qh (C61.blk FS.out (nin_cons (Ne.symm ne17.out) nin_nil))
    replace Fg35 := qh (C61.blk Fg35.out (nin_cons (Ne.symm ne42.out) nin_nil))
    clear FR; have FR := qh (show Blk w59 gr (#[.int .i64 0, .int .i64 0, .int .i64 0]) 23 from B60); clear B60 C61
    refine hK58 _ _ ?_; clear hK58 K58
    try simp only [zP,zN,zA,zB,zC]
    refine pu_ (v := .bool false) (y_assign rfl (by rfl) (by rfl)) ?_
    try simp only [zP,zN,zA,zB,zC]
    refine nl_ (hK57 _ _ ?_); clear hK57 K57
    refine wp_ret ?_
    refine th_ret ?_
    refine ib_ret ?_
    refine th_ret ?_
    refine th_ret ?_
    refine ib_ret ?_
    refine th_ret ?_
    refine hQ _ _ _ ?_
    refine bodyPost_ret (res2 rfl (rdv_cell (by rfl) (run_loadVar_row _ _ 23 23 (#[.int .i64 0, .int .i64 0, .int .i64 0]) (0, 0) _ FR.out Try.underlying23 rfl (by kernel_rfl))) (rdv_tmp (v := .bool false) (by rfl))) rfl ?_
    exact ⟨by rw [HR.out], C0.out⟩
  ·refine e_alloc (by rfl) rfl rfl (cs := #[.int .i64 0, .int .i64 0, .int .i64 0]) (by kernel_rfl) ?_
   rintro g62 w63 HG64 B65 C66
   have nw67 := qh (show w.heap.size ≤ g62 by have := C0.out.size; have := HG64.out; omega)
   have nx68 := qh (SL.out.ne_new (by decide) HG64)
   have ne69 := qh (FR.out.ne_new HG64)
   have ne70 := qh (FS.out.ne_new HG64)
   replace C0 := qh (C0.out.trans' C66 inw_nil)
   replace SL := qh (SL.out.chx C66 xnin_nil)
   replace FR := qh (C66.blk FR.out nin_nil)
   replace FS := qh (C66.blk FS.out nin_nil)
   have Fg62 := qh (show Blk w63 g62 (#[.int .i64 0, .int .i64 0, .int .i64 0]) 23 from B65); clear B65 C66
   refine hK30.out _ _ ⟨SL.out, FS.out, trivial⟩ (fun hS71 => ?_); clear hK30 K30
   try simp only [zP,zN,zA,zB,zC]
   refine one_ (i := 5) (N := some 20) (msk 12 575) rfl rfl (by kernel_rfl) (by simp) (fun K72 hK72 => ?_)
   refine e_call Try.func60 (by kernel_rfl) rfl #[.agg (#[.int .i64 q.1, .int .i64 q.2.1, .int .i64 q.2.2]), .agg #[.int .i64 r.1, .int .i64 r.2.1, .int .i64 r.2.2]] (by rfl) rfl rfl (mp2 rfl rfl) ((by have h9 := dadd_ (w := w63) (x0 := q.1) (x1 := q.2.1) (x2 := q.2.2) (y0 := r.1) (y1 := r.2.1) (y2 := r.2.2) (qh hi.out) (qh (HL3.out _ (List.mem_of_getElem? ho.out))); rw [show add3 (q.1, q.2.1, q.2.2) (r.1, r.2.1, r.2.2) = add3 q r from rfl, HOK.out] at h9; exact h9)) ?_
   rintro en w74 ⟨rfl, cc73⟩
   refine ⟨_, rfl, ?_⟩
   replace C0 := qh (C0.out.trans' cc73 inw_nil)
   replace SL := qh (SL.out.chx cc73 xnin_nil)
   replace FR := qh (cc73.blk FR.out nin_nil)
   replace FS := qh (cc73.blk FS.out nin_nil)
   replace Fg62 := qh (cc73.blk Fg62.out nin_nil)
   clear cc73
   refine hK72.out _ _ ⟨SL.out, FS.out, trivial⟩ (fun hS75 => ?_); clear hK72 K72
   try simp only [zP,zN,zA,zB,zC]
   refine pureh_ (i := 6) (N := some 14) (v := .tuple #[.agg #[.int .i64 (add3 q r).1.1, .int .i64 (add3 q r).1.2.1, .int .i64 (add3 q r).1.2.2], .bool b9]) (msk 12 639) rfl rfl (by kernel_rfl) hP (y_move rfl (by rfl) (by rfl)) rfl ?_
   try simp only [zP,zN,zA,zB,zC]
   refine pureh_ (i := 7) (N := some 21) (v := .agg #[.int .i64 (add3 q r).1.1, .int .i64 (add3 q r).1.2.1, .int .i64 (add3 q r).1.2.2]) (msk 12 767) rfl rfl (by kernel_rfl) hP (y_run (by rfl) (fun W => by go_simp)) rfl ?_
   try simp only [zP,zN,zA,zB,zC]
   refine pureh_ (i := 8) (N := some 22) (v := .bool b9) (msk 12 1023) rfl rfl (by kernel_rfl) hP (y_run (by rfl) (fun W => by go_simp)) rfl ?_
   try simp only [zP,zN,zA,zB,zC]
   refine one_ (i := 10) (N := none) (msk 12 2047) rfl rfl (by kernel_rfl) (by simp) (fun K76 hK76 => ?_)
   refine e_storeN (cells := #[.int .i64 (add3 q r).1.1, .int .i64 (add3 q r).1.2.1, .int .i64 (add3 q r).1.2.2]) (by rfl) rfl rfl (by rfl) (by rfl) Fg62.out (by kernel_rfl) (by rfl) (ones_cons rfl (ones_cons rfl (ones_cons rfl ones_nil))) ?_
   rintro w77 B78 C79
   replace C0 := qh (C0.out.trans' C79 (inw_cons (.inr nw67.out) inw_nil))
   replace SL := qh (SL.out.chx C79 (xnin_cons nx68.out xnin_nil))
   replace FR := qh (C79.blk FR.out (nin_cons ne69.out nin_nil))
   replace FS := qh (C79.blk FS.out (nin_cons ne70.out nin_nil))
   clear Fg62; have Fg62 := qh (show Blk w77 g62 (#[.int .i64 (add3 q r).1.1, .int .i64 (add3 q r).1.2.1, .int .i64 (add3 q r).1.2.2]) 23 from B78); clear B78 C79
   refine hK76.out _ _ ⟨SL.out, FS.out, trivial⟩ (fun hS80 => ?_); clear hK76 K76
   try simp only [zP,zN,zA,zB,zC]
   refine pureh_ (i := 11) (N := some 7) (v := .bool b9) (msk 12 4095) rfl rfl (by kernel_rfl) hP (y_assign rfl (by rfl) (by rfl)) rfl ?_
   try simp only [zP,zN,zA,zB,zC]
   refine done_ (by kernel_rfl) (th_norm (hK25 _ _ ?_)); clear hK25 K25
   refine sq_ (fun K81 hK81 => ?_)
   rcases Bool.eq_false_or_eq_true b9 with rfl | rfl
   ·refine s_ (fun K82 hK82 => ?_)
    refine pu_ (v := .bool true) (y_move rfl (by rfl) (by rfl)) ?_
    try simp only [zP,zN,zA,zB,zC]
    refine pu_ (v := .bool false) (y_run (by rfl) (fun W => by go_simp)) ?_
    try simp only [zP,zN,zA,zB,zC]
    refine nl_ (hK82 _ _ ?_); clear hK82 K82
    refine wp_cond_false rfl ?_
    refine wp_skip ?_
    refine th_norm (hK81 _ _ ?_); try clear hK81 K81
    refine r_ ?_
    refine ld_ (v := .agg (#[.int .i64 (add3 q r).1.1, .int .i64 (add3 q r).1.2.1, .int .i64 (add3 q r).1.2.2])) rfl (by rfl) (by rfl) (run_loadVar_row _ _ 23 23 (#[.int .i64 (add3 q r).1.1, .int .i64 (add3 q r).1.2.1, .int .i64 (add3 q r).1.2.2]) (0, 0) _ Fg62.out Try.underlying23 rfl (by kernel_rfl)) ?_
    try simp only [zP,zN,zA,zB,zC]
    refine ef_ (fun K83 hK83 => ?_)
    refine e_storeN (cells := (#[.int .i64 (add3 q r).1.1, .int .i64 (add3 q r).1.2.1, .int .i64 (add3 q r).1.2.2])) (by rfl) rfl rfl (by rfl) (by rfl) FS.out (by kernel_rfl) (by rfl) (ones_cons rfl (ones_cons rfl (ones_cons rfl ones_nil))) ?_
    rintro w84 B85 C86
    replace C0 := qh (C0.out.trans' C86 (inw_cons (.inr nw15.out) inw_nil))
    replace SL := qh (SL.out.chx C86 (xnin_cons nx16.out xnin_nil))
    replace FR := qh (C86.blk FR.out (nin_cons ne17.out nin_nil))
    replace Fg62 := qh (C86.blk Fg62.out (nin_cons (Ne.symm ne70.out) nin_nil))
    clear FS; have FS := qh (show Blk w84 gs ((#[.int .i64 (add3 q r).1.1, .int .i64 (add3 q r).1.2.1, .int .i64 (add3 q r).1.2.2])) 23 from B85); clear B85 C86
    refine hK83 _ _ ?_; clear hK83 K83
    try simp only [zP,zN,zA,zB,zC]
    refine nl_ ?_
    refine ib_norm ?_
    refine th_norm (hK24 _ _ ?_); try clear hK24 K24
    refine r_ ?_
    refine pu_ (v := .int .i64 k) (y_move rfl (by rfl) (by rfl)) ?_
    try simp only [zP,zN,zA,zB,zC]
    refine pu_ (v := .int .i64 (k + 1 : Nat)) (y_run (by rfl) (fun W => by have d := Wk.out; go_simp)) ?_
    try simp only [zP,zN,zA,zB,zC]
    refine pu_ (v := .int .i64 (k + 1 : Nat)) (y_assign rfl (by rfl) (by rfl)) ?_
    try simp only [zP,zN,zA,zB,zC]
    refine nl_ ?_
    exact th_norm (hK21 (kq - 1) _ _ (by have := hlt.out; have := hk.out; omega) ⟨k + 1, (add3 q r).1, rfl, C0, SL, FR, FS, qh ⟨by have := hlt.out; omega, by have := hlt.out; have := hk.out; omega⟩, qh (sum_step hs.out ho.out HOK.out), qh add_i3⟩)
   ·have HR := qh (sum_fail hs.out ho.out HOK.out)
    refine s_ (fun K87 hK87 => ?_)
    refine pu_ (v := .bool false) (y_move rfl (by rfl) (by rfl)) ?_
    try simp only [zP,zN,zA,zB,zC]
    refine pu_ (v := .bool true) (y_run (by rfl) (fun W => by go_simp)) ?_
    try simp only [zP,zN,zA,zB,zC]
    refine nl_ (hK87 _ _ ?_); clear hK87 K87
    refine wp_cond_true rfl ?_
    refine s_ (fun K88 hK88 => ?_)
    refine pu_ (v := .agg #[.int .i64 0, .int .i64 0, .int .i64 0]) (y_build (vs := #[]) (by rfl) rfl (by first | rfl | (simp only [List.map_toArray, List.map_cons, List.map_nil]; first | done | rfl)) (by kernel_rfl)) ?_
    try simp only [zP,zN,zA,zB,zC]
    refine ef_ (fun K89 hK89 => ?_)
    refine e_storeN (cells := #[.int .i64 0, .int .i64 0, .int .i64 0]) (by rfl) rfl rfl (by rfl) (by rfl) FR.out (by kernel_rfl) (by rfl) (ones_cons rfl (ones_cons rfl (ones_cons rfl ones_nil))) ?_
    rintro w90 B91 C92
    replace C0 := qh (C0.out.trans' C92 (inw_cons (.inr nw7.out) inw_nil))
    replace SL := qh (SL.out.chx C92 (xnin_cons nx8.out xnin_nil))
    replace FS := qh (C92.blk FS.out (nin_cons (Ne.symm ne17.out) nin_nil))
    replace Fg62 := qh (C92.blk Fg62.out (nin_cons (Ne.symm ne69.out) nin_nil))
    clear FR; have FR := qh (show Blk w90 gr (#[.int .i64 0, .int .i64 0, .int .i64 0]) 23 from B91); clear B91 C92
    refine hK89 _ _ ?_; clear hK89 K89
    try simp only [zP,zN,zA,zB,zC]
    refine pu_ (v := .bool false) (y_assign rfl (by rfl) (by rfl)) ?_
    try simp only [zP,zN,zA,zB,zC]
    refine nl_ (hK88 _ _ ?_); clear hK88 K88
    refine wp_ret ?_
    refine th_ret ?_
    refine ib_ret ?_
    refine th_ret ?_
    refine th_ret ?_
    refine ib_ret ?_
    refine th_ret ?_
    refine hQ _ _ _ ?_
    refine bodyPost_ret (res2 rfl (rdv_cell (by rfl) (run_loadVar_row _ _ 23 23 (#[.int .i64 0, .int .i64 0, .int .i64 0]) (0, 0) _ FR.out Try.underlying23 rfl (by kernel_rfl))) (rdv_tmp (v := .bool false) (by rfl))) rfl ?_
    exact ⟨by rw [HR.out], C0.out⟩
 ·have D11 := qh (show ¬ k < L.length by have := hk.out; omega)
  have HR := qh (sum_end hs.out h)
  clear h
  refine s_ (fun K93 hK93 => ?_)
  refine pu_ (v := .int .i64 k) (y_move rfl (by rfl) (by rfl)) ?_
  try simp only [zP,zN,zA,zB,zC]
  refine pu_ (v := .slice A L.length z) (y_move rfl (by rfl) (by rfl)) ?_
  try simp only [zP,zN,zA,zB,zC]
  refine pu_ (v := .int .i64 L.length) (y_run (by rfl) (fun W => by go_simp)) ?_
  try simp only [zP,zN,zA,zB,zC]
  refine pu_ (v := .bool false) (y_run (by rfl) (fun W => by have d := D11.out; go_simp)) ?_
  try simp only [zP,zN,zA,zB,zC]
  refine nl_ (hK93 _ _ ?_); clear hK93 K93
  refine wp_cond_false rfl ?_
  refine wp_exit ?_
  refine th_exit ?_
  refine th_exit ?_
  refine ib_exit ?_
  refine th_norm (hK18 _ _ ?_); try clear hK18 K18
  refine s_ (fun K94 hK94 => ?_)
  refine ld_ (v := .agg (#[.int .i64 q.1, .int .i64 q.2.1, .int .i64 q.2.2])) rfl (by rfl) (by rfl) (run_loadVar_row _ _ 23 23 (#[.int .i64 q.1, .int .i64 q.2.1, .int .i64 q.2.2]) (0, 0) _ FS.out Try.underlying23 rfl (by kernel_rfl)) ?_
  try simp only [zP,zN,zA,zB,zC]
  refine ef_ (fun K95 hK95 => ?_)
  refine e_storeN (cells := (#[.int .i64 q.1, .int .i64 q.2.1, .int .i64 q.2.2])) (by rfl) rfl rfl (by rfl) (by rfl) FR.out (by kernel_rfl) (by rfl) (ones_cons rfl (ones_cons rfl (ones_cons rfl ones_nil))) ?_
  rintro w96 B97 C98
  replace C0 := qh (C0.out.trans' C98 (inw_cons (.inr nw7.out) inw_nil))
  replace SL := qh (SL.out.chx C98 (xnin_cons nx8.out xnin_nil))
  replace FS := qh (C98.blk FS.out (nin_cons (Ne.symm ne17.out) nin_nil))
  clear FR; have FR := qh (show Blk w96 gr ((#[.int .i64 q.1, .int .i64 q.2.1, .int .i64 q.2.2])) 23 from B97); clear B97 C98
  refine hK95 _ _ ?_; clear hK95 K95
  try simp only [zP,zN,zA,zB,zC]
  refine pu_ (v := .bool true) (y_assign rfl (by rfl) (by rfl)) ?_
  try simp only [zP,zN,zA,zB,zC]
  refine nl_ (hK94 _ _ ?_); clear hK94 K94
  refine wp_ret ?_
  refine hQ _ _ _ ?_
  refine bodyPost_ret (res2 rfl (rdv_cell (by rfl) (run_loadVar_row _ _ 23 23 ((#[.int .i64 q.1, .int .i64 q.2.1, .int .i64 q.2.2])) (0, 0) _ FR.out Try.underlying23 rfl (by kernel_rfl))) (rdv_tmp (v := .bool true) (by rfl))) rfl ?_
  exact ⟨by rw [HR.out], C0.out⟩
theorem sum_zero : ∀ {L : List R3} {s : R3}, (sum3 s L).2 = false → sum3 s L = ((0, 0, 0), false)
 | [], s, h => by cases h
 | r :: L, s, h => by
  unfold sum3 at h ⊢
  split
  ·rename_i h1
   rw [if_pos h1] at h
   exact sum_zero h
  ·rfl
theorem dof_ {s0 s1 : Value} {A2 A3 : Option Addr} {c2 c3 : Nat} {M N : List R3} {z1 z2 pr : Int} (HS0 : s0.oneCell' = true) (HS1 : s1.oneCell' = true) (HN : Hid (M.length ≤ 1000 ∧ N.length ≤ 1000)) (HR2 : Hid (reqF w A2 N.length N)) (HR3 : Hid (reqF w A3 M.length M))  :
  Calls Try.prog 43 #[.agg #[s0, s1, .slice A2 N.length c2, .slice A3 M.length c3, .int .i64 z1, .int .i64 z2, .int .i64 pr]] w fun en w' => en = .returned (.tuple #[.agg #[.int .i64 (of3 M N).1.1, .int .i64 (of3 M N).1.2.1, .int .i64 (of3 M N).1.2.2], .bool (of3 M N).2]) ∧ Ch [] w w' := by
 have C0 := qh (Ch.refl [] w)
 obtain ⟨i23, I23⟩ := Info.of info23
 go_enter Try.func43, Try.ntmps43
 refine q_ (fun Q hQ hP => ?_)
 refine s_ (fun K1 hK1 => ?_)
 refine ef_ (fun K2 hK2 => ?_)
 refine e_boxN (by rfl) rfl rfl (cs := #[s0, s1, .slice A2 N.length c2, .slice A3 M.length c3, .int .i64 z1, .int .i64 z2, .int .i64 pr]) (v := .agg #[s0, s1, .slice A2 N.length c2, .slice A3 M.length c3, .int .i64 z1, .int .i64 z2, .int .i64 pr]) (by rfl) rfl ?_
 rintro g1 w3 HG4 B5 C6
 have nw7 := qh (show w.heap.size ≤ g1 by have := C0.out.size; have := HG4.out; omega)
 replace C0 := qh (C0.out.trans' C6 inw_nil)
 have Fg1 := qh (show Blk w3 g1 (#[s0, s1, .slice A2 N.length c2, .slice A3 M.length c3, .int .i64 z1, .int .i64 z2, .int .i64 pr]) 39 from B5); clear B5 C6
 refine hK2 _ _ ?_; clear hK2 K2
 try simp only [zP,zN,zA,zB,zC]
 refine ef_ (fun K8 hK8 => ?_)
 refine e_alloc (by rfl) rfl rfl (cs := #[.int .i64 0, .int .i64 0, .int .i64 0]) (by kernel_rfl) ?_
 rintro gr w9 HG10 B11 C12
 have nw13 := qh (show w.heap.size ≤ gr by have := C0.out.size; have := HG10.out; omega)
 replace C0 := qh (C0.out.trans' C12 inw_nil)
 replace Fg1 := qh (C12.blk Fg1.out nin_nil)
 have Fgr := qh (show Blk w9 gr (#[.int .i64 0, .int .i64 0, .int .i64 0]) 23 from B11); clear B11 C12
 refine hK8 _ _ ?_; clear hK8 K8
 try simp only [zP,zN,zA,zB,zC]
 refine pu_ (v := .bool false) (y_assign rfl (by rfl) (by rfl)) ?_
 try simp only [zP,zN,zA,zB,zC]
 refine nl_ (hK1 _ _ ?_); clear hK1 K1
 refine s_ (fun K14 hK14 => ?_)
 refine pu_ (v := .slice none 0 0) (y_assign rfl (by rfl) (by rfl)) ?_
 try simp only [zP,zN,zA,zB,zC]
 refine nl_ (hK14 _ _ ?_); clear hK14 K14
 refine sq_ (fun K15 hK15 => ?_)
 refine s_ (fun K16 hK16 => ?_)
 refine pu_ (v := .int .i64 0) (y_assign rfl (by rfl) (by rfl)) ?_
 try simp only [zP,zN,zA,zB,zC]
 refine nl_ (hK16 _ _ ?_); clear hK16 K16
 refine wp_block ?_
 have OT0 := qh (show OwnS w9 w.heap.size 23 3 (.slice none 0 0) 0 ((M.take 0).flatMap r3C) from OwnS.nil _ _ _ _ _)
 refine loopk_ (fun (kq : Nat) (a' : Act) (w' : World) => ∃ (k : Nat), ∃ (vt : Value), a' = ⟨#[uo a' 0, .pointer (some ⟨g1, 0, none⟩), .pointer (some ⟨gr, 0, none⟩), .bool false, vt, .int .i64 k, uo a' 6, uo a' 7, uo a' 8, uo a' 9, uo a' 10, uo a' 11, uo a' 12, uo a' 13, uo a' 14, uo a' 15, uo a' 16, uo a' 17, uo a' 18, uo a' 19, uo a' 20, uo a' 21, uo a' 22, uo a' 23, uo a' 24, uo a' 25, uo a' 26, uo a' 27, uo a' 28, uo a' 29, uo a' 30, uo a' 31, uo a' 32, uo a' 33, uo a' 34, uo a' 35, uo a' 36, uo a' 37, uo a' 38, uo a' 39, uo a' 40, uo a' 41, uo a' 42, uo a' 43, uo a' 44, uo a' 45, uo a' 46, uo a' 47, uo a' 48, uo a' 49], []⟩ ∧ Hid (Ch [] w w') ∧ Hid (Blk w' gr (#[.int .i64 0, .int .i64 0, .int .i64 0]) 23) ∧ Hid (Blk w' g1 (#[s0, s1, .slice A2 N.length c2, .slice A3 M.length c3, .int .i64 z1, .int .i64 z2, .int .i64 pr]) 39) ∧ Hid (OwnS w' w.heap.size 23 3 (vt) (k) ((M.take k).flatMap r3C)) ∧ Hid (k ≤ M.length ∧ kq + k = M.length) ∧ Hid (gr ∉ rl vt)) (M.length) (⟨0, _, rfl, C0, Fgr, Fg1, OT0, qh ⟨by omega, by omega⟩, qh (by simp [rl])⟩) ?_
 rintro kq a_ w17 ⟨k, vt, ha_, C0, FR, F1, OT, hk, hr⟩ K18 hK18
 obtain ⟨us, hus_⟩ : ∃ us, us = uo a_ := ⟨_, rfl⟩; try rw [← hus_] at ha_
 subst ha_; clear hus_
 refine sq_ (fun K19 hK19 => ?_)
 rcases at_ways' hk.out.1 with ⟨r, ho0, hlt0⟩ | h
 ·have hlt := qh hlt0
  have ho := qh ho0
  clear hlt0 ho0
  obtain ⟨hi3, a, q0, q1, q5, q6, q7, q8, q9, q10, hA, hcl, hone⟩ := HR3.out.2 k r ho.out
  subst hA
  have HI3 := qh hi3
  have HCL := qh (cells_sub (cells_ch C0.out hcl) 2 (ys := [.int .i64 r.1, .int .i64 r.2.1, .int .i64 r.2.2]) rfl)
  clear hi3 hcl hone
  have D13 := qh (show (k : Int) < (M.length : Int) by have := hlt.out; omega)
  have Wk := qh (show IntKind.i64.wrap ((k : Int) + 1) = ((k + 1 : Nat) : Int) by rw [wr64 (by have := hlt.out; have h7 := HN.out; omega)]; omega)
  refine s_ (fun K20 hK20 => ?_)
  refine pu_ (v := .int .i64 k) (y_move rfl (by rfl) (by rfl)) ?_
  try simp only [zP,zN,zA,zB,zC]
  refine pu_ (v := .pointer (some ⟨g1, 3, none⟩)) (y_run (by rfl) (fun W => by go_simp)) ?_
  try simp only [zP,zN,zA,zB,zC]
  refine ld_ (v := .slice (some a) M.length c3) rfl (by rfl) (by rfl) (run_load_one ((F1.out.cell 3).trans rfl) Try.underlying37 rfl) ?_
  try simp only [zP,zN,zA,zB,zC]
  refine pu_ (v := .int .i64 M.length) (y_run (by rfl) (fun W => by go_simp)) ?_
  try simp only [zP,zN,zA,zB,zC]
  refine pu_ (v := .bool true) (y_run (by rfl) (fun W => by have d := D13.out; go_simp)) ?_
  try simp only [zP,zN,zA,zB,zC]
  refine nl_ (hK20 _ _ ?_); clear hK20 K20
  refine wp_cond_true rfl ?_
  refine wp_skip ?_
  refine th_norm (hK19 _ _ ?_); try clear hK19 K19
  refine sq_ (fun K21 hK21 => ?_)
  refine wp_block ?_
  refine r_ ?_
  refine pu_ (v := vt) (y_move rfl (by rfl) (by rfl)) ?_
  try simp only [zP,zN,zA,zB,zC]
  refine pu_ (v := .pointer (some ⟨g1, 3, none⟩)) (y_run (by rfl) (fun W => by go_simp)) ?_
  try simp only [zP,zN,zA,zB,zC]
  refine ld_ (v := .slice (some a) M.length c3) rfl (by rfl) (by rfl) (run_load_one ((F1.out.cell 3).trans rfl) Try.underlying37 rfl) ?_
  try simp only [zP,zN,zA,zB,zC]
  refine pu_ (v := .int .i64 k) (y_move rfl (by rfl) (by rfl)) ?_
  try simp only [zP,zN,zA,zB,zC]
  refine pu_ (v := .pointer (some (a.add (k * 11)))) (y_run (by rfl) (fun W => by have d := D13.out; go_simp)) ?_
  try simp only [zP,zN,zA,zB,zC]
  refine pu_ (v := .pointer (some ((a.add (k * 11)).add 2))) (y_run (by rfl) (fun W => by go_simp)) ?_
  try simp only [zP,zN,zA,zB,zC]
  refine ld_ (v := .agg #[.int .i64 r.1, .int .i64 r.2.1, .int .i64 r.2.2]) rfl (by rfl) (by rfl) (run_loadVar_at HCL.out Try.underlying23 rfl (by kernel_rfl)) ?_
  try simp only [zP,zN,zA,zB,zC]
  refine ef_ (fun K22 hK22 => ?_)
  refine e_buildS (parts := #[(0, .agg #[.int .i64 r.1, .int .i64 r.2.1, .int .i64 r.2.2])]) (cells := #[.int .i64 r.1, .int .i64 r.2.1, .int .i64 r.2.2]) (by rfl) rfl rfl (by first | rfl | (simp only [List.map_toArray, List.map_cons, List.map_nil]; first | done | rfl)) Try.underlying93 I23.hi I23.hz I23.hs (by decide) (by decide) (by kernel_rfl) ?_
  rintro g23 w24 HG25 B26 C27
  have nw28 := qh (show w.heap.size ≤ g23 by have := C0.out.size; have := HG25.out; omega)
  have ne29 := qh (FR.out.ne_new HG25)
  have nr30 := qh (OT.out.ne_new HG25)
  replace C0 := qh (C0.out.trans' C27 inw_nil)
  replace FR := qh (C27.blk FR.out nin_nil)
  replace F1 := qh (C27.blk F1.out nin_nil)
  replace OT := qh (OT.out.ch C27 rnin_nil)
  replace HCL := qh (cells_ch C27 HCL.out)
  have Fg23 := qh (show Blk w24 g23 (#[.int .i64 r.1, .int .i64 r.2.1, .int .i64 r.2.2]) 23 from B26); clear B26 C27
  refine hK22 _ _ ?_; clear hK22 K22
  try simp only [zP,zN,zA,zB,zC]
  refine ef_ (fun K31 hK31 => ?_)
  refine e_append (by rfl) rfl rfl (w.heap.size) 23 _ _ 3 24 Try.underlying93 I23.hi I23.hz I23.hs I23.hb rfl (by decide) (vt) (k) ((M.take k).flatMap r3C) (by rfl) OT.out (.slice (some ⟨g23, 0, none⟩) 1 1) 1 ((r3C r)) (by rfl) ⟨rfl, .inr ⟨_, _, rfl, CellsAt.blk Fg23.out 0⟩⟩ (ones_cons rfl (ones_cons rfl (ones_cons rfl ones_nil))) (by unfold maxLen; have := hlt.out; have := HN.out; omega) (by have := hlt.out; have := HN.out; omega) C0.out.size ?_
  rintro v32 w33 O34 C35 R36 -
  have nr38 := qh (show gr ∉ rl v32 from fun hk => (R36 _ hk).elim hr.out (fun h => by have := FR.out.lt; omega))
  have nr39 := qh (show g23 ∉ rl v32 from fun hk => (R36 _ hk).elim nr30.out (fun h => by have := Fg23.out.lt; omega))
  replace C0 := qh (C0.out.trans' C35 (fun x hx => .inr (OT.out.lt x hx).1))
  replace FR := qh (C35.blk FR.out hr.out)
  replace F1 := qh (C35.blk F1.out (OT.out.ne F1.out (by decide)))
  replace Fg23 := qh (C35.blk Fg23.out nr30.out)
  clear HCL
  clear OT
  have OT := qh (show OwnS w33 w.heap.size 23 3 (v32) (k + 1) ((M.take k).flatMap r3C ++ (r3C r)) from O34); clear O34 C35
  refine hK31 _ _ ?_; clear hK31 K31
  try simp only [zP,zN,zA,zB,zC]
  refine pu_ (v := v32) (y_assign rfl (by rfl) (by rfl)) ?_
  try simp only [zP,zN,zA,zB,zC]
  refine nl_ ?_
  refine ib_norm ?_
  refine th_norm (hK21 _ _ ?_); try clear hK21 K21
  refine r_ ?_
  refine pu_ (v := .int .i64 k) (y_move rfl (by rfl) (by rfl)) ?_
  try simp only [zP,zN,zA,zB,zC]
  refine pu_ (v := .int .i64 (k + 1 : Nat)) (y_run (by rfl) (fun W => by have d := Wk.out; go_simp)) ?_
  try simp only [zP,zN,zA,zB,zC]
  refine pu_ (v := .int .i64 (k + 1 : Nat)) (y_assign rfl (by rfl) (by rfl)) ?_
  try simp only [zP,zN,zA,zB,zC]
  refine nl_ ?_
  exact th_norm (hK18 (kq - 1) _ _ (by have := hlt.out; have := hk.out; omega) ⟨k + 1, _, rfl, C0, FR, F1, qh (by have h9 := OT.out; rw [take_snoc ho.out, List.flatMap_append, List.flatMap_cons, List.flatMap_nil, List.append_nil]; exact h9), qh ⟨by have := hlt.out; omega, by have := hlt.out; have := hk.out; omega⟩, nr38⟩)
 ·have D13 := qh (show ¬ k < M.length by have := hk.out; omega)
  have HE := qh h
  clear h
  refine s_ (fun K40 hK40 => ?_)
  refine pu_ (v := .int .i64 k) (y_move rfl (by rfl) (by rfl)) ?_
  try simp only [zP,zN,zA,zB,zC]
  refine pu_ (v := .pointer (some ⟨g1, 3, none⟩)) (y_run (by rfl) (fun W => by go_simp)) ?_
  try simp only [zP,zN,zA,zB,zC]
  refine ld_ (v := .slice A3 M.length c3) rfl (by rfl) (by rfl) (run_load_one ((F1.out.cell 3).trans rfl) Try.underlying37 rfl) ?_
  try simp only [zP,zN,zA,zB,zC]
  refine pu_ (v := .int .i64 M.length) (y_run (by rfl) (fun W => by go_simp)) ?_
  try simp only [zP,zN,zA,zB,zC]
  refine pu_ (v := .bool false) (y_run (by rfl) (fun W => by have d := D13.out; go_simp)) ?_
  try simp only [zP,zN,zA,zB,zC]
  refine nl_ (hK40 _ _ ?_); clear hK40 K40
  refine wp_cond_false rfl ?_
  refine wp_exit ?_
  refine th_exit ?_
  refine th_exit ?_
  refine ib_exit ?_
  refine th_norm (hK15 _ _ ?_); try clear hK15 K15
  rcases Bool.eq_false_or_eq_true (sum3 (0, 0, 0) M).2 with h | h
  ·have OT' := qh (show OwnS w17 w.heap.size 23 3 (vt) M.length (M.flatMap r3C) from by have h9 := OT.out; rw [HE.out, List.take_length] at h9; exact h9); clear OT; have OT := OT'; clear OT'
   obtain ⟨Ao, co, hvo, -, -⟩ := OT.out.slice
   subst hvo
   have HOK := qh h
   clear h
   refine s_ (fun K41 hK41 => ?_)
   refine pu_ (v := .slice Ao M.length co) (y_move rfl (by rfl) (by rfl)) ?_
   try simp only [zP,zN,zA,zB,zC]
   refine ef_ (fun K42 hK42 => ?_)
   refine e_call Try.func50 (by kernel_rfl) rfl #[.slice Ao M.length co] (by rfl) rfl rfl (mp1 rfl) ((by have h9 := dsum3_ (w := w17) (qh HN.out.1) (qh (fun r hr => by obtain ⟨i, hi⟩ := List.mem_iff_getElem?.1 hr; exact (HR3.out.2 i r hi).1)) (qh OT.out.src); rw [HOK.out] at h9; exact h9)) ?_
   rintro en w44 ⟨rfl, cc43⟩
   refine ⟨_, rfl, ?_⟩
   replace C0 := qh (C0.out.trans' cc43 inw_nil)
   replace FR := qh (cc43.blk FR.out nin_nil)
   replace F1 := qh (cc43.blk F1.out nin_nil)
   replace OT := qh (OT.out.ch cc43 rnin_nil)
   clear cc43
   refine hK42 _ _ ?_; clear hK42 K42
   try simp only [zP,zN,zA,zB,zC]
   refine pu_ (v := .tuple #[.agg #[.int .i64 (sum3 (0, 0, 0) M).1.1, .int .i64 (sum3 (0, 0, 0) M).1.2.1, .int .i64 (sum3 (0, 0, 0) M).1.2.2], .bool true]) (y_move rfl (by rfl) (by rfl)) ?_
   try simp only [zP,zN,zA,zB,zC]
   refine pu_ (v := .agg #[.int .i64 (sum3 (0, 0, 0) M).1.1, .int .i64 (sum3 (0, 0, 0) M).1.2.1, .int .i64 (sum3 (0, 0, 0) M).1.2.2]) (y_run (by rfl) (fun W => by go_simp)) ?_
   try simp only [zP,zN,zA,zB,zC]
   refine pu_ (v := .bool true) (y_run (by rfl) (fun W => by go_simp)) ?_
   try simp only [zP,zN,zA,zB,zC]
   refine ef_ (fun K45 hK45 => ?_)
   refine e_alloc (by rfl) rfl rfl (cs := #[.int .i64 0, .int .i64 0, .int .i64 0]) (by kernel_rfl) ?_
   rintro gs w46 HG47 B48 C49
   have nw50 := qh (show w.heap.size ≤ gs by have := C0.out.size; have := HG47.out; omega)
   have ne51 := qh (FR.out.ne_new HG47)
   have nr52 := qh (OT.out.ne_new HG47)
   replace C0 := qh (C0.out.trans' C49 inw_nil)
   replace FR := qh (C49.blk FR.out nin_nil)
   replace F1 := qh (C49.blk F1.out nin_nil)
   replace OT := qh (OT.out.ch C49 rnin_nil)
   have Fgs := qh (show Blk w46 gs (#[.int .i64 0, .int .i64 0, .int .i64 0]) 23 from B48); clear B48 C49
   refine hK45 _ _ ?_; clear hK45 K45
   try simp only [zP,zN,zA,zB,zC]
   refine ef_ (fun K53 hK53 => ?_)
   refine e_storeN (cells := #[.int .i64 (sum3 (0, 0, 0) M).1.1, .int .i64 (sum3 (0, 0, 0) M).1.2.1, .int .i64 (sum3 (0, 0, 0) M).1.2.2]) (by rfl) rfl rfl (by rfl) (by rfl) Fgs.out (by kernel_rfl) (by rfl) (ones_cons rfl (ones_cons rfl (ones_cons rfl ones_nil))) ?_
   rintro w54 B55 C56
   replace C0 := qh (C0.out.trans' C56 (inw_cons (.inr nw50.out) inw_nil))
   replace FR := qh (C56.blk FR.out (nin_cons ne51.out nin_nil))
   replace F1 := qh (C56.blk F1.out (nin_cons (Blk.ne_type F1.out Fgs.out (by decide)) nin_nil))
   replace OT := qh (OT.out.ch C56 (rnin_cons nr52.out rnin_nil))
   clear Fgs; have Fgs := qh (show Blk w54 gs (#[.int .i64 (sum3 (0, 0, 0) M).1.1, .int .i64 (sum3 (0, 0, 0) M).1.2.1, .int .i64 (sum3 (0, 0, 0) M).1.2.2]) 23 from B55); clear B55 C56
   refine hK53 _ _ ?_; clear hK53 K53
   try simp only [zP,zN,zA,zB,zC]
   refine pu_ (v := .bool true) (y_assign rfl (by rfl) (by rfl)) ?_
   try simp only [zP,zN,zA,zB,zC]
   refine nl_ (hK41 _ _ ?_); clear hK41 K41
   refine sq_ (fun K57 hK57 => ?_)
   refine s_ (fun K58 hK58 => ?_)
   refine pu_ (v := .int .i64 0) (y_assign rfl (by rfl) (by rfl)) ?_
   try simp only [zP,zN,zA,zB,zC]
   refine nl_ (hK58 _ _ ?_); clear hK58 K58
   refine wp_block ?_
   refine loopk_ (fun (kq : Nat) (a' : Act) (w' : World) => ∃ (k : Nat), a' = ⟨#[uo a' 0, .pointer (some ⟨g1, 0, none⟩), .pointer (some ⟨gr, 0, none⟩), .bool false, uo a' 4, uo a' 5, .pointer (some ⟨gs, 0, none⟩), .bool true, .int .i64 k, uo a' 9, uo a' 10, uo a' 11, uo a' 12, uo a' 13, uo a' 14, uo a' 15, uo a' 16, uo a' 17, uo a' 18, uo a' 19, uo a' 20, uo a' 21, uo a' 22, uo a' 23, uo a' 24, uo a' 25, uo a' 26, uo a' 27, uo a' 28, uo a' 29, uo a' 30, uo a' 31, uo a' 32, uo a' 33, uo a' 34, uo a' 35, uo a' 36, uo a' 37, uo a' 38, uo a' 39, uo a' 40, uo a' 41, uo a' 42, uo a' 43, uo a' 44, uo a' 45, uo a' 46, uo a' 47, uo a' 48, uo a' 49], []⟩ ∧ Hid (Ch [] w w') ∧ Hid (Blk w' gr (#[.int .i64 0, .int .i64 0, .int .i64 0]) 23) ∧ Hid (Blk w' g1 (#[s0, s1, .slice A2 N.length c2, .slice A3 M.length c3, .int .i64 z1, .int .i64 z2, .int .i64 pr]) 39) ∧ Hid (Blk w' gs (#[.int .i64 ((N.take k).foldl max3 (sum3 (0, 0, 0) M).1).1, .int .i64 ((N.take k).foldl max3 (sum3 (0, 0, 0) M).1).2.1, .int .i64 ((N.take k).foldl max3 (sum3 (0, 0, 0) M).1).2.2]) 23) ∧ Hid (k ≤ N.length ∧ kq + k = N.length)) (N.length) (⟨0, rfl, C0, FR, F1, Fgs, qh ⟨by omega, by omega⟩⟩) ?_
   rintro kq a_ w59 ⟨k, ha_, C0, FR, F1, FS, hk⟩ K60 hK60
   obtain ⟨us, hus_⟩ : ∃ us, us = uo a_ := ⟨_, rfl⟩; try rw [← hus_] at ha_
   subst ha_; clear hus_
   refine sq_ (fun K61 hK61 => ?_)
   rcases at_ways' hk.out.1 with ⟨r, ho0, hlt0⟩ | h
   ·have hlt := qh hlt0
    have ho := qh ho0
    clear hlt0 ho0
    obtain ⟨hi3, a, q0, q1, q5, q6, q7, q8, q9, q10, hA, hcl, hone⟩ := HR2.out.2 k r ho.out
    subst hA
    have HI3 := qh hi3
    have HCL := qh (cells_sub (cells_ch C0.out hcl) 2 (ys := [.int .i64 r.1, .int .i64 r.2.1, .int .i64 r.2.2]) rfl)
    clear hi3 hcl hone
    have D36 := qh (show (k : Int) < (N.length : Int) by have := hlt.out; omega)
    have Wk := qh (show IntKind.i64.wrap ((k : Int) + 1) = ((k + 1 : Nat) : Int) by rw [wr64 (by have := hlt.out; have h7 := HN.out; omega)]; omega)
    refine s_ (fun K62 hK62 => ?_)
    refine pu_ (v := .bool true) (y_move rfl (by rfl) (by rfl)) ?_
    try simp only [zP,zN,zA,zB,zC]
    refine pu_ (v := .bool true) (y_move rfl (by rfl) (by rfl)) ?_
    try simp only [zP,zN,zA,zB,zC]
    refine pu_ (v := .int .i64 k) (y_move rfl (by rfl) (by rfl)) ?_
    try simp only [zP,zN,zA,zB,zC]
    refine pu_ (v := .pointer (some ⟨g1, 2, none⟩)) (y_run (by rfl) (fun W => by go_simp)) ?_
    try simp only [zP,zN,zA,zB,zC]
    refine ld_ (v := .slice (some a) N.length c2) rfl (by rfl) (by rfl) (run_load_one ((F1.out.cell 2).trans rfl) Try.underlying37 rfl) ?_
    try simp only [zP,zN,zA,zB,zC]
    refine pu_ (v := .int .i64 N.length) (y_run (by rfl) (fun W => by go_simp)) ?_
    try simp only [zP,zN,zA,zB,zC]
    refine pu_ (v := .bool true) (y_run (by rfl) (fun W => by have d := D36.out; go_simp)) ?_
    try simp only [zP,zN,zA,zB,zC]
    refine pu_ (v := .bool true) (y_pick (t := true) (by rfl) rfl (by rfl) (by rfl)) ?_
    try simp only [zP,zN,zA,zB,zC]
    refine nl_ (hK62 _ _ ?_); clear hK62 K62
    refine wp_cond_true rfl ?_
    refine wp_skip ?_
    refine th_norm (hK61 _ _ ?_); try clear hK61 K61
    refine sq_ (fun K63 hK63 => ?_)
    refine wp_block ?_
    refine startk_ (S := fun W => Blk W g1 (#[s0, s1, .slice (some a) N.length c2, .slice A3 M.length c3, .int .i64 z1, .int .i64 z2, .int .i64 pr]) 39 ∧ Blk W gs (#[.int .i64 ((N.take k).foldl max3 (sum3 (0, 0, 0) M).1).1, .int .i64 ((N.take k).foldl max3 (sum3 (0, 0, 0) M).1).2.1, .int .i64 ((N.take k).foldl max3 (sum3 (0, 0, 0) M).1).2.2]) 23 ∧ CellsAt W ((a.add (k * 11)).add 2) [.int .i64 r.1, .int .i64 r.2.1, .int .i64 r.2.2] ∧ True) (ds := [8]) (msk 9 0) (by kernel_rfl) rfl (by kernel_rfl) (fun W c => ⟨c.blk F1.out nin_nil, c.blk FS.out nin_nil, cells_ch c HCL.out, trivial⟩) (fun w64 C65 hS66 => ?_)
    replace C0 := qh (C0.out.trans' C65 inw_nil)
    replace FR := qh (C65.blk FR.out nin_nil)
    replace F1 := qh (C65.blk F1.out nin_nil)
    replace FS := qh (C65.blk FS.out nin_nil)
    replace HCL := qh (cells_ch C65 HCL.out)
    clear C65
    refine takeh_ (i := 0) (N := some 40) (v := .agg (#[.int .i64 ((N.take k).foldl max3 (sum3 (0, 0, 0) M).1).1, .int .i64 ((N.take k).foldl max3 (sum3 (0, 0, 0) M).1).2.1, .int .i64 ((N.take k).foldl max3 (sum3 (0, 0, 0) M).1).2.2])) (msk 9 1) rfl rfl (by kernel_rfl) hP (y_load (p := ⟨gs, 0, none⟩) rfl (by rfl) (by rfl) (fun W hS => run_loadVar_row _ _ 23 23 (#[.int .i64 ((N.take k).foldl max3 (sum3 (0, 0, 0) M).1).1, .int .i64 ((N.take k).foldl max3 (sum3 (0, 0, 0) M).1).2.1, .int .i64 ((N.take k).foldl max3 (sum3 (0, 0, 0) M).1).2.2]) (0, 0) _ hS.2.1 Try.underlying23 rfl (by kernel_rfl))) hS66 rfl ?_
    try simp only [zP,zN,zA,zB,zC]
    refine pureh_ (i := 1) (N := some 41) (v := .pointer (some ⟨g1, 2, none⟩)) (msk 9 3) rfl rfl (by kernel_rfl) hP (y_run (by rfl) (fun W => by go_simp)) rfl ?_
    try simp only [zP,zN,zA,zB,zC]
    refine takeh_ (i := 2) (N := some 42) (v := .slice (some a) N.length c2) (msk 9 7) rfl rfl (by kernel_rfl) hP (y_load (p := ⟨g1, 2, none⟩) rfl (by rfl) (by rfl) (fun W hS => run_load_one ((hS.1.cell 2).trans rfl) Try.underlying37 rfl)) hS66 rfl ?_
    try simp only [zP,zN,zA,zB,zC]
    refine pureh_ (i := 3) (N := some 43) (v := .int .i64 k) (msk 9 15) rfl rfl (by kernel_rfl) hP (y_move rfl (by rfl) (by rfl)) rfl ?_
    try simp only [zP,zN,zA,zB,zC]
    refine pureh_ (i := 4) (N := some 44) (v := .pointer (some (a.add (k * 11)))) (msk 9 31) rfl rfl (by kernel_rfl) hP (y_run (by rfl) (fun W => by have d := D36.out; go_simp)) rfl ?_
    try simp only [zP,zN,zA,zB,zC]
    refine pureh_ (i := 5) (N := some 45) (v := .pointer (some ((a.add (k * 11)).add 2))) (msk 9 63) rfl rfl (by kernel_rfl) hP (y_run (by rfl) (fun W => by go_simp)) rfl ?_
    try simp only [zP,zN,zA,zB,zC]
    refine takeh_ (i := 6) (N := some 46) (v := .agg #[.int .i64 r.1, .int .i64 r.2.1, .int .i64 r.2.2]) (msk 9 127) rfl rfl (by kernel_rfl) hP (y_load (p := ((a.add (k * 11)).add 2)) rfl (by rfl) (by rfl) (fun W hS => run_loadVar_at hS.2.2.1 Try.underlying23 rfl (by kernel_rfl))) hS66 rfl ?_
    try simp only [zP,zN,zA,zB,zC]
    refine one_ (i := 7) (N := some 47) (msk 9 255) rfl rfl (by kernel_rfl) (by simp) (fun K67 hK67 => ?_)
    refine e_call Try.func51 (by kernel_rfl) rfl #[.agg (#[.int .i64 ((N.take k).foldl max3 (sum3 (0, 0, 0) M).1).1, .int .i64 ((N.take k).foldl max3 (sum3 (0, 0, 0) M).1).2.1, .int .i64 ((N.take k).foldl max3 (sum3 (0, 0, 0) M).1).2.2]), .agg #[.int .i64 r.1, .int .i64 r.2.1, .int .i64 r.2.2]] (by rfl) rfl rfl (mp2 rfl rfl) ((dmax_ (x0 := ((N.take k).foldl max3 (sum3 (0, 0, 0) M).1).1) (x1 := ((N.take k).foldl max3 (sum3 (0, 0, 0) M).1).2.1) (x2 := ((N.take k).foldl max3 (sum3 (0, 0, 0) M).1).2.2) (y0 := r.1) (y1 := r.2.1) (y2 := r.2.2))) ?_
    rintro en w69 ⟨rfl, cc68⟩
    refine ⟨_, rfl, ?_⟩
    replace C0 := qh (C0.out.trans' cc68 inw_nil)
    replace FR := qh (cc68.blk FR.out nin_nil)
    replace F1 := qh (cc68.blk F1.out nin_nil)
    replace FS := qh (cc68.blk FS.out nin_nil)
    replace HCL := qh (cells_ch cc68 HCL.out)
    clear cc68
    refine hK67.out _ _ ⟨F1.out, FS.out, HCL.out, trivial⟩ (fun hS70 => ?_); clear hK67 K67
    try simp only [zP,zN,zA,zB,zC]
    refine last_ (i := 8) (N := none) (msk 9 511) rfl rfl (by kernel_rfl) (by simp) (fun K71 hK71 => ?_)
    refine e_storeN (cells := #[.int .i64 (max ((N.take k).foldl max3 (sum3 (0, 0, 0) M).1).1 r.1), .int .i64 (max ((N.take k).foldl max3 (sum3 (0, 0, 0) M).1).2.1 r.2.1), .int .i64 (max ((N.take k).foldl max3 (sum3 (0, 0, 0) M).1).2.2 r.2.2)]) (by rfl) rfl rfl (by rfl) (by rfl) FS.out (by kernel_rfl) (by rfl) (ones_cons rfl (ones_cons rfl (ones_cons rfl ones_nil))) ?_
    rintro w72 B73 C74
    replace C0 := qh (C0.out.trans' C74 (inw_cons (.inr nw50.out) inw_nil))
    replace FR := qh (C74.blk FR.out (nin_cons ne51.out nin_nil))
    replace F1 := qh (C74.blk F1.out (nin_cons (Blk.ne_type F1.out FS.out (by decide)) nin_nil))
    clear HCL
    clear FS; have FS := qh (show Blk w72 gs (#[.int .i64 (max ((N.take k).foldl max3 (sum3 (0, 0, 0) M).1).1 r.1), .int .i64 (max ((N.take k).foldl max3 (sum3 (0, 0, 0) M).1).2.1 r.2.1), .int .i64 (max ((N.take k).foldl max3 (sum3 (0, 0, 0) M).1).2.2 r.2.2)]) 23 from B73); clear B73 C74
    refine hK71.out _ _ ?_; clear hK71 K71
    try simp only [zP,zN,zA,zB,zC]
    refine done_ (by kernel_rfl) ?_
    refine ib_norm ?_
    refine th_norm (hK63 _ _ ?_); try clear hK63 K63
    refine r_ ?_
    refine pu_ (v := .int .i64 k) (y_move rfl (by rfl) (by rfl)) ?_
    try simp only [zP,zN,zA,zB,zC]
    refine pu_ (v := .int .i64 (k + 1 : Nat)) (y_run (by rfl) (fun W => by have d := Wk.out; go_simp)) ?_
    try simp only [zP,zN,zA,zB,zC]
    refine pu_ (v := .int .i64 (k + 1 : Nat)) (y_assign rfl (by rfl) (by rfl)) ?_
    try simp only [zP,zN,zA,zB,zC]
    refine nl_ ?_
    exact th_norm (hK60 (kq - 1) _ _ (by have := hlt.out; have := hk.out; omega) ⟨k + 1, rfl, C0, FR, F1, qh (by rw [fold_take ho.out]; exact FS.out), qh ⟨by have := hlt.out; omega, by have := hlt.out; have := hk.out; omega⟩⟩)
   ·have D36 := qh (show ¬ k < N.length by have := hk.out; omega)
    have HR := qh (show of3 M N = (((N.take k).foldl max3 (sum3 (0, 0, 0) M).1), true) by rw [h, List.take_length]; exact if_pos HOK.out)
    clear h
    refine s_ (fun K75 hK75 => ?_)
    refine pu_ (v := .bool true) (y_move rfl (by rfl) (by rfl)) ?_
    try simp only [zP,zN,zA,zB,zC]
    refine pu_ (v := .bool true) (y_move rfl (by rfl) (by rfl)) ?_
    try simp only [zP,zN,zA,zB,zC]
    refine pu_ (v := .int .i64 k) (y_move rfl (by rfl) (by rfl)) ?_
    try simp only [zP,zN,zA,zB,zC]
    refine pu_ (v := .pointer (some ⟨g1, 2, none⟩)) (y_run (by rfl) (fun W => by go_simp)) ?_
    try simp only [zP,zN,zA,zB,zC]
    refine ld_ (v := .slice A2 N.length c2) rfl (by rfl) (by rfl) (run_load_one ((F1.out.cell 2).trans rfl) Try.underlying37 rfl) ?_
    try simp only [zP,zN,zA,zB,zC]
    refine pu_ (v := .int .i64 N.length) (y_run (by rfl) (fun W => by go_simp)) ?_
    try simp only [zP,zN,zA,zB,zC]
    refine pu_ (v := .bool false) (y_run (by rfl) (fun W => by have d := D36.out; go_simp)) ?_
    try simp only [zP,zN,zA,zB,zC]
    refine pu_ (v := .bool false) (y_pick (t := true) (by rfl) rfl (by rfl) (by rfl)) ?_
    try simp only [zP,zN,zA,zB,zC]
    refine nl_ (hK75 _ _ ?_); clear hK75 K75
    refine wp_cond_false rfl ?_
    refine wp_exit ?_
    refine th_exit ?_
    refine th_exit ?_
    refine ib_exit ?_
    refine th_norm (hK57 _ _ ?_); try clear hK57 K57
    refine s_ (fun K76 hK76 => ?_)
    refine ld_ (v := .agg (#[.int .i64 ((N.take k).foldl max3 (sum3 (0, 0, 0) M).1).1, .int .i64 ((N.take k).foldl max3 (sum3 (0, 0, 0) M).1).2.1, .int .i64 ((N.take k).foldl max3 (sum3 (0, 0, 0) M).1).2.2])) rfl (by rfl) (by rfl) (run_loadVar_row _ _ 23 23 (#[.int .i64 ((N.take k).foldl max3 (sum3 (0, 0, 0) M).1).1, .int .i64 ((N.take k).foldl max3 (sum3 (0, 0, 0) M).1).2.1, .int .i64 ((N.take k).foldl max3 (sum3 (0, 0, 0) M).1).2.2]) (0, 0) _ FS.out Try.underlying23 rfl (by kernel_rfl)) ?_
    try simp only [zP,zN,zA,zB,zC]
    refine pu_ (v := .bool true) (y_move rfl (by rfl) (by rfl)) ?_
    try simp only [zP,zN,zA,zB,zC]
    refine ef_ (fun K77 hK77 => ?_)
    refine e_storeN (cells := (#[.int .i64 ((N.take k).foldl max3 (sum3 (0, 0, 0) M).1).1, .int .i64 ((N.take k).foldl max3 (sum3 (0, 0, 0) M).1).2.1, .int .i64 ((N.take k).foldl max3 (sum3 (0, 0, 0) M).1).2.2])) (by rfl) rfl rfl (by rfl) (by rfl) FR.out (by kernel_rfl) (by rfl) (ones_cons rfl (ones_cons rfl (ones_cons rfl ones_nil))) ?_
    rintro w78 B79 C80
    replace C0 := qh (C0.out.trans' C80 (inw_cons (.inr nw13.out) inw_nil))
    replace F1 := qh (C80.blk F1.out (nin_cons (Blk.ne_type F1.out FR.out (by decide)) nin_nil))
    replace FS := qh (C80.blk FS.out (nin_cons (Ne.symm ne51.out) nin_nil))
    clear FR; have FR := qh (show Blk w78 gr ((#[.int .i64 ((N.take k).foldl max3 (sum3 (0, 0, 0) M).1).1, .int .i64 ((N.take k).foldl max3 (sum3 (0, 0, 0) M).1).2.1, .int .i64 ((N.take k).foldl max3 (sum3 (0, 0, 0) M).1).2.2])) 23 from B79); clear B79 C80
    refine hK77 _ _ ?_; clear hK77 K77
    try simp only [zP,zN,zA,zB,zC]
    refine pu_ (v := .bool true) (y_assign rfl (by rfl) (by rfl)) ?_
    try simp only [zP,zN,zA,zB,zC]
    refine nl_ (hK76 _ _ ?_); clear hK76 K76
    refine wp_ret ?_
    refine hQ _ _ _ ?_
    refine bodyPost_ret (res2 rfl (rdv_cell (by rfl) (run_loadVar_row _ _ 23 23 ((#[.int .i64 ((N.take k).foldl max3 (sum3 (0, 0, 0) M).1).1, .int .i64 ((N.take k).foldl max3 (sum3 (0, 0, 0) M).1).2.1, .int .i64 ((N.take k).foldl max3 (sum3 (0, 0, 0) M).1).2.2])) (0, 0) _ FR.out Try.underlying23 rfl (by kernel_rfl))) (rdv_tmp (v := .bool true) (by rfl))) rfl ?_
    exact ⟨by rw [HR.out], C0.out⟩
  ·have OT' := qh (show OwnS w17 w.heap.size 23 3 (vt) M.length (M.flatMap r3C) from by have h9 := OT.out; rw [HE.out, List.take_length] at h9; exact h9); clear OT; have OT := OT'; clear OT'
   obtain ⟨Ao, co, hvo, -, -⟩ := OT.out.slice
   subst hvo
   have HOK := qh h
   clear h
   have HS0_ := qh (show sum3 (0, 0, 0) M = ((0, 0, 0), false) from sum_zero HOK.out)
   have HR := qh (show of3 M N = ((0, 0, 0), false) from if_neg (by rw [HOK.out]; simp))
   refine s_ (fun K81 hK81 => ?_)
   refine pu_ (v := .slice Ao M.length co) (y_move rfl (by rfl) (by rfl)) ?_
   try simp only [zP,zN,zA,zB,zC]
   refine ef_ (fun K82 hK82 => ?_)
   refine e_call Try.func50 (by kernel_rfl) rfl #[.slice Ao M.length co] (by rfl) rfl rfl (mp1 rfl) ((by have h9 := dsum3_ (w := w17) (qh HN.out.1) (qh (fun r hr => by obtain ⟨i, hi⟩ := List.mem_iff_getElem?.1 hr; exact (HR3.out.2 i r hi).1)) (qh OT.out.src); rw [HS0_.out] at h9; exact h9)) ?_
   rintro en w84 ⟨rfl, cc83⟩
   refine ⟨_, rfl, ?_⟩
   replace C0 := qh (C0.out.trans' cc83 inw_nil)
   replace FR := qh (cc83.blk FR.out nin_nil)
   replace F1 := qh (cc83.blk F1.out nin_nil)
   replace OT := qh (OT.out.ch cc83 rnin_nil)
   clear cc83
   refine hK82 _ _ ?_; clear hK82 K82
   try simp only [zP,zN,zA,zB,zC]
   refine pu_ (v := .tuple #[.agg #[.int .i64 0, .int .i64 0, .int .i64 0], .bool false]) (y_move rfl (by rfl) (by rfl)) ?_
   try simp only [zP,zN,zA,zB,zC]
   refine pu_ (v := .agg #[.int .i64 0, .int .i64 0, .int .i64 0]) (y_run (by rfl) (fun W => by go_simp)) ?_
   try simp only [zP,zN,zA,zB,zC]
   refine pu_ (v := .bool false) (y_run (by rfl) (fun W => by go_simp)) ?_
   try simp only [zP,zN,zA,zB,zC]
   refine ef_ (fun K85 hK85 => ?_)
   refine e_alloc (by rfl) rfl rfl (cs := #[.int .i64 0, .int .i64 0, .int .i64 0]) (by kernel_rfl) ?_
   rintro gs w86 HG87 B88 C89
   have nw90 := qh (show w.heap.size ≤ gs by have := C0.out.size; have := HG87.out; omega)
   have ne91 := qh (FR.out.ne_new HG87)
   have nr92 := qh (OT.out.ne_new HG87)
   replace C0 := qh (C0.out.trans' C89 inw_nil)
   replace FR := qh (C89.blk FR.out nin_nil)
   replace F1 := qh (C89.blk F1.out nin_nil)
   replace OT := qh (OT.out.ch C89 rnin_nil)
   have Fgs := qh (show Blk w86 gs (#[.int .i64 0, .int .i64 0, .int .i64 0]) 23 from B88); clear B88 C89
   refine hK85 _ _ ?_; clear hK85 K85
   try simp only [zP,zN,zA,zB,zC]
   refine ef_ (fun K93 hK93 => ?_)
   refine e_storeN (cells := #[.int .i64 0, .int .i64 0, .int .i64 0]) (by rfl) rfl rfl (by rfl) (by rfl) Fgs.out (by kernel_rfl) (by rfl) (ones_cons rfl (ones_cons rfl (ones_cons rfl ones_nil))) ?_
   rintro w94 B95 C96
   replace C0 := qh (C0.out.trans' C96 (inw_cons (.inr nw90.out) inw_nil))
   replace FR := qh (C96.blk FR.out (nin_cons ne91.out nin_nil))
   replace F1 := qh (C96.blk F1.out (nin_cons (Blk.ne_type F1.out Fgs.out (by decide)) nin_nil))
   replace OT := qh (OT.out.ch C96 (rnin_cons nr92.out rnin_nil))
   clear Fgs; have Fgs := qh (show Blk w94 gs (#[.int .i64 0, .int .i64 0, .int .i64 0]) 23 from B95); clear B95 C96
   refine hK93 _ _ ?_; clear hK93 K93
   try simp only [zP,zN,zA,zB,zC]
   refine pu_ (v := .bool false) (y_assign rfl (by rfl) (by rfl)) ?_
   try simp only [zP,zN,zA,zB,zC]
   refine nl_ (hK81 _ _ ?_); clear hK81 K81
   refine sq_ (fun K97 hK97 => ?_)
   refine s_ (fun K98 hK98 => ?_)
   refine pu_ (v := .int .i64 0) (y_assign rfl (by rfl) (by rfl)) ?_
   try simp only [zP,zN,zA,zB,zC]
   refine nl_ (hK98 _ _ ?_); clear hK98 K98
   refine wp_block ?_
   refine loop_none ?_
   refine sq_ (fun K99 hK99 => ?_)
   skip
   ·refine s_ (fun K100 hK100 => ?_)
    refine pu_ (v := .bool false) (y_move rfl (by rfl) (by rfl)) ?_
    try simp only [zP,zN,zA,zB,zC]
    refine pu_ (v := .bool false) (y_move rfl (by rfl) (by rfl)) ?_
    try simp only [zP,zN,zA,zB,zC]
    refine pu_ (y_off (by rfl)) ?_
    try simp only [zP,zN,zA,zB,zC]
    refine pu_ (y_off (by rfl)) ?_
    try simp only [zP,zN,zA,zB,zC]
    refine pu_ (y_off (by rfl)) ?_
    try simp only [zP,zN,zA,zB,zC]
    refine pu_ (y_off (by rfl)) ?_
    try simp only [zP,zN,zA,zB,zC]
    refine pu_ (y_off (by rfl)) ?_
    try simp only [zP,zN,zA,zB,zC]
    refine pu_ (v := .bool false) (y_pick (t := false) (by rfl) rfl (by rfl) (by rfl)) ?_
    try simp only [zP,zN,zA,zB,zC]
    refine nl_ (hK100 _ _ ?_); clear hK100 K100
    refine wp_cond_false rfl ?_
    refine wp_exit ?_
    refine th_exit ?_
    refine th_exit ?_
    refine ib_exit ?_
    refine th_norm (hK97 _ _ ?_); try clear hK97 K97
    refine s_ (fun K101 hK101 => ?_)
    refine ld_ (v := .agg (#[.int .i64 0, .int .i64 0, .int .i64 0])) rfl (by rfl) (by rfl) (run_loadVar_row _ _ 23 23 (#[.int .i64 0, .int .i64 0, .int .i64 0]) (0, 0) _ Fgs.out Try.underlying23 rfl (by kernel_rfl)) ?_
    try simp only [zP,zN,zA,zB,zC]
    refine pu_ (v := .bool false) (y_move rfl (by rfl) (by rfl)) ?_
    try simp only [zP,zN,zA,zB,zC]
    refine ef_ (fun K102 hK102 => ?_)
    refine e_storeN (cells := (#[.int .i64 0, .int .i64 0, .int .i64 0])) (by rfl) rfl rfl (by rfl) (by rfl) FR.out (by kernel_rfl) (by rfl) (ones_cons rfl (ones_cons rfl (ones_cons rfl ones_nil))) ?_
    rintro w103 B104 C105
    replace C0 := qh (C0.out.trans' C105 (inw_cons (.inr nw13.out) inw_nil))
    replace F1 := qh (C105.blk F1.out (nin_cons (Blk.ne_type F1.out FR.out (by decide)) nin_nil))
    replace OT := qh (OT.out.ch C105 (rnin_cons hr.out rnin_nil))
    replace Fgs := qh (C105.blk Fgs.out (nin_cons (Ne.symm ne91.out) nin_nil))
    clear FR; have FR := qh (show Blk w103 gr ((#[.int .i64 0, .int .i64 0, .int .i64 0])) 23 from B104); clear B104 C105
    refine hK102 _ _ ?_; clear hK102 K102
    try simp only [zP,zN,zA,zB,zC]
    refine pu_ (v := .bool false) (y_assign rfl (by rfl) (by rfl)) ?_
    try simp only [zP,zN,zA,zB,zC]
    refine nl_ (hK101 _ _ ?_); clear hK101 K101
    refine wp_ret ?_
    refine hQ _ _ _ ?_
    refine bodyPost_ret (res2 rfl (rdv_cell (by rfl) (run_loadVar_row _ _ 23 23 ((#[.int .i64 0, .int .i64 0, .int .i64 0])) (0, 0) _ FR.out Try.underlying23 rfl (by kernel_rfl))) (rdv_tmp (v := .bool false) (by rfl))) rfl ?_
    exact ⟨by rw [HR.out], C0.out⟩
end
end Go.Proofs.Ytmoelehhofmhcaa.V
