/- The walks of package res. -/
import Derived.Test.YtmoelehhofmhcaaPrO
namespace Go.Proofs.Ytmoelehhofmhcaa.V
open Go Go.RowKit Go.Proofs.Ytmoelehhofmhcaa.K Go.Proofs.YtmoelehhofmhcaaW.PrintLast
set_option linter.unusedVariables false
set_option linter.unusedSimpArgs false
set_option maxRecDepth 100000
set_option maxHeartbeats 1600000
section
variable {w : World}
theorem of_ {a b c : Int}  :
  Calls Try.prog 57 #[.agg #[.int .i64 a, .int .i64 b, .int .i64 c]] w fun en w' => en = .returned (.agg #[.int .i64 a, .int .i64 b, .int .i64 c]) ∧ Ch [] w w' := by
 have C0 := qh (Ch.refl [] w)
 go_enter Try.func57, Try.ntmps57
 refine q_ (fun Q hQ hP => ?_)
 refine s_ (fun K1 hK1 => ?_)
 refine ef_ (fun K2 hK2 => ?_)
 refine e_boxN (by rfl) rfl rfl (cs := #[.int .i64 a, .int .i64 b, .int .i64 c]) (v := .agg #[.int .i64 a, .int .i64 b, .int .i64 c]) (by rfl) rfl ?_
 rintro g3 w4 HG5 B6 C7
 have nw8 := qh (show w.heap.size ≤ g3 by have := C0.out.size; have := HG5.out; omega)
 replace C0 := qh (C0.out.trans' C7 inw_nil)
 have Fg3 := qh (show Blk w4 g3 (#[.int .i64 a, .int .i64 b, .int .i64 c]) 23 from B6); clear B6 C7
 refine hK2 _ _ ?_; clear hK2 K2
 try simp only [zP,zN,zA,zB,zC]
 refine ef_ (fun K9 hK9 => ?_)
 refine e_alloc (by rfl) rfl rfl (cs := #[.int .i64 0, .int .i64 0, .int .i64 0]) (by kernel_rfl) ?_
 rintro g10 w11 HG12 B13 C14
 have nw15 := qh (show w.heap.size ≤ g10 by have := C0.out.size; have := HG12.out; omega)
 replace C0 := qh (C0.out.trans' C14 inw_nil)
 replace Fg3 := qh (C14.blk Fg3.out nin_nil)
 have Fg10 := qh (show Blk w11 g10 (#[.int .i64 0, .int .i64 0, .int .i64 0]) 99 from B13); clear B13 C14
 refine hK9 _ _ ?_; clear hK9 K9
 try simp only [zP,zN,zA,zB,zC]
 refine nl_ (hK1 _ _ ?_); clear hK1 K1
 refine s_ (fun K16 hK16 => ?_)
 refine pu_ (v := .pointer (some ⟨g3, 0, none⟩)) (y_run (by rfl) (fun W => by go_simp)) ?_
 try simp only [zP,zN,zA,zB,zC]
 refine ld_ (v := .int .i64 a) rfl (by rfl) (by rfl) (run_load_one ((Fg3.out.cell 0).trans rfl) Try.underlying3 rfl) ?_
 try simp only [zP,zN,zA,zB,zC]
 refine pu_ (v := .pointer (some ⟨g3, 1, none⟩)) (y_run (by rfl) (fun W => by go_simp)) ?_
 try simp only [zP,zN,zA,zB,zC]
 refine ld_ (v := .int .i64 b) rfl (by rfl) (by rfl) (run_load_one ((Fg3.out.cell 1).trans rfl) Try.underlying3 rfl) ?_
 try simp only [zP,zN,zA,zB,zC]
 refine pu_ (v := .pointer (some ⟨g3, 2, none⟩)) (y_run (by rfl) (fun W => by go_simp)) ?_
 try simp only [zP,zN,zA,zB,zC]
 refine ld_ (v := .int .i64 c) rfl (by rfl) (by rfl) (run_load_one ((Fg3.out.cell 2).trans rfl) Try.underlying3 rfl) ?_
 try simp only [zP,zN,zA,zB,zC]
 refine pu_ (v := .agg #[.int .i64 a, .int .i64 b, .int .i64 c]) (y_build (vs := #[(0, .int .i64 a), (1, .int .i64 b), (2, .int .i64 c)]) (by rfl) rfl (by first | rfl | (simp only [List.map_toArray, List.map_cons, List.map_nil]; first | done | rfl)) (by kernel_rfl)) ?_
 try simp only [zP,zN,zA,zB,zC]
 refine ef_ (fun K17 hK17 => ?_)
 refine e_storeN (cells := #[.int .i64 a, .int .i64 b, .int .i64 c]) (by rfl) rfl rfl (by rfl) (by rfl) Fg10.out (by kernel_rfl) (by rfl) (ones_cons rfl (ones_cons rfl (ones_cons rfl ones_nil))) ?_
 rintro w18 B19 C20
 replace C0 := qh (C0.out.trans' C20 (inw_cons (.inr nw15.out) inw_nil))
 replace Fg3 := qh (C20.blk Fg3.out (nin_cons (Blk.ne_type Fg3.out Fg10.out (by decide)) nin_nil))
 clear Fg10; have Fg10 := qh (show Blk w18 g10 (#[.int .i64 a, .int .i64 b, .int .i64 c]) 99 from B19); clear B19 C20
 refine hK17 _ _ ?_; clear hK17 K17
 try simp only [zP,zN,zA,zB,zC]
 refine nl_ (hK16 _ _ ?_); clear hK16 K16
 refine wp_ret ?_
 refine hQ _ _ _ ?_
 refine bodyPost_ret (res1 rfl (rdv_cell (by rfl) (run_loadVar_row _ _ 99 99 (#[.int .i64 a, .int .i64 b, .int .i64 c]) (0, 0) _ Fg10.out Try.underlying99 rfl (by kernel_rfl)))) rfl ?_
 exact ⟨rfl, C0.out⟩
theorem pres_ {a b c : Int}  :
  Calls Try.prog 59 #[.agg #[.int .i64 a, .int .i64 b, .int .i64 c]] w fun en w' => en = .returned (.agg #[.int .i64 a, .int .i64 b, .int .i64 c]) ∧ Ch [] w w' := by
 have C0 := qh (Ch.refl [] w)
 go_enter Try.func59, Try.ntmps59
 refine q_ (fun Q hQ hP => ?_)
 refine s_ (fun K1 hK1 => ?_)
 refine ef_ (fun K2 hK2 => ?_)
 refine e_boxN (by rfl) rfl rfl (cs := #[.int .i64 a, .int .i64 b, .int .i64 c]) (v := .agg #[.int .i64 a, .int .i64 b, .int .i64 c]) (by rfl) rfl ?_
 rintro gp w3 HG4 B5 C6
 have nw7 := qh (show w.heap.size ≤ gp by have := C0.out.size; have := HG4.out; omega)
 replace C0 := qh (C0.out.trans' C6 inw_nil)
 have Fgp := qh (show Blk w3 gp (#[.int .i64 a, .int .i64 b, .int .i64 c]) 99 from B5); clear B5 C6
 refine hK2 _ _ ?_; clear hK2 K2
 try simp only [zP,zN,zA,zB,zC]
 refine ef_ (fun K8 hK8 => ?_)
 refine e_alloc (by rfl) rfl rfl (cs := #[.int .i64 0, .int .i64 0, .int .i64 0]) (by kernel_rfl) ?_
 rintro g9 w10 HG11 B12 C13
 have nw14 := qh (show w.heap.size ≤ g9 by have := C0.out.size; have := HG11.out; omega)
 replace C0 := qh (C0.out.trans' C13 inw_nil)
 replace Fgp := qh (C13.blk Fgp.out nin_nil)
 have Fg9 := qh (show Blk w10 g9 (#[.int .i64 0, .int .i64 0, .int .i64 0]) 23 from B12); clear B12 C13
 refine hK8 _ _ ?_; clear hK8 K8
 try simp only [zP,zN,zA,zB,zC]
 refine nl_ (hK1 _ _ ?_); clear hK1 K1
 refine s_ (fun K15 hK15 => ?_)
 refine pu_ (v := .pointer (some ⟨gp, 0, none⟩)) (y_run (by rfl) (fun W => by go_simp)) ?_
 try simp only [zP,zN,zA,zB,zC]
 refine ld_ (v := .int .i64 a) rfl (by rfl) (by rfl) (run_load_one ((Fgp.out.cell 0).trans rfl) Try.underlying3 rfl) ?_
 try simp only [zP,zN,zA,zB,zC]
 refine pu_ (v := .pointer (some ⟨gp, 1, none⟩)) (y_run (by rfl) (fun W => by go_simp)) ?_
 try simp only [zP,zN,zA,zB,zC]
 refine ld_ (v := .int .i64 b) rfl (by rfl) (by rfl) (run_load_one ((Fgp.out.cell 1).trans rfl) Try.underlying3 rfl) ?_
 try simp only [zP,zN,zA,zB,zC]
 refine pu_ (v := .pointer (some ⟨gp, 2, none⟩)) (y_run (by rfl) (fun W => by go_simp)) ?_
 try simp only [zP,zN,zA,zB,zC]
 refine ld_ (v := .int .i64 c) rfl (by rfl) (by rfl) (run_load_one ((Fgp.out.cell 2).trans rfl) Try.underlying3 rfl) ?_
 try simp only [zP,zN,zA,zB,zC]
 refine pu_ (v := .agg #[.int .i64 a, .int .i64 b, .int .i64 c]) (y_build (vs := #[(0, .int .i64 a), (1, .int .i64 b), (2, .int .i64 c)]) (by rfl) rfl (by first | rfl | (simp only [List.map_toArray, List.map_cons, List.map_nil]; first | done | rfl)) (by kernel_rfl)) ?_
 try simp only [zP,zN,zA,zB,zC]
 refine ef_ (fun K16 hK16 => ?_)
 refine e_storeN (cells := #[.int .i64 a, .int .i64 b, .int .i64 c]) (by rfl) rfl rfl (by rfl) (by rfl) Fg9.out (by kernel_rfl) (by rfl) (ones_cons rfl (ones_cons rfl (ones_cons rfl ones_nil))) ?_
 rintro w17 B18 C19
 replace C0 := qh (C0.out.trans' C19 (inw_cons (.inr nw14.out) inw_nil))
 replace Fgp := qh (C19.blk Fgp.out (nin_cons (Blk.ne_type Fgp.out Fg9.out (by decide)) nin_nil))
 clear Fg9; have Fg9 := qh (show Blk w17 g9 (#[.int .i64 a, .int .i64 b, .int .i64 c]) 23 from B18); clear B18 C19
 refine hK16 _ _ ?_; clear hK16 K16
 try simp only [zP,zN,zA,zB,zC]
 refine nl_ (hK15 _ _ ?_); clear hK15 K15
 refine wp_ret ?_
 refine hQ _ _ _ ?_
 refine bodyPost_ret (res1 rfl (rdv_cell (by rfl) (run_loadVar_row _ _ 23 23 (#[.int .i64 a, .int .i64 b, .int .i64 c]) (0, 0) _ Fg9.out Try.underlying23 rfl (by kernel_rfl)))) rfl ?_
 exact ⟨rfl, C0.out⟩
theorem nadd_ {a b : Int} (HA : Hid (I64 a)) (HB : Hid (I64 b))  :
  Calls Try.prog 67 #[.int .i64 a, .int .i64 b] w fun en w' => en = .returned (.tuple #[.int .i64 (add1 a b).1, .bool (add1 a b).2]) ∧ Ch [] w w' := by
 have C0 := qh (Ch.refl [] w)
 go_enter Try.func67, Try.ntmps67
 refine q_ (fun Q hQ hP => ?_)
 refine s_ (fun K1 hK1 => ?_)
 refine pu_ (v := .int .i64 0) (y_assign rfl (by rfl) (by rfl)) ?_
 try simp only [zP,zN,zA,zB,zC]
 refine pu_ (v := .bool false) (y_assign rfl (by rfl) (by rfl)) ?_
 try simp only [zP,zN,zA,zB,zC]
 refine nl_ (hK1 _ _ ?_); clear hK1 K1
 rcases add_ways a b HA.out HB.out with h | h | h | h | h
 ·have HH := qh h
  clear h
  have W9 := qh HH.out.2.2
  have BA := qh HA.out
  have BB := qh HB.out
  have BU := qh (show -9223372036854775808 ≤ a ∧ a ≤ 9223372036854775807 ∧ -9223372036854775808 ≤ b ∧ b ≤ 9223372036854775807 from ⟨HA.out.1, HA.out.2, HB.out.1, HB.out.2⟩)
  have D11 := qh (show decide (b > 0) = true from decide_eq_true (by have := HH.out; have := BU.out; omega))
  have D15 := qh (show decide ((a + b - 18446744073709551616) < a) = true from decide_eq_true (by have := HH.out; have := BU.out; omega))
  have HR := qh (show add1 a b = (0, false) from add_no (by have := HH.out; omega))
  refine s_ (fun K2 hK2 => ?_)
  refine pu_ (v := .int .i64 a) (y_move rfl (by rfl) (by rfl)) ?_
  try simp only [zP,zN,zA,zB,zC]
  refine pu_ (v := .int .i64 b) (y_move rfl (by rfl) (by rfl)) ?_
  try simp only [zP,zN,zA,zB,zC]
  refine pu_ (v := .int .i64 (a + b - 18446744073709551616)) (y_run (by rfl) (fun W => by have d := W9.out; go_simp)) ?_
  try simp only [zP,zN,zA,zB,zC]
  refine pu_ (v := .int .i64 (a + b - 18446744073709551616)) (y_assign rfl (by rfl) (by rfl)) ?_
  try simp only [zP,zN,zA,zB,zC]
  refine nl_ (hK2 _ _ ?_); clear hK2 K2
  refine sq_ (fun K3 hK3 => ?_)
  refine s_ (fun K4 hK4 => ?_)
  refine pu_ (v := .int .i64 b) (y_move rfl (by rfl) (by rfl)) ?_
  try simp only [zP,zN,zA,zB,zC]
  refine pu_ (v := .bool true) (y_run (by rfl) (fun W => by have d := D11.out; go_simp)) ?_
  try simp only [zP,zN,zA,zB,zC]
  refine pu_ (v := .bool true) (y_move rfl (by rfl) (by rfl)) ?_
  try simp only [zP,zN,zA,zB,zC]
  refine pu_ (v := .int .i64 (a + b - 18446744073709551616)) (y_move rfl (by rfl) (by rfl)) ?_
  try simp only [zP,zN,zA,zB,zC]
  refine pu_ (v := .int .i64 a) (y_move rfl (by rfl) (by rfl)) ?_
  try simp only [zP,zN,zA,zB,zC]
  refine pu_ (v := .bool true) (y_run (by rfl) (fun W => by have d := D15.out; go_simp)) ?_
  try simp only [zP,zN,zA,zB,zC]
  refine pu_ (v := .bool true) (y_pick (t := true) (by rfl) rfl (by rfl) (by rfl)) ?_
  try simp only [zP,zN,zA,zB,zC]
  refine pu_ (v := .bool true) (y_move rfl (by rfl) (by rfl)) ?_
  try simp only [zP,zN,zA,zB,zC]
  refine pu_ (y_off (by rfl)) ?_
  try simp only [zP,zN,zA,zB,zC]
  refine pu_ (y_off (by rfl)) ?_
  try simp only [zP,zN,zA,zB,zC]
  refine pu_ (y_off (by rfl)) ?_
  try simp only [zP,zN,zA,zB,zC]
  refine pu_ (y_off (by rfl)) ?_
  try simp only [zP,zN,zA,zB,zC]
  refine pu_ (y_off (by rfl)) ?_
  try simp only [zP,zN,zA,zB,zC]
  refine pu_ (y_off (by rfl)) ?_
  try simp only [zP,zN,zA,zB,zC]
  refine pu_ (y_off (by rfl)) ?_
  try simp only [zP,zN,zA,zB,zC]
  refine pu_ (v := .bool true) (y_pick (t := true) (by rfl) rfl (by rfl) (by rfl)) ?_
  try simp only [zP,zN,zA,zB,zC]
  refine nl_ (hK4 _ _ ?_); clear hK4 K4
  refine wp_cond_true rfl ?_
  refine s_ (fun K5 hK5 => ?_)
  refine pu_ (v := .int .i64 0) (y_assign rfl (by rfl) (by rfl)) ?_
  try simp only [zP,zN,zA,zB,zC]
  refine pu_ (v := .bool false) (y_assign rfl (by rfl) (by rfl)) ?_
  try simp only [zP,zN,zA,zB,zC]
  refine nl_ (hK5 _ _ ?_); clear hK5 K5
  refine wp_ret ?_
  refine th_ret ?_
  refine hQ _ _ _ ?_
  refine bodyPost_ret (res2 rfl (rdv_tmp (v := .int .i64 0) (by rfl)) (rdv_tmp (v := .bool false) (by rfl))) rfl ?_
  exact ⟨by rw [HR.out], C0.out⟩
 ·have HH := qh h
  clear h
  have W9 := qh HH.out.2.2
  have BA := qh HA.out
  have BB := qh HB.out
  have BU := qh (show -9223372036854775808 ≤ a ∧ a ≤ 9223372036854775807 ∧ -9223372036854775808 ≤ b ∧ b ≤ 9223372036854775807 from ⟨HA.out.1, HA.out.2, HB.out.1, HB.out.2⟩)
  have D11 := qh (show decide (b > 0) = false from decide_eq_false (by have := HH.out; have := BU.out; omega))
  have D19 := qh (show decide (b < 0) = true from decide_eq_true (by have := HH.out; have := BU.out; omega))
  have D23 := qh (show decide ((a + b + 18446744073709551616) > a) = true from decide_eq_true (by have := HH.out; have := BU.out; omega))
  have HR := qh (show add1 a b = (0, false) from add_no (by have := HH.out; omega))
  refine s_ (fun K6 hK6 => ?_)
  refine pu_ (v := .int .i64 a) (y_move rfl (by rfl) (by rfl)) ?_
  try simp only [zP,zN,zA,zB,zC]
  refine pu_ (v := .int .i64 b) (y_move rfl (by rfl) (by rfl)) ?_
  try simp only [zP,zN,zA,zB,zC]
  refine pu_ (v := .int .i64 (a + b + 18446744073709551616)) (y_run (by rfl) (fun W => by have d := W9.out; go_simp)) ?_
  try simp only [zP,zN,zA,zB,zC]
  refine pu_ (v := .int .i64 (a + b + 18446744073709551616)) (y_assign rfl (by rfl) (by rfl)) ?_
  try simp only [zP,zN,zA,zB,zC]
  refine nl_ (hK6 _ _ ?_); clear hK6 K6
  refine sq_ (fun K7 hK7 => ?_)
  refine s_ (fun K8 hK8 => ?_)
  refine pu_ (v := .int .i64 b) (y_move rfl (by rfl) (by rfl)) ?_
  try simp only [zP,zN,zA,zB,zC]
  refine pu_ (v := .bool false) (y_run (by rfl) (fun W => by have d := D11.out; go_simp)) ?_
  try simp only [zP,zN,zA,zB,zC]
  refine pu_ (v := .bool false) (y_move rfl (by rfl) (by rfl)) ?_
  try simp only [zP,zN,zA,zB,zC]
  refine pu_ (y_off (by rfl)) ?_
  try simp only [zP,zN,zA,zB,zC]
  refine pu_ (y_off (by rfl)) ?_
  try simp only [zP,zN,zA,zB,zC]
  refine pu_ (y_off (by rfl)) ?_
  try simp only [zP,zN,zA,zB,zC]
  refine pu_ (v := .bool false) (y_pick (t := false) (by rfl) rfl (by rfl) (by rfl)) ?_
  try simp only [zP,zN,zA,zB,zC]
  refine pu_ (v := .bool false) (y_move rfl (by rfl) (by rfl)) ?_
  try simp only [zP,zN,zA,zB,zC]
  refine pu_ (v := .int .i64 b) (y_move rfl (by rfl) (by rfl)) ?_
  try simp only [zP,zN,zA,zB,zC]
  refine pu_ (v := .bool true) (y_run (by rfl) (fun W => by have d := D19.out; go_simp)) ?_
  try simp only [zP,zN,zA,zB,zC]
  refine pu_ (v := .bool true) (y_move rfl (by rfl) (by rfl)) ?_
  try simp only [zP,zN,zA,zB,zC]
  refine pu_ (v := .int .i64 (a + b + 18446744073709551616)) (y_move rfl (by rfl) (by rfl)) ?_
  try simp only [zP,zN,zA,zB,zC]
  refine pu_ (v := .int .i64 a) (y_move rfl (by rfl) (by rfl)) ?_
  try simp only [zP,zN,zA,zB,zC]
  refine pu_ (v := .bool true) (y_run (by rfl) (fun W => by have d := D23.out; go_simp)) ?_
  try simp only [zP,zN,zA,zB,zC]
  refine pu_ (v := .bool true) (y_pick (t := true) (by rfl) rfl (by rfl) (by rfl)) ?_
  try simp only [zP,zN,zA,zB,zC]
  refine pu_ (v := .bool true) (y_pick (t := false) (by rfl) rfl (by rfl) (by rfl)) ?_
  try simp only [zP,zN,zA,zB,zC]
  refine nl_ (hK8 _ _ ?_); clear hK8 K8
  refine wp_cond_true rfl ?_
  refine s_ (fun K9 hK9 => ?_)
  refine pu_ (v := .int .i64 0) (y_assign rfl (by rfl) (by rfl)) ?_
  try simp only [zP,zN,zA,zB,zC]
  refine pu_ (v := .bool false) (y_assign rfl (by rfl) (by rfl)) ?_
  try simp only [zP,zN,zA,zB,zC]
  refine nl_ (hK9 _ _ ?_); clear hK9 K9
  refine wp_ret ?_
  refine th_ret ?_
  refine hQ _ _ _ ?_
  refine bodyPost_ret (res2 rfl (rdv_tmp (v := .int .i64 0) (by rfl)) (rdv_tmp (v := .bool false) (by rfl))) rfl ?_
  exact ⟨by rw [HR.out], C0.out⟩
 ·have HH := qh h
  clear h
  have W9 := qh HH.out.2.2
  have BA := qh HA.out
  have BB := qh HB.out
  have BU := qh (show -9223372036854775808 ≤ a ∧ a ≤ 9223372036854775807 ∧ -9223372036854775808 ≤ b ∧ b ≤ 9223372036854775807 from ⟨HA.out.1, HA.out.2, HB.out.1, HB.out.2⟩)
  have D11 := qh (show decide (b > 0) = true from decide_eq_true (by have := HH.out; have := BU.out; omega))
  have D15 := qh (show decide ((a + b) < a) = false from decide_eq_false (by have := HH.out; have := BU.out; omega))
  have D19 := qh (show decide (b < 0) = false from decide_eq_false (by have := HH.out; have := BU.out; omega))
  have HR := qh (show add1 a b = (a + b, true) from add_yes HH.out.1)
  refine s_ (fun K10 hK10 => ?_)
  refine pu_ (v := .int .i64 a) (y_move rfl (by rfl) (by rfl)) ?_
  try simp only [zP,zN,zA,zB,zC]
  refine pu_ (v := .int .i64 b) (y_move rfl (by rfl) (by rfl)) ?_
  try simp only [zP,zN,zA,zB,zC]
  refine pu_ (v := .int .i64 (a + b)) (y_run (by rfl) (fun W => by have d := W9.out; go_simp)) ?_
  try simp only [zP,zN,zA,zB,zC]
  refine pu_ (v := .int .i64 (a + b)) (y_assign rfl (by rfl) (by rfl)) ?_
  try simp only [zP,zN,zA,zB,zC]
  refine nl_ (hK10 _ _ ?_); clear hK10 K10
  refine sq_ (fun K11 hK11 => ?_)
  refine s_ (fun K12 hK12 => ?_)
  refine pu_ (v := .int .i64 b) (y_move rfl (by rfl) (by rfl)) ?_
  try simp only [zP,zN,zA,zB,zC]
  refine pu_ (v := .bool true) (y_run (by rfl) (fun W => by have d := D11.out; go_simp)) ?_
  try simp only [zP,zN,zA,zB,zC]
  refine pu_ (v := .bool true) (y_move rfl (by rfl) (by rfl)) ?_
  try simp only [zP,zN,zA,zB,zC]
  refine pu_ (v := .int .i64 (a + b)) (y_move rfl (by rfl) (by rfl)) ?_
  try simp only [zP,zN,zA,zB,zC]
  refine pu_ (v := .int .i64 a) (y_move rfl (by rfl) (by rfl)) ?_
  try simp only [zP,zN,zA,zB,zC]
  refine pu_ (v := .bool false) (y_run (by rfl) (fun W => by have d := D15.out; go_simp)) ?_
  try simp only [zP,zN,zA,zB,zC]
  refine pu_ (v := .bool false) (y_pick (t := true) (by rfl) rfl (by rfl) (by rfl)) ?_
  try simp only [zP,zN,zA,zB,zC]
  refine pu_ (v := .bool false) (y_move rfl (by rfl) (by rfl)) ?_
  try simp only [zP,zN,zA,zB,zC]
  refine pu_ (v := .int .i64 b) (y_move rfl (by rfl) (by rfl)) ?_
  try simp only [zP,zN,zA,zB,zC]
  refine pu_ (v := .bool false) (y_run (by rfl) (fun W => by have d := D19.out; go_simp)) ?_
  try simp only [zP,zN,zA,zB,zC]
  refine pu_ (v := .bool false) (y_move rfl (by rfl) (by rfl)) ?_
  try simp only [zP,zN,zA,zB,zC]
  refine pu_ (y_off (by rfl)) ?_
  try simp only [zP,zN,zA,zB,zC]
  refine pu_ (y_off (by rfl)) ?_
  try simp only [zP,zN,zA,zB,zC]
  refine pu_ (y_off (by rfl)) ?_
  try simp only [zP,zN,zA,zB,zC]
  refine pu_ (v := .bool false) (y_pick (t := false) (by rfl) rfl (by rfl) (by rfl)) ?_
  try simp only [zP,zN,zA,zB,zC]
  refine pu_ (v := .bool false) (y_pick (t := false) (by rfl) rfl (by rfl) (by rfl)) ?_
  try simp only [zP,zN,zA,zB,zC]
  refine nl_ (hK12 _ _ ?_); clear hK12 K12
  refine wp_cond_false rfl ?_
  refine wp_skip ?_
  refine th_norm (hK11 _ _ ?_); try clear hK11 K11
  refine s_ (fun K13 hK13 => ?_)
  refine pu_ (v := .int .i64 (a + b)) (y_move rfl (by rfl) (by rfl)) ?_
  try simp only [zP,zN,zA,zB,zC]
  refine pu_ (v := .int .i64 (a + b)) (y_assign rfl (by rfl) (by rfl)) ?_
  try simp only [zP,zN,zA,zB,zC]
  refine pu_ (v := .bool true) (y_assign rfl (by rfl) (by rfl)) ?_
  try simp only [zP,zN,zA,zB,zC]
  refine nl_ (hK13 _ _ ?_); clear hK13 K13
  refine wp_ret ?_
  refine hQ _ _ _ ?_
  refine bodyPost_ret (res2 rfl (rdv_tmp (v := .int .i64 (a + b)) (by rfl)) (rdv_tmp (v := .bool true) (by rfl))) rfl ?_
  exact ⟨by rw [HR.out], C0.out⟩
 ·have HH := qh h
  clear h
  have W9 := qh HH.out.2.2
  have BA := qh HA.out
  have BB := qh HB.out
  have BU := qh (show -9223372036854775808 ≤ a ∧ a ≤ 9223372036854775807 ∧ -9223372036854775808 ≤ b ∧ b ≤ 9223372036854775807 from ⟨HA.out.1, HA.out.2, HB.out.1, HB.out.2⟩)
  have D11 := qh (show decide (b > 0) = false from decide_eq_false (by have := HH.out; have := BU.out; omega))
  have D19 := qh (show decide (b < 0) = true from decide_eq_true (by have := HH.out; have := BU.out; omega))
  have D23 := qh (show decide ((a + b) > a) = false from decide_eq_false (by have := HH.out; have := BU.out; omega))
  have HR := qh (show add1 a b = (a + b, true) from add_yes HH.out.1)
  refine s_ (fun K14 hK14 => ?_)
  refine pu_ (v := .int .i64 a) (y_move rfl (by rfl) (by rfl)) ?_
  try simp only [zP,zN,zA,zB,zC]
  refine pu_ (v := .int .i64 b) (y_move rfl (by rfl) (by rfl)) ?_
  try simp only [zP,zN,zA,zB,zC]
  refine pu_ (v := .int .i64 (a + b)) (y_run (by rfl) (fun W => by have d := W9.out; go_simp)) ?_
  try simp only [zP,zN,zA,zB,zC]
  refine pu_ (v := .int .i64 (a + b)) (y_assign rfl (by rfl) (by rfl)) ?_
  try simp only [zP,zN,zA,zB,zC]
  refine nl_ (hK14 _ _ ?_); clear hK14 K14
  refine sq_ (fun K15 hK15 => ?_)
  refine s_ (fun K16 hK16 => ?_)
  refine pu_ (v := .int .i64 b) (y_move rfl (by rfl) (by rfl)) ?_
  try simp only [zP,zN,zA,zB,zC]
  refine pu_ (v := .bool false) (y_run (by rfl) (fun W => by have d := D11.out; go_simp)) ?_
  try simp only [zP,zN,zA,zB,zC]
  refine pu_ (v := .bool false) (y_move rfl (by rfl) (by rfl)) ?_
  try simp only [zP,zN,zA,zB,zC]
  refine pu_ (y_off (by rfl)) ?_
  try simp only [zP,zN,zA,zB,zC]
  refine pu_ (y_off (by rfl)) ?_
  try simp only [zP,zN,zA,zB,zC]
  refine pu_ (y_off (by rfl)) ?_
  try simp only [zP,zN,zA,zB,zC]
  refine pu_ (v := .bool false) (y_pick (t := false) (by rfl) rfl (by rfl) (by rfl)) ?_
  try simp only [zP,zN,zA,zB,zC]
  refine pu_ (v := .bool false) (y_move rfl (by rfl) (by rfl)) ?_
  try simp only [zP,zN,zA,zB,zC]
  refine pu_ (v := .int .i64 b) (y_move rfl (by rfl) (by rfl)) ?_
  try simp only [zP,zN,zA,zB,zC]
  refine pu_ (v := .bool true) (y_run (by rfl) (fun W => by have d := D19.out; go_simp)) ?_
  try simp only [zP,zN,zA,zB,zC]
  refine pu_ (v := .bool true) (y_move rfl (by rfl) (by rfl)) ?_
  try simp only [zP,zN,zA,zB,zC]
  refine pu_ (v := .int .i64 (a + b)) (y_move rfl (by rfl) (by rfl)) ?_
  try simp only [zP,zN,zA,zB,zC]
  refine pu_ (v := .int .i64 a) (y_move rfl (by rfl) (by rfl)) ?_
  try simp only [zP,zN,zA,zB,zC]
  refine pu_ (v := .bool false) (y_run (by rfl) (fun W => by have d := D23.out; go_simp)) ?_
  try simp only [zP,zN,zA,zB,zC]
  refine pu_ (v := .bool false) (y_pick (t := true) (by rfl) rfl (by rfl) (by rfl)) ?_
  try simp only [zP,zN,zA,zB,zC]
  refine pu_ (v := .bool false) (y_pick (t := false) (by rfl) rfl (by rfl) (by rfl)) ?_
  try simp only [zP,zN,zA,zB,zC]
  refine nl_ (hK16 _ _ ?_); clear hK16 K16
  refine wp_cond_false rfl ?_
  refine wp_skip ?_
  refine th_norm (hK15 _ _ ?_); try clear hK15 K15
  refine s_ (fun K17 hK17 => ?_)
  refine pu_ (v := .int .i64 (a + b)) (y_move rfl (by rfl) (by rfl)) ?_
  try simp only [zP,zN,zA,zB,zC]
  refine pu_ (v := .int .i64 (a + b)) (y_assign rfl (by rfl) (by rfl)) ?_
  try simp only [zP,zN,zA,zB,zC]
  refine pu_ (v := .bool true) (y_assign rfl (by rfl) (by rfl)) ?_
  try simp only [zP,zN,zA,zB,zC]
  refine nl_ (hK17 _ _ ?_); clear hK17 K17
  refine wp_ret ?_
  refine hQ _ _ _ ?_
  refine bodyPost_ret (res2 rfl (rdv_tmp (v := .int .i64 (a + b)) (by rfl)) (rdv_tmp (v := .bool true) (by rfl))) rfl ?_
  exact ⟨by rw [HR.out], C0.out⟩
 ·have HH := qh h
  clear h
  have W9 := qh HH.out.2.2
  have BA := qh HA.out
  have BB := qh HB.out
  have BU := qh (show -9223372036854775808 ≤ a ∧ a ≤ 9223372036854775807 ∧ -9223372036854775808 ≤ b ∧ b ≤ 9223372036854775807 from ⟨HA.out.1, HA.out.2, HB.out.1, HB.out.2⟩)
  have D11 := qh (show decide (b > 0) = false from decide_eq_false (by have := HH.out; have := BU.out; omega))
  have D19 := qh (show decide (b < 0) = false from decide_eq_false (by have := HH.out; have := BU.out; omega))
  have HR := qh (show add1 a b = (a + b, true) from add_yes HH.out.1)
  refine s_ (fun K18 hK18 => ?_)
  refine pu_ (v := .int .i64 a) (y_move rfl (by rfl) (by rfl)) ?_
  try simp only [zP,zN,zA,zB,zC]
  refine pu_ (v := .int .i64 b) (y_move rfl (by rfl) (by rfl)) ?_
  try simp only [zP,zN,zA,zB,zC]
  refine pu_ (v := .int .i64 (a + b)) (y_run (by rfl) (fun W => by have d := W9.out; go_simp)) ?_
  try simp only [zP,zN,zA,zB,zC]
  refine pu_ (v := .int .i64 (a + b)) (y_assign rfl (by rfl) (by rfl)) ?_
  try simp only [zP,zN,zA,zB,zC]
  refine nl_ (hK18 _ _ ?_); clear hK18 K18
  refine sq_ (fun K19 hK19 => ?_)
  refine s_ (fun K20 hK20 => ?_)
  refine pu_ (v := .int .i64 b) (y_move rfl (by rfl) (by rfl)) ?_
  try simp only [zP,zN,zA,zB,zC]
  refine pu_ (v := .bool false) (y_run (by rfl) (fun W => by have d := D11.out; go_simp)) ?_
  try simp only [zP,zN,zA,zB,zC]
  refine pu_ (v := .bool false) (y_move rfl (by rfl) (by rfl)) ?_
  try simp only [zP,zN,zA,zB,zC]
  refine pu_ (y_off (by rfl)) ?_
  try simp only [zP,zN,zA,zB,zC]
  refine pu_ (y_off (by rfl)) ?_
  try simp only [zP,zN,zA,zB,zC]
  refine pu_ (y_off (by rfl)) ?_
  try simp only [zP,zN,zA,zB,zC]
  refine pu_ (v := .bool false) (y_pick (t := false) (by rfl) rfl (by rfl) (by rfl)) ?_
  try simp only [zP,zN,zA,zB,zC]
  refine pu_ (v := .bool false) (y_move rfl (by rfl) (by rfl)) ?_
  try simp only [zP,zN,zA,zB,zC]
  refine pu_ (v := .int .i64 b) (y_move rfl (by rfl) (by rfl)) ?_
  try simp only [zP,zN,zA,zB,zC]
  refine pu_ (v := .bool false) (y_run (by rfl) (fun W => by have d := D19.out; go_simp)) ?_
  try simp only [zP,zN,zA,zB,zC]
  refine pu_ (v := .bool false) (y_move rfl (by rfl) (by rfl)) ?_
  try simp only [zP,zN,zA,zB,zC]
  refine pu_ (y_off (by rfl)) ?_
  try simp only [zP,zN,zA,zB,zC]
  refine pu_ (y_off (by rfl)) ?_
  try simp only [zP,zN,zA,zB,zC]
  refine pu_ (y_off (by rfl)) ?_
  try simp only [zP,zN,zA,zB,zC]
  refine pu_ (v := .bool false) (y_pick (t := false) (by rfl) rfl (by rfl) (by rfl)) ?_
  try simp only [zP,zN,zA,zB,zC]
  refine pu_ (v := .bool false) (y_pick (t := false) (by rfl) rfl (by rfl) (by rfl)) ?_
  try simp only [zP,zN,zA,zB,zC]
  refine nl_ (hK20 _ _ ?_); clear hK20 K20
  refine wp_cond_false rfl ?_
  refine wp_skip ?_
  refine th_norm (hK19 _ _ ?_); try clear hK19 K19
  refine s_ (fun K21 hK21 => ?_)
  refine pu_ (v := .int .i64 (a + b)) (y_move rfl (by rfl) (by rfl)) ?_
  try simp only [zP,zN,zA,zB,zC]
  refine pu_ (v := .int .i64 (a + b)) (y_assign rfl (by rfl) (by rfl)) ?_
  try simp only [zP,zN,zA,zB,zC]
  refine pu_ (v := .bool true) (y_assign rfl (by rfl) (by rfl)) ?_
  try simp only [zP,zN,zA,zB,zC]
  refine nl_ (hK21 _ _ ?_); clear hK21 K21
  refine wp_ret ?_
  refine hQ _ _ _ ?_
  refine bodyPost_ret (res2 rfl (rdv_tmp (v := .int .i64 (a + b)) (by rfl)) (rdv_tmp (v := .bool true) (by rfl))) rfl ?_
  exact ⟨by rw [HR.out], C0.out⟩
theorem minus_ {a b : Int} (HA : Hid (I64 a)) (HB : Hid (I64 b))  :
  Calls Try.prog 58 #[.int .i64 a, .int .i64 b] w fun en w' => en = .returned (.tuple #[.int .i64 (minus1 a b).1, .bool (minus1 a b).2]) ∧ Ch [] w w' := by
 have C0 := qh (Ch.refl [] w)
 go_enter Try.func58, Try.ntmps58
 refine q_ (fun Q hQ hP => ?_)
 refine s_ (fun K1 hK1 => ?_)
 refine pu_ (v := .int .i64 0) (y_assign rfl (by rfl) (by rfl)) ?_
 try simp only [zP,zN,zA,zB,zC]
 refine pu_ (v := .bool false) (y_assign rfl (by rfl) (by rfl)) ?_
 try simp only [zP,zN,zA,zB,zC]
 refine nl_ (hK1 _ _ ?_); clear hK1 K1
 refine sq_ (fun K2 hK2 => ?_)
 rcases (show b > a ∨ (b ≤ a ∧ b < 0 ∧ a > 9223372036854775807 + b) ∨ (b ≤ a ∧ b < 0 ∧ a ≤ 9223372036854775807 + b) ∨ (b ≤ a ∧ 0 ≤ b) by omega) with h | h | h | h
 ·have HH := qh h
  clear h
  have D8 := qh (show decide (b > a) = true from decide_eq_true (by have := HH.out; omega))
  have BU := qh (show -9223372036854775808 ≤ a ∧ a ≤ 9223372036854775807 ∧ -9223372036854775808 ≤ b ∧ b ≤ 9223372036854775807 from ⟨HA.out.1, HA.out.2, HB.out.1, HB.out.2⟩)
  have HR := qh (show minus1 a b = (0, false) by unfold minus1; rw [if_pos HH.out])
  refine s_ (fun K3 hK3 => ?_)
  refine pu_ (v := .int .i64 b) (y_move rfl (by rfl) (by rfl)) ?_
  try simp only [zP,zN,zA,zB,zC]
  refine pu_ (v := .int .i64 a) (y_move rfl (by rfl) (by rfl)) ?_
  try simp only [zP,zN,zA,zB,zC]
  refine pu_ (v := .bool true) (y_run (by rfl) (fun W => by have d := D8.out; go_simp)) ?_
  try simp only [zP,zN,zA,zB,zC]
  refine pu_ (v := .bool true) (y_move rfl (by rfl) (by rfl)) ?_
  try simp only [zP,zN,zA,zB,zC]
  refine pu_ (y_off (by rfl)) ?_
  try simp only [zP,zN,zA,zB,zC]
  refine pu_ (y_off (by rfl)) ?_
  try simp only [zP,zN,zA,zB,zC]
  refine pu_ (y_off (by rfl)) ?_
  try simp only [zP,zN,zA,zB,zC]
  refine pu_ (y_off (by rfl)) ?_
  try simp only [zP,zN,zA,zB,zC]
  refine pu_ (y_off (by rfl)) ?_
  try simp only [zP,zN,zA,zB,zC]
  refine pu_ (y_off (by rfl)) ?_
  try simp only [zP,zN,zA,zB,zC]
  refine pu_ (y_off (by rfl)) ?_
  try simp only [zP,zN,zA,zB,zC]
  refine pu_ (y_off (by rfl)) ?_
  try simp only [zP,zN,zA,zB,zC]
  refine pu_ (v := .bool true) (y_pick (t := true) (by rfl) rfl (by rfl) (by rfl)) ?_
  try simp only [zP,zN,zA,zB,zC]
  refine nl_ (hK3 _ _ ?_); clear hK3 K3
  refine wp_cond_true rfl ?_
  refine s_ (fun K4 hK4 => ?_)
  refine pu_ (v := .int .i64 0) (y_assign rfl (by rfl) (by rfl)) ?_
  try simp only [zP,zN,zA,zB,zC]
  refine pu_ (v := .bool false) (y_assign rfl (by rfl) (by rfl)) ?_
  try simp only [zP,zN,zA,zB,zC]
  refine nl_ (hK4 _ _ ?_); clear hK4 K4
  refine wp_ret ?_
  refine th_ret ?_
  refine hQ _ _ _ ?_
  refine bodyPost_ret (res2 rfl (rdv_tmp (v := .int .i64 0) (by rfl)) (rdv_tmp (v := .bool false) (by rfl))) rfl ?_
  exact ⟨by rw [HR.out], C0.out⟩
 ·have HH := qh h
  clear h
  have D8 := qh (show decide (b > a) = false from decide_eq_false (by have := HH.out; omega))
  have BU := qh (show -9223372036854775808 ≤ a ∧ a ≤ 9223372036854775807 ∧ -9223372036854775808 ≤ b ∧ b ≤ 9223372036854775807 from ⟨HA.out.1, HA.out.2, HB.out.1, HB.out.2⟩)
  have D11 := qh (show decide (b < 0) = true from decide_eq_true (by have := HH.out; omega))
  have W15 := qh (show IntKind.i64.wrap (9223372036854775807 + b) = 9223372036854775807 + b from wr64 (by have := BU.out; have := HH.out; omega))
  have D16 := qh (show decide (a > 9223372036854775807 + b) = true from decide_eq_true (by have := HH.out; omega))
  have HR := qh (show minus1 a b = (0, false) by unfold minus1; rw [if_neg (by have := HH.out; omega), if_pos (by have := HH.out; omega)])
  refine s_ (fun K5 hK5 => ?_)
  refine pu_ (v := .int .i64 b) (y_move rfl (by rfl) (by rfl)) ?_
  try simp only [zP,zN,zA,zB,zC]
  refine pu_ (v := .int .i64 a) (y_move rfl (by rfl) (by rfl)) ?_
  try simp only [zP,zN,zA,zB,zC]
  refine pu_ (v := .bool false) (y_run (by rfl) (fun W => by have d := D8.out; go_simp)) ?_
  try simp only [zP,zN,zA,zB,zC]
  refine pu_ (v := .bool false) (y_move rfl (by rfl) (by rfl)) ?_
  try simp only [zP,zN,zA,zB,zC]
  refine pu_ (v := .int .i64 b) (y_move rfl (by rfl) (by rfl)) ?_
  try simp only [zP,zN,zA,zB,zC]
  refine pu_ (v := .bool true) (y_run (by rfl) (fun W => by have d := D11.out; go_simp)) ?_
  try simp only [zP,zN,zA,zB,zC]
  refine pu_ (v := .bool true) (y_move rfl (by rfl) (by rfl)) ?_
  try simp only [zP,zN,zA,zB,zC]
  refine pu_ (v := .int .i64 a) (y_move rfl (by rfl) (by rfl)) ?_
  try simp only [zP,zN,zA,zB,zC]
  refine pu_ (v := .int .i64 b) (y_move rfl (by rfl) (by rfl)) ?_
  try simp only [zP,zN,zA,zB,zC]
  refine pu_ (v := .int .i64 (9223372036854775807 + b)) (y_run (by rfl) (fun W => by have d := W15.out; go_simp)) ?_
  try simp only [zP,zN,zA,zB,zC]
  refine pu_ (v := .bool true) (y_run (by rfl) (fun W => by have d := D16.out; go_simp)) ?_
  try simp only [zP,zN,zA,zB,zC]
  refine pu_ (v := .bool true) (y_pick (t := true) (by rfl) rfl (by rfl) (by rfl)) ?_
  try simp only [zP,zN,zA,zB,zC]
  refine pu_ (v := .bool true) (y_pick (t := false) (by rfl) rfl (by rfl) (by rfl)) ?_
  try simp only [zP,zN,zA,zB,zC]
  refine nl_ (hK5 _ _ ?_); clear hK5 K5
  refine wp_cond_true rfl ?_
  refine s_ (fun K6 hK6 => ?_)
  refine pu_ (v := .int .i64 0) (y_assign rfl (by rfl) (by rfl)) ?_
  try simp only [zP,zN,zA,zB,zC]
  refine pu_ (v := .bool false) (y_assign rfl (by rfl) (by rfl)) ?_
  try simp only [zP,zN,zA,zB,zC]
  refine nl_ (hK6 _ _ ?_); clear hK6 K6
  refine wp_ret ?_
  refine th_ret ?_
  refine hQ _ _ _ ?_
  refine bodyPost_ret (res2 rfl (rdv_tmp (v := .int .i64 0) (by rfl)) (rdv_tmp (v := .bool false) (by rfl))) rfl ?_
  exact ⟨by rw [HR.out], C0.out⟩
 ·have HH := qh h
  clear h
  have D8 := qh (show decide (b > a) = false from decide_eq_false (by have := HH.out; omega))
  have BU := qh (show -9223372036854775808 ≤ a ∧ a ≤ 9223372036854775807 ∧ -9223372036854775808 ≤ b ∧ b ≤ 9223372036854775807 from ⟨HA.out.1, HA.out.2, HB.out.1, HB.out.2⟩)
  have D11 := qh (show decide (b < 0) = true from decide_eq_true (by have := HH.out; omega))
  have W15 := qh (show IntKind.i64.wrap (9223372036854775807 + b) = 9223372036854775807 + b from wr64 (by have := BU.out; have := HH.out; omega))
  have D16 := qh (show decide (a > 9223372036854775807 + b) = false from decide_eq_false (by have := HH.out; omega))
  have W21 := qh (show IntKind.i64.wrap (a - b) = a - b from wr64 (by have := BU.out; have := HH.out; omega))
  have HR := qh (show minus1 a b = (a - b, true) by unfold minus1; rw [if_neg (by have := HH.out; omega), if_neg (by have := HH.out; have := BU.out; omega)])
  refine s_ (fun K7 hK7 => ?_)
  refine pu_ (v := .int .i64 b) (y_move rfl (by rfl) (by rfl)) ?_
  try simp only [zP,zN,zA,zB,zC]
  refine pu_ (v := .int .i64 a) (y_move rfl (by rfl) (by rfl)) ?_
  try simp only [zP,zN,zA,zB,zC]
  refine pu_ (v := .bool false) (y_run (by rfl) (fun W => by have d := D8.out; go_simp)) ?_
  try simp only [zP,zN,zA,zB,zC]
  refine pu_ (v := .bool false) (y_move rfl (by rfl) (by rfl)) ?_
  try simp only [zP,zN,zA,zB,zC]
  refine pu_ (v := .int .i64 b) (y_move rfl (by rfl) (by rfl)) ?_
  try simp only [zP,zN,zA,zB,zC]
  refine pu_ (v := .bool true) (y_run (by rfl) (fun W => by have d := D11.out; go_simp)) ?_
  try simp only [zP,zN,zA,zB,zC]
  refine pu_ (v := .bool true) (y_move rfl (by rfl) (by rfl)) ?_
  try simp only [zP,zN,zA,zB,zC]
  refine pu_ (v := .int .i64 a) (y_move rfl (by rfl) (by rfl)) ?_
  try simp only [zP,zN,zA,zB,zC]
  refine pu_ (v := .int .i64 b) (y_move rfl (by rfl) (by rfl)) ?_
  try simp only [zP,zN,zA,zB,zC]
  refine pu_ (v := .int .i64 (9223372036854775807 + b)) (y_run (by rfl) (fun W => by have d := W15.out; go_simp)) ?_
  try simp only [zP,zN,zA,zB,zC]
  refine pu_ (v := .bool false) (y_run (by rfl) (fun W => by have d := D16.out; go_simp)) ?_
  try simp only [zP,zN,zA,zB,zC]
  refine pu_ (v := .bool false) (y_pick (t := true) (by rfl) rfl (by rfl) (by rfl)) ?_
  try simp only [zP,zN,zA,zB,zC]
  refine pu_ (v := .bool false) (y_pick (t := false) (by rfl) rfl (by rfl) (by rfl)) ?_
  try simp only [zP,zN,zA,zB,zC]
  refine nl_ (hK7 _ _ ?_); clear hK7 K7
  refine wp_cond_false rfl ?_
  refine wp_skip ?_
  refine th_norm (hK2 _ _ ?_); try clear hK2 K2
  refine s_ (fun K8 hK8 => ?_)
  refine pu_ (v := .int .i64 a) (y_move rfl (by rfl) (by rfl)) ?_
  try simp only [zP,zN,zA,zB,zC]
  refine pu_ (v := .int .i64 b) (y_move rfl (by rfl) (by rfl)) ?_
  try simp only [zP,zN,zA,zB,zC]
  refine pu_ (v := .int .i64 (a - b)) (y_run (by rfl) (fun W => by have d := W21.out; go_simp)) ?_
  try simp only [zP,zN,zA,zB,zC]
  refine pu_ (v := .int .i64 (a - b)) (y_assign rfl (by rfl) (by rfl)) ?_
  try simp only [zP,zN,zA,zB,zC]
  refine pu_ (v := .bool true) (y_assign rfl (by rfl) (by rfl)) ?_
  try simp only [zP,zN,zA,zB,zC]
  refine nl_ (hK8 _ _ ?_); clear hK8 K8
  refine wp_ret ?_
  refine hQ _ _ _ ?_
  refine bodyPost_ret (res2 rfl (rdv_tmp (v := .int .i64 (a - b)) (by rfl)) (rdv_tmp (v := .bool true) (by rfl))) rfl ?_
  exact ⟨by rw [HR.out], C0.out⟩
 ·have HH := qh h
  clear h
  have D8 := qh (show decide (b > a) = false from decide_eq_false (by have := HH.out; omega))
  have BU := qh (show -9223372036854775808 ≤ a ∧ a ≤ 9223372036854775807 ∧ -9223372036854775808 ≤ b ∧ b ≤ 9223372036854775807 from ⟨HA.out.1, HA.out.2, HB.out.1, HB.out.2⟩)
  have D11 := qh (show decide (b < 0) = false from decide_eq_false (by have := HH.out; omega))
  have W21 := qh (show IntKind.i64.wrap (a - b) = a - b from wr64 (by have := BU.out; have := HH.out; omega))
  have HR := qh (show minus1 a b = (a - b, true) by unfold minus1; rw [if_neg (by have := HH.out; omega), if_neg (by have := HH.out; have := BU.out; omega)])
  refine s_ (fun K9 hK9 => ?_)
  refine pu_ (v := .int .i64 b) (y_move rfl (by rfl) (by rfl)) ?_
  try simp only [zP,zN,zA,zB,zC]
  refine pu_ (v := .int .i64 a) (y_move rfl (by rfl) (by rfl)) ?_
  try simp only [zP,zN,zA,zB,zC]
  refine pu_ (v := .bool false) (y_run (by rfl) (fun W => by have d := D8.out; go_simp)) ?_
  try simp only [zP,zN,zA,zB,zC]
  refine pu_ (v := .bool false) (y_move rfl (by rfl) (by rfl)) ?_
  try simp only [zP,zN,zA,zB,zC]
  refine pu_ (v := .int .i64 b) (y_move rfl (by rfl) (by rfl)) ?_
  try simp only [zP,zN,zA,zB,zC]
  refine pu_ (v := .bool false) (y_run (by rfl) (fun W => by have d := D11.out; go_simp)) ?_
  try simp only [zP,zN,zA,zB,zC]
  refine pu_ (v := .bool false) (y_move rfl (by rfl) (by rfl)) ?_
  try simp only [zP,zN,zA,zB,zC]
  refine pu_ (y_off (by rfl)) ?_
  try simp only [zP,zN,zA,zB,zC]
  refine pu_ (y_off (by rfl)) ?_
  try simp only [zP,zN,zA,zB,zC]
  refine pu_ (y_off (by rfl)) ?_
  try simp only [zP,zN,zA,zB,zC]
  refine pu_ (y_off (by rfl)) ?_
  try simp only [zP,zN,zA,zB,zC]
  refine pu_ (v := .bool false) (y_pick (t := false) (by rfl) rfl (by rfl) (by rfl)) ?_
  try simp only [zP,zN,zA,zB,zC]
  refine pu_ (v := .bool false) (y_pick (t := false) (by rfl) rfl (by rfl) (by rfl)) ?_
  try simp only [zP,zN,zA,zB,zC]
  refine nl_ (hK9 _ _ ?_); clear hK9 K9
  refine wp_cond_false rfl ?_
  refine wp_skip ?_
  refine th_norm (hK2 _ _ ?_); try clear hK2 K2
  refine s_ (fun K10 hK10 => ?_)
  refine pu_ (v := .int .i64 a) (y_move rfl (by rfl) (by rfl)) ?_
  try simp only [zP,zN,zA,zB,zC]
  refine pu_ (v := .int .i64 b) (y_move rfl (by rfl) (by rfl)) ?_
  try simp only [zP,zN,zA,zB,zC]
  refine pu_ (v := .int .i64 (a - b)) (y_run (by rfl) (fun W => by have d := W21.out; go_simp)) ?_
  try simp only [zP,zN,zA,zB,zC]
  refine pu_ (v := .int .i64 (a - b)) (y_assign rfl (by rfl) (by rfl)) ?_
  try simp only [zP,zN,zA,zB,zC]
  refine pu_ (v := .bool true) (y_assign rfl (by rfl) (by rfl)) ?_
  try simp only [zP,zN,zA,zB,zC]
  refine nl_ (hK10 _ _ ?_); clear hK10 K10
  refine wp_ret ?_
  refine hQ _ _ _ ?_
  refine bodyPost_ret (res2 rfl (rdv_tmp (v := .int .i64 (a - b)) (by rfl)) (rdv_tmp (v := .bool true) (by rfl))) rfl ?_
  exact ⟨by rw [HR.out], C0.out⟩
end
end Go.Proofs.Ytmoelehhofmhcaa.V
