/- The walks of package press: sums, limits, candidates. -/
import Derived.Test.YtmoelehhofmhcaaPrB
namespace Go.Proofs.Ytmoelehhofmhcaa.V
open Go Go.RowKit Go.Proofs.Ytmoelehhofmhcaa.K Go.Proofs.YtmoelehhofmhcaaW.PrintLast
set_option linter.unusedVariables false
set_option linter.unusedSimpArgs false
set_option maxRecDepth 100000
set_option maxHeartbeats 1600000
section
variable {w : World}
theorem plus_ {a b : Int} (HA : Hid (UptoZ a)) (HB : Hid (SmallZ b))  :
  Calls Try.prog 26 #[.int .i64 a, .int .i64 b] w fun en w' => en = .returned (.int .i64 (plusZ a b)) ∧ Ch [] w w' := by
 have C0 := qh (Ch.refl [] w)
 go_enter Try.func26, Try.ntmps26
 refine q_ (fun Q hQ hP => ?_)
 refine s_ (fun K1 hK1 => ?_)
 refine pu_ (v := .int .i64 0) (y_assign rfl (by rfl) (by rfl)) ?_
 try simp only [zP,zN,zA,zB,zC]
 refine nl_ (hK1 _ _ ?_); clear hK1 K1
 skip
 ·have WA := qh (show IntKind.i64.wrap (4611686018427387904 - b) = 4611686018427387904 - b from wr64 (by have := HB.out; unfold SmallZ at this; omega))
  have WB := qh (show IntKind.i64.wrap (min a (4611686018427387904 - b) + b) = plusZ a b from wr64 (by have h1 := HA.out; have h2 := HB.out; unfold UptoZ at h1; unfold SmallZ at h2; omega))
  refine s_ (fun K2 hK2 => ?_)
  refine pu_ (v := .int .i64 a) (y_move rfl (by rfl) (by rfl)) ?_
  try simp only [zP,zN,zA,zB,zC]
  refine pu_ (v := .int .i64 b) (y_move rfl (by rfl) (by rfl)) ?_
  try simp only [zP,zN,zA,zB,zC]
  refine pu_ (v := .int .i64 (4611686018427387904 - b)) (y_run (by rfl) (fun W => by have d := WA.out; go_simp)) ?_
  try simp only [zP,zN,zA,zB,zC]
  refine pu_ (v := .int .i64 (min a (4611686018427387904 - b))) (y_run (by rfl) (fun W => by go_simp; split <;> omega)) ?_
  try simp only [zP,zN,zA,zB,zC]
  refine pu_ (v := .int .i64 b) (y_move rfl (by rfl) (by rfl)) ?_
  try simp only [zP,zN,zA,zB,zC]
  refine pu_ (v := .int .i64 (plusZ a b)) (y_run (by rfl) (fun W => by have d := WB.out; go_simp)) ?_
  try simp only [zP,zN,zA,zB,zC]
  refine pu_ (v := .int .i64 (plusZ a b)) (y_assign rfl (by rfl) (by rfl)) ?_
  try simp only [zP,zN,zA,zB,zC]
  refine nl_ (hK2 _ _ ?_); clear hK2 K2
  refine wp_ret ?_
  refine hQ _ _ _ ?_
  refine bodyPost_ret (res1 rfl (rdv_tmp (v := .int .i64 (plusZ a b)) (by rfl))) rfl ?_
  exact ⟨rfl, C0.out⟩
theorem limit_ {c m p pc : Int} (HM : Hid (SmallZ m))  :
  Calls Try.prog 9 #[.agg #[.int .i64 c, .int .i64 m, .int .i64 p], .int .i64 pc] w fun en w' => en = .returned (.int .i64 (limZ m pc)) ∧ Ch [] w w' := by
 have C0 := qh (Ch.refl [] w)
 go_enter Try.func9, Try.ntmps9
 refine q_ (fun Q hQ hP => ?_)
 refine s_ (fun K1 hK1 => ?_)
 refine ef_ (fun K2 hK2 => ?_)
 refine e_boxN (by rfl) rfl rfl (cs := #[.int .i64 c, .int .i64 m, .int .i64 p]) (v := .agg #[.int .i64 c, .int .i64 m, .int .i64 p]) (by rfl) rfl ?_
 rintro g3 w4 HG5 B6 C7
 have nw8 := qh (show w.heap.size ≤ g3 by have := C0.out.size; have := HG5.out; omega)
 replace C0 := qh (C0.out.trans' C7 inw_nil)
 have Fg3 := qh (show Blk w4 g3 (#[.int .i64 c, .int .i64 m, .int .i64 p]) 23 from B6); clear B6 C7
 refine hK2 _ _ ?_; clear hK2 K2
 try simp only [zP,zN,zA,zB,zC]
 refine pu_ (v := .int .i64 0) (y_assign rfl (by rfl) (by rfl)) ?_
 try simp only [zP,zN,zA,zB,zC]
 refine nl_ (hK1 _ _ ?_); clear hK1 K1
 skip
 ·have HL := qh (lim_bounds (p := pc) HM.out)
  obtain ⟨q, hq⟩ : ∃ q, q = m / 100 := ⟨_, rfl⟩
  obtain ⟨r, hr⟩ : ∃ r, r = m % 100 := ⟨_, rfl⟩
  obtain ⟨t, ht⟩ : ∃ t, t = min (max pc 0) 100 := ⟨_, rfl⟩
  have HQ := qh hq; have HR := qh hr; have HT := qh ht
  have HBB := qh (show 0 ≤ q ∧ q ≤ 11529215046068469 ∧ 0 ≤ r ∧ r ≤ 99 ∧ 0 ≤ t ∧ t ≤ 100 by rw [hq, hr, ht]; exact HL.out)
  clear hq hr ht HL
  have HP1 := qh (show 0 ≤ q * t ∧ q * t ≤ 1152921504606846900 from ⟨Int.mul_nonneg (HBB.out.1) (HBB.out.2.2.2.2.1), Int.le_trans (Int.mul_le_mul HBB.out.2.1 HBB.out.2.2.2.2.2 HBB.out.2.2.2.2.1 (by omega)) (by omega)⟩)
  have HP2 := qh (show 0 ≤ r * t ∧ r * t ≤ 9900 from ⟨Int.mul_nonneg (HBB.out.2.2.1) (HBB.out.2.2.2.2.1), Int.le_trans (Int.mul_le_mul HBB.out.2.2.2.1 HBB.out.2.2.2.2.2 HBB.out.2.2.2.2.1 (by omega)) (by omega)⟩)
  have M0 := qh (show 0 ≤ m from HM.out.1)
  have W10 := qh (show m.tdiv 100 = q by rw [HQ.out]; exact Int.tdiv_eq_ediv_of_nonneg M0.out)
  have W15 := qh (show m.tmod 100 = r by rw [HR.out]; exact Int.tmod_eq_emod_of_nonneg M0.out)
  have X10 := qh (show IntKind.i64.wrap q = q from wr64 (by have := HBB.out; omega))
  have X15 := qh (show IntKind.i64.wrap r = r from wr64 (by have := HBB.out; omega))
  have W12 := qh (show IntKind.i64.wrap (q * t) = q * t from wr64 (by have := HP1.out; omega))
  have W17 := qh (show IntKind.i64.wrap (r * t) = r * t from wr64 (by have := HP2.out; omega))
  have W18 := qh (show (r * t).tdiv 100 = r * t / 100 from Int.tdiv_eq_ediv_of_nonneg HP2.out.1)
  have X18 := qh (show IntKind.i64.wrap (r * t / 100) = r * t / 100 from wr64 (by have := HP2.out; omega))
  have W19 := qh (show IntKind.i64.wrap (q * t + r * t / 100) = q * t + r * t / 100 from wr64 (by have := HP1.out; have := HP2.out; omega))
  refine s_ (fun K9 hK9 => ?_)
  refine pu_ (v := .int .i64 pc) (y_move rfl (by rfl) (by rfl)) ?_
  try simp only [zP,zN,zA,zB,zC]
  refine pu_ (v := .int .i64 (max pc 0)) (y_run (by rfl) (fun W => by go_simp; split <;> omega)) ?_
  try simp only [zP,zN,zA,zB,zC]
  refine pu_ (v := .int .i64 t) (y_run (by rfl) (fun W => by rw [HT.out]; go_simp; split <;> omega)) ?_
  try simp only [zP,zN,zA,zB,zC]
  refine pu_ (v := .int .i64 t) (y_assign rfl (by rfl) (by rfl)) ?_
  try simp only [zP,zN,zA,zB,zC]
  refine nl_ (hK9 _ _ ?_); clear hK9 K9
  refine s_ (fun K10 hK10 => ?_)
  refine pu_ (v := .pointer (some ⟨g3, 1, none⟩)) (y_run (by rfl) (fun W => by go_simp)) ?_
  try simp only [zP,zN,zA,zB,zC]
  refine ld_ (v := .int .i64 m) rfl (by rfl) (by rfl) (run_load_one ((Fg3.out.cell 1).trans rfl) Try.underlying3 rfl) ?_
  try simp only [zP,zN,zA,zB,zC]
  refine pu_ (v := .int .i64 q) (y_run (by rfl) (fun W => by have d := W10.out; have d2 := X10.out; go_simp)) ?_
  try simp only [zP,zN,zA,zB,zC]
  refine pu_ (v := .int .i64 t) (y_move rfl (by rfl) (by rfl)) ?_
  try simp only [zP,zN,zA,zB,zC]
  refine pu_ (v := .int .i64 (q * t)) (y_run (by rfl) (fun W => by have d := W12.out; go_simp)) ?_
  try simp only [zP,zN,zA,zB,zC]
  refine pu_ (v := .pointer (some ⟨g3, 1, none⟩)) (y_run (by rfl) (fun W => by go_simp)) ?_
  try simp only [zP,zN,zA,zB,zC]
  refine ld_ (v := .int .i64 m) rfl (by rfl) (by rfl) (run_load_one ((Fg3.out.cell 1).trans rfl) Try.underlying3 rfl) ?_
  try simp only [zP,zN,zA,zB,zC]
  refine pu_ (v := .int .i64 r) (y_run (by rfl) (fun W => by have d := W15.out; have d2 := X15.out; go_simp)) ?_
  try simp only [zP,zN,zA,zB,zC]
  refine pu_ (v := .int .i64 t) (y_move rfl (by rfl) (by rfl)) ?_
  try simp only [zP,zN,zA,zB,zC]
  refine pu_ (v := .int .i64 (r * t)) (y_run (by rfl) (fun W => by have d := W17.out; go_simp)) ?_
  try simp only [zP,zN,zA,zB,zC]
  refine pu_ (v := .int .i64 (r * t / 100)) (y_run (by rfl) (fun W => by have d := W18.out; have d2 := X18.out; go_simp)) ?_
  try simp only [zP,zN,zA,zB,zC]
  refine pu_ (v := .int .i64 (q * t + r * t / 100)) (y_run (by rfl) (fun W => by have d := W19.out; go_simp)) ?_
  try simp only [zP,zN,zA,zB,zC]
  refine pu_ (v := .int .i64 (q * t + r * t / 100)) (y_assign rfl (by rfl) (by rfl)) ?_
  try simp only [zP,zN,zA,zB,zC]
  refine nl_ (hK10 _ _ ?_); clear hK10 K10
  refine wp_ret ?_
  refine hQ _ _ _ ?_
  refine bodyPost_ret (res1 rfl (rdv_tmp (v := .int .i64 (q * t + r * t / 100)) (by rfl))) rfl ?_
  exact ⟨by unfold limZ; rw [← HQ.out, ← HR.out, ← HT.out], C0.out⟩
theorem short_ {a b c d m e pc : Int} (HM : Hid (SmallZ m))  :
  Calls Try.prog 10 #[.agg #[.int .i64 a, .int .i64 b, .int .i64 c], .agg #[.int .i64 d, .int .i64 m, .int .i64 e], .int .i64 pc] w fun en w' => en = .returned (.bool (decide (b > limZ m pc))) ∧ Ch [] w w' := by
 have C0 := qh (Ch.refl [] w)
 go_enter Try.func10, Try.ntmps10
 refine q_ (fun Q hQ hP => ?_)
 refine s_ (fun K1 hK1 => ?_)
 refine ef_ (fun K2 hK2 => ?_)
 refine e_boxN (by rfl) rfl rfl (cs := #[.int .i64 a, .int .i64 b, .int .i64 c]) (v := .agg #[.int .i64 a, .int .i64 b, .int .i64 c]) (by rfl) rfl ?_
 rintro g3 w4 HG5 B6 C7
 have nw8 := qh (show w.heap.size ≤ g3 by have := C0.out.size; have := HG5.out; omega)
 replace C0 := qh (C0.out.trans' C7 inw_nil)
 have Fg3 := qh (show Blk w4 g3 (#[.int .i64 a, .int .i64 b, .int .i64 c]) 23 from B6); clear B6 C7
 refine hK2 _ _ ?_; clear hK2 K2
 try simp only [zP,zN,zA,zB,zC]
 refine ef_ (fun K9 hK9 => ?_)
 refine e_boxN (by rfl) rfl rfl (cs := #[.int .i64 d, .int .i64 m, .int .i64 e]) (v := .agg #[.int .i64 d, .int .i64 m, .int .i64 e]) (by rfl) rfl ?_
 rintro g10 w11 HG12 B13 C14
 have nw15 := qh (show w.heap.size ≤ g10 by have := C0.out.size; have := HG12.out; omega)
 have ne16 := qh (Fg3.out.ne_new HG12)
 replace C0 := qh (C0.out.trans' C14 inw_nil)
 replace Fg3 := qh (C14.blk Fg3.out nin_nil)
 have Fg10 := qh (show Blk w11 g10 (#[.int .i64 d, .int .i64 m, .int .i64 e]) 23 from B13); clear B13 C14
 refine hK9 _ _ ?_; clear hK9 K9
 try simp only [zP,zN,zA,zB,zC]
 refine pu_ (v := .bool false) (y_assign rfl (by rfl) (by rfl)) ?_
 try simp only [zP,zN,zA,zB,zC]
 refine nl_ (hK1 _ _ ?_); clear hK1 K1
 refine sq_ (fun K17 hK17 => ?_)
 refine startk_ (S := fun W => Blk W g3 (#[.int .i64 a, .int .i64 b, .int .i64 c]) 23 ∧ Blk W g10 (#[.int .i64 d, .int .i64 m, .int .i64 e]) 23 ∧ True) (ds := []) (msk 7 0) (by kernel_rfl) rfl (by kernel_rfl) (fun W c => ⟨c.blk Fg3.out nin_nil, c.blk Fg10.out nin_nil, trivial⟩) (fun w18 C19 hS20 => ?_)
 replace C0 := qh (C0.out.trans' C19 inw_nil)
 replace Fg3 := qh (C19.blk Fg3.out nin_nil)
 replace Fg10 := qh (C19.blk Fg10.out nin_nil)
 clear C19
 refine pureh_ (i := 0) (N := some 7) (v := .pointer (some ⟨g3, 1, none⟩)) (msk 7 1) rfl rfl (by kernel_rfl) hP (y_run (by rfl) (fun W => by go_simp)) rfl ?_
 try simp only [zP,zN,zA,zB,zC]
 refine takeh_ (i := 1) (N := some 8) (v := .int .i64 b) (msk 7 3) rfl rfl (by kernel_rfl) hP (y_load (p := ⟨g3, 1, none⟩) rfl (by rfl) (by rfl) (fun W hS => run_load_one ((hS.1.cell 1).trans rfl) Try.underlying3 rfl)) hS20 rfl ?_
 try simp only [zP,zN,zA,zB,zC]
 refine takeh_ (i := 2) (N := some 9) (v := .agg (#[.int .i64 d, .int .i64 m, .int .i64 e])) (msk 7 7) rfl rfl (by kernel_rfl) hP (y_load (p := ⟨g10, 0, none⟩) rfl (by rfl) (by rfl) (fun W hS => run_loadVar_row _ _ 23 23 (#[.int .i64 d, .int .i64 m, .int .i64 e]) (0, 0) _ hS.2.1 Try.underlying23 rfl (by kernel_rfl))) hS20 rfl ?_
 try simp only [zP,zN,zA,zB,zC]
 refine pureh_ (i := 3) (N := some 10) (v := .int .i64 pc) (msk 7 15) rfl rfl (by kernel_rfl) hP (y_move rfl (by rfl) (by rfl)) rfl ?_
 try simp only [zP,zN,zA,zB,zC]
 refine one_ (i := 4) (N := some 11) (msk 7 31) rfl rfl (by kernel_rfl) (by simp) (fun K21 hK21 => ?_)
 refine e_call Try.func9 (by kernel_rfl) rfl #[.agg (#[.int .i64 d, .int .i64 m, .int .i64 e]), .int .i64 pc] (by rfl) rfl rfl (mp2 rfl rfl) ((limit_ HM)) ?_
 rintro en w23 ⟨rfl, cc22⟩
 refine ⟨_, rfl, ?_⟩
 replace C0 := qh (C0.out.trans' cc22 inw_nil)
 replace Fg3 := qh (cc22.blk Fg3.out nin_nil)
 replace Fg10 := qh (cc22.blk Fg10.out nin_nil)
 clear cc22
 refine hK21.out _ _ ⟨Fg3.out, Fg10.out, trivial⟩ (fun hS24 => ?_); clear hK21 K21
 try simp only [zP,zN,zA,zB,zC]
 refine pureh_ (i := 5) (N := some 12) (v := .bool (decide (b > limZ m pc))) (msk 7 63) rfl rfl (by kernel_rfl) hP (y_run (by rfl) (fun W => by go_simp)) rfl ?_
 try simp only [zP,zN,zA,zB,zC]
 refine pureh_ (i := 6) (N := some 6) (v := .bool (decide (b > limZ m pc))) (msk 7 127) rfl rfl (by kernel_rfl) hP (y_assign rfl (by rfl) (by rfl)) rfl ?_
 try simp only [zP,zN,zA,zB,zC]
 refine done_ (by kernel_rfl) (th_norm (hK17 _ _ ?_)); clear hK17 K17
 refine wp_ret ?_
 refine hQ _ _ _ ?_
 refine bodyPost_ret (res1 rfl (rdv_tmp (v := .bool (decide (b > limZ m pc))) (by rfl))) rfl ?_
 exact ⟨rfl, C0.out⟩
theorem small_ways (a b c : Int) : a < 0 ∨ (0 ≤ a ∧ 1152921504606846976 < a) ∨ (0 ≤ a ∧ a ≤ 1152921504606846976 ∧ b < 0) ∨ (0 ≤ a ∧ a ≤ 1152921504606846976 ∧ 0 ≤ b ∧ 1152921504606846976 < b) ∨ (0 ≤ a ∧ a ≤ 1152921504606846976 ∧ 0 ≤ b ∧ b ≤ 1152921504606846976 ∧ c < 0) ∨ (0 ≤ a ∧ a ≤ 1152921504606846976 ∧ 0 ≤ b ∧ b ≤ 1152921504606846976 ∧ 0 ≤ c ∧ 1152921504606846976 < c) ∨ (0 ≤ a ∧ a ≤ 1152921504606846976 ∧ 0 ≤ b ∧ b ≤ 1152921504606846976 ∧ 0 ≤ c ∧ c ≤ 1152921504606846976) := by omega
theorem small_ (a b c : Int)  :
  Calls Try.prog 6 #[.agg #[.int .i64 a, .int .i64 b, .int .i64 c]] w fun en w' => ∃ r, en = .returned (.bool r) ∧ (r = true ↔ (SmallZ a ∧ SmallZ b ∧ SmallZ c)) ∧ Ch [] w w' := by
 have C0 := qh (Ch.refl [] w)
 go_enter Try.func6, Try.ntmps6
 refine q_ (fun Q hQ hP => ?_)
 refine s_ (fun K1 hK1 => ?_)
 refine ef_ (fun K2 hK2 => ?_)
 refine e_boxN (by rfl) rfl rfl (cs := #[.int .i64 a, .int .i64 b, .int .i64 c]) (v := .agg #[.int .i64 a, .int .i64 b, .int .i64 c]) (by rfl) rfl ?_
 rintro g3 w4 HG5 B6 C7
 have nw8 := qh (show w.heap.size ≤ g3 by have := C0.out.size; have := HG5.out; omega)
 replace C0 := qh (C0.out.trans' C7 inw_nil)
 have Fg3 := qh (show Blk w4 g3 (#[.int .i64 a, .int .i64 b, .int .i64 c]) 23 from B6); clear B6 C7
 refine hK2 _ _ ?_; clear hK2 K2
 try simp only [zP,zN,zA,zB,zC]
 refine pu_ (v := .bool false) (y_assign rfl (by rfl) (by rfl)) ?_
 try simp only [zP,zN,zA,zB,zC]
 refine nl_ (hK1 _ _ ?_); clear hK1 K1
 rcases small_ways a b c with h | h | h | h | h | h | h
 ·have HH := qh h
  clear h
  have D5 := qh (show decide (a ≥ 0) = false from decide_eq_false (by have := HH.out; omega))
  have HR := qh (show ¬ (SmallZ a ∧ SmallZ b ∧ SmallZ c) from by have := HH.out; unfold SmallZ; omega)
  refine s_ (fun K9 hK9 => ?_)
  refine pu_ (v := .pointer (some ⟨g3, 0, none⟩)) (y_run (by rfl) (fun W => by go_simp)) ?_
  try simp only [zP,zN,zA,zB,zC]
  refine ld_ (v := .int .i64 a) rfl (by rfl) (by rfl) (run_load_one ((Fg3.out.cell 0).trans rfl) Try.underlying3 rfl) ?_
  try simp only [zP,zN,zA,zB,zC]
  refine pu_ (v := .bool false) (y_run (by rfl) (fun W => by have d := D5.out; go_simp)) ?_
  try simp only [zP,zN,zA,zB,zC]
  refine pu_ (v := .bool false) (y_move rfl (by rfl) (by rfl)) ?_
  try simp only [zP,zN,zA,zB,zC]
  refine pu_ (y_off (by rfl)) ?_
  try simp only [zP,zN,zA,zB,zC]
  refine pu_ (y_off (by rfl)) ?_
  try simp only [zP,zN,zA,zB,zC]
  refine pu_ (y_off (by rfl)) ?_
  try simp only [zP,zN,zA,zB,zC]
  refine pu_ (v := .bool false) (y_pick (t := false) (by rfl) rfl (by rfl) (by rfl)) ?_
  try simp only [zP,zN,zA,zB,zC]
  refine pu_ (v := .bool false) (y_move rfl (by rfl) (by rfl)) ?_
  try simp only [zP,zN,zA,zB,zC]
  refine pu_ (y_off (by rfl)) ?_
  try simp only [zP,zN,zA,zB,zC]
  refine pu_ (y_off (by rfl)) ?_
  try simp only [zP,zN,zA,zB,zC]
  refine pu_ (y_off (by rfl)) ?_
  try simp only [zP,zN,zA,zB,zC]
  refine pu_ (v := .bool false) (y_pick (t := false) (by rfl) rfl (by rfl) (by rfl)) ?_
  try simp only [zP,zN,zA,zB,zC]
  refine pu_ (v := .bool false) (y_move rfl (by rfl) (by rfl)) ?_
  try simp only [zP,zN,zA,zB,zC]
  refine pu_ (y_off (by rfl)) ?_
  try simp only [zP,zN,zA,zB,zC]
  refine pu_ (y_off (by rfl)) ?_
  try simp only [zP,zN,zA,zB,zC]
  refine pu_ (y_off (by rfl)) ?_
  try simp only [zP,zN,zA,zB,zC]
  refine pu_ (v := .bool false) (y_pick (t := false) (by rfl) rfl (by rfl) (by rfl)) ?_
  try simp only [zP,zN,zA,zB,zC]
  refine pu_ (v := .bool false) (y_move rfl (by rfl) (by rfl)) ?_
  try simp only [zP,zN,zA,zB,zC]
  refine pu_ (y_off (by rfl)) ?_
  try simp only [zP,zN,zA,zB,zC]
  refine pu_ (y_off (by rfl)) ?_
  try simp only [zP,zN,zA,zB,zC]
  refine pu_ (y_off (by rfl)) ?_
  try simp only [zP,zN,zA,zB,zC]
  refine pu_ (v := .bool false) (y_pick (t := false) (by rfl) rfl (by rfl) (by rfl)) ?_
  try simp only [zP,zN,zA,zB,zC]
  refine pu_ (v := .bool false) (y_move rfl (by rfl) (by rfl)) ?_
  try simp only [zP,zN,zA,zB,zC]
  refine pu_ (y_off (by rfl)) ?_
  try simp only [zP,zN,zA,zB,zC]
  refine pu_ (y_off (by rfl)) ?_
  try simp only [zP,zN,zA,zB,zC]
  refine pu_ (y_off (by rfl)) ?_
  try simp only [zP,zN,zA,zB,zC]
  refine pu_ (v := .bool false) (y_pick (t := false) (by rfl) rfl (by rfl) (by rfl)) ?_
  try simp only [zP,zN,zA,zB,zC]
  refine pu_ (v := .bool false) (y_assign rfl (by rfl) (by rfl)) ?_
  try simp only [zP,zN,zA,zB,zC]
  refine nl_ (hK9 _ _ ?_); clear hK9 K9
  refine wp_ret ?_
  refine hQ _ _ _ ?_
  refine bodyPost_ret (res1 rfl (rdv_tmp (v := .bool false) (by rfl))) rfl ?_
  exact ⟨_, rfl, ⟨fun h9 => absurd h9 (by decide), fun h9 => absurd h9 HR.out⟩, C0.out⟩
 ·have HH := qh h
  clear h
  have D5 := qh (show decide (a ≥ 0) = true from decide_eq_true (by have := HH.out; omega))
  have D9 := qh (show decide (a ≤ 1152921504606846976) = false from decide_eq_false (by have := HH.out; omega))
  have HR := qh (show ¬ (SmallZ a ∧ SmallZ b ∧ SmallZ c) from by have := HH.out; unfold SmallZ; omega)
  refine s_ (fun K10 hK10 => ?_)
  refine pu_ (v := .pointer (some ⟨g3, 0, none⟩)) (y_run (by rfl) (fun W => by go_simp)) ?_
  try simp only [zP,zN,zA,zB,zC]
  refine ld_ (v := .int .i64 a) rfl (by rfl) (by rfl) (run_load_one ((Fg3.out.cell 0).trans rfl) Try.underlying3 rfl) ?_
  try simp only [zP,zN,zA,zB,zC]
  refine pu_ (v := .bool true) (y_run (by rfl) (fun W => by have d := D5.out; go_simp)) ?_
  try simp only [zP,zN,zA,zB,zC]
  refine pu_ (v := .bool true) (y_move rfl (by rfl) (by rfl)) ?_
  try simp only [zP,zN,zA,zB,zC]
  refine pu_ (v := .pointer (some ⟨g3, 0, none⟩)) (y_run (by rfl) (fun W => by go_simp)) ?_
  try simp only [zP,zN,zA,zB,zC]
  refine ld_ (v := .int .i64 a) rfl (by rfl) (by rfl) (run_load_one ((Fg3.out.cell 0).trans rfl) Try.underlying3 rfl) ?_
  try simp only [zP,zN,zA,zB,zC]
  refine pu_ (v := .bool false) (y_run (by rfl) (fun W => by have d := D9.out; go_simp)) ?_
  try simp only [zP,zN,zA,zB,zC]
  refine pu_ (v := .bool false) (y_pick (t := true) (by rfl) rfl (by rfl) (by rfl)) ?_
  try simp only [zP,zN,zA,zB,zC]
  refine pu_ (v := .bool false) (y_move rfl (by rfl) (by rfl)) ?_
  try simp only [zP,zN,zA,zB,zC]
  refine pu_ (y_off (by rfl)) ?_
  try simp only [zP,zN,zA,zB,zC]
  refine pu_ (y_off (by rfl)) ?_
  try simp only [zP,zN,zA,zB,zC]
  refine pu_ (y_off (by rfl)) ?_
  try simp only [zP,zN,zA,zB,zC]
  refine pu_ (v := .bool false) (y_pick (t := false) (by rfl) rfl (by rfl) (by rfl)) ?_
  try simp only [zP,zN,zA,zB,zC]
  refine pu_ (v := .bool false) (y_move rfl (by rfl) (by rfl)) ?_
  try simp only [zP,zN,zA,zB,zC]
  refine pu_ (y_off (by rfl)) ?_
  try simp only [zP,zN,zA,zB,zC]
  refine pu_ (y_off (by rfl)) ?_
  try simp only [zP,zN,zA,zB,zC]
  refine pu_ (y_off (by rfl)) ?_
  try simp only [zP,zN,zA,zB,zC]
  refine pu_ (v := .bool false) (y_pick (t := false) (by rfl) rfl (by rfl) (by rfl)) ?_
  try simp only [zP,zN,zA,zB,zC]
  refine pu_ (v := .bool false) (y_move rfl (by rfl) (by rfl)) ?_
  try simp only [zP,zN,zA,zB,zC]
  refine pu_ (y_off (by rfl)) ?_
  try simp only [zP,zN,zA,zB,zC]
  refine pu_ (y_off (by rfl)) ?_
  try simp only [zP,zN,zA,zB,zC]
  refine pu_ (y_off (by rfl)) ?_
  try simp only [zP,zN,zA,zB,zC]
  refine pu_ (v := .bool false) (y_pick (t := false) (by rfl) rfl (by rfl) (by rfl)) ?_
  try simp only [zP,zN,zA,zB,zC]
  refine pu_ (v := .bool false) (y_move rfl (by rfl) (by rfl)) ?_
  try simp only [zP,zN,zA,zB,zC]
  refine pu_ (y_off (by rfl)) ?_
  try simp only [zP,zN,zA,zB,zC]
  refine pu_ (y_off (by rfl)) ?_
  try simp only [zP,zN,zA,zB,zC]
  refine pu_ (y_off (by rfl)) ?_
  try simp only [zP,zN,zA,zB,zC]
  refine pu_ (v := .bool false) (y_pick (t := false) (by rfl) rfl (by rfl) (by rfl)) ?_
  try simp only [zP,zN,zA,zB,zC]
  refine pu_ (v := .bool false) (y_assign rfl (by rfl) (by rfl)) ?_
  try simp only [zP,zN,zA,zB,zC]
  refine nl_ (hK10 _ _ ?_); clear hK10 K10
  refine wp_ret ?_
  refine hQ _ _ _ ?_
  refine bodyPost_ret (res1 rfl (rdv_tmp (v := .bool false) (by rfl))) rfl ?_
  exact ⟨_, rfl, ⟨fun h9 => absurd h9 (by decide), fun h9 => absurd h9 HR.out⟩, C0.out⟩
 ·have HH := qh h
  clear h
  have D5 := qh (show decide (a ≥ 0) = true from decide_eq_true (by have := HH.out; omega))
  have D9 := qh (show decide (a ≤ 1152921504606846976) = true from decide_eq_true (by have := HH.out; omega))
  have D14 := qh (show decide (b ≥ 0) = false from decide_eq_false (by have := HH.out; omega))
  have HR := qh (show ¬ (SmallZ a ∧ SmallZ b ∧ SmallZ c) from by have := HH.out; unfold SmallZ; omega)
  refine s_ (fun K11 hK11 => ?_)
  refine pu_ (v := .pointer (some ⟨g3, 0, none⟩)) (y_run (by rfl) (fun W => by go_simp)) ?_
  try simp only [zP,zN,zA,zB,zC]
  refine ld_ (v := .int .i64 a) rfl (by rfl) (by rfl) (run_load_one ((Fg3.out.cell 0).trans rfl) Try.underlying3 rfl) ?_
  try simp only [zP,zN,zA,zB,zC]
  refine pu_ (v := .bool true) (y_run (by rfl) (fun W => by have d := D5.out; go_simp)) ?_
  try simp only [zP,zN,zA,zB,zC]
  refine pu_ (v := .bool true) (y_move rfl (by rfl) (by rfl)) ?_
  try simp only [zP,zN,zA,zB,zC]
  refine pu_ (v := .pointer (some ⟨g3, 0, none⟩)) (y_run (by rfl) (fun W => by go_simp)) ?_
  try simp only [zP,zN,zA,zB,zC]
  refine ld_ (v := .int .i64 a) rfl (by rfl) (by rfl) (run_load_one ((Fg3.out.cell 0).trans rfl) Try.underlying3 rfl) ?_
  try simp only [zP,zN,zA,zB,zC]
  refine pu_ (v := .bool true) (y_run (by rfl) (fun W => by have d := D9.out; go_simp)) ?_
  try simp only [zP,zN,zA,zB,zC]
  refine pu_ (v := .bool true) (y_pick (t := true) (by rfl) rfl (by rfl) (by rfl)) ?_
  try simp only [zP,zN,zA,zB,zC]
  refine pu_ (v := .bool true) (y_move rfl (by rfl) (by rfl)) ?_
  try simp only [zP,zN,zA,zB,zC]
  refine pu_ (v := .pointer (some ⟨g3, 1, none⟩)) (y_run (by rfl) (fun W => by go_simp)) ?_
  try simp only [zP,zN,zA,zB,zC]
  refine ld_ (v := .int .i64 b) rfl (by rfl) (by rfl) (run_load_one ((Fg3.out.cell 1).trans rfl) Try.underlying3 rfl) ?_
  try simp only [zP,zN,zA,zB,zC]
  refine pu_ (v := .bool false) (y_run (by rfl) (fun W => by have d := D14.out; go_simp)) ?_
  try simp only [zP,zN,zA,zB,zC]
  refine pu_ (v := .bool false) (y_pick (t := true) (by rfl) rfl (by rfl) (by rfl)) ?_
  try simp only [zP,zN,zA,zB,zC]
  refine pu_ (v := .bool false) (y_move rfl (by rfl) (by rfl)) ?_
  try simp only [zP,zN,zA,zB,zC]
  refine pu_ (y_off (by rfl)) ?_
  try simp only [zP,zN,zA,zB,zC]
  refine pu_ (y_off (by rfl)) ?_
  try simp only [zP,zN,zA,zB,zC]
  refine pu_ (y_off (by rfl)) ?_
  try simp only [zP,zN,zA,zB,zC]
  refine pu_ (v := .bool false) (y_pick (t := false) (by rfl) rfl (by rfl) (by rfl)) ?_
  try simp only [zP,zN,zA,zB,zC]
  refine pu_ (v := .bool false) (y_move rfl (by rfl) (by rfl)) ?_
  try simp only [zP,zN,zA,zB,zC]
  refine pu_ (y_off (by rfl)) ?_
  try simp only [zP,zN,zA,zB,zC]
  refine pu_ (y_off (by rfl)) ?_
  try simp only [zP,zN,zA,zB,zC]
  refine pu_ (y_off (by rfl)) ?_
  try simp only [zP,zN,zA,zB,zC]
  refine pu_ (v := .bool false) (y_pick (t := false) (by rfl) rfl (by rfl) (by rfl)) ?_
  try simp only [zP,zN,zA,zB,zC]
  refine pu_ (v := .bool false) (y_move rfl (by rfl) (by rfl)) ?_
  try simp only [zP,zN,zA,zB,zC]
  refine pu_ (y_off (by rfl)) ?_
  try simp only [zP,zN,zA,zB,zC]
  refine pu_ (y_off (by rfl)) ?_
  try simp only [zP,zN,zA,zB,zC]
  refine pu_ (y_off (by rfl)) ?_
  try simp only [zP,zN,zA,zB,zC]
  refine pu_ (v := .bool false) (y_pick (t := false) (by rfl) rfl (by rfl) (by rfl)) ?_
  try simp only [zP,zN,zA,zB,zC]
  refine pu_ (v := .bool false) (y_assign rfl (by rfl) (by rfl)) ?_
  try simp only [zP,zN,zA,zB,zC]
  refine nl_ (hK11 _ _ ?_); clear hK11 K11
  refine wp_ret ?_
  refine hQ _ _ _ ?_
  refine bodyPost_ret (res1 rfl (rdv_tmp (v := .bool false) (by rfl))) rfl ?_
  exact ⟨_, rfl, ⟨fun h9 => absurd h9 (by decide), fun h9 => absurd h9 HR.out⟩, C0.out⟩
 ·have HH := qh h
  clear h
  have D5 := qh (show decide (a ≥ 0) = true from decide_eq_true (by have := HH.out; omega))
  have D9 := qh (show decide (a ≤ 1152921504606846976) = true from decide_eq_true (by have := HH.out; omega))
  have D14 := qh (show decide (b ≥ 0) = true from decide_eq_true (by have := HH.out; omega))
  have D19 := qh (show decide (b ≤ 1152921504606846976) = false from decide_eq_false (by have := HH.out; omega))
  have HR := qh (show ¬ (SmallZ a ∧ SmallZ b ∧ SmallZ c) from by have := HH.out; unfold SmallZ; omega)
  refine s_ (fun K12 hK12 => ?_)
  refine pu_ (v := .pointer (some ⟨g3, 0, none⟩)) (y_run (by rfl) (fun W => by go_simp)) ?_
  try simp only [zP,zN,zA,zB,zC]
  refine ld_ (v := .int .i64 a) rfl (by rfl) (by rfl) (run_load_one ((Fg3.out.cell 0).trans rfl) Try.underlying3 rfl) ?_
  try simp only [zP,zN,zA,zB,zC]
  refine pu_ (v := .bool true) (y_run (by rfl) (fun W => by have d := D5.out; go_simp)) ?_
  try simp only [zP,zN,zA,zB,zC]
  refine pu_ (v := .bool true) (y_move rfl (by rfl) (by rfl)) ?_
  try simp only [zP,zN,zA,zB,zC]
  refine pu_ (v := .pointer (some ⟨g3, 0, none⟩)) (y_run (by rfl) (fun W => by go_simp)) ?_
  try simp only [zP,zN,zA,zB,zC]
  refine ld_ (v := .int .i64 a) rfl (by rfl) (by rfl) (run_load_one ((Fg3.out.cell 0).trans rfl) Try.underlying3 rfl) ?_
  try simp only [zP,zN,zA,zB,zC]
  refine pu_ (v := .bool true) (y_run (by rfl) (fun W => by have d := D9.out; go_simp)) ?_
  try simp only [zP,zN,zA,zB,zC]
  refine pu_ (v := .bool true) (y_pick (t := true) (by rfl) rfl (by rfl) (by rfl)) ?_
  try simp only [zP,zN,zA,zB,zC]
  refine pu_ (v := .bool true) (y_move rfl (by rfl) (by rfl)) ?_
  try simp only [zP,zN,zA,zB,zC]
  refine pu_ (v := .pointer (some ⟨g3, 1, none⟩)) (y_run (by rfl) (fun W => by go_simp)) ?_
  try simp only [zP,zN,zA,zB,zC]
  refine ld_ (v := .int .i64 b) rfl (by rfl) (by rfl) (run_load_one ((Fg3.out.cell 1).trans rfl) Try.underlying3 rfl) ?_
  try simp only [zP,zN,zA,zB,zC]
  refine pu_ (v := .bool true) (y_run (by rfl) (fun W => by have d := D14.out; go_simp)) ?_
  try simp only [zP,zN,zA,zB,zC]
  refine pu_ (v := .bool true) (y_pick (t := true) (by rfl) rfl (by rfl) (by rfl)) ?_
  try simp only [zP,zN,zA,zB,zC]
  refine pu_ (v := .bool true) (y_move rfl (by rfl) (by rfl)) ?_
  try simp only [zP,zN,zA,zB,zC]
  refine pu_ (v := .pointer (some ⟨g3, 1, none⟩)) (y_run (by rfl) (fun W => by go_simp)) ?_
  try simp only [zP,zN,zA,zB,zC]
  refine ld_ (v := .int .i64 b) rfl (by rfl) (by rfl) (run_load_one ((Fg3.out.cell 1).trans rfl) Try.underlying3 rfl) ?_
  try simp only [zP,zN,zA,zB,zC]
  refine pu_ (v := .bool false) (y_run (by rfl) (fun W => by have d := D19.out; go_simp)) ?_
  try simp only [zP,zN,zA,zB,zC]
  refine pu_ (v := .bool false) (y_pick (t := true) (by rfl) rfl (by rfl) (by rfl)) ?_
  try simp only [zP,zN,zA,zB,zC]
  refine pu_ (v := .bool false) (y_move rfl (by rfl) (by rfl)) ?_
  try simp only [zP,zN,zA,zB,zC]
  refine pu_ (y_off (by rfl)) ?_
  try simp only [zP,zN,zA,zB,zC]
  refine pu_ (y_off (by rfl)) ?_
  try simp only [zP,zN,zA,zB,zC]
  refine pu_ (y_off (by rfl)) ?_
  try simp only [zP,zN,zA,zB,zC]
  refine pu_ (v := .bool false) (y_pick (t := false) (by rfl) rfl (by rfl) (by rfl)) ?_
  try simp only [zP,zN,zA,zB,zC]
  refine pu_ (v := .bool false) (y_move rfl (by rfl) (by rfl)) ?_
  try simp only [zP,zN,zA,zB,zC]
  refine pu_ (y_off (by rfl)) ?_
  try simp only [zP,zN,zA,zB,zC]
  refine pu_ (y_off (by rfl)) ?_
  try simp only [zP,zN,zA,zB,zC]
  refine pu_ (y_off (by rfl)) ?_
  try simp only [zP,zN,zA,zB,zC]
  refine pu_ (v := .bool false) (y_pick (t := false) (by rfl) rfl (by rfl) (by rfl)) ?_
  try simp only [zP,zN,zA,zB,zC]
  refine pu_ (v := .bool false) (y_assign rfl (by rfl) (by rfl)) ?_
  try simp only [zP,zN,zA,zB,zC]
  refine nl_ (hK12 _ _ ?_); clear hK12 K12
  refine wp_ret ?_
  refine hQ _ _ _ ?_
  refine bodyPost_ret (res1 rfl (rdv_tmp (v := .bool false) (by rfl))) rfl ?_
  exact ⟨_, rfl, ⟨fun h9 => absurd h9 (by decide), fun h9 => absurd h9 HR.out⟩, C0.out⟩
 ·have HH := qh h
  clear h
  have D5 := qh (show decide (a ≥ 0) = true from decide_eq_true (by have := HH.out; omega))
  have D9 := qh (show decide (a ≤ 1152921504606846976) = true from decide_eq_true (by have := HH.out; omega))
  have D14 := qh (show decide (b ≥ 0) = true from decide_eq_true (by have := HH.out; omega))
  have D19 := qh (show decide (b ≤ 1152921504606846976) = true from decide_eq_true (by have := HH.out; omega))
  have D24 := qh (show decide (c ≥ 0) = false from decide_eq_false (by have := HH.out; omega))
  have HR := qh (show ¬ (SmallZ a ∧ SmallZ b ∧ SmallZ c) from by have := HH.out; unfold SmallZ; omega)
  refine s_ (fun K13 hK13 => ?_)
  refine pu_ (v := .pointer (some ⟨g3, 0, none⟩)) (y_run (by rfl) (fun W => by go_simp)) ?_
  try simp only [zP,zN,zA,zB,zC]
  refine ld_ (v := .int .i64 a) rfl (by rfl) (by rfl) (run_load_one ((Fg3.out.cell 0).trans rfl) Try.underlying3 rfl) ?_
  try simp only [zP,zN,zA,zB,zC]
  refine pu_ (v := .bool true) (y_run (by rfl) (fun W => by have d := D5.out; go_simp)) ?_
  try simp only [zP,zN,zA,zB,zC]
  refine pu_ (v := .bool true) (y_move rfl (by rfl) (by rfl)) ?_
  try simp only [zP,zN,zA,zB,zC]
  refine pu_ (v := .pointer (some ⟨g3, 0, none⟩)) (y_run (by rfl) (fun W => by go_simp)) ?_
  try simp only [zP,zN,zA,zB,zC]
  refine ld_ (v := .int .i64 a) rfl (by rfl) (by rfl) (run_load_one ((Fg3.out.cell 0).trans rfl) Try.underlying3 rfl) ?_
  try simp only [zP,zN,zA,zB,zC]
  refine pu_ (v := .bool true) (y_run (by rfl) (fun W => by have d := D9.out; go_simp)) ?_
  try simp only [zP,zN,zA,zB,zC]
  refine pu_ (v := .bool true) (y_pick (t := true) (by rfl) rfl (by rfl) (by rfl)) ?_
  try simp only [zP,zN,zA,zB,zC]
  refine pu_ (v := .bool true) (y_move rfl (by rfl) (by rfl)) ?_
  try simp only [zP,zN,zA,zB,zC]
  refine pu_ (v := .pointer (some ⟨g3, 1, none⟩)) (y_run (by rfl) (fun W => by go_simp)) ?_
  try simp only [zP,zN,zA,zB,zC]
  refine ld_ (v := .int .i64 b) rfl (by rfl) (by rfl) (run_load_one ((Fg3.out.cell 1).trans rfl) Try.underlying3 rfl) ?_
  try simp only [zP,zN,zA,zB,zC]
  refine pu_ (v := .bool true) (y_run (by rfl) (fun W => by have d := D14.out; go_simp)) ?_
  try simp only [zP,zN,zA,zB,zC]
  refine pu_ (v := .bool true) (y_pick (t := true) (by rfl) rfl (by rfl) (by rfl)) ?_
  try simp only [zP,zN,zA,zB,zC]
  refine pu_ (v := .bool true) (y_move rfl (by rfl) (by rfl)) ?_
  try simp only [zP,zN,zA,zB,zC]
  refine pu_ (v := .pointer (some ⟨g3, 1, none⟩)) (y_run (by rfl) (fun W => by go_simp)) ?_
  try simp only [zP,zN,zA,zB,zC]
  refine ld_ (v := .int .i64 b) rfl (by rfl) (by rfl) (run_load_one ((Fg3.out.cell 1).trans rfl) Try.underlying3 rfl) ?_
  try simp only [zP,zN,zA,zB,zC]
  refine pu_ (v := .bool true) (y_run (by rfl) (fun W => by have d := D19.out; go_simp)) ?_
  try simp only [zP,zN,zA,zB,zC]
  refine pu_ (v := .bool true) (y_pick (t := true) (by rfl) rfl (by rfl) (by rfl)) ?_
  try simp only [zP,zN,zA,zB,zC]
  refine pu_ (v := .bool true) (y_move rfl (by rfl) (by rfl)) ?_
  try simp only [zP,zN,zA,zB,zC]
  refine pu_ (v := .pointer (some ⟨g3, 2, none⟩)) (y_run (by rfl) (fun W => by go_simp)) ?_
  try simp only [zP,zN,zA,zB,zC]
  refine ld_ (v := .int .i64 c) rfl (by rfl) (by rfl) (run_load_one ((Fg3.out.cell 2).trans rfl) Try.underlying3 rfl) ?_
  try simp only [zP,zN,zA,zB,zC]
  refine pu_ (v := .bool false) (y_run (by rfl) (fun W => by have d := D24.out; go_simp)) ?_
  try simp only [zP,zN,zA,zB,zC]
  refine pu_ (v := .bool false) (y_pick (t := true) (by rfl) rfl (by rfl) (by rfl)) ?_
  try simp only [zP,zN,zA,zB,zC]
  refine pu_ (v := .bool false) (y_move rfl (by rfl) (by rfl)) ?_
  try simp only [zP,zN,zA,zB,zC]
  refine pu_ (y_off (by rfl)) ?_
  try simp only [zP,zN,zA,zB,zC]
  refine pu_ (y_off (by rfl)) ?_
  try simp only [zP,zN,zA,zB,zC]
  refine pu_ (y_off (by rfl)) ?_
  try simp only [zP,zN,zA,zB,zC]
  refine pu_ (v := .bool false) (y_pick (t := false) (by rfl) rfl (by rfl) (by rfl)) ?_
  try simp only [zP,zN,zA,zB,zC]
  refine pu_ (v := .bool false) (y_assign rfl (by rfl) (by rfl)) ?_
  try simp only [zP,zN,zA,zB,zC]
  refine nl_ (hK13 _ _ ?_); clear hK13 K13
  refine wp_ret ?_
  refine hQ _ _ _ ?_
  refine bodyPost_ret (res1 rfl (rdv_tmp (v := .bool false) (by rfl))) rfl ?_
  exact ⟨_, rfl, ⟨fun h9 => absurd h9 (by decide), fun h9 => absurd h9 HR.out⟩, C0.out⟩
 ·have HH := qh h
  clear h
  have D5 := qh (show decide (a ≥ 0) = true from decide_eq_true (by have := HH.out; omega))
  have D9 := qh (show decide (a ≤ 1152921504606846976) = true from decide_eq_true (by have := HH.out; omega))
  have D14 := qh (show decide (b ≥ 0) = true from decide_eq_true (by have := HH.out; omega))
  have D19 := qh (show decide (b ≤ 1152921504606846976) = true from decide_eq_true (by have := HH.out; omega))
  have D24 := qh (show decide (c ≥ 0) = true from decide_eq_true (by have := HH.out; omega))
  have D29 := qh (show decide (c ≤ 1152921504606846976) = false from decide_eq_false (by have := HH.out; omega))
  have HR := qh (show ¬ (SmallZ a ∧ SmallZ b ∧ SmallZ c) from by have := HH.out; unfold SmallZ; omega)
  refine s_ (fun K14 hK14 => ?_)
  refine pu_ (v := .pointer (some ⟨g3, 0, none⟩)) (y_run (by rfl) (fun W => by go_simp)) ?_
  try simp only [zP,zN,zA,zB,zC]
  refine ld_ (v := .int .i64 a) rfl (by rfl) (by rfl) (run_load_one ((Fg3.out.cell 0).trans rfl) Try.underlying3 rfl) ?_
  try simp only [zP,zN,zA,zB,zC]
  refine pu_ (v := .bool true) (y_run (by rfl) (fun W => by have d := D5.out; go_simp)) ?_
  try simp only [zP,zN,zA,zB,zC]
  refine pu_ (v := .bool true) (y_move rfl (by rfl) (by rfl)) ?_
  try simp only [zP,zN,zA,zB,zC]
  refine pu_ (v := .pointer (some ⟨g3, 0, none⟩)) (y_run (by rfl) (fun W => by go_simp)) ?_
  try simp only [zP,zN,zA,zB,zC]
  refine ld_ (v := .int .i64 a) rfl (by rfl) (by rfl) (run_load_one ((Fg3.out.cell 0).trans rfl) Try.underlying3 rfl) ?_
  try simp only [zP,zN,zA,zB,zC]
  refine pu_ (v := .bool true) (y_run (by rfl) (fun W => by have d := D9.out; go_simp)) ?_
  try simp only [zP,zN,zA,zB,zC]
  refine pu_ (v := .bool true) (y_pick (t := true) (by rfl) rfl (by rfl) (by rfl)) ?_
  try simp only [zP,zN,zA,zB,zC]
  refine pu_ (v := .bool true) (y_move rfl (by rfl) (by rfl)) ?_
  try simp only [zP,zN,zA,zB,zC]
  refine pu_ (v := .pointer (some ⟨g3, 1, none⟩)) (y_run (by rfl) (fun W => by go_simp)) ?_
  try simp only [zP,zN,zA,zB,zC]
  refine ld_ (v := .int .i64 b) rfl (by rfl) (by rfl) (run_load_one ((Fg3.out.cell 1).trans rfl) Try.underlying3 rfl) ?_
  try simp only [zP,zN,zA,zB,zC]
  refine pu_ (v := .bool true) (y_run (by rfl) (fun W => by have d := D14.out; go_simp)) ?_
  try simp only [zP,zN,zA,zB,zC]
  refine pu_ (v := .bool true) (y_pick (t := true) (by rfl) rfl (by rfl) (by rfl)) ?_
  try simp only [zP,zN,zA,zB,zC]
  refine pu_ (v := .bool true) (y_move rfl (by rfl) (by rfl)) ?_
  try simp only [zP,zN,zA,zB,zC]
  refine pu_ (v := .pointer (some ⟨g3, 1, none⟩)) (y_run (by rfl) (fun W => by go_simp)) ?_
  try simp only [zP,zN,zA,zB,zC]
  refine ld_ (v := .int .i64 b) rfl (by rfl) (by rfl) (run_load_one ((Fg3.out.cell 1).trans rfl) Try.underlying3 rfl) ?_
  try simp only [zP,zN,zA,zB,zC]
  refine pu_ (v := .bool true) (y_run (by rfl) (fun W => by have d := D19.out; go_simp)) ?_
  try simp only [zP,zN,zA,zB,zC]
  refine pu_ (v := .bool true) (y_pick (t := true) (by rfl) rfl (by rfl) (by rfl)) ?_
  try simp only [zP,zN,zA,zB,zC]
  refine pu_ (v := .bool true) (y_move rfl (by rfl) (by rfl)) ?_
  try simp only [zP,zN,zA,zB,zC]
  refine pu_ (v := .pointer (some ⟨g3, 2, none⟩)) (y_run (by rfl) (fun W => by go_simp)) ?_
  try simp only [zP,zN,zA,zB,zC]
  refine ld_ (v := .int .i64 c) rfl (by rfl) (by rfl) (run_load_one ((Fg3.out.cell 2).trans rfl) Try.underlying3 rfl) ?_
  try simp only [zP,zN,zA,zB,zC]
  refine pu_ (v := .bool true) (y_run (by rfl) (fun W => by have d := D24.out; go_simp)) ?_
  try simp only [zP,zN,zA,zB,zC]
  refine pu_ (v := .bool true) (y_pick (t := true) (by rfl) rfl (by rfl) (by rfl)) ?_
  try simp only [zP,zN,zA,zB,zC]
  refine pu_ (v := .bool true) (y_move rfl (by rfl) (by rfl)) ?_
  try simp only [zP,zN,zA,zB,zC]
  refine pu_ (v := .pointer (some ⟨g3, 2, none⟩)) (y_run (by rfl) (fun W => by go_simp)) ?_
  try simp only [zP,zN,zA,zB,zC]
  refine ld_ (v := .int .i64 c) rfl (by rfl) (by rfl) (run_load_one ((Fg3.out.cell 2).trans rfl) Try.underlying3 rfl) ?_
  try simp only [zP,zN,zA,zB,zC]
  refine pu_ (v := .bool false) (y_run (by rfl) (fun W => by have d := D29.out; go_simp)) ?_
  try simp only [zP,zN,zA,zB,zC]
  refine pu_ (v := .bool false) (y_pick (t := true) (by rfl) rfl (by rfl) (by rfl)) ?_
  try simp only [zP,zN,zA,zB,zC]
  refine pu_ (v := .bool false) (y_assign rfl (by rfl) (by rfl)) ?_
  try simp only [zP,zN,zA,zB,zC]
  refine nl_ (hK14 _ _ ?_); clear hK14 K14
  refine wp_ret ?_
  refine hQ _ _ _ ?_
  refine bodyPost_ret (res1 rfl (rdv_tmp (v := .bool false) (by rfl))) rfl ?_
  exact ⟨_, rfl, ⟨fun h9 => absurd h9 (by decide), fun h9 => absurd h9 HR.out⟩, C0.out⟩
 ·have HH := qh h
  clear h
  have D5 := qh (show decide (a ≥ 0) = true from decide_eq_true (by have := HH.out; omega))
  have D9 := qh (show decide (a ≤ 1152921504606846976) = true from decide_eq_true (by have := HH.out; omega))
  have D14 := qh (show decide (b ≥ 0) = true from decide_eq_true (by have := HH.out; omega))
  have D19 := qh (show decide (b ≤ 1152921504606846976) = true from decide_eq_true (by have := HH.out; omega))
  have D24 := qh (show decide (c ≥ 0) = true from decide_eq_true (by have := HH.out; omega))
  have D29 := qh (show decide (c ≤ 1152921504606846976) = true from decide_eq_true (by have := HH.out; omega))
  have HR := qh (show SmallZ a ∧ SmallZ b ∧ SmallZ c from by have := HH.out; unfold SmallZ; omega)
  refine s_ (fun K15 hK15 => ?_)
  refine pu_ (v := .pointer (some ⟨g3, 0, none⟩)) (y_run (by rfl) (fun W => by go_simp)) ?_
  try simp only [zP,zN,zA,zB,zC]
  refine ld_ (v := .int .i64 a) rfl (by rfl) (by rfl) (run_load_one ((Fg3.out.cell 0).trans rfl) Try.underlying3 rfl) ?_
  try simp only [zP,zN,zA,zB,zC]
  refine pu_ (v := .bool true) (y_run (by rfl) (fun W => by have d := D5.out; go_simp)) ?_
  try simp only [zP,zN,zA,zB,zC]
  refine pu_ (v := .bool true) (y_move rfl (by rfl) (by rfl)) ?_
  try simp only [zP,zN,zA,zB,zC]
  refine pu_ (v := .pointer (some ⟨g3, 0, none⟩)) (y_run (by rfl) (fun W => by go_simp)) ?_
  try simp only [zP,zN,zA,zB,zC]
  refine ld_ (v := .int .i64 a) rfl (by rfl) (by rfl) (run_load_one ((Fg3.out.cell 0).trans rfl) Try.underlying3 rfl) ?_
  try simp only [zP,zN,zA,zB,zC]
  refine pu_ (v := .bool true) (y_run (by rfl) (fun W => by have d := D9.out; go_simp)) ?_
  try simp only [zP,zN,zA,zB,zC]
  refine pu_ (v := .bool true) (y_pick (t := true) (by rfl) rfl (by rfl) (by rfl)) ?_
  try simp only [zP,zN,zA,zB,zC]
  refine pu_ (v := .bool true) (y_move rfl (by rfl) (by rfl)) ?_
  try simp only [zP,zN,zA,zB,zC]
  refine pu_ (v := .pointer (some ⟨g3, 1, none⟩)) (y_run (by rfl) (fun W => by go_simp)) ?_
  try simp only [zP,zN,zA,zB,zC]
  refine ld_ (v := .int .i64 b) rfl (by rfl) (by rfl) (run_load_one ((Fg3.out.cell 1).trans rfl) Try.underlying3 rfl) ?_
  try simp only [zP,zN,zA,zB,zC]
  refine pu_ (v := .bool true) (y_run (by rfl) (fun W => by have d := D14.out; go_simp)) ?_
  try simp only [zP,zN,zA,zB,zC]
  refine pu_ (v := .bool true) (y_pick (t := true) (by rfl) rfl (by rfl) (by rfl)) ?_
  try simp only [zP,zN,zA,zB,zC]
  refine pu_ (v := .bool true) (y_move rfl (by rfl) (by rfl)) ?_
  try simp only [zP,zN,zA,zB,zC]
  refine pu_ (v := .pointer (some ⟨g3, 1, none⟩)) (y_run (by rfl) (fun W => by go_simp)) ?_
  try simp only [zP,zN,zA,zB,zC]
  refine ld_ (v := .int .i64 b) rfl (by rfl) (by rfl) (run_load_one ((Fg3.out.cell 1).trans rfl) Try.underlying3 rfl) ?_
  try simp only [zP,zN,zA,zB,zC]
  refine pu_ (v := .bool true) (y_run (by rfl) (fun W => by have d := D19.out; go_simp)) ?_
  try simp only [zP,zN,zA,zB,zC]
  refine pu_ (v := .bool true) (y_pick (t := true) (by rfl) rfl (by rfl) (by rfl)) ?_
  try simp only [zP,zN,zA,zB,zC]
  refine pu_ (v := .bool true) (y_move rfl (by rfl) (by rfl)) ?_
  try simp only [zP,zN,zA,zB,zC]
  refine pu_ (v := .pointer (some ⟨g3, 2, none⟩)) (y_run (by rfl) (fun W => by go_simp)) ?_
  try simp only [zP,zN,zA,zB,zC]
  refine ld_ (v := .int .i64 c) rfl (by rfl) (by rfl) (run_load_one ((Fg3.out.cell 2).trans rfl) Try.underlying3 rfl) ?_
  try simp only [zP,zN,zA,zB,zC]
  refine pu_ (v := .bool true) (y_run (by rfl) (fun W => by have d := D24.out; go_simp)) ?_
  try simp only [zP,zN,zA,zB,zC]
  refine pu_ (v := .bool true) (y_pick (t := true) (by rfl) rfl (by rfl) (by rfl)) ?_
  try simp only [zP,zN,zA,zB,zC]
  refine pu_ (v := .bool true) (y_move rfl (by rfl) (by rfl)) ?_
  try simp only [zP,zN,zA,zB,zC]
  refine pu_ (v := .pointer (some ⟨g3, 2, none⟩)) (y_run (by rfl) (fun W => by go_simp)) ?_
  try simp only [zP,zN,zA,zB,zC]
  refine ld_ (v := .int .i64 c) rfl (by rfl) (by rfl) (run_load_one ((Fg3.out.cell 2).trans rfl) Try.underlying3 rfl) ?_
  try simp only [zP,zN,zA,zB,zC]
  refine pu_ (v := .bool true) (y_run (by rfl) (fun W => by have d := D29.out; go_simp)) ?_
  try simp only [zP,zN,zA,zB,zC]
  refine pu_ (v := .bool true) (y_pick (t := true) (by rfl) rfl (by rfl) (by rfl)) ?_
  try simp only [zP,zN,zA,zB,zC]
  refine pu_ (v := .bool true) (y_assign rfl (by rfl) (by rfl)) ?_
  try simp only [zP,zN,zA,zB,zC]
  refine nl_ (hK15 _ _ ?_); clear hK15 K15
  refine wp_ret ?_
  refine hQ _ _ _ ?_
  refine bodyPost_ret (res1 rfl (rdv_tmp (v := .bool true) (by rfl))) rfl ?_
  exact ⟨_, rfl, ⟨fun _ => HR.out, fun _ => rfl⟩, C0.out⟩
theorem sum_ {A : Option Addr} {z : Nat} {L : List HL} (HN : Hid (L.length ≤ 1000)) (HSM : Hid (∀ x ∈ L, SmallL x)) (SL : Hid (SrcIs w (.slice A L.length z) (L.length) ((L).flatMap loadC) 16)) :
  Calls Try.prog 18 #[.slice A L.length z] w fun en w' => en = .returned (.agg #[.int .i64 (sumZ L).1, .int .i64 (sumZ L).2.1, .int .i64 (sumZ L).2.2]) ∧ Ch [] w w' := by
 have C0 := qh (Ch.refl [] w)
 go_enter Try.func18, Try.ntmps18
 refine q_ (fun Q hQ hP => ?_)
 refine s_ (fun K1 hK1 => ?_)
 refine ef_ (fun K2 hK2 => ?_)
 refine e_alloc (by rfl) rfl rfl (cs := #[.int .i64 0, .int .i64 0, .int .i64 0]) (by kernel_rfl) ?_
 rintro gr w3 HG4 B5 C6
 have nw7 := qh (show w.heap.size ≤ gr by have := C0.out.size; have := HG4.out; omega)
 have nx8 := qh (SL.out.ne_new (by decide) HG4)
 replace C0 := qh (C0.out.trans' C6 inw_nil)
 replace SL := qh (SL.out.chx C6 xnin_nil)
 have Fgr := qh (show Blk w3 gr (#[.int .i64 0, .int .i64 0, .int .i64 0]) 23 from B5); clear B5 C6
 refine hK2 _ _ ?_; clear hK2 K2
 try simp only [zP,zN,zA,zB,zC]
 refine nl_ (hK1 _ _ ?_); clear hK1 K1
 refine s_ (fun K9 hK9 => ?_)
 refine ef_ (fun K10 hK10 => ?_)
 refine e_alloc (by rfl) rfl rfl (cs := #[.int .i64 0, .int .i64 0, .int .i64 0]) (by kernel_rfl) ?_
 rintro gs w11 HG12 B13 C14
 have nw15 := qh (show w.heap.size ≤ gs by have := C0.out.size; have := HG12.out; omega)
 have nx16 := qh (SL.out.ne_new (by decide) HG12)
 have ne17 := qh (Fgr.out.ne_new HG12)
 replace C0 := qh (C0.out.trans' C14 inw_nil)
 replace SL := qh (SL.out.chx C14 xnin_nil)
 replace Fgr := qh (C14.blk Fgr.out nin_nil)
 have Fgs := qh (show Blk w11 gs (#[.int .i64 0, .int .i64 0, .int .i64 0]) 23 from B13); clear B13 C14
 refine hK10 _ _ ?_; clear hK10 K10
 try simp only [zP,zN,zA,zB,zC]
 refine nl_ (hK9 _ _ ?_); clear hK9 K9
 refine sq_ (fun K18 hK18 => ?_)
 refine s_ (fun K19 hK19 => ?_)
 refine pu_ (v := .slice A L.length z) (y_move rfl (by rfl) (by rfl)) ?_
 try simp only [zP,zN,zA,zB,zC]
 refine pu_ (v := .int .i64 L.length) (y_run (by rfl) (fun W => by go_simp)) ?_
 try simp only [zP,zN,zA,zB,zC]
 refine pu_ (v := .int .i64 0) (y_move rfl (by rfl) (by rfl)) ?_
 try simp only [zP,zN,zA,zB,zC]
 refine nl_ (hK19 _ _ ?_); clear hK19 K19
 refine wp_block ?_
 have FS := qh (show Blk w11 gs #[.int .i64 (sumZ (L.take 0)).1, .int .i64 (sumZ (L.take 0)).2.1, .int .i64 (sumZ (L.take 0)).2.2] 23 from by rw [show sumZ (L.take 0) = (0, 0, 0) from rfl]; exact Fgs.out)
 refine loopk_ (fun (kq : Nat) (a' : Act) (w' : World) => ∃ (k : Nat), a' = ⟨#[.slice A L.length z, uo a' 1, .pointer (some ⟨gr, 0, none⟩), .pointer (some ⟨gs, 0, none⟩), uo a' 4, uo a' 5, .slice A L.length z, .int .i64 L.length, .int .i64 k, uo a' 9, uo a' 10, uo a' 11, uo a' 12, uo a' 13, uo a' 14, uo a' 15, uo a' 16, uo a' 17, uo a' 18, uo a' 19, uo a' 20, uo a' 21, uo a' 22, uo a' 23, uo a' 24, uo a' 25, uo a' 26, uo a' 27, uo a' 28, uo a' 29, uo a' 30, uo a' 31, uo a' 32, uo a' 33, uo a' 34], []⟩ ∧ Hid (Ch [] w w') ∧ Hid (SrcIs w' (.slice A L.length z) (L.length) ((L).flatMap loadC) 16) ∧ Hid (Blk w' gr (#[.int .i64 0, .int .i64 0, .int .i64 0]) 23) ∧ Hid (Blk w' gs (#[.int .i64 (sumZ (L.take k)).1, .int .i64 (sumZ (L.take k)).2.1, .int .i64 (sumZ (L.take k)).2.2]) 23) ∧ Hid (k ≤ L.length ∧ kq + k = L.length)) (L.length) (⟨0, rfl, C0, SL, Fgr, FS, qh ⟨by omega, by omega⟩⟩) ?_
 rintro kq a_ w20 ⟨k, ha_, C0, SL, FR, FS, hk⟩ K21 hK21
 obtain ⟨us, hus_⟩ : ∃ us, us = uo a_ := ⟨_, rfl⟩; try rw [← hus_] at ha_
 subst ha_; clear hus_
 rcases at_ways' hk.out.1 with ⟨x, ho0, hlt0⟩ | h
 ·have hlt := qh hlt0
  have ho := qh ho0
  clear hlt0 ho0
  obtain ⟨a, hsm_a⟩ := src_some SL.out (by have := hlt.out; omega)
  subst hsm_a
  have D9 := qh (show (k : Int) < (L.length : Int) by have := hlt.out; omega)
  have Wk := qh (show IntKind.i64.wrap ((k : Int) + 1) = ((k + 1 : Nat) : Int) by rw [wr64 (by have := hlt.out; have h7 := HN.out; omega)]; omega)
  obtain ⟨u, rv, s0, s1, s2, s3, s4, s5, s6, ph, rs, mk, gz, c, m, p, hlc, hu, hsp, hph, hmk, hc, hm, hp, hone⟩ := load_lits x
  have HLC := qh hlc; have HU := qh hu; have HSP := qh hsp; have HPH := qh hph; have HMK := qh hmk; have HC := qh hc; have HM_ := qh hm; have HP_ := qh hp; have HO1 := qh hone
  clear hlc hu hsp hph hmk hc hm hp hone
  have HX := qh (show SmallZ c ∧ SmallZ m ∧ SmallZ p by rw [← HC.out, ← HM_.out, ← HP_.out]; exact HSM.out x (List.mem_of_getElem? ho.out))
  have HUP := qh (sum_upto HSM.out k)
  refine s_ (fun K22 hK22 => ?_)
  refine pu_ (v := .bool true) (y_run (by rfl) (fun W => by have d := D9.out; go_simp)) ?_
  try simp only [zP,zN,zA,zB,zC]
  refine nl_ (hK22 _ _ ?_); clear hK22 K22
  refine sq_ (fun K23 hK23 => ?_)
  refine wp_cond_true rfl ?_
  refine wp_skip ?_
  refine th_norm (hK23 _ _ ?_); try clear hK23 K23
  refine sq_ (fun K24 hK24 => ?_)
  refine wp_block ?_
  refine s_ (fun K25 hK25 => ?_)
  refine pu_ (v := .pointer (some (a.add (k * 16)))) (y_run (by rfl) (fun W => by have d := D9.out; go_simp)) ?_
  try simp only [zP,zN,zA,zB,zC]
  refine ld_ (v := .agg #[.int .i64 u, .int .u64 rv, s0, s1, s2, s3, s4, s5, s6, .int .i64 ph, rs, .int .i64 mk, .int .i64 gz, .int .i64 c, .int .i64 m, .int .i64 p]) rfl (by rfl) (by rfl) (run_loadVar_at (by have h := src_at loadC_len SL.out ho.out; rw [HLC.out] at h; exact h) Try.underlying56 rfl (by kernel_rfl)) ?_
  try simp only [zP,zN,zA,zB,zC]
  refine ef_ (fun K26 hK26 => ?_)
  refine e_alloc (by rfl) rfl rfl (cs := #[.int .i64 0, .int .u64 0, .string ⟨#[]⟩, .slice none 0 0, .slice none 0 0, .slice none 0 0, .int .i64 0, .int .i64 0, .int .i64 0, .int .i64 0, .slice none 0 0, .int .i64 0, .int .i64 0, .int .i64 0, .int .i64 0, .int .i64 0]) (by kernel_rfl) ?_
  rintro g27 w28 HG29 B30 C31
  have nw32 := qh (show w.heap.size ≤ g27 by have := C0.out.size; have := HG29.out; omega)
  have nx33 := qh (SL.out.ne_new (by decide) HG29)
  replace C0 := qh (C0.out.trans' C31 inw_nil)
  replace SL := qh (SL.out.chx C31 xnin_nil)
  replace FR := qh (C31.blk FR.out nin_nil)
  replace FS := qh (C31.blk FS.out nin_nil)
  have Fg27 := qh (show Blk w28 g27 (#[.int .i64 0, .int .u64 0, .string ⟨#[]⟩, .slice none 0 0, .slice none 0 0, .slice none 0 0, .int .i64 0, .int .i64 0, .int .i64 0, .int .i64 0, .slice none 0 0, .int .i64 0, .int .i64 0, .int .i64 0, .int .i64 0, .int .i64 0]) 56 from B30); clear B30 C31
  refine hK26 _ _ ?_; clear hK26 K26
  try simp only [zP,zN,zA,zB,zC]
  refine ef_ (fun K34 hK34 => ?_)
  refine e_storeN (cells := #[.int .i64 u, .int .u64 rv, s0, s1, s2, s3, s4, s5, s6, .int .i64 ph, rs, .int .i64 mk, .int .i64 gz, .int .i64 c, .int .i64 m, .int .i64 p]) (by rfl) rfl rfl (by rfl) (by rfl) Fg27.out (by kernel_rfl) (by rfl) (ones_cons rfl (ones_cons rfl (ones_cons HO1.out.1.1 (ones_cons HO1.out.1.2.1 (ones_cons HO1.out.1.2.2.1 (ones_cons HO1.out.1.2.2.2 (ones_cons HO1.out.2.1 (ones_cons HO1.out.2.2.1 (ones_cons HO1.out.2.2.2.1 (ones_cons rfl (ones_cons HO1.out.2.2.2.2 (ones_cons rfl (ones_cons rfl (ones_cons rfl (ones_cons rfl (ones_cons rfl ones_nil)))))))))))))))) ?_
  rintro w35 B36 C37
  replace C0 := qh (C0.out.trans' C37 (inw_cons (.inr nw32.out) inw_nil))
  replace SL := qh (SL.out.chx C37 (xnin_cons nx33.out xnin_nil))
  replace FR := qh (C37.blk FR.out (nin_cons (Blk.ne_type FR.out Fg27.out (by decide)) nin_nil))
  replace FS := qh (C37.blk FS.out (nin_cons (Blk.ne_type FS.out Fg27.out (by decide)) nin_nil))
  clear Fg27; have Fg27 := qh (show Blk w35 g27 (#[.int .i64 u, .int .u64 rv, s0, s1, s2, s3, s4, s5, s6, .int .i64 ph, rs, .int .i64 mk, .int .i64 gz, .int .i64 c, .int .i64 m, .int .i64 p]) 56 from B36); clear B36 C37
  refine hK34 _ _ ?_; clear hK34 K34
  try simp only [zP,zN,zA,zB,zC]
  refine nl_ (hK25 _ _ ?_); clear hK25 K25
  refine s_ (fun K38 hK38 => ?_)
  refine pu_ (v := .pointer (some ⟨gs, 0, none⟩)) (y_run (by rfl) (fun W => by go_simp)) ?_
  try simp only [zP,zN,zA,zB,zC]
  refine ld_ (v := .int .i64 (sumZ (L.take k)).1) rfl (by rfl) (by rfl) (run_load_one ((FS.out.cell 0).trans rfl) Try.underlying3 rfl) ?_
  try simp only [zP,zN,zA,zB,zC]
  refine pu_ (v := .pointer (some ⟨g27, 13, none⟩)) (y_run (by rfl) (fun W => by go_simp)) ?_
  try simp only [zP,zN,zA,zB,zC]
  refine pu_ (v := .pointer (some ⟨g27, 13, none⟩)) (y_run (by rfl) (fun W => by go_simp)) ?_
  try simp only [zP,zN,zA,zB,zC]
  refine ld_ (v := .int .i64 c) rfl (by rfl) (by rfl) (run_load_one ((Fg27.out.cell 13).trans rfl) Try.underlying3 rfl) ?_
  try simp only [zP,zN,zA,zB,zC]
  refine ef_ (fun K39 hK39 => ?_)
  refine e_call Try.func26 (by kernel_rfl) rfl #[.int .i64 (sumZ (L.take k)).1, .int .i64 c] (by rfl) rfl rfl (mp2 rfl rfl) ((plus_ (qh HUP.out.1) (qh HX.out.1))) ?_
  rintro en w41 ⟨rfl, cc40⟩
  refine ⟨_, rfl, ?_⟩
  replace C0 := qh (C0.out.trans' cc40 inw_nil)
  replace SL := qh (SL.out.chx cc40 xnin_nil)
  replace FR := qh (cc40.blk FR.out nin_nil)
  replace FS := qh (cc40.blk FS.out nin_nil)
  replace Fg27 := qh (cc40.blk Fg27.out nin_nil)
  clear cc40
  refine hK39 _ _ ?_; clear hK39 K39
  try simp only [zP,zN,zA,zB,zC]
  refine pu_ (v := .pointer (some ⟨gs, 0, none⟩)) (y_run (by rfl) (fun W => by go_simp)) ?_
  try simp only [zP,zN,zA,zB,zC]
  refine ef_ (fun K42 hK42 => ?_)
  refine e_store1 (b := gs) (j := 0) (v := .int .i64 (plusZ (sumZ (L.take k)).1 c)) (by rfl) rfl rfl (by rfl) (by rfl) FS.out (show 0 < 3 by omega) (by kernel_rfl) rfl ?_
  rintro w43 B44 C45
  replace C0 := qh (C0.out.trans' C45 (inw_cons (.inr nw15.out) inw_nil))
  replace SL := qh (SL.out.chx C45 (xnin_cons nx16.out xnin_nil))
  replace FR := qh (C45.blk FR.out (nin_cons ne17.out nin_nil))
  replace Fg27 := qh (C45.blk Fg27.out (nin_cons (Blk.ne_type Fg27.out FS.out (by decide)) nin_nil))
  clear FS; have FS := qh (show Blk w43 gs (#[.int .i64 (plusZ (sumZ (L.take k)).1 c), .int .i64 (sumZ (L.take k)).2.1, .int .i64 (sumZ (L.take k)).2.2]) 23 from B44); clear B44 C45
  refine hK42 _ _ ?_; clear hK42 K42
  try simp only [zP,zN,zA,zB,zC]
  refine nl_ (hK38 _ _ ?_); clear hK38 K38
  refine s_ (fun K46 hK46 => ?_)
  refine pu_ (v := .pointer (some ⟨gs, 1, none⟩)) (y_run (by rfl) (fun W => by go_simp)) ?_
  try simp only [zP,zN,zA,zB,zC]
  refine ld_ (v := .int .i64 (sumZ (L.take k)).2.1) rfl (by rfl) (by rfl) (run_load_one ((FS.out.cell 1).trans rfl) Try.underlying3 rfl) ?_
  try simp only [zP,zN,zA,zB,zC]
  refine pu_ (v := .pointer (some ⟨g27, 13, none⟩)) (y_run (by rfl) (fun W => by go_simp)) ?_
  try simp only [zP,zN,zA,zB,zC]
  refine pu_ (v := .pointer (some ⟨g27, 14, none⟩)) (y_run (by rfl) (fun W => by go_simp)) ?_
  try simp only [zP,zN,zA,zB,zC]
  refine ld_ (v := .int .i64 m) rfl (by rfl) (by rfl) (run_load_one ((Fg27.out.cell 14).trans rfl) Try.underlying3 rfl) ?_
  try simp only [zP,zN,zA,zB,zC]
  refine ef_ (fun K47 hK47 => ?_)
  refine e_call Try.func26 (by kernel_rfl) rfl #[.int .i64 (sumZ (L.take k)).2.1, .int .i64 m] (by rfl) rfl rfl (mp2 rfl rfl) ((plus_ (qh HUP.out.2.1) (qh HX.out.2.1))) ?_
  rintro en w49 ⟨rfl, cc48⟩
  refine ⟨_, rfl, ?_⟩
  replace C0 := qh (C0.out.trans' cc48 inw_nil)
  replace SL := qh (SL.out.chx cc48 xnin_nil)
  replace FR := qh (cc48.blk FR.out nin_nil)
  replace FS := qh (cc48.blk FS.out nin_nil)
  replace Fg27 := qh (cc48.blk Fg27.out nin_nil)
  clear cc48
  refine hK47 _ _ ?_; clear hK47 K47
  try simp only [zP,zN,zA,zB,zC]
  refine pu_ (v := .pointer (some ⟨gs, 1, none⟩)) (y_run (by rfl) (fun W => by go_simp)) ?_
  try simp only [zP,zN,zA,zB,zC]
  refine ef_ (fun K50 hK50 => ?_)
  refine e_store1 (b := gs) (j := 1) (v := .int .i64 (plusZ (sumZ (L.take k)).2.1 m)) (by rfl) rfl rfl (by rfl) (by rfl) FS.out (show 1 < 3 by omega) (by kernel_rfl) rfl ?_
  rintro w51 B52 C53
  replace C0 := qh (C0.out.trans' C53 (inw_cons (.inr nw15.out) inw_nil))
  replace SL := qh (SL.out.chx C53 (xnin_cons nx16.out xnin_nil))
  replace FR := qh (C53.blk FR.out (nin_cons ne17.out nin_nil))
  replace Fg27 := qh (C53.blk Fg27.out (nin_cons (Blk.ne_type Fg27.out FS.out (by decide)) nin_nil))
  clear FS; have FS := qh (show Blk w51 gs (#[.int .i64 (plusZ (sumZ (L.take k)).1 c), .int .i64 (plusZ (sumZ (L.take k)).2.1 m), .int .i64 (sumZ (L.take k)).2.2]) 23 from B52); clear B52 C53
  refine hK50 _ _ ?_; clear hK50 K50
  try simp only [zP,zN,zA,zB,zC]
  refine nl_ (hK46 _ _ ?_); clear hK46 K46
  refine r_ ?_
  refine pu_ (v := .pointer (some ⟨gs, 2, none⟩)) (y_run (by rfl) (fun W => by go_simp)) ?_
  try simp only [zP,zN,zA,zB,zC]
  refine ld_ (v := .int .i64 (sumZ (L.take k)).2.2) rfl (by rfl) (by rfl) (run_load_one ((FS.out.cell 2).trans rfl) Try.underlying3 rfl) ?_
  try simp only [zP,zN,zA,zB,zC]
  refine pu_ (v := .pointer (some ⟨g27, 13, none⟩)) (y_run (by rfl) (fun W => by go_simp)) ?_
  try simp only [zP,zN,zA,zB,zC]
  refine pu_ (v := .pointer (some ⟨g27, 15, none⟩)) (y_run (by rfl) (fun W => by go_simp)) ?_
  try simp only [zP,zN,zA,zB,zC]
  refine ld_ (v := .int .i64 p) rfl (by rfl) (by rfl) (run_load_one ((Fg27.out.cell 15).trans rfl) Try.underlying3 rfl) ?_
  try simp only [zP,zN,zA,zB,zC]
  refine ef_ (fun K54 hK54 => ?_)
  refine e_call Try.func26 (by kernel_rfl) rfl #[.int .i64 (sumZ (L.take k)).2.2, .int .i64 p] (by rfl) rfl rfl (mp2 rfl rfl) ((plus_ (qh HUP.out.2.2) (qh HX.out.2.2))) ?_
  rintro en w56 ⟨rfl, cc55⟩
  refine ⟨_, rfl, ?_⟩
  replace C0 := qh (C0.out.trans' cc55 inw_nil)
  replace SL := qh (SL.out.chx cc55 xnin_nil)
  replace FR := qh (cc55.blk FR.out nin_nil)
  replace FS := qh (cc55.blk FS.out nin_nil)
  replace Fg27 := qh (cc55.blk Fg27.out nin_nil)
  clear cc55
  refine hK54 _ _ ?_; clear hK54 K54
  try simp only [zP,zN,zA,zB,zC]
  refine pu_ (v := .pointer (some ⟨gs, 2, none⟩)) (y_run (by rfl) (fun W => by go_simp)) ?_
  try simp only [zP,zN,zA,zB,zC]
  refine ef_ (fun K57 hK57 => ?_)
  refine e_store1 (b := gs) (j := 2) (v := .int .i64 (plusZ (sumZ (L.take k)).2.2 p)) (by rfl) rfl rfl (by rfl) (by rfl) FS.out (show 2 < 3 by omega) (by kernel_rfl) rfl ?_
  rintro w58 B59 C60
  replace C0 := qh (C0.out.trans' C60 (inw_cons (.inr nw15.out) inw_nil))
  replace SL := qh (SL.out.chx C60 (xnin_cons nx16.out xnin_nil))
  replace FR := qh (C60.blk FR.out (nin_cons ne17.out nin_nil))
  replace Fg27 := qh (C60.blk Fg27.out (nin_cons (Blk.ne_type Fg27.out FS.out (by decide)) nin_nil))
  clear FS; have FS := qh (show Blk w58 gs (#[.int .i64 (plusZ (sumZ (L.take k)).1 c), .int .i64 (plusZ (sumZ (L.take k)).2.1 m), .int .i64 (plusZ (sumZ (L.take k)).2.2 p)]) 23 from B59); clear B59 C60
  refine hK57 _ _ ?_; clear hK57 K57
  try simp only [zP,zN,zA,zB,zC]
  refine nl_ ?_
  refine ib_norm ?_
  refine th_norm (hK24 _ _ ?_); try clear hK24 K24
  refine r_ ?_
  refine pu_ (v := .int .i64 (k + 1 : Nat)) (y_run (by rfl) (fun W => by have d := Wk.out; go_simp)) ?_
  try simp only [zP,zN,zA,zB,zC]
  refine pu_ (v := .int .i64 (k + 1 : Nat)) (y_move rfl (by rfl) (by rfl)) ?_
  try simp only [zP,zN,zA,zB,zC]
  refine nl_ ?_
  exact th_norm (hK21 (kq - 1) _ _ (by have := hlt.out; have := hk.out; omega) ⟨k + 1, rfl, C0, SL, FR, qh (by rw [sum_succ ho.out, HC.out, HM_.out, HP_.out]; exact FS.out), qh ⟨by have := hlt.out; omega, by have := hlt.out; have := hk.out; omega⟩⟩)
 ·have D9 := qh (show ¬ k < L.length by have := hk.out; omega)
  have HE := qh h
  clear h
  refine s_ (fun K61 hK61 => ?_)
  refine pu_ (v := .bool false) (y_run (by rfl) (fun W => by have d := D9.out; go_simp)) ?_
  try simp only [zP,zN,zA,zB,zC]
  refine nl_ (hK61 _ _ ?_); clear hK61 K61
  refine sq_ (fun K62 hK62 => ?_)
  refine wp_cond_false rfl ?_
  refine wp_exit ?_
  refine th_exit ?_
  refine th_exit ?_
  refine ib_exit ?_
  refine th_norm (hK18 _ _ ?_); try clear hK18 K18
  refine s_ (fun K63 hK63 => ?_)
  refine ld_ (v := .agg (#[.int .i64 (sumZ (L.take k)).1, .int .i64 (sumZ (L.take k)).2.1, .int .i64 (sumZ (L.take k)).2.2])) rfl (by rfl) (by rfl) (run_loadVar_row _ _ 23 23 (#[.int .i64 (sumZ (L.take k)).1, .int .i64 (sumZ (L.take k)).2.1, .int .i64 (sumZ (L.take k)).2.2]) (0, 0) _ FS.out Try.underlying23 rfl (by kernel_rfl)) ?_
  try simp only [zP,zN,zA,zB,zC]
  refine ef_ (fun K64 hK64 => ?_)
  refine e_storeN (cells := (#[.int .i64 (sumZ (L.take k)).1, .int .i64 (sumZ (L.take k)).2.1, .int .i64 (sumZ (L.take k)).2.2])) (by rfl) rfl rfl (by rfl) (by rfl) FR.out (by kernel_rfl) (by rfl) (ones_cons rfl (ones_cons rfl (ones_cons rfl ones_nil))) ?_
  rintro w65 B66 C67
  replace C0 := qh (C0.out.trans' C67 (inw_cons (.inr nw7.out) inw_nil))
  replace SL := qh (SL.out.chx C67 (xnin_cons nx8.out xnin_nil))
  replace FS := qh (C67.blk FS.out (nin_cons (Ne.symm ne17.out) nin_nil))
  clear FR; have FR := qh (show Blk w65 gr ((#[.int .i64 (sumZ (L.take k)).1, .int .i64 (sumZ (L.take k)).2.1, .int .i64 (sumZ (L.take k)).2.2])) 23 from B66); clear B66 C67
  refine hK64 _ _ ?_; clear hK64 K64
  try simp only [zP,zN,zA,zB,zC]
  refine nl_ (hK63 _ _ ?_); clear hK63 K63
  refine wp_ret ?_
  refine hQ _ _ _ ?_
  refine bodyPost_ret (res1 rfl (rdv_cell (by rfl) (run_loadVar_row _ _ 23 23 ((#[.int .i64 (sumZ (L.take k)).1, .int .i64 (sumZ (L.take k)).2.1, .int .i64 (sumZ (L.take k)).2.2])) (0, 0) _ FR.out Try.underlying23 rfl (by kernel_rfl)))) rfl ?_
  exact ⟨by rw [show sumZ L = sumZ (L.take k) by rw [HE.out, List.take_length]], C0.out⟩
theorem cands_ {A : Option Addr} {z : Nat} {L : List HL} (HN : Hid (L.length ≤ 1000)) (SL : Hid (SrcIs w (.slice A L.length z) (L.length) ((L).flatMap loadC) 16)) :
  Calls Try.prog 13 #[.slice A L.length z] w fun en w' => ∃ v', en = .returned v' ∧ OwnS w' w.heap.size 41 11 v' (candsOf L).length ((candsOf L).flatMap candC) ∧ Ch [] w w' := by
 have C0 := qh (Ch.refl [] w)
 obtain ⟨i41, I41⟩ := Info.of info41
 go_enter Try.func13, Try.ntmps13
 refine q_ (fun Q hQ hP => ?_)
 refine s_ (fun K1 hK1 => ?_)
 refine pu_ (v := .slice none 0 0) (y_assign rfl (by rfl) (by rfl)) ?_
 try simp only [zP,zN,zA,zB,zC]
 refine nl_ (hK1 _ _ ?_); clear hK1 K1
 refine s_ (fun K2 hK2 => ?_)
 refine pu_ (v := .slice none 0 0) (y_assign rfl (by rfl) (by rfl)) ?_
 try simp only [zP,zN,zA,zB,zC]
 refine nl_ (hK2 _ _ ?_); clear hK2 K2
 refine sq_ (fun K3 hK3 => ?_)
 refine s_ (fun K4 hK4 => ?_)
 refine pu_ (v := .slice A L.length z) (y_move rfl (by rfl) (by rfl)) ?_
 try simp only [zP,zN,zA,zB,zC]
 refine pu_ (v := .int .i64 L.length) (y_run (by rfl) (fun W => by go_simp)) ?_
 try simp only [zP,zN,zA,zB,zC]
 refine pu_ (v := .int .i64 0) (y_move rfl (by rfl) (by rfl)) ?_
 try simp only [zP,zN,zA,zB,zC]
 refine nl_ (hK4 _ _ ?_); clear hK4 K4
 refine wp_block ?_
 have OT0 := qh (show OwnS w w.heap.size 41 11 (.slice none 0 0) (candsOf (L.take 0)).length ((candsOf (L.take 0)).flatMap candC) from OwnS.nil _ _ _ _ _)
 refine loopk_ (fun (kq : Nat) (a' : Act) (w' : World) => ∃ (k : Nat), ∃ (vt : Value), a' = ⟨#[.slice A L.length z, uo a' 1, .slice none 0 0, vt, uo a' 4, uo a' 5, .slice A L.length z, .int .i64 L.length, .int .i64 k, uo a' 9, uo a' 10, uo a' 11, uo a' 12, uo a' 13, uo a' 14, uo a' 15, uo a' 16, uo a' 17, uo a' 18, uo a' 19, uo a' 20, uo a' 21, uo a' 22, uo a' 23, uo a' 24, uo a' 25, uo a' 26, uo a' 27, uo a' 28, uo a' 29, uo a' 30, uo a' 31, uo a' 32, uo a' 33, uo a' 34, uo a' 35], []⟩ ∧ Hid (Ch [] w w') ∧ Hid (SrcIs w' (.slice A L.length z) (L.length) ((L).flatMap loadC) 16) ∧ Hid (OwnS w' w.heap.size 41 11 (vt) ((candsOf (L.take k)).length) ((candsOf (L.take k)).flatMap candC)) ∧ Hid (k ≤ L.length ∧ kq + k = L.length) ∧ Hid (∀ k, k ∈ xb (.slice A L.length z) → k ∉ rl vt)) (L.length) (⟨0, _, rfl, C0, SL, OT0, qh ⟨by omega, by omega⟩, qh (fun k _ hm => absurd hm (by simp [rl]))⟩) ?_
 rintro kq a_ w5 ⟨k, vt, ha_, C0, SL, OT, hk, hxr⟩ K6 hK6
 obtain ⟨us, hus_⟩ : ∃ us, us = uo a_ := ⟨_, rfl⟩; try rw [← hus_] at ha_
 subst ha_; clear hus_
 rcases at_ways' hk.out.1 with ⟨x, ho0, hlt0⟩ | h
 ·have hlt := qh hlt0
  have ho := qh ho0
  clear hlt0 ho0
  obtain ⟨a, hsm_a⟩ := src_some SL.out (by have := hlt.out; omega)
  subst hsm_a
  have D9 := qh (show (k : Int) < (L.length : Int) by have := hlt.out; omega)
  have Wk := qh (show IntKind.i64.wrap ((k : Int) + 1) = ((k + 1 : Nat) : Int) by rw [wr64 (by have := hlt.out; have h7 := HN.out; omega)]; omega)
  obtain ⟨u, rv, s0, s1, s2, s3, s4, s5, s6, ph, rs, mk, gz, c, m, p, hlc, hu, hsp, hph, hmk, hc, hm, hp, hone⟩ := load_lits x
  have HLC := qh hlc; have HU := qh hu; have HSP := qh hsp; have HPH := qh hph; have HMK := qh hmk; have HC := qh hc; have HM_ := qh hm; have HP_ := qh hp; have HO1 := qh hone
  clear hlc hu hsp hph hmk hc hm hp hone
  refine s_ (fun K7 hK7 => ?_)
  refine pu_ (v := .bool true) (y_run (by rfl) (fun W => by have d := D9.out; go_simp)) ?_
  try simp only [zP,zN,zA,zB,zC]
  refine nl_ (hK7 _ _ ?_); clear hK7 K7
  refine sq_ (fun K8 hK8 => ?_)
  refine wp_cond_true rfl ?_
  refine wp_skip ?_
  refine th_norm (hK8 _ _ ?_); try clear hK8 K8
  refine sq_ (fun K9 hK9 => ?_)
  refine wp_block ?_
  refine s_ (fun K10 hK10 => ?_)
  refine pu_ (v := .pointer (some (a.add (k * 16)))) (y_run (by rfl) (fun W => by have d := D9.out; go_simp)) ?_
  try simp only [zP,zN,zA,zB,zC]
  refine ld_ (v := .agg #[.int .i64 u, .int .u64 rv, s0, s1, s2, s3, s4, s5, s6, .int .i64 ph, rs, .int .i64 mk, .int .i64 gz, .int .i64 c, .int .i64 m, .int .i64 p]) rfl (by rfl) (by rfl) (run_loadVar_at (by have h := src_at loadC_len SL.out ho.out; rw [HLC.out] at h; exact h) Try.underlying56 rfl (by kernel_rfl)) ?_
  try simp only [zP,zN,zA,zB,zC]
  refine ef_ (fun K11 hK11 => ?_)
  refine e_alloc (by rfl) rfl rfl (cs := #[.int .i64 0, .int .u64 0, .string ⟨#[]⟩, .slice none 0 0, .slice none 0 0, .slice none 0 0, .int .i64 0, .int .i64 0, .int .i64 0, .int .i64 0, .slice none 0 0, .int .i64 0, .int .i64 0, .int .i64 0, .int .i64 0, .int .i64 0]) (by kernel_rfl) ?_
  rintro g12 w13 HG14 B15 C16
  have nw17 := qh (show w.heap.size ≤ g12 by have := C0.out.size; have := HG14.out; omega)
  have nx18 := qh (SL.out.ne_new (by decide) HG14)
  replace C0 := qh (C0.out.trans' C16 inw_nil)
  replace SL := qh (SL.out.chx C16 xnin_nil)
  replace OT := qh (OT.out.ch C16 rnin_nil)
  have Fg12 := qh (show Blk w13 g12 (#[.int .i64 0, .int .u64 0, .string ⟨#[]⟩, .slice none 0 0, .slice none 0 0, .slice none 0 0, .int .i64 0, .int .i64 0, .int .i64 0, .int .i64 0, .slice none 0 0, .int .i64 0, .int .i64 0, .int .i64 0, .int .i64 0, .int .i64 0]) 56 from B15); clear B15 C16
  refine hK11 _ _ ?_; clear hK11 K11
  try simp only [zP,zN,zA,zB,zC]
  refine ef_ (fun K19 hK19 => ?_)
  refine e_storeN (cells := #[.int .i64 u, .int .u64 rv, s0, s1, s2, s3, s4, s5, s6, .int .i64 ph, rs, .int .i64 mk, .int .i64 gz, .int .i64 c, .int .i64 m, .int .i64 p]) (by rfl) rfl rfl (by rfl) (by rfl) Fg12.out (by kernel_rfl) (by rfl) (ones_cons rfl (ones_cons rfl (ones_cons HO1.out.1.1 (ones_cons HO1.out.1.2.1 (ones_cons HO1.out.1.2.2.1 (ones_cons HO1.out.1.2.2.2 (ones_cons HO1.out.2.1 (ones_cons HO1.out.2.2.1 (ones_cons HO1.out.2.2.2.1 (ones_cons rfl (ones_cons HO1.out.2.2.2.2 (ones_cons rfl (ones_cons rfl (ones_cons rfl (ones_cons rfl (ones_cons rfl ones_nil)))))))))))))))) ?_
  rintro w20 B21 C22
  replace C0 := qh (C0.out.trans' C22 (inw_cons (.inr nw17.out) inw_nil))
  replace SL := qh (SL.out.chx C22 (xnin_cons nx18.out xnin_nil))
  replace OT := qh (OT.out.ch C22 (rnin_cons (OT.out.ne Fg12.out (by decide)) rnin_nil))
  clear Fg12; have Fg12 := qh (show Blk w20 g12 (#[.int .i64 u, .int .u64 rv, s0, s1, s2, s3, s4, s5, s6, .int .i64 ph, rs, .int .i64 mk, .int .i64 gz, .int .i64 c, .int .i64 m, .int .i64 p]) 56 from B21); clear B21 C22
  refine hK19 _ _ ?_; clear hK19 K19
  try simp only [zP,zN,zA,zB,zC]
  refine nl_ (hK10 _ _ ?_); clear hK10 K10
  rcases (show (ph = 2 ∧ mk = 0) ∨ (ph = 2 ∧ mk ≠ 0) ∨ ph ≠ 2 by omega) with h | h | h
  ·have D15 := qh (show (ph == 2) = true from beq_iff_eq.2 h.1)
   have D20 := qh (show (mk == 0) = true from beq_iff_eq.2 h.2)
   have HIC := qh (show isCand x = true from by unfold isCand; rw [HPH.out, HMK.out, D15.out, D20.out]; rfl)
   clear h
   have HCC := qh (show candC (candOf x) = [.int .i64 u, s0, s1, s2, s3, s4, s5, s6, .int .i64 c, .int .i64 m, .int .i64 p] from by unfold candC candOf; simp only [HU.out, HSP.out, HC.out, HM_.out, HP_.out]; rfl)
   have HCL := qh (show (candsOf (L.take k)).length ≤ 1000 from Nat.le_trans (cands_le _) (by rw [List.length_take]; have := HN.out; omega))
   refine s_ (fun K23 hK23 => ?_)
   refine pu_ (v := .pointer (some ⟨g12, 0, none⟩)) (y_run (by rfl) (fun W => by go_simp)) ?_
   try simp only [zP,zN,zA,zB,zC]
   refine pu_ (v := .pointer (some ⟨g12, 9, none⟩)) (y_run (by rfl) (fun W => by go_simp)) ?_
   try simp only [zP,zN,zA,zB,zC]
   refine ld_ (v := .int .i64 ph) rfl (by rfl) (by rfl) (run_load_one ((Fg12.out.cell 9).trans rfl) Try.underlying3 rfl) ?_
   try simp only [zP,zN,zA,zB,zC]
   refine pu_ (v := .bool true) (y_run (by rfl) (fun W => by have d := D15.out; go_simp)) ?_
   try simp only [zP,zN,zA,zB,zC]
   refine pu_ (v := .bool true) (y_move rfl (by rfl) (by rfl)) ?_
   try simp only [zP,zN,zA,zB,zC]
   refine pu_ (v := .pointer (some ⟨g12, 0, none⟩)) (y_run (by rfl) (fun W => by go_simp)) ?_
   try simp only [zP,zN,zA,zB,zC]
   refine pu_ (v := .pointer (some ⟨g12, 11, none⟩)) (y_run (by rfl) (fun W => by go_simp)) ?_
   try simp only [zP,zN,zA,zB,zC]
   refine ld_ (v := .int .i64 mk) rfl (by rfl) (by rfl) (run_load_one ((Fg12.out.cell 11).trans rfl) Try.underlying3 rfl) ?_
   try simp only [zP,zN,zA,zB,zC]
   refine pu_ (v := .bool true) (y_run (by rfl) (fun W => by have d := D20.out; go_simp)) ?_
   try simp only [zP,zN,zA,zB,zC]
   refine pu_ (v := .bool true) (y_pick (t := true) (by rfl) rfl (by rfl) (by rfl)) ?_
   try simp only [zP,zN,zA,zB,zC]
   refine nl_ (hK23 _ _ ?_); clear hK23 K23
   refine wp_cond_true rfl ?_
   refine r_ ?_
   refine pu_ (v := vt) (y_move rfl (by rfl) (by rfl)) ?_
   try simp only [zP,zN,zA,zB,zC]
   refine pu_ (v := .pointer (some ⟨g12, 0, none⟩)) (y_run (by rfl) (fun W => by go_simp)) ?_
   try simp only [zP,zN,zA,zB,zC]
   refine pu_ (v := .pointer (some ⟨g12, 0, none⟩)) (y_run (by rfl) (fun W => by go_simp)) ?_
   try simp only [zP,zN,zA,zB,zC]
   refine ld_ (v := .int .i64 u) rfl (by rfl) (by rfl) (run_load_one ((Fg12.out.cell 0).trans rfl) Try.underlying3 rfl) ?_
   try simp only [zP,zN,zA,zB,zC]
   refine pu_ (v := .pointer (some ⟨g12, 0, none⟩)) (y_run (by rfl) (fun W => by go_simp)) ?_
   try simp only [zP,zN,zA,zB,zC]
   refine pu_ (v := .pointer (some ⟨g12, 2, none⟩)) (y_run (by rfl) (fun W => by go_simp)) ?_
   try simp only [zP,zN,zA,zB,zC]
   refine ld_ (v := .agg #[s0, s1, s2, s3, s4, s5, s6]) rfl (by rfl) (by rfl) (run_loadVar_at (cs := [s0, s1, s2, s3, s4, s5, s6]) (cells_part Fg12.out 2 (by rfl)) Try.underlying39 rfl (by kernel_rfl)) ?_
   try simp only [zP,zN,zA,zB,zC]
   refine pu_ (v := .pointer (some ⟨g12, 13, none⟩)) (y_run (by rfl) (fun W => by go_simp)) ?_
   try simp only [zP,zN,zA,zB,zC]
   refine ld_ (v := .agg #[.int .i64 c, .int .i64 m, .int .i64 p]) rfl (by rfl) (by rfl) (run_loadVar_at (cs := [.int .i64 c, .int .i64 m, .int .i64 p]) (cells_part Fg12.out 13 (by rfl)) Try.underlying23 rfl (by kernel_rfl)) ?_
   try simp only [zP,zN,zA,zB,zC]
   refine pu_ (v := .agg #[.int .i64 u, s0, s1, s2, s3, s4, s5, s6, .int .i64 c, .int .i64 m, .int .i64 p]) (y_build (vs := #[(0, .int .i64 u), (1, .agg #[s0, s1, s2, s3, s4, s5, s6]), (2, .agg #[.int .i64 c, .int .i64 m, .int .i64 p])]) (by rfl) rfl (by first | rfl | (simp only [List.map_toArray, List.map_cons, List.map_nil]; first | done | rfl)) (by kernel_rfl)) ?_
   try simp only [zP,zN,zA,zB,zC]
   refine ef_ (fun K24 hK24 => ?_)
   refine e_buildS (parts := #[(0, .agg #[.int .i64 u, s0, s1, s2, s3, s4, s5, s6, .int .i64 c, .int .i64 m, .int .i64 p])]) (cells := #[.int .i64 u, s0, s1, s2, s3, s4, s5, s6, .int .i64 c, .int .i64 m, .int .i64 p]) (by rfl) rfl rfl (by first | rfl | (simp only [List.map_toArray, List.map_cons, List.map_nil]; first | done | rfl)) Try.underlying32 I41.hi I41.hz I41.hs (by decide) (by decide) (by kernel_rfl) ?_
   rintro g25 w26 HG27 B28 C29
   have nw30 := qh (show w.heap.size ≤ g25 by have := C0.out.size; have := HG27.out; omega)
   have nx31 := qh (SL.out.ne_new (by decide) HG27)
   have nr32 := qh (OT.out.ne_new HG27)
   replace C0 := qh (C0.out.trans' C29 inw_nil)
   replace SL := qh (SL.out.chx C29 xnin_nil)
   replace OT := qh (OT.out.ch C29 rnin_nil)
   replace Fg12 := qh (C29.blk Fg12.out nin_nil)
   have Fg25 := qh (show Blk w26 g25 (#[.int .i64 u, s0, s1, s2, s3, s4, s5, s6, .int .i64 c, .int .i64 m, .int .i64 p]) 41 from B28); clear B28 C29
   refine hK24 _ _ ?_; clear hK24 K24
   try simp only [zP,zN,zA,zB,zC]
   refine ef_ (fun K33 hK33 => ?_)
   refine e_append (by rfl) rfl rfl (w.heap.size) 41 _ _ 11 144 Try.underlying32 I41.hi I41.hz I41.hs I41.hb rfl (by decide) (vt) ((candsOf (L.take k)).length) ((candsOf (L.take k)).flatMap candC) (by rfl) OT.out (.slice (some ⟨g25, 0, none⟩) 1 1) 1 ([.int .i64 u, s0, s1, s2, s3, s4, s5, s6, .int .i64 c, .int .i64 m, .int .i64 p]) (by rfl) ⟨rfl, .inr ⟨_, _, rfl, CellsAt.blk Fg25.out 0⟩⟩ (ones_cons rfl (ones_cons HO1.out.1.1 (ones_cons HO1.out.1.2.1 (ones_cons HO1.out.1.2.2.1 (ones_cons HO1.out.1.2.2.2 (ones_cons HO1.out.2.1 (ones_cons HO1.out.2.2.1 (ones_cons HO1.out.2.2.2.1 (ones_cons rfl (ones_cons rfl (ones_cons rfl ones_nil))))))))))) (by unfold maxLen; have := HCL.out; omega) (by have := HCL.out; omega) C0.out.size ?_
   rintro v34 w35 O36 C37 R38 -
   have xr40 := qh (show ∀ k, k ∈ xb (.slice (some a) L.length z) → k ∉ rl v34 from fun k hk hm => (R38 k hm).elim (fun h => hxr.out k hk h) (fun h => by have := SL.out.lt (by decide) k hk; omega))
   have nr41 := qh (show g25 ∉ rl v34 from fun hk => (R38 _ hk).elim nr32.out (fun h => by have := Fg25.out.lt; omega))
   replace C0 := qh (C0.out.trans' C37 (fun x hx => .inr (OT.out.lt x hx).1))
   replace SL := qh (SL.out.chx C37 hxr.out)
   replace Fg12 := qh (C37.blk Fg12.out (OT.out.ne Fg12.out (by decide)))
   replace Fg25 := qh (C37.blk Fg25.out nr32.out)
   clear OT
   have OT := qh (show OwnS w35 w.heap.size 41 11 (v34) ((candsOf (L.take k)).length + 1) ((candsOf (L.take k)).flatMap candC ++ [.int .i64 u, s0, s1, s2, s3, s4, s5, s6, .int .i64 c, .int .i64 m, .int .i64 p]) from O36); clear O36 C37
   refine hK33 _ _ ?_; clear hK33 K33
   try simp only [zP,zN,zA,zB,zC]
   refine pu_ (v := v34) (y_assign rfl (by rfl) (by rfl)) ?_
   try simp only [zP,zN,zA,zB,zC]
   refine nl_ ?_
   refine ib_norm ?_
   refine th_norm (hK9 _ _ ?_); try clear hK9 K9
   refine r_ ?_
   refine pu_ (v := .int .i64 (k + 1 : Nat)) (y_run (by rfl) (fun W => by have d := Wk.out; go_simp)) ?_
   try simp only [zP,zN,zA,zB,zC]
   refine pu_ (v := .int .i64 (k + 1 : Nat)) (y_move rfl (by rfl) (by rfl)) ?_
   try simp only [zP,zN,zA,zB,zC]
   refine nl_ ?_
   exact th_norm (hK6 (kq - 1) _ _ (by have := hlt.out; have := hk.out; omega) ⟨k + 1, _, rfl, C0, SL, qh (by have h := OT.out; rw [cands_yes ho.out HIC.out, List.length_append, List.flatMap_append, List.flatMap_cons, List.flatMap_nil, List.append_nil, HCC.out]; exact h), qh ⟨by have := hlt.out; omega, by have := hlt.out; have := hk.out; omega⟩, qh (xr40.out)⟩)
  ·have D15 := qh (show (ph == 2) = true from beq_iff_eq.2 h.1)
   have D20 := qh (show (mk == 0) = false from beq_eq_false_iff_ne.2 h.2)
   have HIC := qh (show isCand x = false from by unfold isCand; rw [HPH.out, HMK.out, D15.out, D20.out]; rfl)
   clear h
   refine s_ (fun K42 hK42 => ?_)
   refine pu_ (v := .pointer (some ⟨g12, 0, none⟩)) (y_run (by rfl) (fun W => by go_simp)) ?_
   try simp only [zP,zN,zA,zB,zC]
   refine pu_ (v := .pointer (some ⟨g12, 9, none⟩)) (y_run (by rfl) (fun W => by go_simp)) ?_
   try simp only [zP,zN,zA,zB,zC]
   refine ld_ (v := .int .i64 ph) rfl (by rfl) (by rfl) (run_load_one ((Fg12.out.cell 9).trans rfl) Try.underlying3 rfl) ?_
   try simp only [zP,zN,zA,zB,zC]
   refine pu_ (v := .bool true) (y_run (by rfl) (fun W => by have d := D15.out; go_simp)) ?_
   try simp only [zP,zN,zA,zB,zC]
   refine pu_ (v := .bool true) (y_move rfl (by rfl) (by rfl)) ?_
   try simp only [zP,zN,zA,zB,zC]
   refine pu_ (v := .pointer (some ⟨g12, 0, none⟩)) (y_run (by rfl) (fun W => by go_simp)) ?_
   try simp only [zP,zN,zA,zB,zC]
   refine pu_ (v := .pointer (some ⟨g12, 11, none⟩)) (y_run (by rfl) (fun W => by go_simp)) ?_
   try simp only [zP,zN,zA,zB,zC]
   refine ld_ (v := .int .i64 mk) rfl (by rfl) (by rfl) (run_load_one ((Fg12.out.cell 11).trans rfl) Try.underlying3 rfl) ?_
   try simp only [zP,zN,zA,zB,zC]
   refine pu_ (v := .bool false) (y_run (by rfl) (fun W => by have d := D20.out; go_simp)) ?_
   try simp only [zP,zN,zA,zB,zC]
   refine pu_ (v := .bool false) (y_pick (t := true) (by rfl) rfl (by rfl) (by rfl)) ?_
   try simp only [zP,zN,zA,zB,zC]
   refine nl_ (hK42 _ _ ?_); clear hK42 K42
   refine wp_cond_false rfl ?_
   refine wp_skip ?_
   refine ib_norm ?_
   refine th_norm (hK9 _ _ ?_); try clear hK9 K9
   refine r_ ?_
   refine pu_ (v := .int .i64 (k + 1 : Nat)) (y_run (by rfl) (fun W => by have d := Wk.out; go_simp)) ?_
   try simp only [zP,zN,zA,zB,zC]
   refine pu_ (v := .int .i64 (k + 1 : Nat)) (y_move rfl (by rfl) (by rfl)) ?_
   try simp only [zP,zN,zA,zB,zC]
   refine nl_ ?_
   exact th_norm (hK6 (kq - 1) _ _ (by have := hlt.out; have := hk.out; omega) ⟨k + 1, _, rfl, C0, SL, qh (by have h := OT.out; rw [← cands_no ho.out HIC.out] at h; exact h), qh ⟨by have := hlt.out; omega, by have := hlt.out; have := hk.out; omega⟩, qh (hxr.out)⟩)
  ·have D15 := qh (show (ph == 2) = false from beq_eq_false_iff_ne.2 h)
   have HIC := qh (show isCand x = false from by unfold isCand; rw [HPH.out, HMK.out, D15.out]; rfl)
   clear h
   refine s_ (fun K43 hK43 => ?_)
   refine pu_ (v := .pointer (some ⟨g12, 0, none⟩)) (y_run (by rfl) (fun W => by go_simp)) ?_
   try simp only [zP,zN,zA,zB,zC]
   refine pu_ (v := .pointer (some ⟨g12, 9, none⟩)) (y_run (by rfl) (fun W => by go_simp)) ?_
   try simp only [zP,zN,zA,zB,zC]
   refine ld_ (v := .int .i64 ph) rfl (by rfl) (by rfl) (run_load_one ((Fg12.out.cell 9).trans rfl) Try.underlying3 rfl) ?_
   try simp only [zP,zN,zA,zB,zC]
   refine pu_ (v := .bool false) (y_run (by rfl) (fun W => by have d := D15.out; go_simp)) ?_
   try simp only [zP,zN,zA,zB,zC]
   refine pu_ (v := .bool false) (y_move rfl (by rfl) (by rfl)) ?_
   try simp only [zP,zN,zA,zB,zC]
   refine pu_ (y_off (by rfl)) ?_
   try simp only [zP,zN,zA,zB,zC]
   refine pu_ (y_off (by rfl)) ?_
   try simp only [zP,zN,zA,zB,zC]
   refine pu_ (y_off (by rfl)) ?_
   try simp only [zP,zN,zA,zB,zC]
   refine pu_ (y_off (by rfl)) ?_
   try simp only [zP,zN,zA,zB,zC]
   refine pu_ (v := .bool false) (y_pick (t := false) (by rfl) rfl (by rfl) (by rfl)) ?_
   try simp only [zP,zN,zA,zB,zC]
   refine nl_ (hK43 _ _ ?_); clear hK43 K43
   refine wp_cond_false rfl ?_
   refine wp_skip ?_
   refine ib_norm ?_
   refine th_norm (hK9 _ _ ?_); try clear hK9 K9
   refine r_ ?_
   refine pu_ (v := .int .i64 (k + 1 : Nat)) (y_run (by rfl) (fun W => by have d := Wk.out; go_simp)) ?_
   try simp only [zP,zN,zA,zB,zC]
   refine pu_ (v := .int .i64 (k + 1 : Nat)) (y_move rfl (by rfl) (by rfl)) ?_
   try simp only [zP,zN,zA,zB,zC]
   refine nl_ ?_
   exact th_norm (hK6 (kq - 1) _ _ (by have := hlt.out; have := hk.out; omega) ⟨k + 1, _, rfl, C0, SL, qh (by have h := OT.out; rw [← cands_no ho.out HIC.out] at h; exact h), qh ⟨by have := hlt.out; omega, by have := hlt.out; have := hk.out; omega⟩, qh (hxr.out)⟩)
 ·have D9 := qh (show ¬ k < L.length by have := hk.out; omega)
  have HE := qh h
  clear h
  refine s_ (fun K44 hK44 => ?_)
  refine pu_ (v := .bool false) (y_run (by rfl) (fun W => by have d := D9.out; go_simp)) ?_
  try simp only [zP,zN,zA,zB,zC]
  refine nl_ (hK44 _ _ ?_); clear hK44 K44
  refine sq_ (fun K45 hK45 => ?_)
  refine wp_cond_false rfl ?_
  refine wp_exit ?_
  refine th_exit ?_
  refine th_exit ?_
  refine ib_exit ?_
  refine th_norm (hK3 _ _ ?_); try clear hK3 K3
  refine s_ (fun K46 hK46 => ?_)
  refine pu_ (v := vt) (y_move rfl (by rfl) (by rfl)) ?_
  try simp only [zP,zN,zA,zB,zC]
  refine pu_ (v := vt) (y_assign rfl (by rfl) (by rfl)) ?_
  try simp only [zP,zN,zA,zB,zC]
  refine nl_ (hK46 _ _ ?_); clear hK46 K46
  refine wp_ret ?_
  refine hQ _ _ _ ?_
  refine bodyPost_ret (res1 rfl (rdv_tmp (v := vt) (by rfl))) rfl ?_
  exact ⟨_, rfl, by have h := OT.out; rw [HE.out, List.take_length] at h; exact h, C0.out⟩
end
end Go.Proofs.Ytmoelehhofmhcaa.V
