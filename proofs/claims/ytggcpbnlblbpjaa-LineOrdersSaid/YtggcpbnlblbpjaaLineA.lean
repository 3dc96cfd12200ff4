/- The walks of package line. -/
import Derived.Test.YtggcpbnlblbpjaaLineB
namespace Go.Proofs.Ytggcpbnlblbpjaa.L
open Go Go.RowKit Go.Proofs.Ytggcpbnlblbpjaa.K Go.Proofs.Ytggcpbnlblbpjaa.H Go.Proofs.YtggcpbnlblbpjaaW.PrintLast
set_option linter.unusedVariables false
set_option linter.unusedSimpArgs false
set_option maxRecDepth 100000
set_option maxHeartbeats 1600000
section
variable {w : World}
theorem under_ (o : HOp) (t : Int)  :
    Calls Try.prog 51 #[.agg (opC o).toArray, .int .i64 t] w fun en w' => en = .returned (.bool (underB o t)) ∧ Ch [] w w' := by
  have C0 := Lib.hid (Ch.refl [] w)
  go_enter Try.func51, Try.ntmps51
  refine q_ (fun Q hQ hP => ?_)
  refine s_ (fun K1 hK1 => ?_)
  refine ef_ (fun K2 hK2 => ?_)
  refine e_boxN (by rfl) rfl rfl (cs := (opC o).toArray) (v := .agg (opC o).toArray) (by rfl) rfl ?_
  rintro g3 w4 HG5 B6 C7
  have nw8 := Lib.hid (show w.heap.size ≤ g3 by have := C0.out.size; have := HG5.out; omega)
  have C0' := Lib.hid (show Ch [] w w4 from C0.out.trans' C7 (fun x hx => absurd hx (by simp)))
  clear C0
  have C0 := C0'; clear C0'
  have Fg3 := Lib.hid (show Blk w4 g3 ((opC o).toArray) 49 from B6); clear B6 C7
  refine hK2 _ _ ?_; clear hK2 K2
  (try simp only [zP, zN, zA, zB, zC])
  refine pu_ (v := .bool false) (y_assign rfl (by rfl) (by rfl)) ?_
  (try simp only [zP, zN, zA, zB, zC])
  refine nl_ (hK1 _ _ ?_); clear hK1 K1
  rcases under_ways o t with h | h | h | h
  · have D8 := Lib.hid (show decide (o.a ≤ t) = false from decide_eq_false h)
    have HR := Lib.hid (show underB o t = false by unfold underB; rw [decide_eq_false h]; rfl)
    clear h
    refine s_ (fun K9 hK9 => ?_)
    refine pu_ (v := .pointer (some ⟨g3, 2, none⟩)) (y_run (by rfl) (fun W => by go_simp)) ?_
    (try simp only [zP, zN, zA, zB, zC])
    refine ld_ (v := .int .i64 o.a) rfl (by rfl) (by rfl) (run_load_one ((Fg3.out.cell 2).trans (by simp [opC])) Try.underlying3 rfl) ?_
    (try simp only [zP, zN, zA, zB, zC])
    refine pu_ (v := .int .i64 t) (y_move rfl (by rfl) (by rfl)) ?_
    (try simp only [zP, zN, zA, zB, zC])
    refine pu_ (v := .bool false) (y_run (by rfl) (fun W => by have d := D8.out; go_simp)) ?_
    (try simp only [zP, zN, zA, zB, zC])
    refine pu_ (v := .bool false) (y_move rfl (by rfl) (by rfl)) ?_
    (try simp only [zP, zN, zA, zB, zC])
    refine pu_ (y_off (by rfl)) ?_
    (try simp only [zP, zN, zA, zB, zC])
    refine pu_ (y_off (by rfl)) ?_
    (try simp only [zP, zN, zA, zB, zC])
    refine pu_ (y_off (by rfl)) ?_
    (try simp only [zP, zN, zA, zB, zC])
    refine pu_ (y_off (by rfl)) ?_
    (try simp only [zP, zN, zA, zB, zC])
    refine pu_ (y_off (by rfl)) ?_
    (try simp only [zP, zN, zA, zB, zC])
    refine pu_ (y_off (by rfl)) ?_
    (try simp only [zP, zN, zA, zB, zC])
    refine pu_ (y_off (by rfl)) ?_
    (try simp only [zP, zN, zA, zB, zC])
    refine pu_ (y_off (by rfl)) ?_
    (try simp only [zP, zN, zA, zB, zC])
    refine pu_ (y_off (by rfl)) ?_
    (try simp only [zP, zN, zA, zB, zC])
    refine pu_ (v := .bool false) (y_pick (t := false) (by rfl) rfl (by rfl) (by rfl)) ?_
    (try simp only [zP, zN, zA, zB, zC])
    refine pu_ (v := .bool false) (y_assign rfl (by rfl) (by rfl)) ?_
    (try simp only [zP, zN, zA, zB, zC])
    refine nl_ (hK9 _ _ ?_); clear hK9 K9
    refine wp_ret ?_
    refine hQ _ _ _ ?_
    refine bodyPost_ret (res1 rfl (rdv_tmp (v := .bool false) (by rfl))) rfl ?_
    exact ⟨by rw [HR.out], C0.out⟩
  · have D8 := Lib.hid (show decide (o.a ≤ t) = true from decide_eq_true h.1)
    have D12 := Lib.hid (show (o.t == 0) = true from beq_iff_eq.2 h.2)
    have HR := Lib.hid (show underB o t = true by unfold underB; rw [decide_eq_true h.1, beq_iff_eq.2 h.2]; rfl)
    clear h
    refine s_ (fun K10 hK10 => ?_)
    refine pu_ (v := .pointer (some ⟨g3, 2, none⟩)) (y_run (by rfl) (fun W => by go_simp)) ?_
    (try simp only [zP, zN, zA, zB, zC])
    refine ld_ (v := .int .i64 o.a) rfl (by rfl) (by rfl) (run_load_one ((Fg3.out.cell 2).trans (by simp [opC])) Try.underlying3 rfl) ?_
    (try simp only [zP, zN, zA, zB, zC])
    refine pu_ (v := .int .i64 t) (y_move rfl (by rfl) (by rfl)) ?_
    (try simp only [zP, zN, zA, zB, zC])
    refine pu_ (v := .bool true) (y_run (by rfl) (fun W => by have d := D8.out; go_simp)) ?_
    (try simp only [zP, zN, zA, zB, zC])
    refine pu_ (v := .bool true) (y_move rfl (by rfl) (by rfl)) ?_
    (try simp only [zP, zN, zA, zB, zC])
    refine pu_ (v := .pointer (some ⟨g3, 4, none⟩)) (y_run (by rfl) (fun W => by go_simp)) ?_
    (try simp only [zP, zN, zA, zB, zC])
    refine ld_ (v := .int .i64 o.t) rfl (by rfl) (by rfl) (run_load_one ((Fg3.out.cell 4).trans (by simp [opC])) Try.underlying3 rfl) ?_
    (try simp only [zP, zN, zA, zB, zC])
    refine pu_ (v := .bool true) (y_run (by rfl) (fun W => by have d := D12.out; go_simp)) ?_
    (try simp only [zP, zN, zA, zB, zC])
    refine pu_ (v := .bool true) (y_move rfl (by rfl) (by rfl)) ?_
    (try simp only [zP, zN, zA, zB, zC])
    refine pu_ (y_off (by rfl)) ?_
    (try simp only [zP, zN, zA, zB, zC])
    refine pu_ (y_off (by rfl)) ?_
    (try simp only [zP, zN, zA, zB, zC])
    refine pu_ (y_off (by rfl)) ?_
    (try simp only [zP, zN, zA, zB, zC])
    refine pu_ (y_off (by rfl)) ?_
    (try simp only [zP, zN, zA, zB, zC])
    refine pu_ (v := .bool true) (y_pick (t := true) (by rfl) rfl (by rfl) (by rfl)) ?_
    (try simp only [zP, zN, zA, zB, zC])
    refine pu_ (v := .bool true) (y_pick (t := true) (by rfl) rfl (by rfl) (by rfl)) ?_
    (try simp only [zP, zN, zA, zB, zC])
    refine pu_ (v := .bool true) (y_assign rfl (by rfl) (by rfl)) ?_
    (try simp only [zP, zN, zA, zB, zC])
    refine nl_ (hK10 _ _ ?_); clear hK10 K10
    refine wp_ret ?_
    refine hQ _ _ _ ?_
    refine bodyPost_ret (res1 rfl (rdv_tmp (v := .bool true) (by rfl))) rfl ?_
    exact ⟨by rw [HR.out], C0.out⟩
  · have D8 := Lib.hid (show decide (o.a ≤ t) = true from decide_eq_true h.1)
    have D12 := Lib.hid (show (o.t == 0) = false from beq_eq_false_iff_ne.2 h.2.1)
    have D17 := Lib.hid (show decide (o.t ≥ t) = true from decide_eq_true h.2.2)
    have HR := Lib.hid (show underB o t = true by unfold underB; rw [decide_eq_true h.1, decide_eq_true h.2.2]; simp)
    clear h
    refine s_ (fun K11 hK11 => ?_)
    refine pu_ (v := .pointer (some ⟨g3, 2, none⟩)) (y_run (by rfl) (fun W => by go_simp)) ?_
    (try simp only [zP, zN, zA, zB, zC])
    refine ld_ (v := .int .i64 o.a) rfl (by rfl) (by rfl) (run_load_one ((Fg3.out.cell 2).trans (by simp [opC])) Try.underlying3 rfl) ?_
    (try simp only [zP, zN, zA, zB, zC])
    refine pu_ (v := .int .i64 t) (y_move rfl (by rfl) (by rfl)) ?_
    (try simp only [zP, zN, zA, zB, zC])
    refine pu_ (v := .bool true) (y_run (by rfl) (fun W => by have d := D8.out; go_simp)) ?_
    (try simp only [zP, zN, zA, zB, zC])
    refine pu_ (v := .bool true) (y_move rfl (by rfl) (by rfl)) ?_
    (try simp only [zP, zN, zA, zB, zC])
    refine pu_ (v := .pointer (some ⟨g3, 4, none⟩)) (y_run (by rfl) (fun W => by go_simp)) ?_
    (try simp only [zP, zN, zA, zB, zC])
    refine ld_ (v := .int .i64 o.t) rfl (by rfl) (by rfl) (run_load_one ((Fg3.out.cell 4).trans (by simp [opC])) Try.underlying3 rfl) ?_
    (try simp only [zP, zN, zA, zB, zC])
    refine pu_ (v := .bool false) (y_run (by rfl) (fun W => by have d := D12.out; go_simp)) ?_
    (try simp only [zP, zN, zA, zB, zC])
    refine pu_ (v := .bool false) (y_move rfl (by rfl) (by rfl)) ?_
    (try simp only [zP, zN, zA, zB, zC])
    refine pu_ (v := .pointer (some ⟨g3, 4, none⟩)) (y_run (by rfl) (fun W => by go_simp)) ?_
    (try simp only [zP, zN, zA, zB, zC])
    refine ld_ (v := .int .i64 o.t) rfl (by rfl) (by rfl) (run_load_one ((Fg3.out.cell 4).trans (by simp [opC])) Try.underlying3 rfl) ?_
    (try simp only [zP, zN, zA, zB, zC])
    refine pu_ (v := .int .i64 t) (y_move rfl (by rfl) (by rfl)) ?_
    (try simp only [zP, zN, zA, zB, zC])
    refine pu_ (v := .bool true) (y_run (by rfl) (fun W => by have d := D17.out; go_simp)) ?_
    (try simp only [zP, zN, zA, zB, zC])
    refine pu_ (v := .bool true) (y_pick (t := false) (by rfl) rfl (by rfl) (by rfl)) ?_
    (try simp only [zP, zN, zA, zB, zC])
    refine pu_ (v := .bool true) (y_pick (t := true) (by rfl) rfl (by rfl) (by rfl)) ?_
    (try simp only [zP, zN, zA, zB, zC])
    refine pu_ (v := .bool true) (y_assign rfl (by rfl) (by rfl)) ?_
    (try simp only [zP, zN, zA, zB, zC])
    refine nl_ (hK11 _ _ ?_); clear hK11 K11
    refine wp_ret ?_
    refine hQ _ _ _ ?_
    refine bodyPost_ret (res1 rfl (rdv_tmp (v := .bool true) (by rfl))) rfl ?_
    exact ⟨by rw [HR.out], C0.out⟩
  · have D8 := Lib.hid (show decide (o.a ≤ t) = true from decide_eq_true h.1)
    have D12 := Lib.hid (show (o.t == 0) = false from beq_eq_false_iff_ne.2 h.2.1)
    have D17 := Lib.hid (show decide (o.t ≥ t) = false from decide_eq_false h.2.2)
    have HR := Lib.hid (show underB o t = false by unfold underB; rw [beq_eq_false_iff_ne.2 h.2.1, decide_eq_false h.2.2]; simp)
    clear h
    refine s_ (fun K12 hK12 => ?_)
    refine pu_ (v := .pointer (some ⟨g3, 2, none⟩)) (y_run (by rfl) (fun W => by go_simp)) ?_
    (try simp only [zP, zN, zA, zB, zC])
    refine ld_ (v := .int .i64 o.a) rfl (by rfl) (by rfl) (run_load_one ((Fg3.out.cell 2).trans (by simp [opC])) Try.underlying3 rfl) ?_
    (try simp only [zP, zN, zA, zB, zC])
    refine pu_ (v := .int .i64 t) (y_move rfl (by rfl) (by rfl)) ?_
    (try simp only [zP, zN, zA, zB, zC])
    refine pu_ (v := .bool true) (y_run (by rfl) (fun W => by have d := D8.out; go_simp)) ?_
    (try simp only [zP, zN, zA, zB, zC])
    refine pu_ (v := .bool true) (y_move rfl (by rfl) (by rfl)) ?_
    (try simp only [zP, zN, zA, zB, zC])
    refine pu_ (v := .pointer (some ⟨g3, 4, none⟩)) (y_run (by rfl) (fun W => by go_simp)) ?_
    (try simp only [zP, zN, zA, zB, zC])
    refine ld_ (v := .int .i64 o.t) rfl (by rfl) (by rfl) (run_load_one ((Fg3.out.cell 4).trans (by simp [opC])) Try.underlying3 rfl) ?_
    (try simp only [zP, zN, zA, zB, zC])
    refine pu_ (v := .bool false) (y_run (by rfl) (fun W => by have d := D12.out; go_simp)) ?_
    (try simp only [zP, zN, zA, zB, zC])
    refine pu_ (v := .bool false) (y_move rfl (by rfl) (by rfl)) ?_
    (try simp only [zP, zN, zA, zB, zC])
    refine pu_ (v := .pointer (some ⟨g3, 4, none⟩)) (y_run (by rfl) (fun W => by go_simp)) ?_
    (try simp only [zP, zN, zA, zB, zC])
    refine ld_ (v := .int .i64 o.t) rfl (by rfl) (by rfl) (run_load_one ((Fg3.out.cell 4).trans (by simp [opC])) Try.underlying3 rfl) ?_
    (try simp only [zP, zN, zA, zB, zC])
    refine pu_ (v := .int .i64 t) (y_move rfl (by rfl) (by rfl)) ?_
    (try simp only [zP, zN, zA, zB, zC])
    refine pu_ (v := .bool false) (y_run (by rfl) (fun W => by have d := D17.out; go_simp)) ?_
    (try simp only [zP, zN, zA, zB, zC])
    refine pu_ (v := .bool false) (y_pick (t := false) (by rfl) rfl (by rfl) (by rfl)) ?_
    (try simp only [zP, zN, zA, zB, zC])
    refine pu_ (v := .bool false) (y_pick (t := true) (by rfl) rfl (by rfl) (by rfl)) ?_
    (try simp only [zP, zN, zA, zB, zC])
    refine pu_ (v := .bool false) (y_assign rfl (by rfl) (by rfl)) ?_
    (try simp only [zP, zN, zA, zB, zC])
    refine nl_ (hK12 _ _ ?_); clear hK12 K12
    refine wp_ret ?_
    refine hQ _ _ _ ?_
    refine bodyPost_ret (res1 rfl (rdv_tmp (v := .bool false) (by rfl))) rfl ?_
    exact ⟨by rw [HR.out], C0.out⟩
theorem may_ (a b : HOp)  :
    Calls Try.prog 33 #[.agg (opC a).toArray, .agg (opC b).toArray] w fun en w' => en = .returned (.bool (mayB a b)) ∧ Ch [] w w' := by
  have C0 := Lib.hid (Ch.refl [] w)
  go_enter Try.func33, Try.ntmps33
  refine q_ (fun Q hQ hP => ?_)
  refine s_ (fun K1 hK1 => ?_)
  refine ef_ (fun K2 hK2 => ?_)
  refine e_boxN (by rfl) rfl rfl (cs := (opC a).toArray) (v := .agg (opC a).toArray) (by rfl) rfl ?_
  rintro g3 w4 HG5 B6 C7
  have nw8 := Lib.hid (show w.heap.size ≤ g3 by have := C0.out.size; have := HG5.out; omega)
  have C0' := Lib.hid (show Ch [] w w4 from C0.out.trans' C7 (fun x hx => absurd hx (by simp)))
  clear C0
  have C0 := C0'; clear C0'
  have Fg3 := Lib.hid (show Blk w4 g3 ((opC a).toArray) 49 from B6); clear B6 C7
  refine hK2 _ _ ?_; clear hK2 K2
  (try simp only [zP, zN, zA, zB, zC])
  refine ef_ (fun K9 hK9 => ?_)
  refine e_boxN (by rfl) rfl rfl (cs := (opC b).toArray) (v := .agg (opC b).toArray) (by rfl) rfl ?_
  rintro g10 w11 HG12 B13 C14
  have nw15 := Lib.hid (show w.heap.size ≤ g10 by have := C0.out.size; have := HG12.out; omega)
  have ne16 := Lib.hid (Fg3.out.ne_new HG12)
  have C0' := Lib.hid (show Ch [] w w11 from C0.out.trans' C14 (fun x hx => absurd hx (by simp)))
  have Fg3' := Lib.hid (show Blk w11 g3 ((opC a).toArray) 49 from C14.blk Fg3.out nin_nil)
  clear C0 Fg3
  have C0 := C0'; clear C0'
  have Fg3 := Fg3'; clear Fg3'
  have Fg10 := Lib.hid (show Blk w11 g10 ((opC b).toArray) 49 from B13); clear B13 C14
  refine hK9 _ _ ?_; clear hK9 K9
  (try simp only [zP, zN, zA, zB, zC])
  refine pu_ (v := .bool false) (y_assign rfl (by rfl) (by rfl)) ?_
  (try simp only [zP, zN, zA, zB, zC])
  refine nl_ (hK1 _ _ ?_); clear hK1 K1
  rcases may_ways a b with h | h | h
  · have D7 := Lib.hid (show (b.t == 0) = true from beq_iff_eq.2 h)
    have HR := Lib.hid (show mayB a b = true by unfold mayB; rw [beq_iff_eq.2 h]; rfl)
    clear h
    refine s_ (fun K17 hK17 => ?_)
    refine pu_ (v := .pointer (some ⟨g10, 4, none⟩)) (y_run (by rfl) (fun W => by go_simp)) ?_
    (try simp only [zP, zN, zA, zB, zC])
    refine ld_ (v := .int .i64 b.t) rfl (by rfl) (by rfl) (run_load_one ((Fg10.out.cell 4).trans (by simp [opC])) Try.underlying3 rfl) ?_
    (try simp only [zP, zN, zA, zB, zC])
    refine pu_ (v := .bool true) (y_run (by rfl) (fun W => by have d := D7.out; go_simp)) ?_
    (try simp only [zP, zN, zA, zB, zC])
    refine pu_ (v := .bool true) (y_move rfl (by rfl) (by rfl)) ?_
    (try simp only [zP, zN, zA, zB, zC])
    refine pu_ (y_off (by rfl)) ?_
    (try simp only [zP, zN, zA, zB, zC])
    refine pu_ (y_off (by rfl)) ?_
    (try simp only [zP, zN, zA, zB, zC])
    refine pu_ (y_off (by rfl)) ?_
    (try simp only [zP, zN, zA, zB, zC])
    refine pu_ (y_off (by rfl)) ?_
    (try simp only [zP, zN, zA, zB, zC])
    refine pu_ (y_off (by rfl)) ?_
    (try simp only [zP, zN, zA, zB, zC])
    refine pu_ (v := .bool true) (y_pick (t := true) (by rfl) rfl (by rfl) (by rfl)) ?_
    (try simp only [zP, zN, zA, zB, zC])
    refine pu_ (v := .bool true) (y_assign rfl (by rfl) (by rfl)) ?_
    (try simp only [zP, zN, zA, zB, zC])
    refine nl_ (hK17 _ _ ?_); clear hK17 K17
    refine wp_ret ?_
    refine hQ _ _ _ ?_
    refine bodyPost_ret (res1 rfl (rdv_tmp (v := .bool true) (by rfl))) rfl ?_
    exact ⟨by rw [HR.out], C0.out⟩
  · have D7 := Lib.hid (show (b.t == 0) = false from beq_eq_false_iff_ne.2 h.1)
    have D13 := Lib.hid (show decide (b.t ≥ a.a) = true from decide_eq_true h.2)
    have HR := Lib.hid (show mayB a b = true by unfold mayB; rw [decide_eq_true h.2]; simp)
    clear h
    refine s_ (fun K18 hK18 => ?_)
    refine pu_ (v := .pointer (some ⟨g10, 4, none⟩)) (y_run (by rfl) (fun W => by go_simp)) ?_
    (try simp only [zP, zN, zA, zB, zC])
    refine ld_ (v := .int .i64 b.t) rfl (by rfl) (by rfl) (run_load_one ((Fg10.out.cell 4).trans (by simp [opC])) Try.underlying3 rfl) ?_
    (try simp only [zP, zN, zA, zB, zC])
    refine pu_ (v := .bool false) (y_run (by rfl) (fun W => by have d := D7.out; go_simp)) ?_
    (try simp only [zP, zN, zA, zB, zC])
    refine pu_ (v := .bool false) (y_move rfl (by rfl) (by rfl)) ?_
    (try simp only [zP, zN, zA, zB, zC])
    refine pu_ (v := .pointer (some ⟨g10, 4, none⟩)) (y_run (by rfl) (fun W => by go_simp)) ?_
    (try simp only [zP, zN, zA, zB, zC])
    refine ld_ (v := .int .i64 b.t) rfl (by rfl) (by rfl) (run_load_one ((Fg10.out.cell 4).trans (by simp [opC])) Try.underlying3 rfl) ?_
    (try simp only [zP, zN, zA, zB, zC])
    refine pu_ (v := .pointer (some ⟨g3, 2, none⟩)) (y_run (by rfl) (fun W => by go_simp)) ?_
    (try simp only [zP, zN, zA, zB, zC])
    refine ld_ (v := .int .i64 a.a) rfl (by rfl) (by rfl) (run_load_one ((Fg3.out.cell 2).trans (by simp [opC])) Try.underlying3 rfl) ?_
    (try simp only [zP, zN, zA, zB, zC])
    refine pu_ (v := .bool true) (y_run (by rfl) (fun W => by have d := D13.out; go_simp)) ?_
    (try simp only [zP, zN, zA, zB, zC])
    refine pu_ (v := .bool true) (y_pick (t := false) (by rfl) rfl (by rfl) (by rfl)) ?_
    (try simp only [zP, zN, zA, zB, zC])
    refine pu_ (v := .bool true) (y_assign rfl (by rfl) (by rfl)) ?_
    (try simp only [zP, zN, zA, zB, zC])
    refine nl_ (hK18 _ _ ?_); clear hK18 K18
    refine wp_ret ?_
    refine hQ _ _ _ ?_
    refine bodyPost_ret (res1 rfl (rdv_tmp (v := .bool true) (by rfl))) rfl ?_
    exact ⟨by rw [HR.out], C0.out⟩
  · have D7 := Lib.hid (show (b.t == 0) = false from beq_eq_false_iff_ne.2 h.1)
    have D13 := Lib.hid (show decide (b.t ≥ a.a) = false from decide_eq_false h.2)
    have HR := Lib.hid (show mayB a b = false by unfold mayB; rw [beq_eq_false_iff_ne.2 h.1, decide_eq_false h.2]; rfl)
    clear h
    refine s_ (fun K19 hK19 => ?_)
    refine pu_ (v := .pointer (some ⟨g10, 4, none⟩)) (y_run (by rfl) (fun W => by go_simp)) ?_
    (try simp only [zP, zN, zA, zB, zC])
    refine ld_ (v := .int .i64 b.t) rfl (by rfl) (by rfl) (run_load_one ((Fg10.out.cell 4).trans (by simp [opC])) Try.underlying3 rfl) ?_
    (try simp only [zP, zN, zA, zB, zC])
    refine pu_ (v := .bool false) (y_run (by rfl) (fun W => by have d := D7.out; go_simp)) ?_
    (try simp only [zP, zN, zA, zB, zC])
    refine pu_ (v := .bool false) (y_move rfl (by rfl) (by rfl)) ?_
    (try simp only [zP, zN, zA, zB, zC])
    refine pu_ (v := .pointer (some ⟨g10, 4, none⟩)) (y_run (by rfl) (fun W => by go_simp)) ?_
    (try simp only [zP, zN, zA, zB, zC])
    refine ld_ (v := .int .i64 b.t) rfl (by rfl) (by rfl) (run_load_one ((Fg10.out.cell 4).trans (by simp [opC])) Try.underlying3 rfl) ?_
    (try simp only [zP, zN, zA, zB, zC])
    refine pu_ (v := .pointer (some ⟨g3, 2, none⟩)) (y_run (by rfl) (fun W => by go_simp)) ?_
    (try simp only [zP, zN, zA, zB, zC])
    refine ld_ (v := .int .i64 a.a) rfl (by rfl) (by rfl) (run_load_one ((Fg3.out.cell 2).trans (by simp [opC])) Try.underlying3 rfl) ?_
    (try simp only [zP, zN, zA, zB, zC])
    refine pu_ (v := .bool false) (y_run (by rfl) (fun W => by have d := D13.out; go_simp)) ?_
    (try simp only [zP, zN, zA, zB, zC])
    refine pu_ (v := .bool false) (y_pick (t := false) (by rfl) rfl (by rfl) (by rfl)) ?_
    (try simp only [zP, zN, zA, zB, zC])
    refine pu_ (v := .bool false) (y_assign rfl (by rfl) (by rfl)) ?_
    (try simp only [zP, zN, zA, zB, zC])
    refine nl_ (hK19 _ _ ?_); clear hK19 K19
    refine wp_ret ?_
    refine hQ _ _ _ ?_
    refine bodyPost_ret (res1 rfl (rdv_tmp (v := .bool false) (by rfl))) rfl ?_
    exact ⟨by rw [HR.out], C0.out⟩
theorem width_ {A : Option Addr} {c : Nat} {L : List HOp} (HN : Hid (L.length ≤ 1000)) (SL : Hid (SrcIs w (.slice A L.length c) (L.length) ((L).flatMap opC) 28)) :
    Calls Try.prog 28 #[.slice A L.length c] w fun en w' => en = .returned (.int .i64 (widN L L : Nat)) ∧ Ch [] w w' := by
  have C0 := Lib.hid (Ch.refl [] w)
  go_enter Try.func28, Try.ntmps28
  refine q_ (fun Q hQ hP => ?_)
  refine s_ (fun K1 hK1 => ?_)
  refine pu_ (v := .int .i64 0) (y_assign rfl (by rfl) (by rfl)) ?_
  (try simp only [zP, zN, zA, zB, zC])
  refine nl_ (hK1 _ _ ?_); clear hK1 K1
  refine s_ (fun K2 hK2 => ?_)
  refine pu_ (v := .int .i64 0) (y_assign rfl (by rfl) (by rfl)) ?_
  (try simp only [zP, zN, zA, zB, zC])
  refine nl_ (hK2 _ _ ?_); clear hK2 K2
  refine sq_ (fun K3 hK3 => ?_)
  refine s_ (fun K4 hK4 => ?_)
  refine pu_ (v := .slice A L.length c) (y_move rfl (by rfl) (by rfl)) ?_
  (try simp only [zP, zN, zA, zB, zC])
  refine pu_ (v := .int .i64 L.length) (y_run (by rfl) (fun W => by go_simp)) ?_
  (try simp only [zP, zN, zA, zB, zC])
  refine pu_ (v := .int .i64 0) (y_move rfl (by rfl) (by rfl)) ?_
  (try simp only [zP, zN, zA, zB, zC])
  refine nl_ (hK4 _ _ ?_); clear hK4 K4
  refine wp_block ?_
  refine loopk_ (fun (kq : Nat) (a' : Act) (w' : World) => ∃ (k : Nat), ∃ (us : Nat → Value), a' = ⟨#[.slice A L.length c, us 1, us 2, .int .i64 (widN L (L.take k) : Nat), us 4, us 5, us 6, us 7, us 8, .slice A L.length c, .int .i64 L.length, .int .i64 k, us 12, us 13, us 14, us 15, us 16, us 17, us 18, us 19, us 20, us 21, us 22, us 23, us 24, us 25, us 26, us 27, us 28, us 29, us 30, us 31, us 32], []⟩ ∧ Hid (Ch [] w w') ∧ Hid (SrcIs w' (.slice A L.length c) (L.length) ((L).flatMap opC) 28) ∧ Hid (k ≤ L.length ∧ kq + k = L.length)) (L.length) (⟨0, fun us_ => (#[.slice A L.length c, undef, .int .i64 0, .int .i64 0, undef, undef, undef, undef, undef, .slice A L.length c, .int .i64 L.length, .int .i64 0, undef, undef, undef, undef, undef, undef, undef, undef, undef, undef, undef, undef, undef, undef, undef, undef, undef, undef, undef, undef, undef] : Array Value).getD us_ undef, rfl, C0, SL, Lib.hid ⟨by omega, by omega⟩⟩) ?_
  rintro kq _ w5 ⟨k, us, rfl, C0, SL, hk⟩ K6 hK6
  rcases at_ways hk.out.1 with h | h
  · obtain ⟨o, hlt0, ho0⟩ := h
    have hlt := Lib.hid hlt0
    have ho := Lib.hid ho0
    clear hlt0 ho0
    obtain ⟨a, hsm_a⟩ := src_some SL.out (by have := hlt.out; omega)
    subst hsm_a
    have D12 := Lib.hid (show (k : Int) < (L.length : Int) by have := hlt.out; omega)
    have Wk := Lib.hid (show IntKind.i64.wrap ((k : Int) + 1) = ((k + 1 : Nat) : Int) by rw [wr64 (by have := hlt.out; have := HN.out; omega)]; omega)
    refine s_ (fun K7 hK7 => ?_)
    refine pu_ (v := .bool true) (y_run (by rfl) (fun W => by have d := D12.out; go_simp)) ?_
    (try simp only [zP, zN, zA, zB, zC])
    refine nl_ (hK7 _ _ ?_); clear hK7 K7
    refine sq_ (fun K8 hK8 => ?_)
    refine wp_cond_true rfl ?_
    refine wp_skip ?_
    refine th_norm (hK8 _ _ ?_); try clear hK8 K8
    refine sq_ (fun K9 hK9 => ?_)
    refine wp_block ?_
    refine s_ (fun K10 hK10 => ?_)
    refine pu_ (v := .pointer (some (a.add (k * 28)))) (y_run (by rfl) (fun W => by have d := D12.out; go_simp)) ?_
    (try simp only [zP, zN, zA, zB, zC])
    refine ld_ (v := .agg (opC o).toArray) rfl (by rfl) (by rfl) (run_loadVar_at (src_elem SL.out ho.out) Try.underlying49 rfl (by rw [opC_len]; kernel_rfl)) ?_
    (try simp only [zP, zN, zA, zB, zC])
    refine ef_ (fun K11 hK11 => ?_)
    refine e_alloc (by rfl) rfl rfl (cs := #[.int .i64 0, .int .i64 0, .int .i64 0, .int .i64 0, .int .i64 0, .int .i64 0, .int .i64 0, .int .u64 0, .string ⟨#[]⟩, .slice none 0 0, .slice none 0 0, .slice none 0 0, .int .i64 0, .int .i64 0, .int .i64 0, .int .i64 0, .int .i64 0, .int .i64 0, .int .i64 0, .string ⟨#[]⟩, .slice none 0 0, .int .i64 0, .int .i64 0, .int .i64 0, .int .u64 0, .string ⟨#[]⟩, .slice none 0 0, .slice none 0 0]) (by kernel_rfl) ?_
    rintro g12 w13 HG14 B15 C16
    have nw17 := Lib.hid (show w.heap.size ≤ g12 by have := C0.out.size; have := HG14.out; omega)
    have nx18 := Lib.hid (SL.out.ne_new (by decide) HG14)
    have C0' := Lib.hid (show Ch [] w w13 from C0.out.trans' C16 (fun x hx => absurd hx (by simp)))
    have SL' := Lib.hid (show SrcIs w13 (.slice (some a) L.length c) (L.length) ((L).flatMap opC) 28 from SL.out.chx C16 xnin_nil)
    clear C0 SL
    have C0 := C0'; clear C0'
    have SL := SL'; clear SL'
    have Fg12 := Lib.hid (show Blk w13 g12 (#[.int .i64 0, .int .i64 0, .int .i64 0, .int .i64 0, .int .i64 0, .int .i64 0, .int .i64 0, .int .u64 0, .string ⟨#[]⟩, .slice none 0 0, .slice none 0 0, .slice none 0 0, .int .i64 0, .int .i64 0, .int .i64 0, .int .i64 0, .int .i64 0, .int .i64 0, .int .i64 0, .string ⟨#[]⟩, .slice none 0 0, .int .i64 0, .int .i64 0, .int .i64 0, .int .u64 0, .string ⟨#[]⟩, .slice none 0 0, .slice none 0 0]) 49 from B15); clear B15 C16
    refine hK11 _ _ ?_; clear hK11 K11
    (try simp only [zP, zN, zA, zB, zC])
    refine ef_ (fun K19 hK19 => ?_)
    refine e_storeN (cells := (opC o).toArray) (by rfl) rfl rfl (by rfl) (by rfl) Fg12.out (sz49 o) (by rw [show (opC o).toArray.size = 28 by rw [List.size_toArray, opC_len]]; rfl) (by simpa using opC_one o) ?_
    rintro w20 B21 C22
    have C0' := Lib.hid (show Ch [] w w20 from C0.out.trans' C22 (inw_cons (.inr nw17.out) inw_nil))
    have SL' := Lib.hid (show SrcIs w20 (.slice (some a) L.length c) (L.length) ((L).flatMap opC) 28 from SL.out.chx C22 (xnin_cons nx18.out xnin_nil))
    clear C0 SL
    have C0 := C0'; clear C0'
    have SL := SL'; clear SL'
    clear Fg12; have Fg12 := Lib.hid (show Blk w20 g12 ((opC o).toArray) 49 from B21); clear B21 C22
    refine hK19 _ _ ?_; clear hK19 K19
    (try simp only [zP, zN, zA, zB, zC])
    refine nl_ (hK10 _ _ ?_); clear hK10 K10
    refine s_ (fun K23 hK23 => ?_)
    refine pu_ (v := .int .i64 0) (y_assign rfl (by rfl) (by rfl)) ?_
    (try simp only [zP, zN, zA, zB, zC])
    refine nl_ (hK23 _ _ ?_); clear hK23 K23
    refine sq_ (fun K24 hK24 => ?_)
    refine s_ (fun K25 hK25 => ?_)
    refine pu_ (v := .slice (some a) L.length c) (y_move rfl (by rfl) (by rfl)) ?_
    (try simp only [zP, zN, zA, zB, zC])
    refine pu_ (v := .int .i64 L.length) (y_run (by rfl) (fun W => by go_simp)) ?_
    (try simp only [zP, zN, zA, zB, zC])
    refine pu_ (v := .int .i64 0) (y_move rfl (by rfl) (by rfl)) ?_
    (try simp only [zP, zN, zA, zB, zC])
    refine nl_ (hK25 _ _ ?_); clear hK25 K25
    refine wp_block ?_
    refine loopk_ (fun (jq : Nat) (a' : Act) (w' : World) => ∃ (j : Nat), ∃ (go : Nat), ∃ (us : Nat → Value), a' = ⟨#[.slice (some a) L.length c, us 1, us 2, .int .i64 (widN L (L.take k) : Nat), us 4, .pointer (some ⟨go, 0, none⟩), .int .i64 (cntU (L.take j) o.a : Nat), us 7, us 8, .slice (some a) L.length c, .int .i64 L.length, .int .i64 k, us 12, us 13, us 14, .slice (some a) L.length c, .int .i64 L.length, .int .i64 j, us 18, us 19, us 20, us 21, us 22, us 23, us 24, us 25, us 26, us 27, us 28, us 29, us 30, us 31, us 32], []⟩ ∧ Hid (Ch [] w w') ∧ Hid (SrcIs w' (.slice (some a) L.length c) (L.length) ((L).flatMap opC) 28) ∧ Hid (Blk w' go ((opC o).toArray) 49) ∧ Hid (j ≤ L.length ∧ jq + j = L.length) ∧ Hid (go ∉ xb (.slice (some a) L.length c))) (L.length) (⟨0, g12, fun us_ => (#[.slice (some a) L.length c, us 1, us 2, .int .i64 (widN L (L.take k) : Nat), us 4, .pointer (some ⟨g12, 0, none⟩), .int .i64 0, us 7, us 8, .slice (some a) L.length c, .int .i64 L.length, .int .i64 k, .bool true, .pointer (some (a.add (k * 28))), .agg (opC o).toArray, .slice (some a) L.length c, .int .i64 L.length, .int .i64 0, us 18, us 19, us 20, us 21, us 22, us 23, us 24, us 25, us 26, us 27, us 28, us 29, us 30, us 31, us 32] : Array Value).getD us_ undef, rfl, C0, SL, Fg12, Lib.hid ⟨by omega, by omega⟩, nx18⟩) ?_
    rintro jq _ w26 ⟨j, go, us, rfl, C0, SL, FO, hj, hgo⟩ K27 hK27
    rcases at_ways hj.out.1 with ⟨q, jlt0, jo0⟩ | h; rcases under_cases q o.a with h | h
    · have jlt := Lib.hid jlt0
      have jo := Lib.hid jo0
      have HU := Lib.hid h
      clear h jlt0 jo0
      have D18 := Lib.hid (show (j : Int) < (L.length : Int) by have := jlt.out; omega)
      have Wj := Lib.hid (show IntKind.i64.wrap ((j : Int) + 1) = ((j + 1 : Nat) : Int) by rw [wr64 (by have := jlt.out; have := HN.out; omega)]; omega)
      have HC := Lib.hid (show cntU (L.take (j + 1)) o.a = cntU (L.take j) o.a + 1 by rw [cntU_succ jo.out, HU.out]; rfl)
      have WC := Lib.hid (show IntKind.i64.wrap ((cntU (L.take j) o.a : Int) + 1) = ((cntU (L.take (j + 1)) o.a : Nat) : Int) by rw [HC.out, wr64 (by have h9 := cntU_le (L.take j) o.a; rw [List.length_take] at h9; have := HN.out; omega)]; omega)
      refine s_ (fun K28 hK28 => ?_)
      refine pu_ (v := .bool true) (y_run (by rfl) (fun W => by have d := D18.out; go_simp)) ?_
      (try simp only [zP, zN, zA, zB, zC])
      refine nl_ (hK28 _ _ ?_); clear hK28 K28
      refine sq_ (fun K29 hK29 => ?_)
      refine wp_cond_true rfl ?_
      refine wp_skip ?_
      refine th_norm (hK29 _ _ ?_); try clear hK29 K29
      refine sq_ (fun K30 hK30 => ?_)
      refine wp_block ?_
      refine s_ (fun K31 hK31 => ?_)
      refine pu_ (v := .pointer (some (a.add (j * 28)))) (y_run (by rfl) (fun W => by have d := D18.out; go_simp)) ?_
      (try simp only [zP, zN, zA, zB, zC])
      refine ld_ (v := .agg (opC q).toArray) rfl (by rfl) (by rfl) (run_loadVar_at (src_elem SL.out jo.out) Try.underlying49 rfl (by rw [opC_len]; kernel_rfl)) ?_
      (try simp only [zP, zN, zA, zB, zC])
      refine ef_ (fun K32 hK32 => ?_)
      refine e_alloc (by rfl) rfl rfl (cs := #[.int .i64 0, .int .i64 0, .int .i64 0, .int .i64 0, .int .i64 0, .int .i64 0, .int .i64 0, .int .u64 0, .string ⟨#[]⟩, .slice none 0 0, .slice none 0 0, .slice none 0 0, .int .i64 0, .int .i64 0, .int .i64 0, .int .i64 0, .int .i64 0, .int .i64 0, .int .i64 0, .string ⟨#[]⟩, .slice none 0 0, .int .i64 0, .int .i64 0, .int .i64 0, .int .u64 0, .string ⟨#[]⟩, .slice none 0 0, .slice none 0 0]) (by kernel_rfl) ?_
      rintro g33 w34 HG35 B36 C37
      have nw38 := Lib.hid (show w.heap.size ≤ g33 by have := C0.out.size; have := HG35.out; omega)
      have nx39 := Lib.hid (SL.out.ne_new (by decide) HG35)
      have ne40 := Lib.hid (FO.out.ne_new HG35)
      have C0' := Lib.hid (show Ch [] w w34 from C0.out.trans' C37 (fun x hx => absurd hx (by simp)))
      have SL' := Lib.hid (show SrcIs w34 (.slice (some a) L.length c) (L.length) ((L).flatMap opC) 28 from SL.out.chx C37 xnin_nil)
      have FO' := Lib.hid (show Blk w34 go ((opC o).toArray) 49 from C37.blk FO.out nin_nil)
      clear C0 SL FO
      have C0 := C0'; clear C0'
      have SL := SL'; clear SL'
      have FO := FO'; clear FO'
      have Fg33 := Lib.hid (show Blk w34 g33 (#[.int .i64 0, .int .i64 0, .int .i64 0, .int .i64 0, .int .i64 0, .int .i64 0, .int .i64 0, .int .u64 0, .string ⟨#[]⟩, .slice none 0 0, .slice none 0 0, .slice none 0 0, .int .i64 0, .int .i64 0, .int .i64 0, .int .i64 0, .int .i64 0, .int .i64 0, .int .i64 0, .string ⟨#[]⟩, .slice none 0 0, .int .i64 0, .int .i64 0, .int .i64 0, .int .u64 0, .string ⟨#[]⟩, .slice none 0 0, .slice none 0 0]) 49 from B36); clear B36 C37
      refine hK32 _ _ ?_; clear hK32 K32
      (try simp only [zP, zN, zA, zB, zC])
      refine ef_ (fun K41 hK41 => ?_)
      refine e_storeN (cells := (opC q).toArray) (by rfl) rfl rfl (by rfl) (by rfl) Fg33.out (sz49 q) (by rw [show (opC q).toArray.size = 28 by rw [List.size_toArray, opC_len]]; rfl) (by simpa using opC_one q) ?_
      rintro w42 B43 C44
      have C0' := Lib.hid (show Ch [] w w42 from C0.out.trans' C44 (inw_cons (.inr nw38.out) inw_nil))
      have SL' := Lib.hid (show SrcIs w42 (.slice (some a) L.length c) (L.length) ((L).flatMap opC) 28 from SL.out.chx C44 (xnin_cons nx39.out xnin_nil))
      have FO' := Lib.hid (show Blk w42 go ((opC o).toArray) 49 from C44.blk FO.out (nin_cons ne40.out nin_nil))
      clear C0 SL FO
      have C0 := C0'; clear C0'
      have SL := SL'; clear SL'
      have FO := FO'; clear FO'
      clear Fg33; have Fg33 := Lib.hid (show Blk w42 g33 ((opC q).toArray) 49 from B43); clear B43 C44
      refine hK41 _ _ ?_; clear hK41 K41
      (try simp only [zP, zN, zA, zB, zC])
      refine nl_ (hK31 _ _ ?_); clear hK31 K31
      refine s_ (fun K45 hK45 => ?_)
      refine ld_ (v := .agg (opC q).toArray) rfl (by rfl) (by rfl) (run_loadVar_row _ _ 49 49 ((opC q).toArray) (0, 0) _ Fg33.out Try.underlying49 rfl (sz49 q)) ?_
      (try simp only [zP, zN, zA, zB, zC])
      refine pu_ (v := .pointer (some ⟨go, 2, none⟩)) (y_run (by rfl) (fun W => by go_simp)) ?_
      (try simp only [zP, zN, zA, zB, zC])
      refine ld_ (v := .int .i64 o.a) rfl (by rfl) (by rfl) (run_load_one ((FO.out.cell 2).trans (by simp [opC])) Try.underlying3 rfl) ?_
      (try simp only [zP, zN, zA, zB, zC])
      refine ef_ (fun K46 hK46 => ?_)
      refine e_call Try.func51 (by kernel_rfl) rfl #[.agg (opC q).toArray, .int .i64 o.a] (by rfl) rfl rfl (by first | rfl | (simp only [List.map_toArray, List.map_cons, List.map_nil]; first | done | rfl)) ((by have h := under_ (w := w42) q o.a; rw [HU.out] at h; exact h)) ?_
      rintro en w47 ⟨rfl, cc⟩
      refine ⟨_, rfl, ?_⟩
      have C0' := Lib.hid (show Ch [] w w47 from C0.out.trans' cc (fun x hx => absurd hx (by simp)))
      have SL' := Lib.hid (show SrcIs w47 (.slice (some a) L.length c) (L.length) ((L).flatMap opC) 28 from SL.out.chx cc xnin_nil)
      have FO' := Lib.hid (show Blk w47 go ((opC o).toArray) 49 from cc.blk FO.out nin_nil)
      have Fg33' := Lib.hid (show Blk w47 g33 ((opC q).toArray) 49 from cc.blk Fg33.out nin_nil)
      clear C0 SL FO Fg33
      have C0 := C0'; clear C0'
      have SL := SL'; clear SL'
      have FO := FO'; clear FO'
      have Fg33 := Fg33'; clear Fg33'
      clear cc
      refine hK46 _ _ ?_; clear hK46 K46
      (try simp only [zP, zN, zA, zB, zC])
      refine nl_ (hK45 _ _ ?_); clear hK45 K45
      refine wp_cond_true rfl ?_
      refine r_ ?_
      refine pu_ (v := .int .i64 (cntU (L.take j) o.a : Nat)) (y_move rfl (by rfl) (by rfl)) ?_
      (try simp only [zP, zN, zA, zB, zC])
      refine pu_ (v := .int .i64 (cntU (L.take (j + 1)) o.a : Nat)) (y_run (by rfl) (fun W => by have d := WC.out; go_simp)) ?_
      (try simp only [zP, zN, zA, zB, zC])
      refine pu_ (v := .int .i64 (cntU (L.take (j + 1)) o.a : Nat)) (y_assign rfl (by rfl) (by rfl)) ?_
      (try simp only [zP, zN, zA, zB, zC])
      refine nl_ ?_
      refine ib_norm ?_
      refine th_norm (hK30 _ _ ?_); try clear hK30 K30
      refine r_ ?_
      refine pu_ (v := .int .i64 (j + 1 : Nat)) (y_run (by rfl) (fun W => by have d := Wj.out; go_simp)) ?_
      (try simp only [zP, zN, zA, zB, zC])
      refine pu_ (v := .int .i64 (j + 1 : Nat)) (y_move rfl (by rfl) (by rfl)) ?_
      (try simp only [zP, zN, zA, zB, zC])
      refine nl_ ?_
      exact th_norm (hK27 (jq - 1) _ _ (by have := jlt.out; have := hj.out; omega) ⟨j + 1, go, fun us_ => (#[.slice (some a) L.length c, us 1, us 2, .int .i64 (widN L (L.take k) : Nat), us 4, .pointer (some ⟨go, 0, none⟩), .int .i64 (cntU (L.take (j + 1)) o.a : Nat), us 7, .pointer (some ⟨g33, 0, none⟩), .slice (some a) L.length c, .int .i64 L.length, .int .i64 k, us 12, us 13, us 14, .slice (some a) L.length c, .int .i64 L.length, .int .i64 (j + 1 : Nat), .bool true, .pointer (some (a.add (j * 28))), .agg (opC q).toArray, .agg (opC q).toArray, .pointer (some ⟨go, 2, none⟩), .int .i64 o.a, .bool true, .int .i64 (cntU (L.take j) o.a : Nat), .int .i64 (cntU (L.take (j + 1)) o.a : Nat), .int .i64 (j + 1 : Nat), us 28, us 29, us 30, us 31, us 32] : Array Value).getD us_ undef, rfl, C0, SL, FO, Lib.hid ⟨by have := jlt.out; omega, by have := jlt.out; have := hj.out; omega⟩, hgo⟩)
    · have jlt := Lib.hid jlt0
      have jo := Lib.hid jo0
      have HU := Lib.hid h
      clear h jlt0 jo0
      have D18 := Lib.hid (show (j : Int) < (L.length : Int) by have := jlt.out; omega)
      have Wj := Lib.hid (show IntKind.i64.wrap ((j : Int) + 1) = ((j + 1 : Nat) : Int) by rw [wr64 (by have := jlt.out; have := HN.out; omega)]; omega)
      have HC := Lib.hid (show cntU (L.take (j + 1)) o.a = cntU (L.take j) o.a + 0 by rw [cntU_succ jo.out, HU.out]; rfl)
      rw [show cntU (L.take j) o.a = cntU (L.take (j + 1)) o.a from HC.out.symm]
      refine s_ (fun K48 hK48 => ?_)
      refine pu_ (v := .bool true) (y_run (by rfl) (fun W => by have d := D18.out; go_simp)) ?_
      (try simp only [zP, zN, zA, zB, zC])
      refine nl_ (hK48 _ _ ?_); clear hK48 K48
      refine sq_ (fun K49 hK49 => ?_)
      refine wp_cond_true rfl ?_
      refine wp_skip ?_
      refine th_norm (hK49 _ _ ?_); try clear hK49 K49
      refine sq_ (fun K50 hK50 => ?_)
      refine wp_block ?_
      refine s_ (fun K51 hK51 => ?_)
      refine pu_ (v := .pointer (some (a.add (j * 28)))) (y_run (by rfl) (fun W => by have d := D18.out; go_simp)) ?_
      (try simp only [zP, zN, zA, zB, zC])
      refine ld_ (v := .agg (opC q).toArray) rfl (by rfl) (by rfl) (run_loadVar_at (src_elem SL.out jo.out) Try.underlying49 rfl (by rw [opC_len]; kernel_rfl)) ?_
      (try simp only [zP, zN, zA, zB, zC])
      refine ef_ (fun K52 hK52 => ?_)
      refine e_alloc (by rfl) rfl rfl (cs := #[.int .i64 0, .int .i64 0, .int .i64 0, .int .i64 0, .int .i64 0, .int .i64 0, .int .i64 0, .int .u64 0, .string ⟨#[]⟩, .slice none 0 0, .slice none 0 0, .slice none 0 0, .int .i64 0, .int .i64 0, .int .i64 0, .int .i64 0, .int .i64 0, .int .i64 0, .int .i64 0, .string ⟨#[]⟩, .slice none 0 0, .int .i64 0, .int .i64 0, .int .i64 0, .int .u64 0, .string ⟨#[]⟩, .slice none 0 0, .slice none 0 0]) (by kernel_rfl) ?_
      rintro g53 w54 HG55 B56 C57
      have nw58 := Lib.hid (show w.heap.size ≤ g53 by have := C0.out.size; have := HG55.out; omega)
      have nx59 := Lib.hid (SL.out.ne_new (by decide) HG55)
      have ne60 := Lib.hid (FO.out.ne_new HG55)
      have C0' := Lib.hid (show Ch [] w w54 from C0.out.trans' C57 (fun x hx => absurd hx (by simp)))
      have SL' := Lib.hid (show SrcIs w54 (.slice (some a) L.length c) (L.length) ((L).flatMap opC) 28 from SL.out.chx C57 xnin_nil)
      have FO' := Lib.hid (show Blk w54 go ((opC o).toArray) 49 from C57.blk FO.out nin_nil)
      clear C0 SL FO
      have C0 := C0'; clear C0'
      have SL := SL'; clear SL'
      have FO := FO'; clear FO'
      have Fg53 := Lib.hid (show Blk w54 g53 (#[.int .i64 0, .int .i64 0, .int .i64 0, .int .i64 0, .int .i64 0, .int .i64 0, .int .i64 0, .int .u64 0, .string ⟨#[]⟩, .slice none 0 0, .slice none 0 0, .slice none 0 0, .int .i64 0, .int .i64 0, .int .i64 0, .int .i64 0, .int .i64 0, .int .i64 0, .int .i64 0, .string ⟨#[]⟩, .slice none 0 0, .int .i64 0, .int .i64 0, .int .i64 0, .int .u64 0, .string ⟨#[]⟩, .slice none 0 0, .slice none 0 0]) 49 from B56); clear B56 C57
      refine hK52 _ _ ?_; clear hK52 K52
      (try simp only [zP, zN, zA, zB, zC])
      refine ef_ (fun K61 hK61 => ?_)
      refine e_storeN (cells := (opC q).toArray) (by rfl) rfl rfl (by rfl) (by rfl) Fg53.out (sz49 q) (by rw [show (opC q).toArray.size = 28 by rw [List.size_toArray, opC_len]]; rfl) (by simpa using opC_one q) ?_
      rintro w62 B63 C64
      have C0' := Lib.hid (show Ch [] w w62 from C0.out.trans' C64 (inw_cons (.inr nw58.out) inw_nil))
      have SL' := Lib.hid (show SrcIs w62 (.slice (some a) L.length c) (L.length) ((L).flatMap opC) 28 from SL.out.chx C64 (xnin_cons nx59.out xnin_nil))
      have FO' := Lib.hid (show Blk w62 go ((opC o).toArray) 49 from C64.blk FO.out (nin_cons ne60.out nin_nil))
      clear C0 SL FO
      have C0 := C0'; clear C0'
      have SL := SL'; clear SL'
      have FO := FO'; clear FO'
      clear Fg53; have Fg53 := Lib.hid (show Blk w62 g53 ((opC q).toArray) 49 from B63); clear B63 C64
      refine hK61 _ _ ?_; clear hK61 K61
      (try simp only [zP, zN, zA, zB, zC])
      refine nl_ (hK51 _ _ ?_); clear hK51 K51
      refine s_ (fun K65 hK65 => ?_)
      refine ld_ (v := .agg (opC q).toArray) rfl (by rfl) (by rfl) (run_loadVar_row _ _ 49 49 ((opC q).toArray) (0, 0) _ Fg53.out Try.underlying49 rfl (sz49 q)) ?_
      (try simp only [zP, zN, zA, zB, zC])
      refine pu_ (v := .pointer (some ⟨go, 2, none⟩)) (y_run (by rfl) (fun W => by go_simp)) ?_
      (try simp only [zP, zN, zA, zB, zC])
      refine ld_ (v := .int .i64 o.a) rfl (by rfl) (by rfl) (run_load_one ((FO.out.cell 2).trans (by simp [opC])) Try.underlying3 rfl) ?_
      (try simp only [zP, zN, zA, zB, zC])
      refine ef_ (fun K66 hK66 => ?_)
      refine e_call Try.func51 (by kernel_rfl) rfl #[.agg (opC q).toArray, .int .i64 o.a] (by rfl) rfl rfl (by first | rfl | (simp only [List.map_toArray, List.map_cons, List.map_nil]; first | done | rfl)) ((by have h := under_ (w := w62) q o.a; rw [HU.out] at h; exact h)) ?_
      rintro en w67 ⟨rfl, cc⟩
      refine ⟨_, rfl, ?_⟩
      have C0' := Lib.hid (show Ch [] w w67 from C0.out.trans' cc (fun x hx => absurd hx (by simp)))
      have SL' := Lib.hid (show SrcIs w67 (.slice (some a) L.length c) (L.length) ((L).flatMap opC) 28 from SL.out.chx cc xnin_nil)
      have FO' := Lib.hid (show Blk w67 go ((opC o).toArray) 49 from cc.blk FO.out nin_nil)
      have Fg53' := Lib.hid (show Blk w67 g53 ((opC q).toArray) 49 from cc.blk Fg53.out nin_nil)
      clear C0 SL FO Fg53
      have C0 := C0'; clear C0'
      have SL := SL'; clear SL'
      have FO := FO'; clear FO'
      have Fg53 := Fg53'; clear Fg53'
      clear cc
      refine hK66 _ _ ?_; clear hK66 K66
      (try simp only [zP, zN, zA, zB, zC])
      refine nl_ (hK65 _ _ ?_); clear hK65 K65
      refine wp_cond_false rfl ?_
      refine wp_skip ?_
      refine ib_norm ?_
      refine th_norm (hK50 _ _ ?_); try clear hK50 K50
      refine r_ ?_
      refine pu_ (v := .int .i64 (j + 1 : Nat)) (y_run (by rfl) (fun W => by have d := Wj.out; go_simp)) ?_
      (try simp only [zP, zN, zA, zB, zC])
      refine pu_ (v := .int .i64 (j + 1 : Nat)) (y_move rfl (by rfl) (by rfl)) ?_
      (try simp only [zP, zN, zA, zB, zC])
      refine nl_ ?_
      exact th_norm (hK27 (jq - 1) _ _ (by have := jlt.out; have := hj.out; omega) ⟨j + 1, go, fun us_ => (#[.slice (some a) L.length c, us 1, us 2, .int .i64 (widN L (L.take k) : Nat), us 4, .pointer (some ⟨go, 0, none⟩), .int .i64 (cntU (L.take (j + 1)) o.a : Nat), us 7, .pointer (some ⟨g53, 0, none⟩), .slice (some a) L.length c, .int .i64 L.length, .int .i64 k, us 12, us 13, us 14, .slice (some a) L.length c, .int .i64 L.length, .int .i64 (j + 1 : Nat), .bool true, .pointer (some (a.add (j * 28))), .agg (opC q).toArray, .agg (opC q).toArray, .pointer (some ⟨go, 2, none⟩), .int .i64 o.a, .bool false, us 25, us 26, .int .i64 (j + 1 : Nat), us 28, us 29, us 30, us 31, us 32] : Array Value).getD us_ undef, rfl, C0, SL, FO, Lib.hid ⟨by have := jlt.out; omega, by have := jlt.out; have := hj.out; omega⟩, hgo⟩)
    · have D18 := Lib.hid (show ¬ j < L.length by have := hj.out; omega)
      have HE1 := Lib.hid h
      clear h
      refine s_ (fun K68 hK68 => ?_)
      refine pu_ (v := .bool false) (y_run (by rfl) (fun W => by have d := D18.out; go_simp)) ?_
      (try simp only [zP, zN, zA, zB, zC])
      refine nl_ (hK68 _ _ ?_); clear hK68 K68
      refine sq_ (fun K69 hK69 => ?_)
      refine wp_cond_false rfl ?_
      refine wp_exit ?_
      refine th_exit ?_
      refine th_exit ?_
      refine ib_exit ?_
      refine th_norm (hK24 _ _ ?_); try clear hK24 K24
      rcases Nat.lt_or_ge (widN L (L.take k)) (cntU (L.take j) o.a) with h | h
      · have HCL := Lib.hid (show cntU (L.take j) o.a = cntU L o.a by rw [HE1.out, List.take_length])
        have HM := Lib.hid (show widN L (L.take (k + 1)) = cntU (L.take j) o.a by rw [wid_succ ho.out, ← HCL.out]; omega)
        have DM := Lib.hid (show widN L (L.take k) < cntU (L.take j) o.a by have := h; omega)
        clear h
        refine r_ ?_
        refine pu_ (v := .int .i64 (widN L (L.take k) : Nat)) (y_move rfl (by rfl) (by rfl)) ?_
        (try simp only [zP, zN, zA, zB, zC])
        refine pu_ (v := .int .i64 (cntU (L.take j) o.a : Nat)) (y_move rfl (by rfl) (by rfl)) ?_
        (try simp only [zP, zN, zA, zB, zC])
        refine pu_ (v := .int .i64 (widN L (L.take (k + 1)) : Nat)) (y_run (by rfl) (fun W => by have d := DM.out; have d2 := HM.out; generalize widN L (L.take (k + 1)) = m9 at *; generalize widN L (L.take k) = m8 at *; generalize cntU (L.take j) o.a = m7 at *; subst d2; first | (go_simp; done) | (go_simp; omega) | (go_simp; intro h9; omega))) ?_
        (try simp only [zP, zN, zA, zB, zC])
        refine pu_ (v := .int .i64 (widN L (L.take (k + 1)) : Nat)) (y_assign rfl (by rfl) (by rfl)) ?_
        (try simp only [zP, zN, zA, zB, zC])
        refine nl_ ?_
        refine ib_norm ?_
        refine th_norm (hK9 _ _ ?_); try clear hK9 K9
        refine r_ ?_
        refine pu_ (v := .int .i64 (k + 1 : Nat)) (y_run (by rfl) (fun W => by have d := Wk.out; go_simp)) ?_
        (try simp only [zP, zN, zA, zB, zC])
        refine pu_ (v := .int .i64 (k + 1 : Nat)) (y_move rfl (by rfl) (by rfl)) ?_
        (try simp only [zP, zN, zA, zB, zC])
        refine nl_ ?_
        exact th_norm (hK6 (kq - 1) _ _ (by have := hlt.out; have := hk.out; omega) ⟨k + 1, fun us_ => (#[.slice (some a) L.length c, us 1, us 2, .int .i64 (widN L (L.take (k + 1)) : Nat), us 4, .pointer (some ⟨go, 0, none⟩), .int .i64 (cntU (L.take j) o.a : Nat), us 7, us 8, .slice (some a) L.length c, .int .i64 L.length, .int .i64 (k + 1 : Nat), us 12, us 13, us 14, .slice (some a) L.length c, .int .i64 L.length, .int .i64 j, .bool false, us 19, us 20, us 21, us 22, us 23, us 24, us 25, us 26, us 27, .int .i64 (widN L (L.take k) : Nat), .int .i64 (cntU (L.take j) o.a : Nat), .int .i64 (widN L (L.take (k + 1)) : Nat), .int .i64 (k + 1 : Nat), us 32] : Array Value).getD us_ undef, rfl, C0, SL, Lib.hid ⟨by have := hlt.out; omega, by have := hlt.out; have := hk.out; omega⟩⟩)
      · have HCL := Lib.hid (show cntU (L.take j) o.a = cntU L o.a by rw [HE1.out, List.take_length])
        have HM := Lib.hid (show widN L (L.take (k + 1)) = widN L (L.take k) by rw [wid_succ ho.out, ← HCL.out]; omega)
        have DM := Lib.hid (show cntU (L.take j) o.a ≤ widN L (L.take k) by have := h; omega)
        clear h
        refine r_ ?_
        refine pu_ (v := .int .i64 (widN L (L.take k) : Nat)) (y_move rfl (by rfl) (by rfl)) ?_
        (try simp only [zP, zN, zA, zB, zC])
        refine pu_ (v := .int .i64 (cntU (L.take j) o.a : Nat)) (y_move rfl (by rfl) (by rfl)) ?_
        (try simp only [zP, zN, zA, zB, zC])
        refine pu_ (v := .int .i64 (widN L (L.take (k + 1)) : Nat)) (y_run (by rfl) (fun W => by have d := DM.out; have d2 := HM.out; generalize widN L (L.take (k + 1)) = m9 at *; generalize widN L (L.take k) = m8 at *; generalize cntU (L.take j) o.a = m7 at *; subst d2; first | (go_simp; done) | (go_simp; omega) | (go_simp; intro h9; omega))) ?_
        (try simp only [zP, zN, zA, zB, zC])
        refine pu_ (v := .int .i64 (widN L (L.take (k + 1)) : Nat)) (y_assign rfl (by rfl) (by rfl)) ?_
        (try simp only [zP, zN, zA, zB, zC])
        refine nl_ ?_
        refine ib_norm ?_
        refine th_norm (hK9 _ _ ?_); try clear hK9 K9
        refine r_ ?_
        refine pu_ (v := .int .i64 (k + 1 : Nat)) (y_run (by rfl) (fun W => by have d := Wk.out; go_simp)) ?_
        (try simp only [zP, zN, zA, zB, zC])
        refine pu_ (v := .int .i64 (k + 1 : Nat)) (y_move rfl (by rfl) (by rfl)) ?_
        (try simp only [zP, zN, zA, zB, zC])
        refine nl_ ?_
        exact th_norm (hK6 (kq - 1) _ _ (by have := hlt.out; have := hk.out; omega) ⟨k + 1, fun us_ => (#[.slice (some a) L.length c, us 1, us 2, .int .i64 (widN L (L.take (k + 1)) : Nat), us 4, .pointer (some ⟨go, 0, none⟩), .int .i64 (cntU (L.take j) o.a : Nat), us 7, us 8, .slice (some a) L.length c, .int .i64 L.length, .int .i64 (k + 1 : Nat), us 12, us 13, us 14, .slice (some a) L.length c, .int .i64 L.length, .int .i64 j, .bool false, us 19, us 20, us 21, us 22, us 23, us 24, us 25, us 26, us 27, .int .i64 (widN L (L.take k) : Nat), .int .i64 (cntU (L.take j) o.a : Nat), .int .i64 (widN L (L.take (k + 1)) : Nat), .int .i64 (k + 1 : Nat), us 32] : Array Value).getD us_ undef, rfl, C0, SL, Lib.hid ⟨by have := hlt.out; omega, by have := hlt.out; have := hk.out; omega⟩⟩)
  · have D12 := Lib.hid (show ¬ k < L.length by have := hk.out; omega)
    have HE := Lib.hid h
    clear h
    refine s_ (fun K70 hK70 => ?_)
    refine pu_ (v := .bool false) (y_run (by rfl) (fun W => by have d := D12.out; go_simp)) ?_
    (try simp only [zP, zN, zA, zB, zC])
    refine nl_ (hK70 _ _ ?_); clear hK70 K70
    refine sq_ (fun K71 hK71 => ?_)
    refine wp_cond_false rfl ?_
    refine wp_exit ?_
    refine th_exit ?_
    refine th_exit ?_
    refine ib_exit ?_
    refine th_norm (hK3 _ _ ?_); try clear hK3 K3
    refine s_ (fun K72 hK72 => ?_)
    refine pu_ (v := .int .i64 (widN L (L.take k) : Nat)) (y_move rfl (by rfl) (by rfl)) ?_
    (try simp only [zP, zN, zA, zB, zC])
    refine pu_ (v := .int .i64 (widN L (L.take k) : Nat)) (y_assign rfl (by rfl) (by rfl)) ?_
    (try simp only [zP, zN, zA, zB, zC])
    refine nl_ (hK72 _ _ ?_); clear hK72 K72
    refine wp_ret ?_
    refine hQ _ _ _ ?_
    refine bodyPost_ret (res1 rfl (rdv_tmp (v := .int .i64 (widN L (L.take k) : Nat)) (by rfl))) rfl ?_
    exact ⟨by rw [HE.out, List.take_length], C0.out⟩
theorem right_ {A B : Option Addr} {c d : Nat} {L : List HOp} {M : List Int} (HN : Hid (L.length ≤ 1000)) (HM : Hid (M.length ≤ 1000)) (SL : Hid (SrcIs w (.slice A L.length c) (L.length) ((L).flatMap opC) 28)) (SM : Hid (SrcIs w (.slice B M.length d) (M.length) ((M).map (Value.int .i64)) 1)) :
    Calls Try.prog 52 #[.slice A L.length c, .slice B M.length d] w fun en w' => ∃ b, en = .returned (.bool b) ∧ (b = true ↔ rightP L.length M) ∧ Ch [] w w' := by
  have C0 := Lib.hid (Ch.refl [] w)
  obtain ⟨i4, I4⟩ := Info.of info4
  go_enter Try.func52, Try.ntmps52
  refine q_ (fun Q hQ hP => ?_)
  refine s_ (fun K1 hK1 => ?_)
  refine pu_ (v := .bool false) (y_assign rfl (by rfl) (by rfl)) ?_
  (try simp only [zP, zN, zA, zB, zC])
  refine nl_ (hK1 _ _ ?_); clear hK1 K1
  refine s_ (fun K2 hK2 => ?_)
  refine pu_ (v := .slice A L.length c) (y_move rfl (by rfl) (by rfl)) ?_
  (try simp only [zP, zN, zA, zB, zC])
  refine pu_ (v := .int .i64 L.length) (y_run (by rfl) (fun W => by go_simp)) ?_
  (try simp only [zP, zN, zA, zB, zC])
  refine ef_ (fun K3 hK3 => ?_)
  refine e_make1 (by rfl) rfl rfl Try.underlying111 I4 rfl w.heap.size L.length (by rfl) (by rfl) C0.out.size (by unfold maxLen; have := HN.out; omega) (by have := HN.out; omega) ?_
  rintro gs w4 HGS O5 C6
  have nw7 := Lib.hid (show w.heap.size ≤ gs by have := C0.out.size; have := HGS.out; omega)
  have nx8 := Lib.hid (SL.out.ne_new (by decide) HGS)
  have nx9 := Lib.hid (SM.out.ne_new (by decide) HGS)
  have rw10 := Lib.hid (show ∀ x, x ∈ rl (.slice (some ⟨gs, 0, none⟩) L.length L.length) → x ∈ [] ∨ w.heap.size ≤ x from fun x hx => .inr (by have := (new_row HGS) x hx; have := C0.out.size; omega))
  have xr11 := Lib.hid (show ∀ k, k ∈ xb (.slice A L.length c) → k ∉ rl (.slice (some ⟨gs, 0, none⟩) L.length L.length) from fun k hk hm => by have := (new_row HGS) k hm; have := SL.out.lt (by decide) k hk; omega)
  have xr12 := Lib.hid (show ∀ k, k ∈ xb (.slice B M.length d) → k ∉ rl (.slice (some ⟨gs, 0, none⟩) L.length L.length) from fun k hk hm => by have := (new_row HGS) k hm; have := SM.out.lt (by decide) k hk; omega)
  have C0' := Lib.hid (show Ch [] w w4 from C0.out.trans' C6 (fun x hx => absurd hx (by simp)))
  have SL' := Lib.hid (show SrcIs w4 (.slice A L.length c) (L.length) ((L).flatMap opC) 28 from SL.out.chx C6 xnin_nil)
  have SM' := Lib.hid (show SrcIs w4 (.slice B M.length d) (M.length) ((M).map (Value.int .i64)) 1 from SM.out.chx C6 xnin_nil)
  clear C0 SL SM
  have C0 := C0'; clear C0'
  have SL := SL'; clear SL'
  have SM := SM'; clear SM'
  clear C6
  have OS := Lib.hid (show OwnS w4 w.heap.size 4 1 (.slice (some ⟨gs, 0, none⟩) L.length L.length) (L.length) (seenL L.length (M.take 0)) from by rw [← seen_nil] at O5; exact O5); clear O5
  refine hK3 _ _ ?_; clear hK3 K3
  (try simp only [zP, zN, zA, zB, zC])
  refine pu_ (v := .slice (some ⟨gs, 0, none⟩) L.length L.length) (y_assign rfl (by rfl) (by rfl)) ?_
  (try simp only [zP, zN, zA, zB, zC])
  refine nl_ (hK2 _ _ ?_); clear hK2 K2
  refine sq_ (fun K13 hK13 => ?_)
  refine s_ (fun K14 hK14 => ?_)
  refine pu_ (v := .slice B M.length d) (y_move rfl (by rfl) (by rfl)) ?_
  (try simp only [zP, zN, zA, zB, zC])
  refine pu_ (v := .int .i64 M.length) (y_run (by rfl) (fun W => by go_simp)) ?_
  (try simp only [zP, zN, zA, zB, zC])
  refine pu_ (v := .int .i64 0) (y_move rfl (by rfl) (by rfl)) ?_
  (try simp only [zP, zN, zA, zB, zC])
  refine nl_ (hK14 _ _ ?_); clear hK14 K14
  refine wp_block ?_
  refine loopk_ (fun (kq : Nat) (a' : Act) (w' : World) => ∃ (k : Nat), ∃ (gs : Nat), ∃ (us : Nat → Value), a' = ⟨#[.slice A L.length c, .slice B M.length d, us 2, us 3, .bool false, .slice (some ⟨gs, 0, none⟩) L.length L.length, us 6, us 7, us 8, us 9, us 10, .slice B M.length d, .int .i64 M.length, .int .i64 k, us 14, us 15, us 16, us 17, us 18, us 19, us 20, us 21, us 22, us 23, us 24, us 25, us 26, us 27, us 28, us 29, us 30, us 31, us 32, us 33, us 34], []⟩ ∧ Hid (Ch [] w w') ∧ Hid (SrcIs w' (.slice A L.length c) (L.length) ((L).flatMap opC) 28) ∧ Hid (SrcIs w' (.slice B M.length d) (M.length) ((M).map (Value.int .i64)) 1) ∧ Hid (OwnS w' w.heap.size 4 1 (.slice (some ⟨gs, 0, none⟩) L.length L.length) (L.length) (seenL L.length (M.take k))) ∧ Hid (k ≤ M.length ∧ kq + k = M.length) ∧ Hid (rightP L.length (M.take k)) ∧ Hid (∀ k, k ∈ xb (.slice A L.length c) → k ∉ rl (.slice (some ⟨gs, 0, none⟩) L.length L.length)) ∧ Hid (∀ k, k ∈ xb (.slice B M.length d) → k ∉ rl (.slice (some ⟨gs, 0, none⟩) L.length L.length))) (M.length) (⟨0, gs, fun us_ => (#[.slice A L.length c, .slice B M.length d, undef, undef, .bool false, .slice (some ⟨gs, 0, none⟩) L.length L.length, undef, undef, .slice A L.length c, .int .i64 L.length, .slice (some ⟨gs, 0, none⟩) L.length L.length, .slice B M.length d, .int .i64 M.length, .int .i64 0, undef, undef, undef, undef, undef, undef, undef, undef, undef, undef, undef, undef, undef, undef, undef, undef, undef, undef, undef, undef, undef] : Array Value).getD us_ undef, rfl, C0, SL, SM, OS, Lib.hid ⟨by omega, by omega⟩, Lib.hid (right_nil _), xr11, xr12⟩) ?_
  rintro kq _ w15 ⟨k, gs, us, rfl, C0, SL, SM, OS, hk, hr, hx1, hx2⟩ K16 hK16
  rcases at_ways hk.out.1 with ⟨z, hlt0, ho0⟩ | h; rcases right_ways L.length M k z with h | h | h | h
  · have hlt := Lib.hid hlt0
    have ho := Lib.hid ho0
    clear hlt0 ho0
    obtain ⟨b, hsm_b⟩ := src_some SM.out (by have := hlt.out; omega)
    subst hsm_b
    have D14 := Lib.hid (show (k : Int) < (M.length : Int) by have := hlt.out; omega)
    have Wk := Lib.hid (show IntKind.i64.wrap ((k : Int) + 1) = ((k + 1 : Nat) : Int) by rw [wr64 (by have := hlt.out; have := HM.out; omega)]; omega)
    have D18 := Lib.hid (show decide (z < 0) = true from decide_eq_true h)
    have HR := Lib.hid (right_not (n := L.length) ho.out (.inl (by omega)))
    clear h
    refine s_ (fun K17 hK17 => ?_)
    refine pu_ (v := .bool true) (y_run (by rfl) (fun W => by have d := D14.out; go_simp)) ?_
    (try simp only [zP, zN, zA, zB, zC])
    refine nl_ (hK17 _ _ ?_); clear hK17 K17
    refine sq_ (fun K18 hK18 => ?_)
    refine wp_cond_true rfl ?_
    refine wp_skip ?_
    refine th_norm (hK18 _ _ ?_); try clear hK18 K18
    refine sq_ (fun K19 hK19 => ?_)
    refine wp_block ?_
    refine s_ (fun K20 hK20 => ?_)
    refine pu_ (v := .pointer (some (b.add (k)))) (y_run (by rfl) (fun W => by have d := D14.out; go_simp)) ?_
    (try simp only [zP, zN, zA, zB, zC])
    refine ld_ (v := .int .i64 z) rfl (by rfl) (by rfl) (run_load_one (src_int SM.out ho.out) Try.underlying3 rfl) ?_
    (try simp only [zP, zN, zA, zB, zC])
    refine pu_ (v := .int .i64 z) (y_assign rfl (by rfl) (by rfl)) ?_
    (try simp only [zP, zN, zA, zB, zC])
    refine nl_ (hK20 _ _ ?_); clear hK20 K20
    refine sq_ (fun K21 hK21 => ?_)
    refine s_ (fun K22 hK22 => ?_)
    refine pu_ (v := .int .i64 z) (y_move rfl (by rfl) (by rfl)) ?_
    (try simp only [zP, zN, zA, zB, zC])
    refine pu_ (v := .bool true) (y_run (by rfl) (fun W => by have d := D18.out; go_simp)) ?_
    (try simp only [zP, zN, zA, zB, zC])
    refine pu_ (v := .bool true) (y_move rfl (by rfl) (by rfl)) ?_
    (try simp only [zP, zN, zA, zB, zC])
    refine pu_ (y_off (by rfl)) ?_
    (try simp only [zP, zN, zA, zB, zC])
    refine pu_ (y_off (by rfl)) ?_
    (try simp only [zP, zN, zA, zB, zC])
    refine pu_ (y_off (by rfl)) ?_
    (try simp only [zP, zN, zA, zB, zC])
    refine pu_ (y_off (by rfl)) ?_
    (try simp only [zP, zN, zA, zB, zC])
    refine pu_ (v := .bool true) (y_pick (t := true) (by rfl) rfl (by rfl) (by rfl)) ?_
    (try simp only [zP, zN, zA, zB, zC])
    refine pu_ (v := .bool true) (y_move rfl (by rfl) (by rfl)) ?_
    (try simp only [zP, zN, zA, zB, zC])
    refine pu_ (y_off (by rfl)) ?_
    (try simp only [zP, zN, zA, zB, zC])
    refine pu_ (y_off (by rfl)) ?_
    (try simp only [zP, zN, zA, zB, zC])
    refine pu_ (y_off (by rfl)) ?_
    (try simp only [zP, zN, zA, zB, zC])
    refine pu_ (y_off (by rfl)) ?_
    (try simp only [zP, zN, zA, zB, zC])
    refine pu_ (v := .bool true) (y_pick (t := true) (by rfl) rfl (by rfl) (by rfl)) ?_
    (try simp only [zP, zN, zA, zB, zC])
    refine nl_ (hK22 _ _ ?_); clear hK22 K22
    refine wp_cond_true rfl ?_
    refine s_ (fun K23 hK23 => ?_)
    refine pu_ (v := .bool false) (y_assign rfl (by rfl) (by rfl)) ?_
    (try simp only [zP, zN, zA, zB, zC])
    refine nl_ (hK23 _ _ ?_); clear hK23 K23
    refine wp_ret ?_
    refine th_ret ?_
    refine ib_ret ?_
    refine th_ret ?_
    refine th_ret ?_
    refine ib_ret ?_
    refine th_ret ?_
    refine hQ _ _ _ ?_
    refine bodyPost_ret (res1 rfl (rdv_tmp (v := .bool false) (by rfl))) rfl ?_
    exact ⟨_, rfl, ⟨fun h => absurd h (by decide), fun h => absurd h HR.out⟩, C0.out⟩
  · have hlt := Lib.hid hlt0
    have ho := Lib.hid ho0
    clear hlt0 ho0
    obtain ⟨b, hsm_b⟩ := src_some SM.out (by have := hlt.out; omega)
    subst hsm_b
    have D14 := Lib.hid (show (k : Int) < (M.length : Int) by have := hlt.out; omega)
    have Wk := Lib.hid (show IntKind.i64.wrap ((k : Int) + 1) = ((k + 1 : Nat) : Int) by rw [wr64 (by have := hlt.out; have := HM.out; omega)]; omega)
    have D18 := Lib.hid (show decide (z < 0) = false from decide_eq_false (by omega))
    have D23 := Lib.hid (show decide (z ≥ (L.length : Int)) = true from decide_eq_true (by omega))
    have HR := Lib.hid (right_not (n := L.length) ho.out (.inl (by omega)))
    clear h
    refine s_ (fun K24 hK24 => ?_)
    refine pu_ (v := .bool true) (y_run (by rfl) (fun W => by have d := D14.out; go_simp)) ?_
    (try simp only [zP, zN, zA, zB, zC])
    refine nl_ (hK24 _ _ ?_); clear hK24 K24
    refine sq_ (fun K25 hK25 => ?_)
    refine wp_cond_true rfl ?_
    refine wp_skip ?_
    refine th_norm (hK25 _ _ ?_); try clear hK25 K25
    refine sq_ (fun K26 hK26 => ?_)
    refine wp_block ?_
    refine s_ (fun K27 hK27 => ?_)
    refine pu_ (v := .pointer (some (b.add (k)))) (y_run (by rfl) (fun W => by have d := D14.out; go_simp)) ?_
    (try simp only [zP, zN, zA, zB, zC])
    refine ld_ (v := .int .i64 z) rfl (by rfl) (by rfl) (run_load_one (src_int SM.out ho.out) Try.underlying3 rfl) ?_
    (try simp only [zP, zN, zA, zB, zC])
    refine pu_ (v := .int .i64 z) (y_assign rfl (by rfl) (by rfl)) ?_
    (try simp only [zP, zN, zA, zB, zC])
    refine nl_ (hK27 _ _ ?_); clear hK27 K27
    refine sq_ (fun K28 hK28 => ?_)
    refine s_ (fun K29 hK29 => ?_)
    refine pu_ (v := .int .i64 z) (y_move rfl (by rfl) (by rfl)) ?_
    (try simp only [zP, zN, zA, zB, zC])
    refine pu_ (v := .bool false) (y_run (by rfl) (fun W => by have d := D18.out; go_simp)) ?_
    (try simp only [zP, zN, zA, zB, zC])
    refine pu_ (v := .bool false) (y_move rfl (by rfl) (by rfl)) ?_
    (try simp only [zP, zN, zA, zB, zC])
    refine pu_ (v := .int .i64 z) (y_move rfl (by rfl) (by rfl)) ?_
    (try simp only [zP, zN, zA, zB, zC])
    refine pu_ (v := .slice A L.length c) (y_move rfl (by rfl) (by rfl)) ?_
    (try simp only [zP, zN, zA, zB, zC])
    refine pu_ (v := .int .i64 L.length) (y_run (by rfl) (fun W => by go_simp)) ?_
    (try simp only [zP, zN, zA, zB, zC])
    refine pu_ (v := .bool true) (y_run (by rfl) (fun W => by have d := D23.out; go_simp)) ?_
    (try simp only [zP, zN, zA, zB, zC])
    refine pu_ (v := .bool true) (y_pick (t := false) (by rfl) rfl (by rfl) (by rfl)) ?_
    (try simp only [zP, zN, zA, zB, zC])
    refine pu_ (v := .bool true) (y_move rfl (by rfl) (by rfl)) ?_
    (try simp only [zP, zN, zA, zB, zC])
    refine pu_ (y_off (by rfl)) ?_
    (try simp only [zP, zN, zA, zB, zC])
    refine pu_ (y_off (by rfl)) ?_
    (try simp only [zP, zN, zA, zB, zC])
    refine pu_ (y_off (by rfl)) ?_
    (try simp only [zP, zN, zA, zB, zC])
    refine pu_ (y_off (by rfl)) ?_
    (try simp only [zP, zN, zA, zB, zC])
    refine pu_ (v := .bool true) (y_pick (t := true) (by rfl) rfl (by rfl) (by rfl)) ?_
    (try simp only [zP, zN, zA, zB, zC])
    refine nl_ (hK29 _ _ ?_); clear hK29 K29
    refine wp_cond_true rfl ?_
    refine s_ (fun K30 hK30 => ?_)
    refine pu_ (v := .bool false) (y_assign rfl (by rfl) (by rfl)) ?_
    (try simp only [zP, zN, zA, zB, zC])
    refine nl_ (hK30 _ _ ?_); clear hK30 K30
    refine wp_ret ?_
    refine th_ret ?_
    refine ib_ret ?_
    refine th_ret ?_
    refine th_ret ?_
    refine ib_ret ?_
    refine th_ret ?_
    refine hQ _ _ _ ?_
    refine bodyPost_ret (res1 rfl (rdv_tmp (v := .bool false) (by rfl))) rfl ?_
    exact ⟨_, rfl, ⟨fun h => absurd h (by decide), fun h => absurd h HR.out⟩, C0.out⟩
  · obtain ⟨i, hzi, h2, h3⟩ := h
    subst hzi
    have hlt := Lib.hid hlt0
    have ho := Lib.hid ho0
    clear hlt0 ho0
    obtain ⟨b, hsm_b⟩ := src_some SM.out (by have := hlt.out; omega)
    subst hsm_b
    have D14 := Lib.hid (show (k : Int) < (M.length : Int) by have := hlt.out; omega)
    have Wk := Lib.hid (show IntKind.i64.wrap ((k : Int) + 1) = ((k + 1 : Nat) : Int) by rw [wr64 (by have := hlt.out; have := HM.out; omega)]; omega)
    have hz := Lib.hid h2
    have D18 := Lib.hid (show decide ((i : Int) < 0) = false from decide_eq_false (by omega))
    have D23 := Lib.hid (show i < L.length from h2)
    have D28 := Lib.hid (show (i : Int) < (L.length : Int) by omega)
    have hcn := Lib.hid h3
    have HR := Lib.hid (right_not (n := L.length) ho.out (.inr h3))
    clear h2 h3
    refine s_ (fun K31 hK31 => ?_)
    refine pu_ (v := .bool true) (y_run (by rfl) (fun W => by have d := D14.out; go_simp)) ?_
    (try simp only [zP, zN, zA, zB, zC])
    refine nl_ (hK31 _ _ ?_); clear hK31 K31
    refine sq_ (fun K32 hK32 => ?_)
    refine wp_cond_true rfl ?_
    refine wp_skip ?_
    refine th_norm (hK32 _ _ ?_); try clear hK32 K32
    refine sq_ (fun K33 hK33 => ?_)
    refine wp_block ?_
    refine s_ (fun K34 hK34 => ?_)
    refine pu_ (v := .pointer (some (b.add (k)))) (y_run (by rfl) (fun W => by have d := D14.out; go_simp)) ?_
    (try simp only [zP, zN, zA, zB, zC])
    refine ld_ (v := .int .i64 i) rfl (by rfl) (by rfl) (run_load_one (src_int SM.out ho.out) Try.underlying3 rfl) ?_
    (try simp only [zP, zN, zA, zB, zC])
    refine pu_ (v := .int .i64 i) (y_assign rfl (by rfl) (by rfl)) ?_
    (try simp only [zP, zN, zA, zB, zC])
    refine nl_ (hK34 _ _ ?_); clear hK34 K34
    refine sq_ (fun K35 hK35 => ?_)
    refine s_ (fun K36 hK36 => ?_)
    refine pu_ (v := .int .i64 i) (y_move rfl (by rfl) (by rfl)) ?_
    (try simp only [zP, zN, zA, zB, zC])
    refine pu_ (v := .bool false) (y_run (by rfl) (fun W => by have d := D18.out; go_simp)) ?_
    (try simp only [zP, zN, zA, zB, zC])
    refine pu_ (v := .bool false) (y_move rfl (by rfl) (by rfl)) ?_
    (try simp only [zP, zN, zA, zB, zC])
    refine pu_ (v := .int .i64 i) (y_move rfl (by rfl) (by rfl)) ?_
    (try simp only [zP, zN, zA, zB, zC])
    refine pu_ (v := .slice A L.length c) (y_move rfl (by rfl) (by rfl)) ?_
    (try simp only [zP, zN, zA, zB, zC])
    refine pu_ (v := .int .i64 L.length) (y_run (by rfl) (fun W => by go_simp)) ?_
    (try simp only [zP, zN, zA, zB, zC])
    refine pu_ (v := .bool false) (y_run (by rfl) (fun W => by have d := D23.out; go_simp)) ?_
    (try simp only [zP, zN, zA, zB, zC])
    refine pu_ (v := .bool false) (y_pick (t := false) (by rfl) rfl (by rfl) (by rfl)) ?_
    (try simp only [zP, zN, zA, zB, zC])
    refine pu_ (v := .bool false) (y_move rfl (by rfl) (by rfl)) ?_
    (try simp only [zP, zN, zA, zB, zC])
    refine pu_ (v := .slice (some ⟨gs, 0, none⟩) L.length L.length) (y_move rfl (by rfl) (by rfl)) ?_
    (try simp only [zP, zN, zA, zB, zC])
    refine pu_ (v := .int .i64 i) (y_move rfl (by rfl) (by rfl)) ?_
    (try simp only [zP, zN, zA, zB, zC])
    refine pu_ (v := .pointer (some ⟨gs, i, none⟩)) (y_run (by rfl) (fun W => by have d := D28.out; go_simp)) ?_
    (try simp only [zP, zN, zA, zB, zC])
    refine ld_ (v := .bool true) rfl (by rfl) (by rfl) (run_load_one (own_cell OS.out (by rw [seen_at _ hz.out, hcn.out])) Try.underlying4 rfl) ?_
    (try simp only [zP, zN, zA, zB, zC])
    refine pu_ (v := .bool true) (y_pick (t := false) (by rfl) rfl (by rfl) (by rfl)) ?_
    (try simp only [zP, zN, zA, zB, zC])
    refine nl_ (hK36 _ _ ?_); clear hK36 K36
    refine wp_cond_true rfl ?_
    refine s_ (fun K37 hK37 => ?_)
    refine pu_ (v := .bool false) (y_assign rfl (by rfl) (by rfl)) ?_
    (try simp only [zP, zN, zA, zB, zC])
    refine nl_ (hK37 _ _ ?_); clear hK37 K37
    refine wp_ret ?_
    refine th_ret ?_
    refine ib_ret ?_
    refine th_ret ?_
    refine th_ret ?_
    refine ib_ret ?_
    refine th_ret ?_
    refine hQ _ _ _ ?_
    refine bodyPost_ret (res1 rfl (rdv_tmp (v := .bool false) (by rfl))) rfl ?_
    exact ⟨_, rfl, ⟨fun h => absurd h (by decide), fun h => absurd h HR.out⟩, C0.out⟩
  · obtain ⟨i, hzi, h2, h3⟩ := h
    subst hzi
    have hlt := Lib.hid hlt0
    have ho := Lib.hid ho0
    clear hlt0 ho0
    obtain ⟨b, hsm_b⟩ := src_some SM.out (by have := hlt.out; omega)
    subst hsm_b
    have D14 := Lib.hid (show (k : Int) < (M.length : Int) by have := hlt.out; omega)
    have Wk := Lib.hid (show IntKind.i64.wrap ((k : Int) + 1) = ((k + 1 : Nat) : Int) by rw [wr64 (by have := hlt.out; have := HM.out; omega)]; omega)
    have hz := Lib.hid h2
    have D18 := Lib.hid (show decide ((i : Int) < 0) = false from decide_eq_false (by omega))
    have D23 := Lib.hid (show i < L.length from h2)
    have D28 := Lib.hid (show (i : Int) < (L.length : Int) by omega)
    have hcn := Lib.hid h3
    clear h2 h3
    refine s_ (fun K38 hK38 => ?_)
    refine pu_ (v := .bool true) (y_run (by rfl) (fun W => by have d := D14.out; go_simp)) ?_
    (try simp only [zP, zN, zA, zB, zC])
    refine nl_ (hK38 _ _ ?_); clear hK38 K38
    refine sq_ (fun K39 hK39 => ?_)
    refine wp_cond_true rfl ?_
    refine wp_skip ?_
    refine th_norm (hK39 _ _ ?_); try clear hK39 K39
    refine sq_ (fun K40 hK40 => ?_)
    refine wp_block ?_
    refine s_ (fun K41 hK41 => ?_)
    refine pu_ (v := .pointer (some (b.add (k)))) (y_run (by rfl) (fun W => by have d := D14.out; go_simp)) ?_
    (try simp only [zP, zN, zA, zB, zC])
    refine ld_ (v := .int .i64 i) rfl (by rfl) (by rfl) (run_load_one (src_int SM.out ho.out) Try.underlying3 rfl) ?_
    (try simp only [zP, zN, zA, zB, zC])
    refine pu_ (v := .int .i64 i) (y_assign rfl (by rfl) (by rfl)) ?_
    (try simp only [zP, zN, zA, zB, zC])
    refine nl_ (hK41 _ _ ?_); clear hK41 K41
    refine sq_ (fun K42 hK42 => ?_)
    refine s_ (fun K43 hK43 => ?_)
    refine pu_ (v := .int .i64 i) (y_move rfl (by rfl) (by rfl)) ?_
    (try simp only [zP, zN, zA, zB, zC])
    refine pu_ (v := .bool false) (y_run (by rfl) (fun W => by have d := D18.out; go_simp)) ?_
    (try simp only [zP, zN, zA, zB, zC])
    refine pu_ (v := .bool false) (y_move rfl (by rfl) (by rfl)) ?_
    (try simp only [zP, zN, zA, zB, zC])
    refine pu_ (v := .int .i64 i) (y_move rfl (by rfl) (by rfl)) ?_
    (try simp only [zP, zN, zA, zB, zC])
    refine pu_ (v := .slice A L.length c) (y_move rfl (by rfl) (by rfl)) ?_
    (try simp only [zP, zN, zA, zB, zC])
    refine pu_ (v := .int .i64 L.length) (y_run (by rfl) (fun W => by go_simp)) ?_
    (try simp only [zP, zN, zA, zB, zC])
    refine pu_ (v := .bool false) (y_run (by rfl) (fun W => by have d := D23.out; go_simp)) ?_
    (try simp only [zP, zN, zA, zB, zC])
    refine pu_ (v := .bool false) (y_pick (t := false) (by rfl) rfl (by rfl) (by rfl)) ?_
    (try simp only [zP, zN, zA, zB, zC])
    refine pu_ (v := .bool false) (y_move rfl (by rfl) (by rfl)) ?_
    (try simp only [zP, zN, zA, zB, zC])
    refine pu_ (v := .slice (some ⟨gs, 0, none⟩) L.length L.length) (y_move rfl (by rfl) (by rfl)) ?_
    (try simp only [zP, zN, zA, zB, zC])
    refine pu_ (v := .int .i64 i) (y_move rfl (by rfl) (by rfl)) ?_
    (try simp only [zP, zN, zA, zB, zC])
    refine pu_ (v := .pointer (some ⟨gs, i, none⟩)) (y_run (by rfl) (fun W => by have d := D28.out; go_simp)) ?_
    (try simp only [zP, zN, zA, zB, zC])
    refine ld_ (v := .bool false) rfl (by rfl) (by rfl) (run_load_one (own_cell OS.out (by rw [seen_at _ hz.out, hcn.out])) Try.underlying4 rfl) ?_
    (try simp only [zP, zN, zA, zB, zC])
    refine pu_ (v := .bool false) (y_pick (t := false) (by rfl) rfl (by rfl) (by rfl)) ?_
    (try simp only [zP, zN, zA, zB, zC])
    refine nl_ (hK43 _ _ ?_); clear hK43 K43
    refine wp_cond_false rfl ?_
    refine wp_skip ?_
    refine th_norm (hK42 _ _ ?_); try clear hK42 K42
    refine r_ ?_
    refine pu_ (v := .slice (some ⟨gs, 0, none⟩) L.length L.length) (y_move rfl (by rfl) (by rfl)) ?_
    (try simp only [zP, zN, zA, zB, zC])
    refine pu_ (v := .int .i64 i) (y_move rfl (by rfl) (by rfl)) ?_
    (try simp only [zP, zN, zA, zB, zC])
    refine pu_ (v := .pointer (some ⟨gs, i, none⟩)) (y_run (by rfl) (fun W => by have d := D28.out; go_simp)) ?_
    (try simp only [zP, zN, zA, zB, zC])
    refine ef_ (fun K44 hK44 => ?_)
    refine e_storeS1 (by rfl) rfl rfl OS.out i (.bool true) (by rfl) (by rfl) (by kernel_rfl) (by have := hz.out; omega) rfl ?_
    rintro w45 O46 C47
    have RC47 := Lib.hid (show Ch (rl (.slice (some ⟨gs, 0, none⟩) L.length L.length)) w15 w45 from by rw [rl_some _ _ _ (by have := hz.out; omega)]; exact C47)
    have C0' := Lib.hid (show Ch [] w w45 from C0.out.trans' RC47.out (fun x hx => .inr (OS.out.lt x hx).1))
    have SL' := Lib.hid (show SrcIs w45 (.slice A L.length c) (L.length) ((L).flatMap opC) 28 from SL.out.chx RC47.out hx1.out)
    have SM' := Lib.hid (show SrcIs w45 (.slice (some b) M.length d) (M.length) ((M).map (Value.int .i64)) 1 from SM.out.chx RC47.out hx2.out)
    clear C0 SL SM
    have C0 := C0'; clear C0'
    have SL := SL'; clear SL'
    have SM := SM'; clear SM'
    clear OS
    have OS := Lib.hid (show OwnS w45 w.heap.size 4 1 (.slice (some ⟨gs, 0, none⟩) L.length L.length) (L.length) (seenL L.length (M.take k ++ [(i : Int)])) from by have h := O46; rw [seen_set _ hz.out] at h; exact h); clear O46 C47 RC47
    refine hK44 _ _ ?_; clear hK44 K44
    (try simp only [zP, zN, zA, zB, zC])
    refine nl_ ?_
    refine ib_norm ?_
    refine th_norm (hK40 _ _ ?_); try clear hK40 K40
    refine r_ ?_
    refine pu_ (v := .int .i64 (k + 1 : Nat)) (y_run (by rfl) (fun W => by have d := Wk.out; go_simp)) ?_
    (try simp only [zP, zN, zA, zB, zC])
    refine pu_ (v := .int .i64 (k + 1 : Nat)) (y_move rfl (by rfl) (by rfl)) ?_
    (try simp only [zP, zN, zA, zB, zC])
    refine nl_ ?_
    exact th_norm (hK16 (kq - 1) _ _ (by have := hlt.out; have := hk.out; omega) ⟨k + 1, gs, fun us_ => (#[.slice A L.length c, .slice (some b) M.length d, us 2, us 3, .bool false, .slice (some ⟨gs, 0, none⟩) L.length L.length, us 6, .int .i64 i, us 8, us 9, us 10, .slice (some b) M.length d, .int .i64 M.length, .int .i64 (k + 1 : Nat), .bool true, .pointer (some (b.add (k))), .int .i64 i, .int .i64 i, .bool false, .bool false, .int .i64 i, .slice A L.length c, .int .i64 L.length, .bool false, .bool false, .bool false, .slice (some ⟨gs, 0, none⟩) L.length L.length, .int .i64 i, .pointer (some ⟨gs, i, none⟩), .bool false, .bool false, .slice (some ⟨gs, 0, none⟩) L.length L.length, .int .i64 i, .pointer (some ⟨gs, i, none⟩), .int .i64 (k + 1 : Nat)] : Array Value).getD us_ undef, rfl, C0, SL, SM, Lib.hid (by have h := OS.out; rw [take_snoc ho.out]; exact h), Lib.hid ⟨by have := hlt.out; omega, by have := hlt.out; have := hk.out; omega⟩, Lib.hid (right_snoc ho.out hr.out ⟨by omega, by have := hz.out; omega⟩ hcn.out), hx1, hx2⟩)
  · have D14 := Lib.hid (show ¬ k < M.length by have := hk.out; omega)
    have HE := Lib.hid h
    clear h
    refine s_ (fun K48 hK48 => ?_)
    refine pu_ (v := .bool false) (y_run (by rfl) (fun W => by have d := D14.out; go_simp)) ?_
    (try simp only [zP, zN, zA, zB, zC])
    refine nl_ (hK48 _ _ ?_); clear hK48 K48
    refine sq_ (fun K49 hK49 => ?_)
    refine wp_cond_false rfl ?_
    refine wp_exit ?_
    refine th_exit ?_
    refine th_exit ?_
    refine ib_exit ?_
    refine th_norm (hK13 _ _ ?_); try clear hK13 K13
    refine s_ (fun K50 hK50 => ?_)
    refine pu_ (v := .bool true) (y_assign rfl (by rfl) (by rfl)) ?_
    (try simp only [zP, zN, zA, zB, zC])
    refine nl_ (hK50 _ _ ?_); clear hK50 K50
    refine wp_ret ?_
    refine hQ _ _ _ ?_
    refine bodyPost_ret (res1 rfl (rdv_tmp (v := .bool true) (by rfl))) rfl ?_
    exact ⟨_, rfl, ⟨fun _ => by have h := hr.out; rw [HE.out, List.take_length] at h; exact h, fun _ => rfl⟩, C0.out⟩
theorem respects_ {A B : Option Addr} {c d : Nat} {L : List HOp} {M : List Int} (HN : Hid (L.length ≤ 1000)) (HM : Hid (M.length ≤ 1000)) (HD : Hid (M.length ≤ d ∧ d ≤ maxLen)) (SL : Hid (SrcIs w (.slice A L.length c) (L.length) ((L).flatMap opC) 28)) (SM : Hid (SrcIs w (.slice B M.length d) (M.length) ((M).map (Value.int .i64)) 1)) :
    Calls Try.prog 29 #[.slice A L.length c, .slice B M.length d] w fun en w' => ∃ b, en = .returned (.bool b) ∧ (b = true ↔ respP L M) ∧ Ch [] w w' := by
  have C0 := Lib.hid (Ch.refl [] w)
  go_enter Try.func29, Try.ntmps29
  refine q_ (fun Q hQ hP => ?_)
  refine s_ (fun K1 hK1 => ?_)
  refine pu_ (v := .bool false) (y_assign rfl (by rfl) (by rfl)) ?_
  (try simp only [zP, zN, zA, zB, zC])
  refine nl_ (hK1 _ _ ?_); clear hK1 K1
  refine sq_ (fun K2 hK2 => ?_)
  rcases Classical.em (rightP L.length M) with h | h
  · have HRP := Lib.hid h
    clear h
    refine s_ (fun K3 hK3 => ?_)
    refine pu_ (v := .slice A L.length c) (y_move rfl (by rfl) (by rfl)) ?_
    (try simp only [zP, zN, zA, zB, zC])
    refine pu_ (v := .slice B M.length d) (y_move rfl (by rfl) (by rfl)) ?_
    (try simp only [zP, zN, zA, zB, zC])
    refine ef_ (fun K4 hK4 => ?_)
    refine e_call Try.func52 (by kernel_rfl) rfl #[.slice A L.length c, .slice B M.length d] (by rfl) rfl rfl (by first | rfl | (simp only [List.map_toArray, List.map_cons, List.map_nil]; first | done | rfl)) ((ynT (right_ HN HM SL SM) HRP.out)) ?_
    rintro en w5 ⟨rfl, cc⟩
    refine ⟨_, rfl, ?_⟩
    have C0' := Lib.hid (show Ch [] w w5 from C0.out.trans' cc (fun x hx => absurd hx (by simp)))
    have SL' := Lib.hid (show SrcIs w5 (.slice A L.length c) (L.length) ((L).flatMap opC) 28 from SL.out.chx cc xnin_nil)
    have SM' := Lib.hid (show SrcIs w5 (.slice B M.length d) (M.length) ((M).map (Value.int .i64)) 1 from SM.out.chx cc xnin_nil)
    clear C0 SL SM
    have C0 := C0'; clear C0'
    have SL := SL'; clear SL'
    have SM := SM'; clear SM'
    clear cc
    refine hK4 _ _ ?_; clear hK4 K4
    (try simp only [zP, zN, zA, zB, zC])
    refine pu_ (v := .bool false) (y_run (by rfl) (fun W => by go_simp)) ?_
    (try simp only [zP, zN, zA, zB, zC])
    refine nl_ (hK3 _ _ ?_); clear hK3 K3
    refine wp_cond_false rfl ?_
    refine wp_skip ?_
    refine th_norm (hK2 _ _ ?_); try clear hK2 K2
    refine sq_ (fun K6 hK6 => ?_)
    refine s_ (fun K7 hK7 => ?_)
    refine pu_ (v := .slice B M.length d) (y_move rfl (by rfl) (by rfl)) ?_
    (try simp only [zP, zN, zA, zB, zC])
    refine pu_ (v := .int .i64 M.length) (y_run (by rfl) (fun W => by go_simp)) ?_
    (try simp only [zP, zN, zA, zB, zC])
    refine pu_ (v := .int .i64 0) (y_move rfl (by rfl) (by rfl)) ?_
    (try simp only [zP, zN, zA, zB, zC])
    refine nl_ (hK7 _ _ ?_); clear hK7 K7
    refine wp_block ?_
    refine loopk_ (fun (kq : Nat) (a' : Act) (w' : World) => ∃ (k : Nat), ∃ (us : Nat → Value), a' = ⟨#[.slice A L.length c, .slice B M.length d, us 2, us 3, .bool false, us 5, us 6, us 7, us 8, us 9, us 10, us 11, us 12, .slice B M.length d, .int .i64 M.length, .int .i64 k, us 16, us 17, us 18, us 19, us 20, us 21, us 22, us 23, us 24, us 25, us 26, us 27, us 28, us 29, us 30, us 31, us 32, us 33, us 34, us 35, us 36, us 37, us 38, us 39, us 40], []⟩ ∧ Hid (Ch [] w w') ∧ Hid (SrcIs w' (.slice A L.length c) (L.length) ((L).flatMap opC) 28) ∧ Hid (SrcIs w' (.slice B M.length d) (M.length) ((M).map (Value.int .i64)) 1) ∧ Hid (k ≤ M.length ∧ kq + k = M.length) ∧ Hid (pairsP L M k)) (M.length) (⟨0, fun us_ => (#[.slice A L.length c, .slice B M.length d, undef, undef, .bool false, undef, undef, undef, undef, .slice A L.length c, .slice B M.length d, .bool true, .bool false, .slice B M.length d, .int .i64 M.length, .int .i64 0, undef, undef, undef, undef, undef, undef, undef, undef, undef, undef, undef, undef, undef, undef, undef, undef, undef, undef, undef, undef, undef, undef, undef, undef, undef] : Array Value).getD us_ undef, rfl, C0, SL, SM, Lib.hid ⟨by omega, by omega⟩, Lib.hid (pairs_nil _ _)⟩) ?_
    rintro kq _ w8 ⟨k, us, rfl, C0, SL, SM, hk, hp⟩ K9 hK9
    rcases (show k < M.length ∨ k = M.length by have := hk.out; omega) with h | h
    · have hlt := Lib.hid h
      obtain ⟨y, ao, hy0, ha0, hyl0⟩ := right_at HRP.out h
      have hy := Lib.hid hy0
      have ha := Lib.hid ha0
      have hyl := Lib.hid hyl0
      clear h hy0 ha0 hyl0
      obtain ⟨b, hsm_b⟩ := src_some SM.out (by have := hlt.out; omega)
      subst hsm_b
      obtain ⟨a, hsm_a⟩ := src_some SL.out (by have := hyl.out; omega)
      subst hsm_a
      have D16 := Lib.hid (show (k : Int) < (M.length : Int) by have := hlt.out; omega)
      have Wk := Lib.hid (show IntKind.i64.wrap ((k : Int) + 1) = ((k + 1 : Nat) : Int) by rw [wr64 (by have := hlt.out; have := HM.out; omega)]; omega)
      obtain ⟨n2, B2, c2, hn20, hsl, hrest⟩ := src_from SM.out (show k + 1 ≤ M.length by have := hlt.out; omega) HD.out
      have HSL := Lib.hid hsl
      have HN2 := Lib.hid hn20
      clear hsl hn20
      refine s_ (fun K10 hK10 => ?_)
      refine pu_ (v := .bool true) (y_run (by rfl) (fun W => by have d := D16.out; go_simp)) ?_
      (try simp only [zP, zN, zA, zB, zC])
      refine nl_ (hK10 _ _ ?_); clear hK10 K10
      refine sq_ (fun K11 hK11 => ?_)
      refine wp_cond_true rfl ?_
      refine wp_skip ?_
      refine th_norm (hK11 _ _ ?_); try clear hK11 K11
      refine sq_ (fun K12 hK12 => ?_)
      refine wp_block ?_
      refine s_ (fun K13 hK13 => ?_)
      refine pu_ (v := .int .i64 k) (y_move rfl (by rfl) (by rfl)) ?_
      (try simp only [zP, zN, zA, zB, zC])
      refine pu_ (v := .pointer (some (b.add (k)))) (y_run (by rfl) (fun W => by have d := D16.out; go_simp)) ?_
      (try simp only [zP, zN, zA, zB, zC])
      refine ld_ (v := .int .i64 y) rfl (by rfl) (by rfl) (run_load_one (src_int SM.out hy.out) Try.underlying3 rfl) ?_
      (try simp only [zP, zN, zA, zB, zC])
      refine pu_ (v := .int .i64 k) (y_assign rfl (by rfl) (by rfl)) ?_
      (try simp only [zP, zN, zA, zB, zC])
      refine pu_ (v := .int .i64 y) (y_assign rfl (by rfl) (by rfl)) ?_
      (try simp only [zP, zN, zA, zB, zC])
      refine nl_ (hK13 _ _ ?_); clear hK13 K13
      refine s_ (fun K14 hK14 => ?_)
      refine pu_ (v := .slice (some b) M.length d) (y_move rfl (by rfl) (by rfl)) ?_
      (try simp only [zP, zN, zA, zB, zC])
      refine pu_ (v := .int .i64 k) (y_move rfl (by rfl) (by rfl)) ?_
      (try simp only [zP, zN, zA, zB, zC])
      refine pu_ (v := .int .i64 (k + 1 : Nat)) (y_run (by rfl) (fun W => by have d := Wk.out; go_simp)) ?_
      (try simp only [zP, zN, zA, zB, zC])
      refine pu_ (v := .slice B2 n2 c2) (y_slice (by rfl) rfl (by rfl) (by rfl) rfl rfl HSL.out) ?_
      (try simp only [zP, zN, zA, zB, zC])
      refine pu_ (v := .int .i64 n2) (y_run (by rfl) (fun W => by go_simp)) ?_
      (try simp only [zP, zN, zA, zB, zC])
      refine pu_ (v := .int .i64 0) (y_move rfl (by rfl) (by rfl)) ?_
      (try simp only [zP, zN, zA, zB, zC])
      refine nl_ (hK14 _ _ ?_); clear hK14 K14
      refine wp_block ?_
      refine loopk_ (fun (jq : Nat) (a' : Act) (w' : World) => ∃ (j : Nat), ∃ (us : Nat → Value), a' = ⟨#[.slice (some a) L.length c, .slice (some b) M.length d, us 2, us 3, .bool false, .int .i64 k, .int .i64 y, us 7, us 8, us 9, us 10, us 11, us 12, .slice (some b) M.length d, .int .i64 M.length, .int .i64 k, us 16, us 17, us 18, us 19, us 20, us 21, us 22, .slice B2 n2 c2, .int .i64 n2, .int .i64 j, us 26, us 27, us 28, us 29, us 30, us 31, us 32, us 33, us 34, us 35, us 36, us 37, us 38, us 39, us 40], []⟩ ∧ Hid (Ch [] w w') ∧ Hid (SrcIs w' (.slice (some a) L.length c) (L.length) ((L).flatMap opC) 28) ∧ Hid (SrcIs w' (.slice (some b) M.length d) (M.length) ((M).map (Value.int .i64)) 1) ∧ Hid (j ≤ n2 ∧ jq + j = n2) ∧ Hid (rowP L M k (k + 1 + j))) (n2) (⟨0, fun us_ => (#[.slice (some a) L.length c, .slice (some b) M.length d, us 2, us 3, .bool false, .int .i64 k, .int .i64 y, us 7, us 8, us 9, us 10, us 11, us 12, .slice (some b) M.length d, .int .i64 M.length, .int .i64 k, .bool true, .int .i64 k, .pointer (some (b.add (k))), .int .i64 y, .slice (some b) M.length d, .int .i64 k, .int .i64 (k + 1 : Nat), .slice B2 n2 c2, .int .i64 n2, .int .i64 0, us 26, us 27, us 28, us 29, us 30, us 31, us 32, us 33, us 34, us 35, us 36, us 37, us 38, us 39, us 40] : Array Value).getD us_ undef, rfl, C0, SL, SM, Lib.hid ⟨by omega, by omega⟩, Lib.hid (row_nil _ _ _)⟩) ?_
      rintro jq _ w15 ⟨j, us, rfl, C0, SL, SM, hj, hp2⟩ K16 hK16
      rcases (show j < n2 ∨ j = n2 by have := hj.out; omega) with jlt0 | h; obtain ⟨z, bo, hz0, hb0, hzl0⟩ := right_at HRP.out (show k + 1 + j < M.length by have := HN2.out; omega); rcases may_cases ao bo with h | h
      · have jlt := Lib.hid jlt0
        have hz := Lib.hid hz0
        have hb := Lib.hid hb0
        have hzl := Lib.hid hzl0
        have HMY := Lib.hid h
        clear h jlt0 hz0 hb0 hzl0
        obtain ⟨b2, hB2, hcell⟩ := hrest j (by have := jlt.out; omega)
        subst hB2
        have HCL := Lib.hid (hcell _ SM.out)
        clear hcell
        have D26 := Lib.hid (show (j : Int) < (n2 : Int) by have := jlt.out; omega)
        have Wj := Lib.hid (show IntKind.i64.wrap ((j : Int) + 1) = ((j + 1 : Nat) : Int) by rw [wr64 (by have := jlt.out; have := HM.out; have := HN2.out; omega)]; omega)
        have D31 := Lib.hid (show (y : Int) < (L.length : Int) by have := hyl.out; omega)
        have D35 := Lib.hid (show (z : Int) < (L.length : Int) by have := hzl.out; omega)
        refine s_ (fun K17 hK17 => ?_)
        refine pu_ (v := .bool true) (y_run (by rfl) (fun W => by have d := D26.out; go_simp)) ?_
        (try simp only [zP, zN, zA, zB, zC])
        refine nl_ (hK17 _ _ ?_); clear hK17 K17
        refine sq_ (fun K18 hK18 => ?_)
        refine wp_cond_true rfl ?_
        refine wp_skip ?_
        refine th_norm (hK18 _ _ ?_); try clear hK18 K18
        refine sq_ (fun K19 hK19 => ?_)
        refine wp_block ?_
        refine s_ (fun K20 hK20 => ?_)
        refine pu_ (v := .pointer (some (b2.add (j)))) (y_run (by rfl) (fun W => by have d := D26.out; go_simp)) ?_
        (try simp only [zP, zN, zA, zB, zC])
        refine ld_ (v := .int .i64 z) rfl (by rfl) (by rfl) (run_load_one (HCL.out.trans (by rw [List.getElem?_map, hz.out]; rfl)) Try.underlying3 rfl) ?_
        (try simp only [zP, zN, zA, zB, zC])
        refine pu_ (v := .int .i64 z) (y_assign rfl (by rfl) (by rfl)) ?_
        (try simp only [zP, zN, zA, zB, zC])
        refine nl_ (hK20 _ _ ?_); clear hK20 K20
        refine sq_ (fun K21 hK21 => ?_)
        refine startk_ (S := fun W => SrcIs W (.slice (some a) L.length c) (L.length) ((L).flatMap opC) 28 ∧ True) (ds := []) #[false, false, false, false, false, false, false, false, false, false] (by kernel_rfl) rfl rfl (fun W c => ⟨SL.out.chx c xnin_nil, trivial⟩) (fun w22 C23 hS24 => ?_)
        have C0' := Lib.hid (show Ch [] w w22 from C0.out.trans' C23 (fun x hx => absurd hx (by simp)))
        have SL' := Lib.hid (show SrcIs w22 (.slice (some a) L.length c) (L.length) ((L).flatMap opC) 28 from SL.out.chx C23 xnin_nil)
        have SM' := Lib.hid (show SrcIs w22 (.slice (some b) M.length d) (M.length) ((M).map (Value.int .i64)) 1 from SM.out.chx C23 xnin_nil)
        clear C0 SL SM
        have C0 := C0'; clear C0'
        have SL := SL'; clear SL'
        have SM := SM'; clear SM'
        clear C23
        refine pure_ (i := 0) (N := some 29) (v := .slice (some a) L.length c) #[true, false, false, false, false, false, false, false, false, false] rfl rfl (by kernel_rfl) (fun c a w h => hP c a _ _ w h) (y_move rfl (by rfl) (by rfl)) rfl ?_
        (try simp only [zP, zN, zA, zB, zC])
        refine pure_ (i := 1) (N := some 30) (v := .int .i64 y) #[true, true, false, false, false, false, false, false, false, false] rfl rfl (by kernel_rfl) (fun c a w h => hP c a _ _ w h) (y_move rfl (by rfl) (by rfl)) rfl ?_
        (try simp only [zP, zN, zA, zB, zC])
        refine pure_ (i := 2) (N := some 31) (v := .pointer (some (a.add (y * 28)))) #[true, true, true, false, false, false, false, false, false, false] rfl rfl (by kernel_rfl) (fun c a w h => hP c a _ _ w h) (y_run (by rfl) (fun W => by have d := D31.out; go_simp)) rfl ?_
        (try simp only [zP, zN, zA, zB, zC])
        refine take_ (i := 3) (N := some 32) (v := .agg (opC ao).toArray) #[true, true, true, true, false, false, false, false, false, false] rfl rfl (by kernel_rfl) (fun c a w h => hP c a _ _ w h) (y_load (p := (a.add (y * 28))) rfl (by rfl) (by rfl) (fun W hS => run_loadVar_at (src_elem hS.1 ha.out) Try.underlying49 rfl (by rw [opC_len]; kernel_rfl))) hS24 rfl ?_
        (try simp only [zP, zN, zA, zB, zC])
        refine pure_ (i := 4) (N := some 33) (v := .slice (some a) L.length c) #[true, true, true, true, true, false, false, false, false, false] rfl rfl (by kernel_rfl) (fun c a w h => hP c a _ _ w h) (y_move rfl (by rfl) (by rfl)) rfl ?_
        (try simp only [zP, zN, zA, zB, zC])
        refine pure_ (i := 5) (N := some 34) (v := .int .i64 z) #[true, true, true, true, true, true, false, false, false, false] rfl rfl (by kernel_rfl) (fun c a w h => hP c a _ _ w h) (y_move rfl (by rfl) (by rfl)) rfl ?_
        (try simp only [zP, zN, zA, zB, zC])
        refine pure_ (i := 6) (N := some 35) (v := .pointer (some (a.add (z * 28)))) #[true, true, true, true, true, true, true, false, false, false] rfl rfl (by kernel_rfl) (fun c a w h => hP c a _ _ w h) (y_run (by rfl) (fun W => by have d := D35.out; go_simp)) rfl ?_
        (try simp only [zP, zN, zA, zB, zC])
        refine take_ (i := 7) (N := some 36) (v := .agg (opC bo).toArray) #[true, true, true, true, true, true, true, true, false, false] rfl rfl (by kernel_rfl) (fun c a w h => hP c a _ _ w h) (y_load (p := (a.add (z * 28))) rfl (by rfl) (by rfl) (fun W hS => run_loadVar_at (src_elem hS.1 hb.out) Try.underlying49 rfl (by rw [opC_len]; kernel_rfl))) hS24 rfl ?_
        (try simp only [zP, zN, zA, zB, zC])
        refine one_ (i := 8) (N := some 37) #[true, true, true, true, true, true, true, true, true, false] rfl rfl (by kernel_rfl) (by simp) (fun K25 hK25 => ?_)
        refine e_call Try.func33 (by kernel_rfl) rfl #[.agg (opC ao).toArray, .agg (opC bo).toArray] (by rfl) rfl rfl (by first | rfl | (simp only [List.map_toArray, List.map_cons, List.map_nil]; first | done | rfl)) ((by have h := may_ (w := w22) ao bo; rw [HMY.out] at h; exact h)) ?_
        rintro en w26 ⟨rfl, cc⟩
        refine ⟨_, rfl, ?_⟩
        have C0' := Lib.hid (show Ch [] w w26 from C0.out.trans' cc (fun x hx => absurd hx (by simp)))
        have SL' := Lib.hid (show SrcIs w26 (.slice (some a) L.length c) (L.length) ((L).flatMap opC) 28 from SL.out.chx cc xnin_nil)
        have SM' := Lib.hid (show SrcIs w26 (.slice (some b) M.length d) (M.length) ((M).map (Value.int .i64)) 1 from SM.out.chx cc xnin_nil)
        clear C0 SL SM
        have C0 := C0'; clear C0'
        have SL := SL'; clear SL'
        have SM := SM'; clear SM'
        clear cc
        refine hK25.out _ _ ⟨SL.out, trivial⟩ (fun hS27 => ?_); clear hK25 K25
        (try simp only [zP, zN, zA, zB, zC])
        refine pure_ (i := 9) (N := some 38) (v := .bool false) #[true, true, true, true, true, true, true, true, true, true] rfl rfl (by kernel_rfl) (fun c a w h => hP c a _ _ w h) (y_run (by rfl) (fun W => by go_simp)) rfl ?_
        (try simp only [zP, zN, zA, zB, zC])
        refine done_ (by kernel_rfl) (th_norm (hK21 _ _ ?_)); clear hK21 K21
        refine wp_cond_false rfl ?_
        refine wp_skip ?_
        refine ib_norm ?_
        refine th_norm (hK19 _ _ ?_); try clear hK19 K19
        refine r_ ?_
        refine pu_ (v := .int .i64 (j + 1 : Nat)) (y_run (by rfl) (fun W => by have d := Wj.out; go_simp)) ?_
        (try simp only [zP, zN, zA, zB, zC])
        refine pu_ (v := .int .i64 (j + 1 : Nat)) (y_move rfl (by rfl) (by rfl)) ?_
        (try simp only [zP, zN, zA, zB, zC])
        refine nl_ ?_
        exact th_norm (hK16 (jq - 1) _ _ (by have := jlt.out; have := hj.out; omega) ⟨j + 1, fun us_ => (#[.slice (some a) L.length c, .slice (some b) M.length d, us 2, us 3, .bool false, .int .i64 k, .int .i64 y, us 7, .int .i64 z, us 9, us 10, us 11, us 12, .slice (some b) M.length d, .int .i64 M.length, .int .i64 k, us 16, us 17, us 18, us 19, us 20, us 21, us 22, .slice (some b2) n2 c2, .int .i64 n2, .int .i64 (j + 1 : Nat), .bool true, .pointer (some (b2.add (j))), .int .i64 z, .slice (some a) L.length c, .int .i64 y, .pointer (some (a.add (y * 28))), .agg (opC ao).toArray, .slice (some a) L.length c, .int .i64 z, .pointer (some (a.add (z * 28))), .agg (opC bo).toArray, .bool true, .bool false, .int .i64 (j + 1 : Nat), us 40] : Array Value).getD us_ undef, rfl, C0, SL, SM, Lib.hid ⟨by have := jlt.out; omega, by have := jlt.out; have := hj.out; omega⟩, Lib.hid (row_succ hy.out hz.out ha.out hb.out HMY.out hp2.out)⟩)
      · have jlt := Lib.hid jlt0
        have hz := Lib.hid hz0
        have hb := Lib.hid hb0
        have hzl := Lib.hid hzl0
        have HMY := Lib.hid h
        clear h jlt0 hz0 hb0 hzl0
        obtain ⟨b2, hB2, hcell⟩ := hrest j (by have := jlt.out; omega)
        subst hB2
        have HCL := Lib.hid (hcell _ SM.out)
        clear hcell
        have D26 := Lib.hid (show (j : Int) < (n2 : Int) by have := jlt.out; omega)
        have Wj := Lib.hid (show IntKind.i64.wrap ((j : Int) + 1) = ((j + 1 : Nat) : Int) by rw [wr64 (by have := jlt.out; have := HM.out; have := HN2.out; omega)]; omega)
        have D31 := Lib.hid (show (y : Int) < (L.length : Int) by have := hyl.out; omega)
        have D35 := Lib.hid (show (z : Int) < (L.length : Int) by have := hzl.out; omega)
        refine s_ (fun K28 hK28 => ?_)
        refine pu_ (v := .bool true) (y_run (by rfl) (fun W => by have d := D26.out; go_simp)) ?_
        (try simp only [zP, zN, zA, zB, zC])
        refine nl_ (hK28 _ _ ?_); clear hK28 K28
        refine sq_ (fun K29 hK29 => ?_)
        refine wp_cond_true rfl ?_
        refine wp_skip ?_
        refine th_norm (hK29 _ _ ?_); try clear hK29 K29
        refine sq_ (fun K30 hK30 => ?_)
        refine wp_block ?_
        refine s_ (fun K31 hK31 => ?_)
        refine pu_ (v := .pointer (some (b2.add (j)))) (y_run (by rfl) (fun W => by have d := D26.out; go_simp)) ?_
        (try simp only [zP, zN, zA, zB, zC])
        refine ld_ (v := .int .i64 z) rfl (by rfl) (by rfl) (run_load_one (HCL.out.trans (by rw [List.getElem?_map, hz.out]; rfl)) Try.underlying3 rfl) ?_
        (try simp only [zP, zN, zA, zB, zC])
        refine pu_ (v := .int .i64 z) (y_assign rfl (by rfl) (by rfl)) ?_
        (try simp only [zP, zN, zA, zB, zC])
        refine nl_ (hK31 _ _ ?_); clear hK31 K31
        refine sq_ (fun K32 hK32 => ?_)
        refine startk_ (S := fun W => SrcIs W (.slice (some a) L.length c) (L.length) ((L).flatMap opC) 28 ∧ True) (ds := []) #[false, false, false, false, false, false, false, false, false, false] (by kernel_rfl) rfl rfl (fun W c => ⟨SL.out.chx c xnin_nil, trivial⟩) (fun w33 C34 hS35 => ?_)
        have C0' := Lib.hid (show Ch [] w w33 from C0.out.trans' C34 (fun x hx => absurd hx (by simp)))
        have SL' := Lib.hid (show SrcIs w33 (.slice (some a) L.length c) (L.length) ((L).flatMap opC) 28 from SL.out.chx C34 xnin_nil)
        have SM' := Lib.hid (show SrcIs w33 (.slice (some b) M.length d) (M.length) ((M).map (Value.int .i64)) 1 from SM.out.chx C34 xnin_nil)
        clear C0 SL SM
        have C0 := C0'; clear C0'
        have SL := SL'; clear SL'
        have SM := SM'; clear SM'
        clear C34
        refine pure_ (i := 0) (N := some 29) (v := .slice (some a) L.length c) #[true, false, false, false, false, false, false, false, false, false] rfl rfl (by kernel_rfl) (fun c a w h => hP c a _ _ w h) (y_move rfl (by rfl) (by rfl)) rfl ?_
        (try simp only [zP, zN, zA, zB, zC])
        refine pure_ (i := 1) (N := some 30) (v := .int .i64 y) #[true, true, false, false, false, false, false, false, false, false] rfl rfl (by kernel_rfl) (fun c a w h => hP c a _ _ w h) (y_move rfl (by rfl) (by rfl)) rfl ?_
        (try simp only [zP, zN, zA, zB, zC])
        refine pure_ (i := 2) (N := some 31) (v := .pointer (some (a.add (y * 28)))) #[true, true, true, false, false, false, false, false, false, false] rfl rfl (by kernel_rfl) (fun c a w h => hP c a _ _ w h) (y_run (by rfl) (fun W => by have d := D31.out; go_simp)) rfl ?_
        (try simp only [zP, zN, zA, zB, zC])
        refine take_ (i := 3) (N := some 32) (v := .agg (opC ao).toArray) #[true, true, true, true, false, false, false, false, false, false] rfl rfl (by kernel_rfl) (fun c a w h => hP c a _ _ w h) (y_load (p := (a.add (y * 28))) rfl (by rfl) (by rfl) (fun W hS => run_loadVar_at (src_elem hS.1 ha.out) Try.underlying49 rfl (by rw [opC_len]; kernel_rfl))) hS35 rfl ?_
        (try simp only [zP, zN, zA, zB, zC])
        refine pure_ (i := 4) (N := some 33) (v := .slice (some a) L.length c) #[true, true, true, true, true, false, false, false, false, false] rfl rfl (by kernel_rfl) (fun c a w h => hP c a _ _ w h) (y_move rfl (by rfl) (by rfl)) rfl ?_
        (try simp only [zP, zN, zA, zB, zC])
        refine pure_ (i := 5) (N := some 34) (v := .int .i64 z) #[true, true, true, true, true, true, false, false, false, false] rfl rfl (by kernel_rfl) (fun c a w h => hP c a _ _ w h) (y_move rfl (by rfl) (by rfl)) rfl ?_
        (try simp only [zP, zN, zA, zB, zC])
        refine pure_ (i := 6) (N := some 35) (v := .pointer (some (a.add (z * 28)))) #[true, true, true, true, true, true, true, false, false, false] rfl rfl (by kernel_rfl) (fun c a w h => hP c a _ _ w h) (y_run (by rfl) (fun W => by have d := D35.out; go_simp)) rfl ?_
        (try simp only [zP, zN, zA, zB, zC])
        refine take_ (i := 7) (N := some 36) (v := .agg (opC bo).toArray) #[true, true, true, true, true, true, true, true, false, false] rfl rfl (by kernel_rfl) (fun c a w h => hP c a _ _ w h) (y_load (p := (a.add (z * 28))) rfl (by rfl) (by rfl) (fun W hS => run_loadVar_at (src_elem hS.1 hb.out) Try.underlying49 rfl (by rw [opC_len]; kernel_rfl))) hS35 rfl ?_
        (try simp only [zP, zN, zA, zB, zC])
        refine one_ (i := 8) (N := some 37) #[true, true, true, true, true, true, true, true, true, false] rfl rfl (by kernel_rfl) (by simp) (fun K36 hK36 => ?_)
        refine e_call Try.func33 (by kernel_rfl) rfl #[.agg (opC ao).toArray, .agg (opC bo).toArray] (by rfl) rfl rfl (by first | rfl | (simp only [List.map_toArray, List.map_cons, List.map_nil]; first | done | rfl)) ((by have h := may_ (w := w33) ao bo; rw [HMY.out] at h; exact h)) ?_
        rintro en w37 ⟨rfl, cc⟩
        refine ⟨_, rfl, ?_⟩
        have C0' := Lib.hid (show Ch [] w w37 from C0.out.trans' cc (fun x hx => absurd hx (by simp)))
        have SL' := Lib.hid (show SrcIs w37 (.slice (some a) L.length c) (L.length) ((L).flatMap opC) 28 from SL.out.chx cc xnin_nil)
        have SM' := Lib.hid (show SrcIs w37 (.slice (some b) M.length d) (M.length) ((M).map (Value.int .i64)) 1 from SM.out.chx cc xnin_nil)
        clear C0 SL SM
        have C0 := C0'; clear C0'
        have SL := SL'; clear SL'
        have SM := SM'; clear SM'
        clear cc
        refine hK36.out _ _ ⟨SL.out, trivial⟩ (fun hS38 => ?_); clear hK36 K36
        (try simp only [zP, zN, zA, zB, zC])
        refine pure_ (i := 9) (N := some 38) (v := .bool true) #[true, true, true, true, true, true, true, true, true, true] rfl rfl (by kernel_rfl) (fun c a w h => hP c a _ _ w h) (y_run (by rfl) (fun W => by go_simp)) rfl ?_
        (try simp only [zP, zN, zA, zB, zC])
        refine done_ (by kernel_rfl) (th_norm (hK32 _ _ ?_)); clear hK32 K32
        refine wp_cond_true rfl ?_
        refine s_ (fun K39 hK39 => ?_)
        refine pu_ (v := .bool false) (y_assign rfl (by rfl) (by rfl)) ?_
        (try simp only [zP, zN, zA, zB, zC])
        refine nl_ (hK39 _ _ ?_); clear hK39 K39
        refine wp_ret ?_
        refine ib_ret ?_
        refine th_ret ?_
        refine th_ret ?_
        refine ib_ret ?_
        refine ib_ret ?_
        refine th_ret ?_
        refine th_ret ?_
        refine ib_ret ?_
        refine th_ret ?_
        refine hQ _ _ _ ?_
        refine bodyPost_ret (res1 rfl (rdv_tmp (v := .bool false) (by rfl))) rfl ?_
        exact ⟨_, rfl, ⟨fun h => absurd h (by decide), fun h => absurd h.2 (pairs_not hy.out hz.out ha.out hb.out HMY.out)⟩, C0.out⟩
      · have D26 := Lib.hid (show ¬ j < n2 by have := hj.out; omega)
        have HE1 := Lib.hid h
        clear h
        refine s_ (fun K40 hK40 => ?_)
        refine pu_ (v := .bool false) (y_run (by rfl) (fun W => by have d := D26.out; go_simp)) ?_
        (try simp only [zP, zN, zA, zB, zC])
        refine nl_ (hK40 _ _ ?_); clear hK40 K40
        refine sq_ (fun K41 hK41 => ?_)
        refine wp_cond_false rfl ?_
        refine wp_exit ?_
        refine th_exit ?_
        refine th_exit ?_
        refine ib_exit ?_
        refine ib_norm ?_
        refine th_norm (hK12 _ _ ?_); try clear hK12 K12
        refine r_ ?_
        refine pu_ (v := .int .i64 (k + 1 : Nat)) (y_run (by rfl) (fun W => by have d := Wk.out; go_simp)) ?_
        (try simp only [zP, zN, zA, zB, zC])
        refine pu_ (v := .int .i64 (k + 1 : Nat)) (y_move rfl (by rfl) (by rfl)) ?_
        (try simp only [zP, zN, zA, zB, zC])
        refine nl_ ?_
        exact th_norm (hK9 (kq - 1) _ _ (by have := hlt.out; have := hk.out; omega) ⟨k + 1, fun us_ => (#[.slice (some a) L.length c, .slice (some b) M.length d, us 2, us 3, .bool false, .int .i64 k, .int .i64 y, us 7, us 8, us 9, us 10, us 11, us 12, .slice (some b) M.length d, .int .i64 M.length, .int .i64 (k + 1 : Nat), us 16, us 17, us 18, us 19, us 20, us 21, us 22, .slice B2 n2 c2, .int .i64 n2, .int .i64 j, .bool false, us 27, us 28, us 29, us 30, us 31, us 32, us 33, us 34, us 35, us 36, us 37, us 38, us 39, .int .i64 (k + 1 : Nat)] : Array Value).getD us_ undef, rfl, C0, SL, SM, Lib.hid ⟨by have := hlt.out; omega, by have := hlt.out; have := hk.out; omega⟩, Lib.hid (pairs_succ hp.out (by have h := hp2.out; have h2 := HE1.out; have h3 := HN2.out; have h4 := hlt.out; rw [show k + 1 + j = M.length by omega] at h; exact h))⟩)
    · have D16 := Lib.hid (show ¬ k < M.length by have := hk.out; omega)
      have HE := Lib.hid h
      clear h
      refine s_ (fun K42 hK42 => ?_)
      refine pu_ (v := .bool false) (y_run (by rfl) (fun W => by have d := D16.out; go_simp)) ?_
      (try simp only [zP, zN, zA, zB, zC])
      refine nl_ (hK42 _ _ ?_); clear hK42 K42
      refine sq_ (fun K43 hK43 => ?_)
      refine wp_cond_false rfl ?_
      refine wp_exit ?_
      refine th_exit ?_
      refine th_exit ?_
      refine ib_exit ?_
      refine th_norm (hK6 _ _ ?_); try clear hK6 K6
      refine s_ (fun K44 hK44 => ?_)
      refine pu_ (v := .bool true) (y_assign rfl (by rfl) (by rfl)) ?_
      (try simp only [zP, zN, zA, zB, zC])
      refine nl_ (hK44 _ _ ?_); clear hK44 K44
      refine wp_ret ?_
      refine hQ _ _ _ ?_
      refine bodyPost_ret (res1 rfl (rdv_tmp (v := .bool true) (by rfl))) rfl ?_
      exact ⟨_, rfl, ⟨fun _ => ⟨HRP.out, by have h := hp.out; rw [HE.out] at h; exact h⟩, fun _ => rfl⟩, C0.out⟩
  · have HRP := Lib.hid h
    clear h
    refine s_ (fun K45 hK45 => ?_)
    refine pu_ (v := .slice A L.length c) (y_move rfl (by rfl) (by rfl)) ?_
    (try simp only [zP, zN, zA, zB, zC])
    refine pu_ (v := .slice B M.length d) (y_move rfl (by rfl) (by rfl)) ?_
    (try simp only [zP, zN, zA, zB, zC])
    refine ef_ (fun K46 hK46 => ?_)
    refine e_call Try.func52 (by kernel_rfl) rfl #[.slice A L.length c, .slice B M.length d] (by rfl) rfl rfl (by first | rfl | (simp only [List.map_toArray, List.map_cons, List.map_nil]; first | done | rfl)) ((ynF (right_ HN HM SL SM) HRP.out)) ?_
    rintro en w47 ⟨rfl, cc⟩
    refine ⟨_, rfl, ?_⟩
    have C0' := Lib.hid (show Ch [] w w47 from C0.out.trans' cc (fun x hx => absurd hx (by simp)))
    have SL' := Lib.hid (show SrcIs w47 (.slice A L.length c) (L.length) ((L).flatMap opC) 28 from SL.out.chx cc xnin_nil)
    have SM' := Lib.hid (show SrcIs w47 (.slice B M.length d) (M.length) ((M).map (Value.int .i64)) 1 from SM.out.chx cc xnin_nil)
    clear C0 SL SM
    have C0 := C0'; clear C0'
    have SL := SL'; clear SL'
    have SM := SM'; clear SM'
    clear cc
    refine hK46 _ _ ?_; clear hK46 K46
    (try simp only [zP, zN, zA, zB, zC])
    refine pu_ (v := .bool true) (y_run (by rfl) (fun W => by go_simp)) ?_
    (try simp only [zP, zN, zA, zB, zC])
    refine nl_ (hK45 _ _ ?_); clear hK45 K45
    refine wp_cond_true rfl ?_
    refine s_ (fun K48 hK48 => ?_)
    refine pu_ (v := .bool false) (y_assign rfl (by rfl) (by rfl)) ?_
    (try simp only [zP, zN, zA, zB, zC])
    refine nl_ (hK48 _ _ ?_); clear hK48 K48
    refine wp_ret ?_
    refine th_ret ?_
    refine hQ _ _ _ ?_
    refine bodyPost_ret (res1 rfl (rdv_tmp (v := .bool false) (by rfl))) rfl ?_
    exact ⟨_, rfl, ⟨fun h => absurd h (by decide), fun h => absurd h.1 HRP.out⟩, C0.out⟩
theorem nan_ {x : Int}  :
    Calls Try.prog 63 #[.int .i64 x] w fun en w' => en = .returned (.bool false) ∧ Ch [] w w' := by
  have C0 := Lib.hid (Ch.refl [] w)
  go_enter Try.func63, Try.ntmps63
  refine q_ (fun Q hQ hP => ?_)
  refine s_ (fun K1 hK1 => ?_)
  refine pu_ (v := .bool false) (y_assign rfl (by rfl) (by rfl)) ?_
  (try simp only [zP, zN, zA, zB, zC])
  refine nl_ (hK1 _ _ ?_); clear hK1 K1
  refine s_ (fun K2 hK2 => ?_)
  refine pu_ (v := .int .i64 x) (y_move rfl (by rfl) (by rfl)) ?_
  (try simp only [zP, zN, zA, zB, zC])
  refine pu_ (v := .int .i64 x) (y_move rfl (by rfl) (by rfl)) ?_
  (try simp only [zP, zN, zA, zB, zC])
  refine pu_ (v := .bool false) (y_run (by rfl) (fun W => by go_simp)) ?_
  (try simp only [zP, zN, zA, zB, zC])
  refine pu_ (v := .bool false) (y_assign rfl (by rfl) (by rfl)) ?_
  (try simp only [zP, zN, zA, zB, zC])
  refine nl_ (hK2 _ _ ?_); clear hK2 K2
  refine wp_ret ?_
  refine hQ _ _ _ ?_
  refine bodyPost_ret (res1 rfl (rdv_tmp (v := .bool false) (by rfl))) rfl ?_
  exact ⟨rfl, C0.out⟩
theorem compare_ {x y : Int}  :
    Calls Try.prog 55 #[.int .i64 x, .int .i64 y] w fun en w' => en = .returned (.int .i64 (cmpI x y)) ∧ Ch [] w w' := by
  have C0 := Lib.hid (Ch.refl [] w)
  go_enter Try.func55, Try.ntmps55
  refine q_ (fun Q hQ hP => ?_)
  refine s_ (fun K1 hK1 => ?_)
  refine pu_ (v := .int .i64 0) (y_assign rfl (by rfl) (by rfl)) ?_
  (try simp only [zP, zN, zA, zB, zC])
  refine nl_ (hK1 _ _ ?_); clear hK1 K1
  refine s_ (fun K2 hK2 => ?_)
  refine pu_ (v := .int .i64 x) (y_move rfl (by rfl) (by rfl)) ?_
  (try simp only [zP, zN, zA, zB, zC])
  refine ef_ (fun K3 hK3 => ?_)
  refine e_call Try.func63 (by kernel_rfl) rfl #[.int .i64 x] (by rfl) rfl rfl (by first | rfl | (simp only [List.map_toArray, List.map_cons, List.map_nil]; first | done | rfl)) (nan_) ?_
  rintro en w5 ⟨rfl, cc4⟩
  refine ⟨_, rfl, ?_⟩
  have C0' := Lib.hid (show Ch [] w w5 from C0.out.trans' cc4 (fun x hx => absurd hx (by simp)))
  clear C0
  have C0 := C0'; clear C0'
  clear cc4
  refine hK3 _ _ ?_; clear hK3 K3
  (try simp only [zP, zN, zA, zB, zC])
  refine pu_ (v := .bool false) (y_assign rfl (by rfl) (by rfl)) ?_
  (try simp only [zP, zN, zA, zB, zC])
  refine nl_ (hK2 _ _ ?_); clear hK2 K2
  refine s_ (fun K6 hK6 => ?_)
  refine pu_ (v := .int .i64 y) (y_move rfl (by rfl) (by rfl)) ?_
  (try simp only [zP, zN, zA, zB, zC])
  refine ef_ (fun K7 hK7 => ?_)
  refine e_call Try.func63 (by kernel_rfl) rfl #[.int .i64 y] (by rfl) rfl rfl (by first | rfl | (simp only [List.map_toArray, List.map_cons, List.map_nil]; first | done | rfl)) (nan_) ?_
  rintro en w9 ⟨rfl, cc8⟩
  refine ⟨_, rfl, ?_⟩
  have C0' := Lib.hid (show Ch [] w w9 from C0.out.trans' cc8 (fun x hx => absurd hx (by simp)))
  clear C0
  have C0 := C0'; clear C0'
  clear cc8
  refine hK7 _ _ ?_; clear hK7 K7
  (try simp only [zP, zN, zA, zB, zC])
  refine pu_ (v := .bool false) (y_assign rfl (by rfl) (by rfl)) ?_
  (try simp only [zP, zN, zA, zB, zC])
  refine nl_ (hK6 _ _ ?_); clear hK6 K6
  refine sq_ (fun K10 hK10 => ?_)
  refine s_ (fun K11 hK11 => ?_)
  refine pu_ (v := .bool false) (y_move rfl (by rfl) (by rfl)) ?_
  (try simp only [zP, zN, zA, zB, zC])
  refine nl_ (hK11 _ _ ?_); clear hK11 K11
  refine wp_cond_false rfl ?_
  refine wp_skip ?_
  refine th_norm (hK10 _ _ ?_); try clear hK10 K10
  refine sq_ (fun K12 hK12 => ?_)
  refine s_ (fun K13 hK13 => ?_)
  refine pu_ (v := .bool false) (y_move rfl (by rfl) (by rfl)) ?_
  (try simp only [zP, zN, zA, zB, zC])
  refine nl_ (hK13 _ _ ?_); clear hK13 K13
  refine wp_cond_false rfl ?_
  refine wp_skip ?_
  refine th_norm (hK12 _ _ ?_); try clear hK12 K12
  refine sq_ (fun K14 hK14 => ?_)
  rcases cmp_ways x y with h | h | h
  · have D16 := Lib.hid (show decide (x < y) = true from decide_eq_true h)
    have HR := Lib.hid (show cmpI x y = -1 from if_pos h)
    clear h
    refine s_ (fun K15 hK15 => ?_)
    refine pu_ (v := .int .i64 x) (y_move rfl (by rfl) (by rfl)) ?_
    (try simp only [zP, zN, zA, zB, zC])
    refine pu_ (v := .int .i64 y) (y_move rfl (by rfl) (by rfl)) ?_
    (try simp only [zP, zN, zA, zB, zC])
    refine pu_ (v := .bool true) (y_run (by rfl) (fun W => by have d := D16.out; go_simp)) ?_
    (try simp only [zP, zN, zA, zB, zC])
    refine nl_ (hK15 _ _ ?_); clear hK15 K15
    refine wp_cond_true rfl ?_
    refine s_ (fun K16 hK16 => ?_)
    refine pu_ (v := .int .i64 (-1)) (y_assign rfl (by rfl) (by rfl)) ?_
    (try simp only [zP, zN, zA, zB, zC])
    refine nl_ (hK16 _ _ ?_); clear hK16 K16
    refine wp_ret ?_
    refine th_ret ?_
    refine hQ _ _ _ ?_
    refine bodyPost_ret (res1 rfl (rdv_tmp (v := .int .i64 (-1)) (by rfl))) rfl ?_
    exact ⟨by rw [HR.out], C0.out⟩
  · have D16 := Lib.hid (show decide (x < y) = false from decide_eq_false h.1)
    have D19 := Lib.hid (show decide (x > y) = true from decide_eq_true h.2)
    have HR := Lib.hid (show cmpI x y = 1 from (if_neg h.1).trans (if_pos h.2))
    clear h
    refine s_ (fun K17 hK17 => ?_)
    refine pu_ (v := .int .i64 x) (y_move rfl (by rfl) (by rfl)) ?_
    (try simp only [zP, zN, zA, zB, zC])
    refine pu_ (v := .int .i64 y) (y_move rfl (by rfl) (by rfl)) ?_
    (try simp only [zP, zN, zA, zB, zC])
    refine pu_ (v := .bool false) (y_run (by rfl) (fun W => by have d := D16.out; go_simp)) ?_
    (try simp only [zP, zN, zA, zB, zC])
    refine nl_ (hK17 _ _ ?_); clear hK17 K17
    refine wp_cond_false rfl ?_
    refine wp_skip ?_
    refine th_norm (hK14 _ _ ?_); try clear hK14 K14
    refine sq_ (fun K18 hK18 => ?_)
    refine s_ (fun K19 hK19 => ?_)
    refine pu_ (v := .int .i64 x) (y_move rfl (by rfl) (by rfl)) ?_
    (try simp only [zP, zN, zA, zB, zC])
    refine pu_ (v := .int .i64 y) (y_move rfl (by rfl) (by rfl)) ?_
    (try simp only [zP, zN, zA, zB, zC])
    refine pu_ (v := .bool true) (y_run (by rfl) (fun W => by have d := D19.out; go_simp)) ?_
    (try simp only [zP, zN, zA, zB, zC])
    refine nl_ (hK19 _ _ ?_); clear hK19 K19
    refine wp_cond_true rfl ?_
    refine s_ (fun K20 hK20 => ?_)
    refine pu_ (v := .int .i64 1) (y_assign rfl (by rfl) (by rfl)) ?_
    (try simp only [zP, zN, zA, zB, zC])
    refine nl_ (hK20 _ _ ?_); clear hK20 K20
    refine wp_ret ?_
    refine th_ret ?_
    refine hQ _ _ _ ?_
    refine bodyPost_ret (res1 rfl (rdv_tmp (v := .int .i64 1) (by rfl))) rfl ?_
    exact ⟨by rw [HR.out], C0.out⟩
  · have D16 := Lib.hid (show decide (x < y) = false from decide_eq_false h.1)
    have D19 := Lib.hid (show decide (x > y) = false from decide_eq_false h.2)
    have HR := Lib.hid (show cmpI x y = 0 from (if_neg h.1).trans (if_neg h.2))
    clear h
    refine s_ (fun K21 hK21 => ?_)
    refine pu_ (v := .int .i64 x) (y_move rfl (by rfl) (by rfl)) ?_
    (try simp only [zP, zN, zA, zB, zC])
    refine pu_ (v := .int .i64 y) (y_move rfl (by rfl) (by rfl)) ?_
    (try simp only [zP, zN, zA, zB, zC])
    refine pu_ (v := .bool false) (y_run (by rfl) (fun W => by have d := D16.out; go_simp)) ?_
    (try simp only [zP, zN, zA, zB, zC])
    refine nl_ (hK21 _ _ ?_); clear hK21 K21
    refine wp_cond_false rfl ?_
    refine wp_skip ?_
    refine th_norm (hK14 _ _ ?_); try clear hK14 K14
    refine sq_ (fun K22 hK22 => ?_)
    refine s_ (fun K23 hK23 => ?_)
    refine pu_ (v := .int .i64 x) (y_move rfl (by rfl) (by rfl)) ?_
    (try simp only [zP, zN, zA, zB, zC])
    refine pu_ (v := .int .i64 y) (y_move rfl (by rfl) (by rfl)) ?_
    (try simp only [zP, zN, zA, zB, zC])
    refine pu_ (v := .bool false) (y_run (by rfl) (fun W => by have d := D19.out; go_simp)) ?_
    (try simp only [zP, zN, zA, zB, zC])
    refine nl_ (hK23 _ _ ?_); clear hK23 K23
    refine wp_cond_false rfl ?_
    refine wp_skip ?_
    refine th_norm (hK22 _ _ ?_); try clear hK22 K22
    refine s_ (fun K24 hK24 => ?_)
    refine pu_ (v := .int .i64 0) (y_assign rfl (by rfl) (by rfl)) ?_
    (try simp only [zP, zN, zA, zB, zC])
    refine nl_ (hK24 _ _ ?_); clear hK24 K24
    refine wp_ret ?_
    refine hQ _ _ _ ?_
    refine bodyPost_ret (res1 rfl (rdv_tmp (v := .int .i64 0) (by rfl))) rfl ?_
    exact ⟨by rw [HR.out], C0.out⟩
theorem cmp_ {a : Addr} {c bx : Nat} {L : List HOp} {y z : Nat} {ao bo : HOp} (HA : Hid (L[y]? = some ao)) (HB : Hid (L[z]? = some bo)) (FX : Hid (Blk w bx (#[.slice (some a) L.length c]) 45)) (SL : Hid (SrcIs w (.slice (some a) L.length c) (L.length) ((L).flatMap opC) 28)) :
    Calls Try.prog 54 #[.int .i64 y, .int .i64 z, .pointer (some ⟨bx, 0, none⟩)] w fun en w' => en = .returned (.int .i64 (cmpI ao.d bo.d)) ∧ Ch [] w w' := by
  have C0 := Lib.hid (Ch.refl [] w)
  go_enter Try.func54, Try.ntmps54
  refine q_ (fun Q hQ hP => ?_)
  refine s_ (fun K1 hK1 => ?_)
  refine pu_ (v := .int .i64 0) (y_assign rfl (by rfl) (by rfl)) ?_
  (try simp only [zP, zN, zA, zB, zC])
  refine nl_ (hK1 _ _ ?_); clear hK1 K1
  skip
  · have D8 := Lib.hid (show (y : Int) < (L.length : Int) by have := (List.getElem?_eq_some_iff.1 HA.out).1; omega)
    have D13 := Lib.hid (show (z : Int) < (L.length : Int) by have := (List.getElem?_eq_some_iff.1 HB.out).1; omega)
    refine sq_ (fun K2 hK2 => ?_)
    refine startk_ (S := fun W => Blk W bx (#[.slice (some a) L.length c]) 45 ∧ SrcIs W (.slice (some a) L.length c) (L.length) ((L).flatMap opC) 28 ∧ True) (ds := []) #[false, false, false, false, false, false, false, false, false, false, false, false] (by kernel_rfl) rfl rfl (fun W c => ⟨c.blk FX.out nin_nil, SL.out.chx c xnin_nil, trivial⟩) (fun w3 C4 hS5 => ?_)
    have C0' := Lib.hid (show Ch [] w w3 from C0.out.trans' C4 (fun x hx => absurd hx (by simp)))
    have FX' := Lib.hid (show Blk w3 bx (#[.slice (some a) L.length c]) 45 from C4.blk FX.out nin_nil)
    have SL' := Lib.hid (show SrcIs w3 (.slice (some a) L.length c) (L.length) ((L).flatMap opC) 28 from SL.out.chx C4 xnin_nil)
    clear C0 FX SL
    have C0 := C0'; clear C0'
    have FX := FX'; clear FX'
    have SL := SL'; clear SL'
    clear C4
    refine take_ (i := 0) (N := some 6) (v := .slice (some a) L.length c) #[true, false, false, false, false, false, false, false, false, false, false, false] rfl rfl (by kernel_rfl) (fun c a w h => hP c a _ _ w h) (y_load (p := ⟨bx, 0, none⟩) rfl (by rfl) (by rfl) (fun W hS => run_load_one ((hS.1.cell 0).trans rfl) Try.underlying45 rfl)) hS5 rfl ?_
    (try simp only [zP, zN, zA, zB, zC])
    refine pure_ (i := 1) (N := some 7) (v := .int .i64 y) #[true, true, false, false, false, false, false, false, false, false, false, false] rfl rfl (by kernel_rfl) (fun c a w h => hP c a _ _ w h) (y_move rfl (by rfl) (by rfl)) rfl ?_
    (try simp only [zP, zN, zA, zB, zC])
    refine pure_ (i := 2) (N := some 8) (v := .pointer (some (a.add (y * 28)))) #[true, true, true, false, false, false, false, false, false, false, false, false] rfl rfl (by kernel_rfl) (fun c a w h => hP c a _ _ w h) (y_run (by rfl) (fun W => by have d := D8.out; go_simp)) rfl ?_
    (try simp only [zP, zN, zA, zB, zC])
    refine pure_ (i := 3) (N := some 9) (v := .pointer (some ((a.add (y * 28)).add 3))) #[true, true, true, true, false, false, false, false, false, false, false, false] rfl rfl (by kernel_rfl) (fun c a w h => hP c a _ _ w h) (y_run (by rfl) (fun W => by go_simp)) rfl ?_
    (try simp only [zP, zN, zA, zB, zC])
    refine take_ (i := 4) (N := some 10) (v := .int .i64 ao.d) #[true, true, true, true, true, false, false, false, false, false, false, false] rfl rfl (by kernel_rfl) (fun c a w h => hP c a _ _ w h) (y_load (p := ((a.add (y * 28)).add 3)) rfl (by rfl) (by rfl) (fun W hS => run_load_one (src_elem hS.2.1 HA.out 3 _ (by simp [opC])) Try.underlying3 rfl)) hS5 rfl ?_
    (try simp only [zP, zN, zA, zB, zC])
    refine take_ (i := 5) (N := some 11) (v := .slice (some a) L.length c) #[true, true, true, true, true, true, false, false, false, false, false, false] rfl rfl (by kernel_rfl) (fun c a w h => hP c a _ _ w h) (y_load (p := ⟨bx, 0, none⟩) rfl (by rfl) (by rfl) (fun W hS => run_load_one ((hS.1.cell 0).trans rfl) Try.underlying45 rfl)) hS5 rfl ?_
    (try simp only [zP, zN, zA, zB, zC])
    refine pure_ (i := 6) (N := some 12) (v := .int .i64 z) #[true, true, true, true, true, true, true, false, false, false, false, false] rfl rfl (by kernel_rfl) (fun c a w h => hP c a _ _ w h) (y_move rfl (by rfl) (by rfl)) rfl ?_
    (try simp only [zP, zN, zA, zB, zC])
    refine pure_ (i := 7) (N := some 13) (v := .pointer (some (a.add (z * 28)))) #[true, true, true, true, true, true, true, true, false, false, false, false] rfl rfl (by kernel_rfl) (fun c a w h => hP c a _ _ w h) (y_run (by rfl) (fun W => by have d := D13.out; go_simp)) rfl ?_
    (try simp only [zP, zN, zA, zB, zC])
    refine pure_ (i := 8) (N := some 14) (v := .pointer (some ((a.add (z * 28)).add 3))) #[true, true, true, true, true, true, true, true, true, false, false, false] rfl rfl (by kernel_rfl) (fun c a w h => hP c a _ _ w h) (y_run (by rfl) (fun W => by go_simp)) rfl ?_
    (try simp only [zP, zN, zA, zB, zC])
    refine take_ (i := 9) (N := some 15) (v := .int .i64 bo.d) #[true, true, true, true, true, true, true, true, true, true, false, false] rfl rfl (by kernel_rfl) (fun c a w h => hP c a _ _ w h) (y_load (p := ((a.add (z * 28)).add 3)) rfl (by rfl) (by rfl) (fun W hS => run_load_one (src_elem hS.2.1 HB.out 3 _ (by simp [opC])) Try.underlying3 rfl)) hS5 rfl ?_
    (try simp only [zP, zN, zA, zB, zC])
    refine one_ (i := 10) (N := some 16) #[true, true, true, true, true, true, true, true, true, true, true, false] rfl rfl (by kernel_rfl) (by simp) (fun K6 hK6 => ?_)
    refine e_call Try.func55 (by kernel_rfl) rfl #[.int .i64 ao.d, .int .i64 bo.d] (by rfl) rfl rfl (by first | rfl | (simp only [List.map_toArray, List.map_cons, List.map_nil]; first | done | rfl)) (compare_) ?_
    rintro en w7 ⟨rfl, cc⟩
    refine ⟨_, rfl, ?_⟩
    have C0' := Lib.hid (show Ch [] w w7 from C0.out.trans' cc (fun x hx => absurd hx (by simp)))
    have FX' := Lib.hid (show Blk w7 bx (#[.slice (some a) L.length c]) 45 from cc.blk FX.out nin_nil)
    have SL' := Lib.hid (show SrcIs w7 (.slice (some a) L.length c) (L.length) ((L).flatMap opC) 28 from SL.out.chx cc xnin_nil)
    clear C0 FX SL
    have C0 := C0'; clear C0'
    have FX := FX'; clear FX'
    have SL := SL'; clear SL'
    clear cc
    refine hK6.out _ _ ⟨FX.out, SL.out, trivial⟩ (fun hS8 => ?_); clear hK6 K6
    (try simp only [zP, zN, zA, zB, zC])
    refine pure_ (i := 11) (N := some 5) (v := .int .i64 (cmpI ao.d bo.d)) #[true, true, true, true, true, true, true, true, true, true, true, true] rfl rfl (by kernel_rfl) (fun c a w h => hP c a _ _ w h) (y_assign rfl (by rfl) (by rfl)) rfl ?_
    (try simp only [zP, zN, zA, zB, zC])
    refine done_ (by kernel_rfl) (th_norm (hK2 _ _ ?_)); clear hK2 K2
    refine wp_ret ?_
    refine hQ _ _ _ ?_
    refine bodyPost_ret (res1 rfl (rdv_tmp (v := .int .i64 (cmpI ao.d bo.d)) (by rfl))) rfl ?_
    exact ⟨rfl, C0.out⟩
end
end Go.Proofs.Ytggcpbnlblbpjaa.L
