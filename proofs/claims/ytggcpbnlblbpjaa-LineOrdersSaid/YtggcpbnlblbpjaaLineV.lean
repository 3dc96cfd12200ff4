/- The walks of the document's answer, of orders. -/
import Derived.Test.YtggcpbnlblbpjaaLineU
namespace Go.Proofs.Ytggcpbnlblbpjaa.L
open Go Go.RowKit Go.Proofs.Ytggcpbnlblbpjaa.K Go.Proofs.Ytggcpbnlblbpjaa.H Go.Proofs.YtggcpbnlblbpjaaW.PrintLast
set_option linter.unusedVariables false
set_option linter.unusedSimpArgs false
set_option maxRecDepth 100000
set_option maxHeartbeats 1600000
section
variable {w : World}
theorem rmay_ (a b : HOp)  :
    Calls Try.prog 35 #[.agg (opC a).toArray, .agg (opC b).toArray] w fun en w' => en = .returned (.bool (mayB a b)) ∧ Ch [] w w' := by
  have C0 := Lib.hid (Ch.refl [] w)
  go_enter Try.func35, Try.ntmps35
  refine q_ (fun Q hQ hP => ?_)
  refine s_ (fun K1 hK1 => ?_)
  refine ef_ (fun K2 hK2 => ?_)
  refine e_boxN (by rfl) rfl rfl (cs := (opC a).toArray) (v := .agg (opC a).toArray) (by rfl) rfl ?_
  rintro g3 w4 HG5 B6 C7
  have nw8 := Lib.hid (show w.heap.size ≤ g3 by have := C0.out.size; have := HG5.out; omega)
  have C0' := Lib.hid (show Ch [] w w4 from C0.out.trans' C7 (fun x hx => absurd hx (by simp)))
  clear C0
  have C0 := C0'; clear C0'
  have Fg3 := Lib.hid (show Blk w4 g3 ((opC a).toArray) 59 from B6); clear B6 C7
  refine hK2 _ _ ?_; clear hK2 K2
  (try simp only [zP, zN, zA, zB, zC])
  refine ef_ (fun K9 hK9 => ?_)
  refine e_boxN (by rfl) rfl rfl (cs := (opC b).toArray) (v := .agg (opC b).toArray) (by rfl) rfl ?_
  rintro g10 w11 HG12 B13 C14
  have nw15 := Lib.hid (show w.heap.size ≤ g10 by have := C0.out.size; have := HG12.out; omega)
  have ne16 := Lib.hid (Fg3.out.ne_new HG12)
  have C0' := Lib.hid (show Ch [] w w11 from C0.out.trans' C14 (fun x hx => absurd hx (by simp)))
  have Fg3' := Lib.hid (show Blk w11 g3 ((opC a).toArray) 59 from C14.blk Fg3.out nin_nil)
  clear C0 Fg3
  have C0 := C0'; clear C0'
  have Fg3 := Fg3'; clear Fg3'
  have Fg10 := Lib.hid (show Blk w11 g10 ((opC b).toArray) 59 from B13); clear B13 C14
  refine hK9 _ _ ?_; clear hK9 K9
  (try simp only [zP, zN, zA, zB, zC])
  refine pu_ (v := .bool false) (y_assign rfl (by rfl) (by rfl)) ?_
  (try simp only [zP, zN, zA, zB, zC])
  refine nl_ (hK1 _ _ ?_); clear hK1 K1
  rcases may_ways a b with h | h | h
  · have D7 := Lib.hid (show b.t = 0 from h)
    have HR := Lib.hid (show mayB a b = true by unfold mayB; rw [beq_iff_eq.2 h]; rfl)
    clear h
    refine s_ (fun K17 hK17 => ?_)
    refine pu_ (v := .pointer (some ⟨g10, 4, none⟩)) (y_run (by rfl) (fun W => by go_simp)) ?_
    (try simp only [zP, zN, zA, zB, zC])
    refine ld_ (v := .int .i64 b.t) rfl (by rfl) (by rfl) (run_load_one ((Fg10.out.cell 4).trans (by simp [opC])) Try.underlying3 rfl) ?_
    (try simp only [zP, zN, zA, zB, zC])
    refine pu_ (v := .bool false) (y_run (by rfl) (fun W => by have d := D7.out; go_simp)) ?_
    (try simp only [zP, zN, zA, zB, zC])
    refine pu_ (v := .bool false) (y_move rfl (by rfl) (by rfl)) ?_
    (try simp only [zP, zN, zA, zB, zC])
    refine pu_ (y_off (by rfl)) ?_
    (try simp only [zP, zN, zA, zB, zC])
    refine pu_ (y_off (by rfl)) ?_
    (try simp only [zP, zN, zA, zB, zC])
    refine pu_ (y_off (by rfl)) ?_
    (try simp only [zP, zN, zA, zB, zC])
    refine pu_ (y_off (by rfl)) ?_
    (try simp only [zP, zN, zA, zB, zC])
    refine pu_ (y_off (by rfl)) ?_
    (try simp only [zP, zN, zA, zB, zC])
    refine pu_ (v := .bool false) (y_pick (t := false) (by rfl) rfl (by rfl) (by rfl)) ?_
    (try simp only [zP, zN, zA, zB, zC])
    refine pu_ (v := .bool true) (y_run (by rfl) (fun W => by go_simp)) ?_
    (try simp only [zP, zN, zA, zB, zC])
    refine pu_ (v := .bool true) (y_assign rfl (by rfl) (by rfl)) ?_
    (try simp only [zP, zN, zA, zB, zC])
    refine nl_ (hK17 _ _ ?_); clear hK17 K17
    refine wp_ret ?_
    refine hQ _ _ _ ?_
    refine bodyPost_ret (res1 rfl (rdv_tmp (v := .bool true) (by rfl))) rfl ?_
    exact ⟨by rw [HR.out], C0.out⟩
  · have D7 := Lib.hid (show ¬ b.t = 0 from h.1)
    have D13 := Lib.hid (show decide (b.t < a.a) = false from decide_eq_false (by omega))
    have HR := Lib.hid (show mayB a b = true by unfold mayB; rw [decide_eq_true h.2]; simp)
    clear h
    refine s_ (fun K18 hK18 => ?_)
    refine pu_ (v := .pointer (some ⟨g10, 4, none⟩)) (y_run (by rfl) (fun W => by go_simp)) ?_
    (try simp only [zP, zN, zA, zB, zC])
    refine ld_ (v := .int .i64 b.t) rfl (by rfl) (by rfl) (run_load_one ((Fg10.out.cell 4).trans (by simp [opC])) Try.underlying3 rfl) ?_
    (try simp only [zP, zN, zA, zB, zC])
    refine pu_ (v := .bool true) (y_run (by rfl) (fun W => by have d := D7.out; go_simp)) ?_
    (try simp only [zP, zN, zA, zB, zC])
    refine pu_ (v := .bool true) (y_move rfl (by rfl) (by rfl)) ?_
    (try simp only [zP, zN, zA, zB, zC])
    refine pu_ (v := .pointer (some ⟨g10, 4, none⟩)) (y_run (by rfl) (fun W => by go_simp)) ?_
    (try simp only [zP, zN, zA, zB, zC])
    refine ld_ (v := .int .i64 b.t) rfl (by rfl) (by rfl) (run_load_one ((Fg10.out.cell 4).trans (by simp [opC])) Try.underlying3 rfl) ?_
    (try simp only [zP, zN, zA, zB, zC])
    refine pu_ (v := .pointer (some ⟨g3, 2, none⟩)) (y_run (by rfl) (fun W => by go_simp)) ?_
    (try simp only [zP, zN, zA, zB, zC])
    refine ld_ (v := .int .i64 a.a) rfl (by rfl) (by rfl) (run_load_one ((Fg3.out.cell 2).trans (by simp [opC])) Try.underlying3 rfl) ?_
    (try simp only [zP, zN, zA, zB, zC])
    refine pu_ (v := .bool false) (y_run (by rfl) (fun W => by have d := D13.out; go_simp)) ?_
    (try simp only [zP, zN, zA, zB, zC])
    refine pu_ (v := .bool false) (y_pick (t := true) (by rfl) rfl (by rfl) (by rfl)) ?_
    (try simp only [zP, zN, zA, zB, zC])
    refine pu_ (v := .bool true) (y_run (by rfl) (fun W => by go_simp)) ?_
    (try simp only [zP, zN, zA, zB, zC])
    refine pu_ (v := .bool true) (y_assign rfl (by rfl) (by rfl)) ?_
    (try simp only [zP, zN, zA, zB, zC])
    refine nl_ (hK18 _ _ ?_); clear hK18 K18
    refine wp_ret ?_
    refine hQ _ _ _ ?_
    refine bodyPost_ret (res1 rfl (rdv_tmp (v := .bool true) (by rfl))) rfl ?_
    exact ⟨by rw [HR.out], C0.out⟩
  · have D7 := Lib.hid (show ¬ b.t = 0 from h.1)
    have D13 := Lib.hid (show decide (b.t < a.a) = true from decide_eq_true (by omega))
    have HR := Lib.hid (show mayB a b = false by unfold mayB; rw [beq_eq_false_iff_ne.2 h.1, decide_eq_false h.2]; rfl)
    clear h
    refine s_ (fun K19 hK19 => ?_)
    refine pu_ (v := .pointer (some ⟨g10, 4, none⟩)) (y_run (by rfl) (fun W => by go_simp)) ?_
    (try simp only [zP, zN, zA, zB, zC])
    refine ld_ (v := .int .i64 b.t) rfl (by rfl) (by rfl) (run_load_one ((Fg10.out.cell 4).trans (by simp [opC])) Try.underlying3 rfl) ?_
    (try simp only [zP, zN, zA, zB, zC])
    refine pu_ (v := .bool true) (y_run (by rfl) (fun W => by have d := D7.out; go_simp)) ?_
    (try simp only [zP, zN, zA, zB, zC])
    refine pu_ (v := .bool true) (y_move rfl (by rfl) (by rfl)) ?_
    (try simp only [zP, zN, zA, zB, zC])
    refine pu_ (v := .pointer (some ⟨g10, 4, none⟩)) (y_run (by rfl) (fun W => by go_simp)) ?_
    (try simp only [zP, zN, zA, zB, zC])
    refine ld_ (v := .int .i64 b.t) rfl (by rfl) (by rfl) (run_load_one ((Fg10.out.cell 4).trans (by simp [opC])) Try.underlying3 rfl) ?_
    (try simp only [zP, zN, zA, zB, zC])
    refine pu_ (v := .pointer (some ⟨g3, 2, none⟩)) (y_run (by rfl) (fun W => by go_simp)) ?_
    (try simp only [zP, zN, zA, zB, zC])
    refine ld_ (v := .int .i64 a.a) rfl (by rfl) (by rfl) (run_load_one ((Fg3.out.cell 2).trans (by simp [opC])) Try.underlying3 rfl) ?_
    (try simp only [zP, zN, zA, zB, zC])
    refine pu_ (v := .bool true) (y_run (by rfl) (fun W => by have d := D13.out; go_simp)) ?_
    (try simp only [zP, zN, zA, zB, zC])
    refine pu_ (v := .bool true) (y_pick (t := true) (by rfl) rfl (by rfl) (by rfl)) ?_
    (try simp only [zP, zN, zA, zB, zC])
    refine pu_ (v := .bool false) (y_run (by rfl) (fun W => by go_simp)) ?_
    (try simp only [zP, zN, zA, zB, zC])
    refine pu_ (v := .bool false) (y_assign rfl (by rfl) (by rfl)) ?_
    (try simp only [zP, zN, zA, zB, zC])
    refine nl_ (hK19 _ _ ?_); clear hK19 K19
    refine wp_ret ?_
    refine hQ _ _ _ ?_
    refine bodyPost_ret (res1 rfl (rdv_tmp (v := .bool false) (by rfl))) rfl ?_
    exact ⟨by rw [HR.out], C0.out⟩
theorem rresp_ {A B : Option Addr} {c d : Nat} {L : List HOp} {M : List Int} (HN : Hid (L.length ≤ 1000)) (HM : Hid (M.length ≤ 1000)) (SL : Hid (SrcIs w (.slice A L.length c) (L.length) ((L).flatMap opC) 28)) (SM : Hid (SrcIs w (.slice B M.length d) (M.length) ((M).map (Value.int .i64)) 1)) :
    Calls Try.prog 39 #[.slice A L.length c, .slice B M.length d] w fun en w' => ∃ b, en = .returned (.bool b) ∧ (b = true ↔ respP L M) ∧ Ch [] w w' := by
  have C0 := Lib.hid (Ch.refl [] w)
  go_enter Try.func39, Try.ntmps39
  refine q_ (fun Q hQ hP => ?_)
  refine s_ (fun K1 hK1 => ?_)
  refine pu_ (v := .bool false) (y_assign rfl (by rfl) (by rfl)) ?_
  (try simp only [zP, zN, zA, zB, zC])
  refine nl_ (hK1 _ _ ?_); clear hK1 K1
  refine sq_ (fun K2 hK2 => ?_)
  refine s_ (fun K3 hK3 => ?_)
  refine pu_ (v := .int .i64 0) (y_assign rfl (by rfl) (by rfl)) ?_
  (try simp only [zP, zN, zA, zB, zC])
  refine nl_ (hK3 _ _ ?_); clear hK3 K3
  refine wp_block ?_
  refine loopk_ (fun (kq : Nat) (a' : Act) (w' : World) => ∃ (k : Nat), ∃ (us : Nat → Value), a' = ⟨#[.slice A L.length c, .slice B M.length d, us 2, us 3, .bool false, .int .i64 k, us 6, us 7, us 8, us 9, us 10, us 11, us 12, us 13, us 14, us 15, us 16, us 17, us 18, us 19, us 20, us 21, us 22, us 23, us 24, us 25, us 26, us 27, us 28, us 29, us 30, us 31, us 32, us 33, us 34, us 35, us 36, us 37, us 38, us 39, us 40, us 41, us 42, us 43, us 44, us 45, us 46, us 47, us 48, us 49, us 50, us 51, us 52, us 53, us 54, us 55, us 56, us 57, us 58, us 59, us 60, us 61, us 62, us 63, us 64, us 65], []⟩ ∧ Hid (Ch [] w w') ∧ Hid (SrcIs w' (.slice A L.length c) (L.length) ((L).flatMap opC) 28) ∧ Hid (SrcIs w' (.slice B M.length d) (M.length) ((M).map (Value.int .i64)) 1) ∧ Hid (k ≤ M.length ∧ kq + k = M.length) ∧ Hid (rngP L.length (M.take k))) (M.length) (⟨0, fun us_ => (#[.slice A L.length c, .slice B M.length d, undef, undef, .bool false, .int .i64 0, undef, undef, undef, undef, undef, undef, undef, undef, undef, undef, undef, undef, undef, undef, undef, undef, undef, undef, undef, undef, undef, undef, undef, undef, undef, undef, undef, undef, undef, undef, undef, undef, undef, undef, undef, undef, undef, undef, undef, undef, undef, undef, undef, undef, undef, undef, undef, undef, undef, undef, undef, undef, undef, undef, undef, undef, undef, undef, undef, undef] : Array Value).getD us_ undef, rfl, C0, SL, SM, Lib.hid ⟨by omega, by omega⟩, Lib.hid (rng_nil _)⟩) ?_
  rintro kq _ w4 ⟨k, us, rfl, C0, SL, SM, hk, hr⟩ K5 hK5
  refine sq_ (fun K6 hK6 => ?_)
  rcases at_ways hk.out.1 with ⟨z, hlt0, ho0⟩ | h; rcases (show z < 0 ∨ (0 ≤ z ∧ (L.length : Int) ≤ z) ∨ (0 ≤ z ∧ z < (L.length : Int)) by omega) with h | h | h
  · have hlt := Lib.hid hlt0
    have ho := Lib.hid ho0
    have hc := Lib.hid h
    clear hlt0 ho0 h
    obtain ⟨b, hsm_b⟩ := src_some SM.out (by have := hlt.out; omega)
    subst hsm_b
    have D11 := Lib.hid (show (k : Int) < (M.length : Int) by have := hlt.out; omega)
    have Wk := Lib.hid (show IntKind.i64.wrap ((k : Int) + 1) = ((k + 1 : Nat) : Int) by rw [wr64 (by have := hlt.out; have := HM.out; omega)]; omega)
    have D18 := Lib.hid (show decide (z < 0) = true from decide_eq_true (by have := hc.out; omega))
    have HR := Lib.hid (show ¬ respP L M from fun h9 => by have h8 := h9.1.1 z (List.mem_of_getElem? ho.out); have := hc.out; omega)
    refine s_ (fun K7 hK7 => ?_)
    refine pu_ (v := .int .i64 k) (y_move rfl (by rfl) (by rfl)) ?_
    (try simp only [zP, zN, zA, zB, zC])
    refine pu_ (v := .slice (some b) M.length d) (y_move rfl (by rfl) (by rfl)) ?_
    (try simp only [zP, zN, zA, zB, zC])
    refine pu_ (v := .int .i64 M.length) (y_run (by rfl) (fun W => by go_simp)) ?_
    (try simp only [zP, zN, zA, zB, zC])
    refine pu_ (v := .bool true) (y_run (by rfl) (fun W => by have d := D11.out; go_simp)) ?_
    (try simp only [zP, zN, zA, zB, zC])
    refine nl_ (hK7 _ _ ?_); clear hK7 K7
    refine wp_cond_true rfl ?_
    refine wp_skip ?_
    refine th_norm (hK6 _ _ ?_); try clear hK6 K6
    refine sq_ (fun K8 hK8 => ?_)
    refine wp_block ?_
    refine s_ (fun K9 hK9 => ?_)
    refine pu_ (v := .slice (some b) M.length d) (y_move rfl (by rfl) (by rfl)) ?_
    (try simp only [zP, zN, zA, zB, zC])
    refine pu_ (v := .int .i64 k) (y_move rfl (by rfl) (by rfl)) ?_
    (try simp only [zP, zN, zA, zB, zC])
    refine pu_ (v := .pointer (some (b.add (k)))) (y_run (by rfl) (fun W => by have d := D11.out; go_simp)) ?_
    (try simp only [zP, zN, zA, zB, zC])
    refine ld_ (v := .int .i64 z) rfl (by rfl) (by rfl) (run_load_one (src_int SM.out ho.out) Try.underlying3 rfl) ?_
    (try simp only [zP, zN, zA, zB, zC])
    refine pu_ (v := .bool true) (y_run (by rfl) (fun W => by have d := D18.out; go_simp)) ?_
    (try simp only [zP, zN, zA, zB, zC])
    refine pu_ (v := .bool true) (y_move rfl (by rfl) (by rfl)) ?_
    (try simp only [zP, zN, zA, zB, zC])
    refine pu_ (y_off (by rfl)) ?_
    (try simp only [zP, zN, zA, zB, zC])
    refine pu_ (y_off (by rfl)) ?_
    (try simp only [zP, zN, zA, zB, zC])
    refine pu_ (y_off (by rfl)) ?_
    (try simp only [zP, zN, zA, zB, zC])
    refine pu_ (y_off (by rfl)) ?_
    (try simp only [zP, zN, zA, zB, zC])
    refine pu_ (y_off (by rfl)) ?_
    (try simp only [zP, zN, zA, zB, zC])
    refine pu_ (y_off (by rfl)) ?_
    (try simp only [zP, zN, zA, zB, zC])
    refine pu_ (y_off (by rfl)) ?_
    (try simp only [zP, zN, zA, zB, zC])
    refine pu_ (v := .bool true) (y_pick (t := true) (by rfl) rfl (by rfl) (by rfl)) ?_
    (try simp only [zP, zN, zA, zB, zC])
    refine nl_ (hK9 _ _ ?_); clear hK9 K9
    refine wp_cond_true rfl ?_
    refine s_ (fun K10 hK10 => ?_)
    refine pu_ (v := .bool false) (y_assign rfl (by rfl) (by rfl)) ?_
    (try simp only [zP, zN, zA, zB, zC])
    refine nl_ (hK10 _ _ ?_); clear hK10 K10
    refine wp_ret ?_
    refine ib_ret ?_
    refine th_ret ?_
    refine th_ret ?_
    refine ib_ret ?_
    refine th_ret ?_
    refine hQ _ _ _ ?_
    refine bodyPost_ret (res1 rfl (rdv_tmp (v := .bool false) (by rfl))) rfl ?_
    exact ⟨_, rfl, ⟨fun h9 => absurd h9 (by decide), fun h9 => absurd h9 HR.out⟩, C0.out⟩
  · have hlt := Lib.hid hlt0
    have ho := Lib.hid ho0
    have hc := Lib.hid h
    clear hlt0 ho0 h
    obtain ⟨b, hsm_b⟩ := src_some SM.out (by have := hlt.out; omega)
    subst hsm_b
    have D11 := Lib.hid (show (k : Int) < (M.length : Int) by have := hlt.out; omega)
    have Wk := Lib.hid (show IntKind.i64.wrap ((k : Int) + 1) = ((k + 1 : Nat) : Int) by rw [wr64 (by have := hlt.out; have := HM.out; omega)]; omega)
    have D18 := Lib.hid (show decide (z < 0) = false from decide_eq_false (by have := hc.out; omega))
    have D26 := Lib.hid (show decide (z ≥ (L.length : Int)) = true from decide_eq_true (by have := hc.out; omega))
    have HR := Lib.hid (show ¬ respP L M from fun h9 => by have h8 := h9.1.1 z (List.mem_of_getElem? ho.out); have := hc.out; omega)
    refine s_ (fun K11 hK11 => ?_)
    refine pu_ (v := .int .i64 k) (y_move rfl (by rfl) (by rfl)) ?_
    (try simp only [zP, zN, zA, zB, zC])
    refine pu_ (v := .slice (some b) M.length d) (y_move rfl (by rfl) (by rfl)) ?_
    (try simp only [zP, zN, zA, zB, zC])
    refine pu_ (v := .int .i64 M.length) (y_run (by rfl) (fun W => by go_simp)) ?_
    (try simp only [zP, zN, zA, zB, zC])
    refine pu_ (v := .bool true) (y_run (by rfl) (fun W => by have d := D11.out; go_simp)) ?_
    (try simp only [zP, zN, zA, zB, zC])
    refine nl_ (hK11 _ _ ?_); clear hK11 K11
    refine wp_cond_true rfl ?_
    refine wp_skip ?_
    refine th_norm (hK6 _ _ ?_); try clear hK6 K6
    refine sq_ (fun K12 hK12 => ?_)
    refine wp_block ?_
    refine s_ (fun K13 hK13 => ?_)
    refine pu_ (v := .slice (some b) M.length d) (y_move rfl (by rfl) (by rfl)) ?_
    (try simp only [zP, zN, zA, zB, zC])
    refine pu_ (v := .int .i64 k) (y_move rfl (by rfl) (by rfl)) ?_
    (try simp only [zP, zN, zA, zB, zC])
    refine pu_ (v := .pointer (some (b.add (k)))) (y_run (by rfl) (fun W => by have d := D11.out; go_simp)) ?_
    (try simp only [zP, zN, zA, zB, zC])
    refine ld_ (v := .int .i64 z) rfl (by rfl) (by rfl) (run_load_one (src_int SM.out ho.out) Try.underlying3 rfl) ?_
    (try simp only [zP, zN, zA, zB, zC])
    refine pu_ (v := .bool false) (y_run (by rfl) (fun W => by have d := D18.out; go_simp)) ?_
    (try simp only [zP, zN, zA, zB, zC])
    refine pu_ (v := .bool false) (y_move rfl (by rfl) (by rfl)) ?_
    (try simp only [zP, zN, zA, zB, zC])
    refine pu_ (v := .slice (some b) M.length d) (y_move rfl (by rfl) (by rfl)) ?_
    (try simp only [zP, zN, zA, zB, zC])
    refine pu_ (v := .int .i64 k) (y_move rfl (by rfl) (by rfl)) ?_
    (try simp only [zP, zN, zA, zB, zC])
    refine pu_ (v := .pointer (some (b.add (k)))) (y_run (by rfl) (fun W => by have d := D11.out; go_simp)) ?_
    (try simp only [zP, zN, zA, zB, zC])
    refine ld_ (v := .int .i64 z) rfl (by rfl) (by rfl) (run_load_one (src_int SM.out ho.out) Try.underlying3 rfl) ?_
    (try simp only [zP, zN, zA, zB, zC])
    refine pu_ (v := .slice A L.length c) (y_move rfl (by rfl) (by rfl)) ?_
    (try simp only [zP, zN, zA, zB, zC])
    refine pu_ (v := .int .i64 L.length) (y_run (by rfl) (fun W => by go_simp)) ?_
    (try simp only [zP, zN, zA, zB, zC])
    refine pu_ (v := .bool true) (y_run (by rfl) (fun W => by have d := D26.out; go_simp)) ?_
    (try simp only [zP, zN, zA, zB, zC])
    refine pu_ (v := .bool true) (y_pick (t := false) (by rfl) rfl (by rfl) (by rfl)) ?_
    (try simp only [zP, zN, zA, zB, zC])
    refine nl_ (hK13 _ _ ?_); clear hK13 K13
    refine wp_cond_true rfl ?_
    refine s_ (fun K14 hK14 => ?_)
    refine pu_ (v := .bool false) (y_assign rfl (by rfl) (by rfl)) ?_
    (try simp only [zP, zN, zA, zB, zC])
    refine nl_ (hK14 _ _ ?_); clear hK14 K14
    refine wp_ret ?_
    refine ib_ret ?_
    refine th_ret ?_
    refine th_ret ?_
    refine ib_ret ?_
    refine th_ret ?_
    refine hQ _ _ _ ?_
    refine bodyPost_ret (res1 rfl (rdv_tmp (v := .bool false) (by rfl))) rfl ?_
    exact ⟨_, rfl, ⟨fun h9 => absurd h9 (by decide), fun h9 => absurd h9 HR.out⟩, C0.out⟩
  · have hlt := Lib.hid hlt0
    have ho := Lib.hid ho0
    have hc := Lib.hid h
    clear hlt0 ho0 h
    obtain ⟨b, hsm_b⟩ := src_some SM.out (by have := hlt.out; omega)
    subst hsm_b
    have D11 := Lib.hid (show (k : Int) < (M.length : Int) by have := hlt.out; omega)
    have Wk := Lib.hid (show IntKind.i64.wrap ((k : Int) + 1) = ((k + 1 : Nat) : Int) by rw [wr64 (by have := hlt.out; have := HM.out; omega)]; omega)
    have D18 := Lib.hid (show decide (z < 0) = false from decide_eq_false (by have := hc.out; omega))
    have D26 := Lib.hid (show decide (z ≥ (L.length : Int)) = false from decide_eq_false (by have := hc.out; omega))
    refine s_ (fun K15 hK15 => ?_)
    refine pu_ (v := .int .i64 k) (y_move rfl (by rfl) (by rfl)) ?_
    (try simp only [zP, zN, zA, zB, zC])
    refine pu_ (v := .slice (some b) M.length d) (y_move rfl (by rfl) (by rfl)) ?_
    (try simp only [zP, zN, zA, zB, zC])
    refine pu_ (v := .int .i64 M.length) (y_run (by rfl) (fun W => by go_simp)) ?_
    (try simp only [zP, zN, zA, zB, zC])
    refine pu_ (v := .bool true) (y_run (by rfl) (fun W => by have d := D11.out; go_simp)) ?_
    (try simp only [zP, zN, zA, zB, zC])
    refine nl_ (hK15 _ _ ?_); clear hK15 K15
    refine wp_cond_true rfl ?_
    refine wp_skip ?_
    refine th_norm (hK6 _ _ ?_); try clear hK6 K6
    refine sq_ (fun K16 hK16 => ?_)
    refine wp_block ?_
    refine s_ (fun K17 hK17 => ?_)
    refine pu_ (v := .slice (some b) M.length d) (y_move rfl (by rfl) (by rfl)) ?_
    (try simp only [zP, zN, zA, zB, zC])
    refine pu_ (v := .int .i64 k) (y_move rfl (by rfl) (by rfl)) ?_
    (try simp only [zP, zN, zA, zB, zC])
    refine pu_ (v := .pointer (some (b.add (k)))) (y_run (by rfl) (fun W => by have d := D11.out; go_simp)) ?_
    (try simp only [zP, zN, zA, zB, zC])
    refine ld_ (v := .int .i64 z) rfl (by rfl) (by rfl) (run_load_one (src_int SM.out ho.out) Try.underlying3 rfl) ?_
    (try simp only [zP, zN, zA, zB, zC])
    refine pu_ (v := .bool false) (y_run (by rfl) (fun W => by have d := D18.out; go_simp)) ?_
    (try simp only [zP, zN, zA, zB, zC])
    refine pu_ (v := .bool false) (y_move rfl (by rfl) (by rfl)) ?_
    (try simp only [zP, zN, zA, zB, zC])
    refine pu_ (v := .slice (some b) M.length d) (y_move rfl (by rfl) (by rfl)) ?_
    (try simp only [zP, zN, zA, zB, zC])
    refine pu_ (v := .int .i64 k) (y_move rfl (by rfl) (by rfl)) ?_
    (try simp only [zP, zN, zA, zB, zC])
    refine pu_ (v := .pointer (some (b.add (k)))) (y_run (by rfl) (fun W => by have d := D11.out; go_simp)) ?_
    (try simp only [zP, zN, zA, zB, zC])
    refine ld_ (v := .int .i64 z) rfl (by rfl) (by rfl) (run_load_one (src_int SM.out ho.out) Try.underlying3 rfl) ?_
    (try simp only [zP, zN, zA, zB, zC])
    refine pu_ (v := .slice A L.length c) (y_move rfl (by rfl) (by rfl)) ?_
    (try simp only [zP, zN, zA, zB, zC])
    refine pu_ (v := .int .i64 L.length) (y_run (by rfl) (fun W => by go_simp)) ?_
    (try simp only [zP, zN, zA, zB, zC])
    refine pu_ (v := .bool false) (y_run (by rfl) (fun W => by have d := D26.out; go_simp)) ?_
    (try simp only [zP, zN, zA, zB, zC])
    refine pu_ (v := .bool false) (y_pick (t := false) (by rfl) rfl (by rfl) (by rfl)) ?_
    (try simp only [zP, zN, zA, zB, zC])
    refine nl_ (hK17 _ _ ?_); clear hK17 K17
    refine wp_cond_false rfl ?_
    refine wp_skip ?_
    refine ib_norm ?_
    refine th_norm (hK16 _ _ ?_); try clear hK16 K16
    refine r_ ?_
    refine pu_ (v := .int .i64 k) (y_move rfl (by rfl) (by rfl)) ?_
    (try simp only [zP, zN, zA, zB, zC])
    refine pu_ (v := .int .i64 (k + 1 : Nat)) (y_run (by rfl) (fun W => by have d := Wk.out; go_simp)) ?_
    (try simp only [zP, zN, zA, zB, zC])
    refine pu_ (v := .int .i64 (k + 1 : Nat)) (y_assign rfl (by rfl) (by rfl)) ?_
    (try simp only [zP, zN, zA, zB, zC])
    refine nl_ ?_
    exact th_norm (hK5 (kq - 1) _ _ (by have := hlt.out; have := hk.out; omega) ⟨k + 1, fun us_ => (#[.slice A L.length c, .slice (some b) M.length d, us 2, us 3, .bool false, .int .i64 (k + 1 : Nat), us 6, us 7, .int .i64 k, .slice (some b) M.length d, .int .i64 M.length, .bool true, .int .i64 k, .int .i64 (k + 1 : Nat), .slice (some b) M.length d, .int .i64 k, .pointer (some (b.add (k))), .int .i64 z, .bool false, .bool false, .slice (some b) M.length d, .int .i64 k, .pointer (some (b.add (k))), .int .i64 z, .slice A L.length c, .int .i64 L.length, .bool false, .bool false, us 28, us 29, us 30, us 31, us 32, us 33, us 34, us 35, us 36, us 37, us 38, us 39, us 40, us 41, us 42, us 43, us 44, us 45, us 46, us 47, us 48, us 49, us 50, us 51, us 52, us 53, us 54, us 55, us 56, us 57, us 58, us 59, us 60, us 61, us 62, us 63, us 64, us 65] : Array Value).getD us_ undef, rfl, C0, SL, SM, Lib.hid ⟨by have := hlt.out; omega, by have := hlt.out; have := hk.out; omega⟩, Lib.hid (rng_snoc ho.out hr.out hc.out)⟩)
  · have D11 := Lib.hid (show ¬ k < M.length by have := hk.out; omega)
    have HRG := Lib.hid (show rngP L.length M from by have h9 := hr.out; rw [h, List.take_length] at h9; exact h9)
    clear h hk hr
    refine s_ (fun K18 hK18 => ?_)
    refine pu_ (v := .int .i64 k) (y_move rfl (by rfl) (by rfl)) ?_
    (try simp only [zP, zN, zA, zB, zC])
    refine pu_ (v := .slice B M.length d) (y_move rfl (by rfl) (by rfl)) ?_
    (try simp only [zP, zN, zA, zB, zC])
    refine pu_ (v := .int .i64 M.length) (y_run (by rfl) (fun W => by go_simp)) ?_
    (try simp only [zP, zN, zA, zB, zC])
    refine pu_ (v := .bool false) (y_run (by rfl) (fun W => by have d := D11.out; go_simp)) ?_
    (try simp only [zP, zN, zA, zB, zC])
    refine nl_ (hK18 _ _ ?_); clear hK18 K18
    refine wp_cond_false rfl ?_
    refine wp_exit ?_
    refine th_exit ?_
    refine th_exit ?_
    refine ib_exit ?_
    refine th_norm (hK2 _ _ ?_); try clear hK2 K2
    refine sq_ (fun K19 hK19 => ?_)
    refine s_ (fun K20 hK20 => ?_)
    refine pu_ (v := .int .i64 0) (y_assign rfl (by rfl) (by rfl)) ?_
    (try simp only [zP, zN, zA, zB, zC])
    refine nl_ (hK20 _ _ ?_); clear hK20 K20
    refine wp_block ?_
    refine loopk_ (fun (iq : Nat) (a' : Act) (w' : World) => ∃ (i : Nat), ∃ (us : Nat → Value), a' = ⟨#[.slice A L.length c, .slice B M.length d, us 2, us 3, .bool false, us 5, .int .i64 i, us 7, us 8, us 9, us 10, us 11, us 12, us 13, us 14, us 15, us 16, us 17, us 18, us 19, us 20, us 21, us 22, us 23, us 24, us 25, us 26, us 27, us 28, us 29, us 30, us 31, us 32, us 33, us 34, us 35, us 36, us 37, us 38, us 39, us 40, us 41, us 42, us 43, us 44, us 45, us 46, us 47, us 48, us 49, us 50, us 51, us 52, us 53, us 54, us 55, us 56, us 57, us 58, us 59, us 60, us 61, us 62, us 63, us 64, us 65], []⟩ ∧ Hid (Ch [] w w') ∧ Hid (SrcIs w' (.slice A L.length c) (L.length) ((L).flatMap opC) 28) ∧ Hid (SrcIs w' (.slice B M.length d) (M.length) ((M).map (Value.int .i64)) 1) ∧ Hid (i ≤ M.length ∧ iq + i = M.length) ∧ Hid (pairQ L M i)) (M.length) (⟨0, fun us_ => (#[.slice A L.length c, .slice B M.length d, us 2, us 3, .bool false, .int .i64 k, .int .i64 0, us 7, .int .i64 k, .slice B M.length d, .int .i64 M.length, .bool false, us 12, us 13, us 14, us 15, us 16, us 17, us 18, us 19, us 20, us 21, us 22, us 23, us 24, us 25, us 26, us 27, us 28, us 29, us 30, us 31, us 32, us 33, us 34, us 35, us 36, us 37, us 38, us 39, us 40, us 41, us 42, us 43, us 44, us 45, us 46, us 47, us 48, us 49, us 50, us 51, us 52, us 53, us 54, us 55, us 56, us 57, us 58, us 59, us 60, us 61, us 62, us 63, us 64, us 65] : Array Value).getD us_ undef, rfl, C0, SL, SM, Lib.hid ⟨by omega, by omega⟩, Lib.hid (pairQ_nil _ _)⟩) ?_
    rintro iq _ w21 ⟨i, us, rfl, C0, SL, SM, hi, hp⟩ K22 hK22
    refine sq_ (fun K23 hK23 => ?_)
    rcases (show i < M.length ∨ i = M.length by have := hi.out; omega) with h | h
    · have ilt := Lib.hid h
      obtain ⟨yi, bo, hyi0, hb0, hyil0⟩ := rng_at HRG.out h
      have hyi := Lib.hid hyi0; have hb := Lib.hid hb0; have hyil := Lib.hid hyil0
      clear h hyi0 hb0 hyil0
      obtain ⟨b, hsm_b⟩ := src_some SM.out (by have := ilt.out; omega)
      subst hsm_b
      obtain ⟨a, hsm_a⟩ := src_some SL.out (by have := hyil.out; omega)
      subst hsm_a
      have D31 := Lib.hid (show (i : Int) < (M.length : Int) by have := ilt.out; omega)
      have Wi := Lib.hid (show IntKind.i64.wrap ((i : Int) + 1) = ((i + 1 : Nat) : Int) by rw [wr64 (by have := ilt.out; have := HM.out; omega)]; omega)
      refine s_ (fun K24 hK24 => ?_)
      refine pu_ (v := .int .i64 i) (y_move rfl (by rfl) (by rfl)) ?_
      (try simp only [zP, zN, zA, zB, zC])
      refine pu_ (v := .slice (some b) M.length d) (y_move rfl (by rfl) (by rfl)) ?_
      (try simp only [zP, zN, zA, zB, zC])
      refine pu_ (v := .int .i64 M.length) (y_run (by rfl) (fun W => by go_simp)) ?_
      (try simp only [zP, zN, zA, zB, zC])
      refine pu_ (v := .bool true) (y_run (by rfl) (fun W => by have d := D31.out; go_simp)) ?_
      (try simp only [zP, zN, zA, zB, zC])
      refine nl_ (hK24 _ _ ?_); clear hK24 K24
      refine wp_cond_true rfl ?_
      refine wp_skip ?_
      refine th_norm (hK23 _ _ ?_); try clear hK23 K23
      refine sq_ (fun K25 hK25 => ?_)
      refine wp_block ?_
      refine s_ (fun K26 hK26 => ?_)
      refine pu_ (v := .int .i64 0) (y_assign rfl (by rfl) (by rfl)) ?_
      (try simp only [zP, zN, zA, zB, zC])
      refine nl_ (hK26 _ _ ?_); clear hK26 K26
      refine wp_block ?_
      refine loopk_ (fun (jq : Nat) (a' : Act) (w' : World) => ∃ (j : Nat), ∃ (us : Nat → Value), a' = ⟨#[.slice (some a) L.length c, .slice (some b) M.length d, us 2, us 3, .bool false, us 5, .int .i64 i, .int .i64 j, us 8, us 9, us 10, us 11, us 12, us 13, us 14, us 15, us 16, us 17, us 18, us 19, us 20, us 21, us 22, us 23, us 24, us 25, us 26, us 27, us 28, us 29, us 30, us 31, us 32, us 33, us 34, us 35, us 36, us 37, us 38, us 39, us 40, us 41, us 42, us 43, us 44, us 45, us 46, us 47, us 48, us 49, us 50, us 51, us 52, us 53, us 54, us 55, us 56, us 57, us 58, us 59, us 60, us 61, us 62, us 63, us 64, us 65], []⟩ ∧ Hid (Ch [] w w') ∧ Hid (SrcIs w' (.slice (some a) L.length c) (L.length) ((L).flatMap opC) 28) ∧ Hid (SrcIs w' (.slice (some b) M.length d) (M.length) ((M).map (Value.int .i64)) 1) ∧ Hid (j ≤ i ∧ jq + j = i) ∧ Hid (rowQ L M i j)) (i) (⟨0, fun us_ => (#[.slice (some a) L.length c, .slice (some b) M.length d, us 2, us 3, .bool false, us 5, .int .i64 i, .int .i64 0, us 8, us 9, us 10, us 11, us 12, us 13, us 14, us 15, us 16, us 17, us 18, us 19, us 20, us 21, us 22, us 23, us 24, us 25, us 26, us 27, .int .i64 i, .slice (some b) M.length d, .int .i64 M.length, .bool true, us 32, us 33, us 34, us 35, us 36, us 37, us 38, us 39, us 40, us 41, us 42, us 43, us 44, us 45, us 46, us 47, us 48, us 49, us 50, us 51, us 52, us 53, us 54, us 55, us 56, us 57, us 58, us 59, us 60, us 61, us 62, us 63, us 64, us 65] : Array Value).getD us_ undef, rfl, C0, SL, SM, Lib.hid ⟨by omega, by omega⟩, Lib.hid (rowQ_nil _ _ _)⟩) ?_
      rintro jq _ w27 ⟨j, us, rfl, C0, SL, SM, hj, hq⟩ K28 hK28
      refine sq_ (fun K29 hK29 => ?_)
      rcases Nat.lt_or_ge j i with jlt0 | h; obtain ⟨yk, ao, hyk0, ha0, hykl0⟩ := rng_at HRG.out (show j < M.length by have := ilt.out; omega); rcases pair_ways yk yi ao bo with h | h | h
      · have jlt := Lib.hid jlt0
        have hyk := Lib.hid hyk0; have ha := Lib.hid ha0; have hykl := Lib.hid hykl0
        have hc := Lib.hid h
        clear jlt0 hyk0 ha0 hykl0 h
        have D36 := Lib.hid (show j < i from jlt.out)
        have Wj := Lib.hid (show IntKind.i64.wrap ((j : Int) + 1) = ((j + 1 : Nat) : Int) by rw [wr64 (by have := jlt.out; have := ilt.out; have := HM.out; omega)]; omega)
        have DI := Lib.hid (show (i : Int) < (M.length : Int) by have := ilt.out; omega)
        have DJ := Lib.hid (show (j : Int) < (M.length : Int) by have := ilt.out; have := jlt.out; omega)
        have DYI := Lib.hid (show (yi : Int) < (L.length : Int) by have := hyil.out; omega)
        have DYK := Lib.hid (show (yk : Int) < (L.length : Int) by have := hykl.out; omega)
        have D47 := Lib.hid (show yi = yk from hc.out.symm)
        have HR := Lib.hid (show ¬ respP L M from fun h9 => by have h8 := (respQ_iff.2 h9).2 j i jlt.out ilt.out _ _ hyk.out hyi.out; exact h8.1 (by rw [hc.out]))
        refine s_ (fun K30 hK30 => ?_)
        refine pu_ (v := .int .i64 j) (y_move rfl (by rfl) (by rfl)) ?_
        (try simp only [zP, zN, zA, zB, zC])
        refine pu_ (v := .int .i64 i) (y_move rfl (by rfl) (by rfl)) ?_
        (try simp only [zP, zN, zA, zB, zC])
        refine pu_ (v := .bool true) (y_run (by rfl) (fun W => by have d := D36.out; go_simp)) ?_
        (try simp only [zP, zN, zA, zB, zC])
        refine nl_ (hK30 _ _ ?_); clear hK30 K30
        refine wp_cond_true rfl ?_
        refine wp_skip ?_
        refine th_norm (hK29 _ _ ?_); try clear hK29 K29
        refine sq_ (fun K31 hK31 => ?_)
        refine wp_block ?_
        refine sq_ (fun K32 hK32 => ?_)
        refine startk_ (S := fun W => SrcIs W (.slice (some b) M.length d) (M.length) ((M).map (Value.int .i64)) 1 ∧ True) (ds := []) #[false, false, false, false, false, false, false, false, false, false, false, false, false, false, false, false, false, false, false, false, false, false, false, false, false, false, false] (by kernel_rfl) rfl rfl (fun W c => ⟨SM.out.chx c xnin_nil, trivial⟩) (fun w33 C34 hS35 => ?_)
        have C0' := Lib.hid (show Ch [] w w33 from C0.out.trans' C34 (fun x hx => absurd hx (by simp)))
        have SL' := Lib.hid (show SrcIs w33 (.slice (some a) L.length c) (L.length) ((L).flatMap opC) 28 from SL.out.chx C34 xnin_nil)
        have SM' := Lib.hid (show SrcIs w33 (.slice (some b) M.length d) (M.length) ((M).map (Value.int .i64)) 1 from SM.out.chx C34 xnin_nil)
        clear C0 SL SM
        have C0 := C0'; clear C0'
        have SL := SL'; clear SL'
        have SM := SM'; clear SM'
        clear C34
        refine pure_ (i := 0) (N := some 39) (v := .slice (some b) M.length d) #[true, false, false, false, false, false, false, false, false, false, false, false, false, false, false, false, false, false, false, false, false, false, false, false, false, false, false] rfl rfl (by kernel_rfl) (fun c a w h => hP c a _ _ w h) (y_move rfl (by rfl) (by rfl)) rfl ?_
        (try simp only [zP, zN, zA, zB, zC])
        refine pure_ (i := 1) (N := some 40) (v := .int .i64 i) #[true, true, false, false, false, false, false, false, false, false, false, false, false, false, false, false, false, false, false, false, false, false, false, false, false, false, false] rfl rfl (by kernel_rfl) (fun c a w h => hP c a _ _ w h) (y_move rfl (by rfl) (by rfl)) rfl ?_
        (try simp only [zP, zN, zA, zB, zC])
        refine pure_ (i := 2) (N := some 41) (v := .pointer (some (b.add i))) #[true, true, true, false, false, false, false, false, false, false, false, false, false, false, false, false, false, false, false, false, false, false, false, false, false, false, false] rfl rfl (by kernel_rfl) (fun c a w h => hP c a _ _ w h) (y_run (by rfl) (fun W => by have d := DI.out; go_simp)) rfl ?_
        (try simp only [zP, zN, zA, zB, zC])
        refine take_ (i := 3) (N := some 42) (v := .int .i64 yi) #[true, true, true, true, false, false, false, false, false, false, false, false, false, false, false, false, false, false, false, false, false, false, false, false, false, false, false] rfl rfl (by kernel_rfl) (fun c a w h => hP c a _ _ w h) (y_load (p := (b.add i)) rfl (by rfl) (by rfl) (fun W hS => run_load_one (src_int hS.1 hyi.out) Try.underlying3 rfl)) hS35 rfl ?_
        (try simp only [zP, zN, zA, zB, zC])
        refine pure_ (i := 4) (N := some 43) (v := .slice (some b) M.length d) #[true, true, true, true, true, false, false, false, false, false, false, false, false, false, false, false, false, false, false, false, false, false, false, false, false, false, false] rfl rfl (by kernel_rfl) (fun c a w h => hP c a _ _ w h) (y_move rfl (by rfl) (by rfl)) rfl ?_
        (try simp only [zP, zN, zA, zB, zC])
        refine pure_ (i := 5) (N := some 44) (v := .int .i64 j) #[true, true, true, true, true, true, false, false, false, false, false, false, false, false, false, false, false, false, false, false, false, false, false, false, false, false, false] rfl rfl (by kernel_rfl) (fun c a w h => hP c a _ _ w h) (y_move rfl (by rfl) (by rfl)) rfl ?_
        (try simp only [zP, zN, zA, zB, zC])
        refine pure_ (i := 6) (N := some 45) (v := .pointer (some (b.add j))) #[true, true, true, true, true, true, true, false, false, false, false, false, false, false, false, false, false, false, false, false, false, false, false, false, false, false, false] rfl rfl (by kernel_rfl) (fun c a w h => hP c a _ _ w h) (y_run (by rfl) (fun W => by have d := DJ.out; go_simp)) rfl ?_
        (try simp only [zP, zN, zA, zB, zC])
        refine take_ (i := 7) (N := some 46) (v := .int .i64 yk) #[true, true, true, true, true, true, true, true, false, false, false, false, false, false, false, false, false, false, false, false, false, false, false, false, false, false, false] rfl rfl (by kernel_rfl) (fun c a w h => hP c a _ _ w h) (y_load (p := (b.add j)) rfl (by rfl) (by rfl) (fun W hS => run_load_one (src_int hS.1 hyk.out) Try.underlying3 rfl)) hS35 rfl ?_
        (try simp only [zP, zN, zA, zB, zC])
        refine pure_ (i := 8) (N := some 47) (v := .bool true) #[true, true, true, true, true, true, true, true, true, false, false, false, false, false, false, false, false, false, false, false, false, false, false, false, false, false, false] rfl rfl (by kernel_rfl) (fun c a w h => hP c a _ _ w h) (y_run (by rfl) (fun W => by have d := D47.out; go_simp)) rfl ?_
        (try simp only [zP, zN, zA, zB, zC])
        refine pure_ (i := 9) (N := some 48) (v := .bool true) #[true, true, true, true, true, true, true, true, true, true, false, false, false, false, false, false, false, false, false, false, false, false, false, false, false, false, false] rfl rfl (by kernel_rfl) (fun c a w h => hP c a _ _ w h) (y_move rfl (by rfl) (by rfl)) rfl ?_
        (try simp only [zP, zN, zA, zB, zC])
        refine pure_ (i := 10) (N := some 49) (v := undef) #[true, true, true, true, true, true, true, true, true, true, true, false, false, false, false, false, false, false, false, false, false, false, false, false, false, false, false] rfl rfl (by kernel_rfl) (fun c a w h => hP c a _ _ w h) (y_off (by rfl)) rfl ?_
        (try simp only [zP, zN, zA, zB, zC])
        refine pure_ (i := 11) (N := some 50) (v := undef) #[true, true, true, true, true, true, true, true, true, true, true, true, false, false, false, false, false, false, false, false, false, false, false, false, false, false, false] rfl rfl (by kernel_rfl) (fun c a w h => hP c a _ _ w h) (y_off (by rfl)) rfl ?_
        (try simp only [zP, zN, zA, zB, zC])
        refine pure_ (i := 12) (N := some 51) (v := undef) #[true, true, true, true, true, true, true, true, true, true, true, true, true, false, false, false, false, false, false, false, false, false, false, false, false, false, false] rfl rfl (by kernel_rfl) (fun c a w h => hP c a _ _ w h) (y_off (by rfl)) rfl ?_
        (try simp only [zP, zN, zA, zB, zC])
        refine pure_ (i := 13) (N := some 52) (v := undef) #[true, true, true, true, true, true, true, true, true, true, true, true, true, true, false, false, false, false, false, false, false, false, false, false, false, false, false] rfl rfl (by kernel_rfl) (fun c a w h => hP c a _ _ w h) (y_off (by rfl)) rfl ?_
        (try simp only [zP, zN, zA, zB, zC])
        refine pure_ (i := 14) (N := some 53) (v := undef) #[true, true, true, true, true, true, true, true, true, true, true, true, true, true, true, false, false, false, false, false, false, false, false, false, false, false, false] rfl rfl (by kernel_rfl) (fun c a w h => hP c a _ _ w h) (y_off (by rfl)) rfl ?_
        (try simp only [zP, zN, zA, zB, zC])
        refine pure_ (i := 15) (N := some 54) (v := undef) #[true, true, true, true, true, true, true, true, true, true, true, true, true, true, true, true, false, false, false, false, false, false, false, false, false, false, false] rfl rfl (by kernel_rfl) (fun c a w h => hP c a _ _ w h) (y_off (by rfl)) rfl ?_
        (try simp only [zP, zN, zA, zB, zC])
        refine pure_ (i := 16) (N := some 55) (v := undef) #[true, true, true, true, true, true, true, true, true, true, true, true, true, true, true, true, true, false, false, false, false, false, false, false, false, false, false] rfl rfl (by kernel_rfl) (fun c a w h => hP c a _ _ w h) (y_off (by rfl)) rfl ?_
        (try simp only [zP, zN, zA, zB, zC])
        refine pure_ (i := 17) (N := some 56) (v := undef) #[true, true, true, true, true, true, true, true, true, true, true, true, true, true, true, true, true, true, false, false, false, false, false, false, false, false, false] rfl rfl (by kernel_rfl) (fun c a w h => hP c a _ _ w h) (y_off (by rfl)) rfl ?_
        (try simp only [zP, zN, zA, zB, zC])
        refine pure_ (i := 18) (N := some 57) (v := undef) #[true, true, true, true, true, true, true, true, true, true, true, true, true, true, true, true, true, true, true, false, false, false, false, false, false, false, false] rfl rfl (by kernel_rfl) (fun c a w h => hP c a _ _ w h) (y_off (by rfl)) rfl ?_
        (try simp only [zP, zN, zA, zB, zC])
        refine pure_ (i := 19) (N := some 58) (v := undef) #[true, true, true, true, true, true, true, true, true, true, true, true, true, true, true, true, true, true, true, true, false, false, false, false, false, false, false] rfl rfl (by kernel_rfl) (fun c a w h => hP c a _ _ w h) (y_off (by rfl)) rfl ?_
        (try simp only [zP, zN, zA, zB, zC])
        refine pure_ (i := 20) (N := some 59) (v := undef) #[true, true, true, true, true, true, true, true, true, true, true, true, true, true, true, true, true, true, true, true, true, false, false, false, false, false, false] rfl rfl (by kernel_rfl) (fun c a w h => hP c a _ _ w h) (y_off (by rfl)) rfl ?_
        (try simp only [zP, zN, zA, zB, zC])
        refine pure_ (i := 21) (N := some 60) (v := undef) #[true, true, true, true, true, true, true, true, true, true, true, true, true, true, true, true, true, true, true, true, true, true, false, false, false, false, false] rfl rfl (by kernel_rfl) (fun c a w h => hP c a _ _ w h) (y_off (by rfl)) rfl ?_
        (try simp only [zP, zN, zA, zB, zC])
        refine pure_ (i := 22) (N := some 61) (v := undef) #[true, true, true, true, true, true, true, true, true, true, true, true, true, true, true, true, true, true, true, true, true, true, true, false, false, false, false] rfl rfl (by kernel_rfl) (fun c a w h => hP c a _ _ w h) (y_off (by rfl)) rfl ?_
        (try simp only [zP, zN, zA, zB, zC])
        refine pure_ (i := 23) (N := some 62) (v := undef) #[true, true, true, true, true, true, true, true, true, true, true, true, true, true, true, true, true, true, true, true, true, true, true, true, false, false, false] rfl rfl (by kernel_rfl) (fun c a w h => hP c a _ _ w h) (y_off (by rfl)) rfl ?_
        (try simp only [zP, zN, zA, zB, zC])
        refine pure_ (i := 24) (N := some 63) (v := undef) #[true, true, true, true, true, true, true, true, true, true, true, true, true, true, true, true, true, true, true, true, true, true, true, true, true, false, false] rfl rfl (by kernel_rfl) (fun c a w h => hP c a _ _ w h) (y_off (by rfl)) rfl ?_
        (try simp only [zP, zN, zA, zB, zC])
        refine pure_ (i := 25) (N := some 64) (v := undef) #[true, true, true, true, true, true, true, true, true, true, true, true, true, true, true, true, true, true, true, true, true, true, true, true, true, true, false] rfl rfl (by kernel_rfl) (fun c a w h => hP c a _ _ w h) (y_off (by rfl)) rfl ?_
        (try simp only [zP, zN, zA, zB, zC])
        refine pure_ (i := 26) (N := some 65) (v := .bool true) #[true, true, true, true, true, true, true, true, true, true, true, true, true, true, true, true, true, true, true, true, true, true, true, true, true, true, true] rfl rfl (by kernel_rfl) (fun c a w h => hP c a _ _ w h) (y_pick (t := true) (by rfl) rfl (by rfl) (by rfl)) rfl ?_
        (try simp only [zP, zN, zA, zB, zC])
        refine done_ (by kernel_rfl) (th_norm (hK32 _ _ ?_)); clear hK32 K32
        refine wp_cond_true rfl ?_
        refine s_ (fun K36 hK36 => ?_)
        refine pu_ (v := .bool false) (y_assign rfl (by rfl) (by rfl)) ?_
        (try simp only [zP, zN, zA, zB, zC])
        refine nl_ (hK36 _ _ ?_); clear hK36 K36
        refine wp_ret ?_
        refine ib_ret ?_
        refine th_ret ?_
        refine th_ret ?_
        refine ib_ret ?_
        refine ib_ret ?_
        refine th_ret ?_
        refine th_ret ?_
        refine ib_ret ?_
        refine th_ret ?_
        refine hQ _ _ _ ?_
        refine bodyPost_ret (res1 rfl (rdv_tmp (v := .bool false) (by rfl))) rfl ?_
        exact ⟨_, rfl, ⟨fun h9 => absurd h9 (by decide), fun h9 => absurd h9 HR.out⟩, C0.out⟩
      · have jlt := Lib.hid jlt0
        have hyk := Lib.hid hyk0; have ha := Lib.hid ha0; have hykl := Lib.hid hykl0
        have hc := Lib.hid h
        clear jlt0 hyk0 ha0 hykl0 h
        have D36 := Lib.hid (show j < i from jlt.out)
        have Wj := Lib.hid (show IntKind.i64.wrap ((j : Int) + 1) = ((j + 1 : Nat) : Int) by rw [wr64 (by have := jlt.out; have := ilt.out; have := HM.out; omega)]; omega)
        have DI := Lib.hid (show (i : Int) < (M.length : Int) by have := ilt.out; omega)
        have DJ := Lib.hid (show (j : Int) < (M.length : Int) by have := ilt.out; have := jlt.out; omega)
        have DYI := Lib.hid (show (yi : Int) < (L.length : Int) by have := hyil.out; omega)
        have DYK := Lib.hid (show (yk : Int) < (L.length : Int) by have := hykl.out; omega)
        have D47 := Lib.hid (show ¬ (yi : Int) = (yk : Int) by have := hc.out.1; omega)
        have HR := Lib.hid (show ¬ respP L M from fun h9 => by have h8 := (respQ_iff.2 h9).2 j i jlt.out ilt.out _ _ hyk.out hyi.out; have h7 := h8.2 ao bo (by simpa using ha.out) (by simpa using hb.out); rw [hc.out.2] at h7; cases h7)
        refine s_ (fun K37 hK37 => ?_)
        refine pu_ (v := .int .i64 j) (y_move rfl (by rfl) (by rfl)) ?_
        (try simp only [zP, zN, zA, zB, zC])
        refine pu_ (v := .int .i64 i) (y_move rfl (by rfl) (by rfl)) ?_
        (try simp only [zP, zN, zA, zB, zC])
        refine pu_ (v := .bool true) (y_run (by rfl) (fun W => by have d := D36.out; go_simp)) ?_
        (try simp only [zP, zN, zA, zB, zC])
        refine nl_ (hK37 _ _ ?_); clear hK37 K37
        refine wp_cond_true rfl ?_
        refine wp_skip ?_
        refine th_norm (hK29 _ _ ?_); try clear hK29 K29
        refine sq_ (fun K38 hK38 => ?_)
        refine wp_block ?_
        refine sq_ (fun K39 hK39 => ?_)
        refine startk_ (S := fun W => SrcIs W (.slice (some a) L.length c) (L.length) ((L).flatMap opC) 28 ∧ SrcIs W (.slice (some b) M.length d) (M.length) ((M).map (Value.int .i64)) 1 ∧ True) (ds := []) #[false, false, false, false, false, false, false, false, false, false, false, false, false, false, false, false, false, false, false, false, false, false, false, false, false, false, false] (by kernel_rfl) rfl rfl (fun W c => ⟨SL.out.chx c xnin_nil, SM.out.chx c xnin_nil, trivial⟩) (fun w40 C41 hS42 => ?_)
        have C0' := Lib.hid (show Ch [] w w40 from C0.out.trans' C41 (fun x hx => absurd hx (by simp)))
        have SL' := Lib.hid (show SrcIs w40 (.slice (some a) L.length c) (L.length) ((L).flatMap opC) 28 from SL.out.chx C41 xnin_nil)
        have SM' := Lib.hid (show SrcIs w40 (.slice (some b) M.length d) (M.length) ((M).map (Value.int .i64)) 1 from SM.out.chx C41 xnin_nil)
        clear C0 SL SM
        have C0 := C0'; clear C0'
        have SL := SL'; clear SL'
        have SM := SM'; clear SM'
        clear C41
        refine pure_ (i := 0) (N := some 39) (v := .slice (some b) M.length d) #[true, false, false, false, false, false, false, false, false, false, false, false, false, false, false, false, false, false, false, false, false, false, false, false, false, false, false] rfl rfl (by kernel_rfl) (fun c a w h => hP c a _ _ w h) (y_move rfl (by rfl) (by rfl)) rfl ?_
        (try simp only [zP, zN, zA, zB, zC])
        refine pure_ (i := 1) (N := some 40) (v := .int .i64 i) #[true, true, false, false, false, false, false, false, false, false, false, false, false, false, false, false, false, false, false, false, false, false, false, false, false, false, false] rfl rfl (by kernel_rfl) (fun c a w h => hP c a _ _ w h) (y_move rfl (by rfl) (by rfl)) rfl ?_
        (try simp only [zP, zN, zA, zB, zC])
        refine pure_ (i := 2) (N := some 41) (v := .pointer (some (b.add i))) #[true, true, true, false, false, false, false, false, false, false, false, false, false, false, false, false, false, false, false, false, false, false, false, false, false, false, false] rfl rfl (by kernel_rfl) (fun c a w h => hP c a _ _ w h) (y_run (by rfl) (fun W => by have d := DI.out; go_simp)) rfl ?_
        (try simp only [zP, zN, zA, zB, zC])
        refine take_ (i := 3) (N := some 42) (v := .int .i64 yi) #[true, true, true, true, false, false, false, false, false, false, false, false, false, false, false, false, false, false, false, false, false, false, false, false, false, false, false] rfl rfl (by kernel_rfl) (fun c a w h => hP c a _ _ w h) (y_load (p := (b.add i)) rfl (by rfl) (by rfl) (fun W hS => run_load_one (src_int hS.2.1 hyi.out) Try.underlying3 rfl)) hS42 rfl ?_
        (try simp only [zP, zN, zA, zB, zC])
        refine pure_ (i := 4) (N := some 43) (v := .slice (some b) M.length d) #[true, true, true, true, true, false, false, false, false, false, false, false, false, false, false, false, false, false, false, false, false, false, false, false, false, false, false] rfl rfl (by kernel_rfl) (fun c a w h => hP c a _ _ w h) (y_move rfl (by rfl) (by rfl)) rfl ?_
        (try simp only [zP, zN, zA, zB, zC])
        refine pure_ (i := 5) (N := some 44) (v := .int .i64 j) #[true, true, true, true, true, true, false, false, false, false, false, false, false, false, false, false, false, false, false, false, false, false, false, false, false, false, false] rfl rfl (by kernel_rfl) (fun c a w h => hP c a _ _ w h) (y_move rfl (by rfl) (by rfl)) rfl ?_
        (try simp only [zP, zN, zA, zB, zC])
        refine pure_ (i := 6) (N := some 45) (v := .pointer (some (b.add j))) #[true, true, true, true, true, true, true, false, false, false, false, false, false, false, false, false, false, false, false, false, false, false, false, false, false, false, false] rfl rfl (by kernel_rfl) (fun c a w h => hP c a _ _ w h) (y_run (by rfl) (fun W => by have d := DJ.out; go_simp)) rfl ?_
        (try simp only [zP, zN, zA, zB, zC])
        refine take_ (i := 7) (N := some 46) (v := .int .i64 yk) #[true, true, true, true, true, true, true, true, false, false, false, false, false, false, false, false, false, false, false, false, false, false, false, false, false, false, false] rfl rfl (by kernel_rfl) (fun c a w h => hP c a _ _ w h) (y_load (p := (b.add j)) rfl (by rfl) (by rfl) (fun W hS => run_load_one (src_int hS.2.1 hyk.out) Try.underlying3 rfl)) hS42 rfl ?_
        (try simp only [zP, zN, zA, zB, zC])
        refine pure_ (i := 8) (N := some 47) (v := .bool false) #[true, true, true, true, true, true, true, true, true, false, false, false, false, false, false, false, false, false, false, false, false, false, false, false, false, false, false] rfl rfl (by kernel_rfl) (fun c a w h => hP c a _ _ w h) (y_run (by rfl) (fun W => by have d := D47.out; go_simp)) rfl ?_
        (try simp only [zP, zN, zA, zB, zC])
        refine pure_ (i := 9) (N := some 48) (v := .bool false) #[true, true, true, true, true, true, true, true, true, true, false, false, false, false, false, false, false, false, false, false, false, false, false, false, false, false, false] rfl rfl (by kernel_rfl) (fun c a w h => hP c a _ _ w h) (y_move rfl (by rfl) (by rfl)) rfl ?_
        (try simp only [zP, zN, zA, zB, zC])
        refine pure_ (i := 10) (N := some 49) (v := .slice (some a) L.length c) #[true, true, true, true, true, true, true, true, true, true, true, false, false, false, false, false, false, false, false, false, false, false, false, false, false, false, false] rfl rfl (by kernel_rfl) (fun c a w h => hP c a _ _ w h) (y_move rfl (by rfl) (by rfl)) rfl ?_
        (try simp only [zP, zN, zA, zB, zC])
        refine pure_ (i := 11) (N := some 50) (v := .slice (some b) M.length d) #[true, true, true, true, true, true, true, true, true, true, true, true, false, false, false, false, false, false, false, false, false, false, false, false, false, false, false] rfl rfl (by kernel_rfl) (fun c a w h => hP c a _ _ w h) (y_move rfl (by rfl) (by rfl)) rfl ?_
        (try simp only [zP, zN, zA, zB, zC])
        refine pure_ (i := 12) (N := some 51) (v := .int .i64 j) #[true, true, true, true, true, true, true, true, true, true, true, true, true, false, false, false, false, false, false, false, false, false, false, false, false, false, false] rfl rfl (by kernel_rfl) (fun c a w h => hP c a _ _ w h) (y_move rfl (by rfl) (by rfl)) rfl ?_
        (try simp only [zP, zN, zA, zB, zC])
        refine pure_ (i := 13) (N := some 52) (v := .pointer (some (b.add j))) #[true, true, true, true, true, true, true, true, true, true, true, true, true, true, false, false, false, false, false, false, false, false, false, false, false, false, false] rfl rfl (by kernel_rfl) (fun c a w h => hP c a _ _ w h) (y_run (by rfl) (fun W => by have d := DJ.out; go_simp)) rfl ?_
        (try simp only [zP, zN, zA, zB, zC])
        refine take_ (i := 14) (N := some 53) (v := .int .i64 yk) #[true, true, true, true, true, true, true, true, true, true, true, true, true, true, true, false, false, false, false, false, false, false, false, false, false, false, false] rfl rfl (by kernel_rfl) (fun c a w h => hP c a _ _ w h) (y_load (p := (b.add j)) rfl (by rfl) (by rfl) (fun W hS => run_load_one (src_int hS.2.1 hyk.out) Try.underlying3 rfl)) hS42 rfl ?_
        (try simp only [zP, zN, zA, zB, zC])
        refine pure_ (i := 15) (N := some 54) (v := .pointer (some (a.add (yk * 28)))) #[true, true, true, true, true, true, true, true, true, true, true, true, true, true, true, true, false, false, false, false, false, false, false, false, false, false, false] rfl rfl (by kernel_rfl) (fun c a w h => hP c a _ _ w h) (y_run (by rfl) (fun W => by have d := DYK.out; go_simp)) rfl ?_
        (try simp only [zP, zN, zA, zB, zC])
        refine take_ (i := 16) (N := some 55) (v := .agg (opC ao).toArray) #[true, true, true, true, true, true, true, true, true, true, true, true, true, true, true, true, true, false, false, false, false, false, false, false, false, false, false] rfl rfl (by kernel_rfl) (fun c a w h => hP c a _ _ w h) (y_load (p := (a.add (yk * 28))) rfl (by rfl) (by rfl) (fun W hS => run_loadVar_at (src_elem hS.1 ha.out) Try.underlying59 rfl (by rw [opC_len]; kernel_rfl))) hS42 rfl ?_
        (try simp only [zP, zN, zA, zB, zC])
        refine pure_ (i := 17) (N := some 56) (v := .slice (some a) L.length c) #[true, true, true, true, true, true, true, true, true, true, true, true, true, true, true, true, true, true, false, false, false, false, false, false, false, false, false] rfl rfl (by kernel_rfl) (fun c a w h => hP c a _ _ w h) (y_move rfl (by rfl) (by rfl)) rfl ?_
        (try simp only [zP, zN, zA, zB, zC])
        refine pure_ (i := 18) (N := some 57) (v := .slice (some b) M.length d) #[true, true, true, true, true, true, true, true, true, true, true, true, true, true, true, true, true, true, true, false, false, false, false, false, false, false, false] rfl rfl (by kernel_rfl) (fun c a w h => hP c a _ _ w h) (y_move rfl (by rfl) (by rfl)) rfl ?_
        (try simp only [zP, zN, zA, zB, zC])
        refine pure_ (i := 19) (N := some 58) (v := .int .i64 i) #[true, true, true, true, true, true, true, true, true, true, true, true, true, true, true, true, true, true, true, true, false, false, false, false, false, false, false] rfl rfl (by kernel_rfl) (fun c a w h => hP c a _ _ w h) (y_move rfl (by rfl) (by rfl)) rfl ?_
        (try simp only [zP, zN, zA, zB, zC])
        refine pure_ (i := 20) (N := some 59) (v := .pointer (some (b.add i))) #[true, true, true, true, true, true, true, true, true, true, true, true, true, true, true, true, true, true, true, true, true, false, false, false, false, false, false] rfl rfl (by kernel_rfl) (fun c a w h => hP c a _ _ w h) (y_run (by rfl) (fun W => by have d := DI.out; go_simp)) rfl ?_
        (try simp only [zP, zN, zA, zB, zC])
        refine take_ (i := 21) (N := some 60) (v := .int .i64 yi) #[true, true, true, true, true, true, true, true, true, true, true, true, true, true, true, true, true, true, true, true, true, true, false, false, false, false, false] rfl rfl (by kernel_rfl) (fun c a w h => hP c a _ _ w h) (y_load (p := (b.add i)) rfl (by rfl) (by rfl) (fun W hS => run_load_one (src_int hS.2.1 hyi.out) Try.underlying3 rfl)) hS42 rfl ?_
        (try simp only [zP, zN, zA, zB, zC])
        refine pure_ (i := 22) (N := some 61) (v := .pointer (some (a.add (yi * 28)))) #[true, true, true, true, true, true, true, true, true, true, true, true, true, true, true, true, true, true, true, true, true, true, true, false, false, false, false] rfl rfl (by kernel_rfl) (fun c a w h => hP c a _ _ w h) (y_run (by rfl) (fun W => by have d := DYI.out; go_simp)) rfl ?_
        (try simp only [zP, zN, zA, zB, zC])
        refine take_ (i := 23) (N := some 62) (v := .agg (opC bo).toArray) #[true, true, true, true, true, true, true, true, true, true, true, true, true, true, true, true, true, true, true, true, true, true, true, true, false, false, false] rfl rfl (by kernel_rfl) (fun c a w h => hP c a _ _ w h) (y_load (p := (a.add (yi * 28))) rfl (by rfl) (by rfl) (fun W hS => run_loadVar_at (src_elem hS.1 hb.out) Try.underlying59 rfl (by rw [opC_len]; kernel_rfl))) hS42 rfl ?_
        (try simp only [zP, zN, zA, zB, zC])
        refine one_ (i := 24) (N := some 63) #[true, true, true, true, true, true, true, true, true, true, true, true, true, true, true, true, true, true, true, true, true, true, true, true, true, false, false] rfl rfl (by kernel_rfl) (by simp) (fun K43 hK43 => ?_)
        refine e_call Try.func35 (by kernel_rfl) rfl #[.agg (opC ao).toArray, .agg (opC bo).toArray] (by rfl) rfl rfl (by first | rfl | (simp only [List.map_toArray, List.map_cons, List.map_nil]; first | done | rfl)) ((by have h := rmay_ (w := w40) ao bo; rw [hc.out.2] at h; exact h)) ?_
        rintro en w45 ⟨rfl, cc44⟩
        refine ⟨_, rfl, ?_⟩
        have C0' := Lib.hid (show Ch [] w w45 from C0.out.trans' cc44 (fun x hx => absurd hx (by simp)))
        have SL' := Lib.hid (show SrcIs w45 (.slice (some a) L.length c) (L.length) ((L).flatMap opC) 28 from SL.out.chx cc44 xnin_nil)
        have SM' := Lib.hid (show SrcIs w45 (.slice (some b) M.length d) (M.length) ((M).map (Value.int .i64)) 1 from SM.out.chx cc44 xnin_nil)
        clear C0 SL SM
        have C0 := C0'; clear C0'
        have SL := SL'; clear SL'
        have SM := SM'; clear SM'
        clear cc44
        refine hK43.out _ _ ⟨SL.out, SM.out, trivial⟩ (fun hS46 => ?_); clear hK43 K43
        (try simp only [zP, zN, zA, zB, zC])
        refine pure_ (i := 25) (N := some 64) (v := .bool true) #[true, true, true, true, true, true, true, true, true, true, true, true, true, true, true, true, true, true, true, true, true, true, true, true, true, true, false] rfl rfl (by kernel_rfl) (fun c a w h => hP c a _ _ w h) (y_run (by rfl) (fun W => by go_simp)) rfl ?_
        (try simp only [zP, zN, zA, zB, zC])
        refine pure_ (i := 26) (N := some 65) (v := .bool true) #[true, true, true, true, true, true, true, true, true, true, true, true, true, true, true, true, true, true, true, true, true, true, true, true, true, true, true] rfl rfl (by kernel_rfl) (fun c a w h => hP c a _ _ w h) (y_pick (t := false) (by rfl) rfl (by rfl) (by rfl)) rfl ?_
        (try simp only [zP, zN, zA, zB, zC])
        refine done_ (by kernel_rfl) (th_norm (hK39 _ _ ?_)); clear hK39 K39
        refine wp_cond_true rfl ?_
        refine s_ (fun K47 hK47 => ?_)
        refine pu_ (v := .bool false) (y_assign rfl (by rfl) (by rfl)) ?_
        (try simp only [zP, zN, zA, zB, zC])
        refine nl_ (hK47 _ _ ?_); clear hK47 K47
        refine wp_ret ?_
        refine ib_ret ?_
        refine th_ret ?_
        refine th_ret ?_
        refine ib_ret ?_
        refine ib_ret ?_
        refine th_ret ?_
        refine th_ret ?_
        refine ib_ret ?_
        refine th_ret ?_
        refine hQ _ _ _ ?_
        refine bodyPost_ret (res1 rfl (rdv_tmp (v := .bool false) (by rfl))) rfl ?_
        exact ⟨_, rfl, ⟨fun h9 => absurd h9 (by decide), fun h9 => absurd h9 HR.out⟩, C0.out⟩
      · have jlt := Lib.hid jlt0
        have hyk := Lib.hid hyk0; have ha := Lib.hid ha0; have hykl := Lib.hid hykl0
        have hc := Lib.hid h
        clear jlt0 hyk0 ha0 hykl0 h
        have D36 := Lib.hid (show j < i from jlt.out)
        have Wj := Lib.hid (show IntKind.i64.wrap ((j : Int) + 1) = ((j + 1 : Nat) : Int) by rw [wr64 (by have := jlt.out; have := ilt.out; have := HM.out; omega)]; omega)
        have DI := Lib.hid (show (i : Int) < (M.length : Int) by have := ilt.out; omega)
        have DJ := Lib.hid (show (j : Int) < (M.length : Int) by have := ilt.out; have := jlt.out; omega)
        have DYI := Lib.hid (show (yi : Int) < (L.length : Int) by have := hyil.out; omega)
        have DYK := Lib.hid (show (yk : Int) < (L.length : Int) by have := hykl.out; omega)
        have D47 := Lib.hid (show ¬ (yi : Int) = (yk : Int) by have := hc.out.1; omega)
        refine s_ (fun K48 hK48 => ?_)
        refine pu_ (v := .int .i64 j) (y_move rfl (by rfl) (by rfl)) ?_
        (try simp only [zP, zN, zA, zB, zC])
        refine pu_ (v := .int .i64 i) (y_move rfl (by rfl) (by rfl)) ?_
        (try simp only [zP, zN, zA, zB, zC])
        refine pu_ (v := .bool true) (y_run (by rfl) (fun W => by have d := D36.out; go_simp)) ?_
        (try simp only [zP, zN, zA, zB, zC])
        refine nl_ (hK48 _ _ ?_); clear hK48 K48
        refine wp_cond_true rfl ?_
        refine wp_skip ?_
        refine th_norm (hK29 _ _ ?_); try clear hK29 K29
        refine sq_ (fun K49 hK49 => ?_)
        refine wp_block ?_
        refine sq_ (fun K50 hK50 => ?_)
        refine startk_ (S := fun W => SrcIs W (.slice (some a) L.length c) (L.length) ((L).flatMap opC) 28 ∧ SrcIs W (.slice (some b) M.length d) (M.length) ((M).map (Value.int .i64)) 1 ∧ True) (ds := []) #[false, false, false, false, false, false, false, false, false, false, false, false, false, false, false, false, false, false, false, false, false, false, false, false, false, false, false] (by kernel_rfl) rfl rfl (fun W c => ⟨SL.out.chx c xnin_nil, SM.out.chx c xnin_nil, trivial⟩) (fun w51 C52 hS53 => ?_)
        have C0' := Lib.hid (show Ch [] w w51 from C0.out.trans' C52 (fun x hx => absurd hx (by simp)))
        have SL' := Lib.hid (show SrcIs w51 (.slice (some a) L.length c) (L.length) ((L).flatMap opC) 28 from SL.out.chx C52 xnin_nil)
        have SM' := Lib.hid (show SrcIs w51 (.slice (some b) M.length d) (M.length) ((M).map (Value.int .i64)) 1 from SM.out.chx C52 xnin_nil)
        clear C0 SL SM
        have C0 := C0'; clear C0'
        have SL := SL'; clear SL'
        have SM := SM'; clear SM'
        clear C52
        refine pure_ (i := 0) (N := some 39) (v := .slice (some b) M.length d) #[true, false, false, false, false, false, false, false, false, false, false, false, false, false, false, false, false, false, false, false, false, false, false, false, false, false, false] rfl rfl (by kernel_rfl) (fun c a w h => hP c a _ _ w h) (y_move rfl (by rfl) (by rfl)) rfl ?_
        (try simp only [zP, zN, zA, zB, zC])
        refine pure_ (i := 1) (N := some 40) (v := .int .i64 i) #[true, true, false, false, false, false, false, false, false, false, false, false, false, false, false, false, false, false, false, false, false, false, false, false, false, false, false] rfl rfl (by kernel_rfl) (fun c a w h => hP c a _ _ w h) (y_move rfl (by rfl) (by rfl)) rfl ?_
        (try simp only [zP, zN, zA, zB, zC])
        refine pure_ (i := 2) (N := some 41) (v := .pointer (some (b.add i))) #[true, true, true, false, false, false, false, false, false, false, false, false, false, false, false, false, false, false, false, false, false, false, false, false, false, false, false] rfl rfl (by kernel_rfl) (fun c a w h => hP c a _ _ w h) (y_run (by rfl) (fun W => by have d := DI.out; go_simp)) rfl ?_
        (try simp only [zP, zN, zA, zB, zC])
        refine take_ (i := 3) (N := some 42) (v := .int .i64 yi) #[true, true, true, true, false, false, false, false, false, false, false, false, false, false, false, false, false, false, false, false, false, false, false, false, false, false, false] rfl rfl (by kernel_rfl) (fun c a w h => hP c a _ _ w h) (y_load (p := (b.add i)) rfl (by rfl) (by rfl) (fun W hS => run_load_one (src_int hS.2.1 hyi.out) Try.underlying3 rfl)) hS53 rfl ?_
        (try simp only [zP, zN, zA, zB, zC])
        refine pure_ (i := 4) (N := some 43) (v := .slice (some b) M.length d) #[true, true, true, true, true, false, false, false, false, false, false, false, false, false, false, false, false, false, false, false, false, false, false, false, false, false, false] rfl rfl (by kernel_rfl) (fun c a w h => hP c a _ _ w h) (y_move rfl (by rfl) (by rfl)) rfl ?_
        (try simp only [zP, zN, zA, zB, zC])
        refine pure_ (i := 5) (N := some 44) (v := .int .i64 j) #[true, true, true, true, true, true, false, false, false, false, false, false, false, false, false, false, false, false, false, false, false, false, false, false, false, false, false] rfl rfl (by kernel_rfl) (fun c a w h => hP c a _ _ w h) (y_move rfl (by rfl) (by rfl)) rfl ?_
        (try simp only [zP, zN, zA, zB, zC])
        refine pure_ (i := 6) (N := some 45) (v := .pointer (some (b.add j))) #[true, true, true, true, true, true, true, false, false, false, false, false, false, false, false, false, false, false, false, false, false, false, false, false, false, false, false] rfl rfl (by kernel_rfl) (fun c a w h => hP c a _ _ w h) (y_run (by rfl) (fun W => by have d := DJ.out; go_simp)) rfl ?_
        (try simp only [zP, zN, zA, zB, zC])
        refine take_ (i := 7) (N := some 46) (v := .int .i64 yk) #[true, true, true, true, true, true, true, true, false, false, false, false, false, false, false, false, false, false, false, false, false, false, false, false, false, false, false] rfl rfl (by kernel_rfl) (fun c a w h => hP c a _ _ w h) (y_load (p := (b.add j)) rfl (by rfl) (by rfl) (fun W hS => run_load_one (src_int hS.2.1 hyk.out) Try.underlying3 rfl)) hS53 rfl ?_
        (try simp only [zP, zN, zA, zB, zC])
        refine pure_ (i := 8) (N := some 47) (v := .bool false) #[true, true, true, true, true, true, true, true, true, false, false, false, false, false, false, false, false, false, false, false, false, false, false, false, false, false, false] rfl rfl (by kernel_rfl) (fun c a w h => hP c a _ _ w h) (y_run (by rfl) (fun W => by have d := D47.out; go_simp)) rfl ?_
        (try simp only [zP, zN, zA, zB, zC])
        refine pure_ (i := 9) (N := some 48) (v := .bool false) #[true, true, true, true, true, true, true, true, true, true, false, false, false, false, false, false, false, false, false, false, false, false, false, false, false, false, false] rfl rfl (by kernel_rfl) (fun c a w h => hP c a _ _ w h) (y_move rfl (by rfl) (by rfl)) rfl ?_
        (try simp only [zP, zN, zA, zB, zC])
        refine pure_ (i := 10) (N := some 49) (v := .slice (some a) L.length c) #[true, true, true, true, true, true, true, true, true, true, true, false, false, false, false, false, false, false, false, false, false, false, false, false, false, false, false] rfl rfl (by kernel_rfl) (fun c a w h => hP c a _ _ w h) (y_move rfl (by rfl) (by rfl)) rfl ?_
        (try simp only [zP, zN, zA, zB, zC])
        refine pure_ (i := 11) (N := some 50) (v := .slice (some b) M.length d) #[true, true, true, true, true, true, true, true, true, true, true, true, false, false, false, false, false, false, false, false, false, false, false, false, false, false, false] rfl rfl (by kernel_rfl) (fun c a w h => hP c a _ _ w h) (y_move rfl (by rfl) (by rfl)) rfl ?_
        (try simp only [zP, zN, zA, zB, zC])
        refine pure_ (i := 12) (N := some 51) (v := .int .i64 j) #[true, true, true, true, true, true, true, true, true, true, true, true, true, false, false, false, false, false, false, false, false, false, false, false, false, false, false] rfl rfl (by kernel_rfl) (fun c a w h => hP c a _ _ w h) (y_move rfl (by rfl) (by rfl)) rfl ?_
        (try simp only [zP, zN, zA, zB, zC])
        refine pure_ (i := 13) (N := some 52) (v := .pointer (some (b.add j))) #[true, true, true, true, true, true, true, true, true, true, true, true, true, true, false, false, false, false, false, false, false, false, false, false, false, false, false] rfl rfl (by kernel_rfl) (fun c a w h => hP c a _ _ w h) (y_run (by rfl) (fun W => by have d := DJ.out; go_simp)) rfl ?_
        (try simp only [zP, zN, zA, zB, zC])
        refine take_ (i := 14) (N := some 53) (v := .int .i64 yk) #[true, true, true, true, true, true, true, true, true, true, true, true, true, true, true, false, false, false, false, false, false, false, false, false, false, false, false] rfl rfl (by kernel_rfl) (fun c a w h => hP c a _ _ w h) (y_load (p := (b.add j)) rfl (by rfl) (by rfl) (fun W hS => run_load_one (src_int hS.2.1 hyk.out) Try.underlying3 rfl)) hS53 rfl ?_
        (try simp only [zP, zN, zA, zB, zC])
        refine pure_ (i := 15) (N := some 54) (v := .pointer (some (a.add (yk * 28)))) #[true, true, true, true, true, true, true, true, true, true, true, true, true, true, true, true, false, false, false, false, false, false, false, false, false, false, false] rfl rfl (by kernel_rfl) (fun c a w h => hP c a _ _ w h) (y_run (by rfl) (fun W => by have d := DYK.out; go_simp)) rfl ?_
        (try simp only [zP, zN, zA, zB, zC])
        refine take_ (i := 16) (N := some 55) (v := .agg (opC ao).toArray) #[true, true, true, true, true, true, true, true, true, true, true, true, true, true, true, true, true, false, false, false, false, false, false, false, false, false, false] rfl rfl (by kernel_rfl) (fun c a w h => hP c a _ _ w h) (y_load (p := (a.add (yk * 28))) rfl (by rfl) (by rfl) (fun W hS => run_loadVar_at (src_elem hS.1 ha.out) Try.underlying59 rfl (by rw [opC_len]; kernel_rfl))) hS53 rfl ?_
        (try simp only [zP, zN, zA, zB, zC])
        refine pure_ (i := 17) (N := some 56) (v := .slice (some a) L.length c) #[true, true, true, true, true, true, true, true, true, true, true, true, true, true, true, true, true, true, false, false, false, false, false, false, false, false, false] rfl rfl (by kernel_rfl) (fun c a w h => hP c a _ _ w h) (y_move rfl (by rfl) (by rfl)) rfl ?_
        (try simp only [zP, zN, zA, zB, zC])
        refine pure_ (i := 18) (N := some 57) (v := .slice (some b) M.length d) #[true, true, true, true, true, true, true, true, true, true, true, true, true, true, true, true, true, true, true, false, false, false, false, false, false, false, false] rfl rfl (by kernel_rfl) (fun c a w h => hP c a _ _ w h) (y_move rfl (by rfl) (by rfl)) rfl ?_
        (try simp only [zP, zN, zA, zB, zC])
        refine pure_ (i := 19) (N := some 58) (v := .int .i64 i) #[true, true, true, true, true, true, true, true, true, true, true, true, true, true, true, true, true, true, true, true, false, false, false, false, false, false, false] rfl rfl (by kernel_rfl) (fun c a w h => hP c a _ _ w h) (y_move rfl (by rfl) (by rfl)) rfl ?_
        (try simp only [zP, zN, zA, zB, zC])
        refine pure_ (i := 20) (N := some 59) (v := .pointer (some (b.add i))) #[true, true, true, true, true, true, true, true, true, true, true, true, true, true, true, true, true, true, true, true, true, false, false, false, false, false, false] rfl rfl (by kernel_rfl) (fun c a w h => hP c a _ _ w h) (y_run (by rfl) (fun W => by have d := DI.out; go_simp)) rfl ?_
        (try simp only [zP, zN, zA, zB, zC])
        refine take_ (i := 21) (N := some 60) (v := .int .i64 yi) #[true, true, true, true, true, true, true, true, true, true, true, true, true, true, true, true, true, true, true, true, true, true, false, false, false, false, false] rfl rfl (by kernel_rfl) (fun c a w h => hP c a _ _ w h) (y_load (p := (b.add i)) rfl (by rfl) (by rfl) (fun W hS => run_load_one (src_int hS.2.1 hyi.out) Try.underlying3 rfl)) hS53 rfl ?_
        (try simp only [zP, zN, zA, zB, zC])
        refine pure_ (i := 22) (N := some 61) (v := .pointer (some (a.add (yi * 28)))) #[true, true, true, true, true, true, true, true, true, true, true, true, true, true, true, true, true, true, true, true, true, true, true, false, false, false, false] rfl rfl (by kernel_rfl) (fun c a w h => hP c a _ _ w h) (y_run (by rfl) (fun W => by have d := DYI.out; go_simp)) rfl ?_
        (try simp only [zP, zN, zA, zB, zC])
        refine take_ (i := 23) (N := some 62) (v := .agg (opC bo).toArray) #[true, true, true, true, true, true, true, true, true, true, true, true, true, true, true, true, true, true, true, true, true, true, true, true, false, false, false] rfl rfl (by kernel_rfl) (fun c a w h => hP c a _ _ w h) (y_load (p := (a.add (yi * 28))) rfl (by rfl) (by rfl) (fun W hS => run_loadVar_at (src_elem hS.1 hb.out) Try.underlying59 rfl (by rw [opC_len]; kernel_rfl))) hS53 rfl ?_
        (try simp only [zP, zN, zA, zB, zC])
        refine one_ (i := 24) (N := some 63) #[true, true, true, true, true, true, true, true, true, true, true, true, true, true, true, true, true, true, true, true, true, true, true, true, true, false, false] rfl rfl (by kernel_rfl) (by simp) (fun K54 hK54 => ?_)
        refine e_call Try.func35 (by kernel_rfl) rfl #[.agg (opC ao).toArray, .agg (opC bo).toArray] (by rfl) rfl rfl (by first | rfl | (simp only [List.map_toArray, List.map_cons, List.map_nil]; first | done | rfl)) ((by have h := rmay_ (w := w51) ao bo; rw [hc.out.2] at h; exact h)) ?_
        rintro en w56 ⟨rfl, cc55⟩
        refine ⟨_, rfl, ?_⟩
        have C0' := Lib.hid (show Ch [] w w56 from C0.out.trans' cc55 (fun x hx => absurd hx (by simp)))
        have SL' := Lib.hid (show SrcIs w56 (.slice (some a) L.length c) (L.length) ((L).flatMap opC) 28 from SL.out.chx cc55 xnin_nil)
        have SM' := Lib.hid (show SrcIs w56 (.slice (some b) M.length d) (M.length) ((M).map (Value.int .i64)) 1 from SM.out.chx cc55 xnin_nil)
        clear C0 SL SM
        have C0 := C0'; clear C0'
        have SL := SL'; clear SL'
        have SM := SM'; clear SM'
        clear cc55
        refine hK54.out _ _ ⟨SL.out, SM.out, trivial⟩ (fun hS57 => ?_); clear hK54 K54
        (try simp only [zP, zN, zA, zB, zC])
        refine pure_ (i := 25) (N := some 64) (v := .bool false) #[true, true, true, true, true, true, true, true, true, true, true, true, true, true, true, true, true, true, true, true, true, true, true, true, true, true, false] rfl rfl (by kernel_rfl) (fun c a w h => hP c a _ _ w h) (y_run (by rfl) (fun W => by go_simp)) rfl ?_
        (try simp only [zP, zN, zA, zB, zC])
        refine pure_ (i := 26) (N := some 65) (v := .bool false) #[true, true, true, true, true, true, true, true, true, true, true, true, true, true, true, true, true, true, true, true, true, true, true, true, true, true, true] rfl rfl (by kernel_rfl) (fun c a w h => hP c a _ _ w h) (y_pick (t := false) (by rfl) rfl (by rfl) (by rfl)) rfl ?_
        (try simp only [zP, zN, zA, zB, zC])
        refine done_ (by kernel_rfl) (th_norm (hK50 _ _ ?_)); clear hK50 K50
        refine wp_cond_false rfl ?_
        refine wp_skip ?_
        refine ib_norm ?_
        refine th_norm (hK49 _ _ ?_); try clear hK49 K49
        refine r_ ?_
        refine pu_ (v := .int .i64 j) (y_move rfl (by rfl) (by rfl)) ?_
        (try simp only [zP, zN, zA, zB, zC])
        refine pu_ (v := .int .i64 (j + 1 : Nat)) (y_run (by rfl) (fun W => by have d := Wj.out; go_simp)) ?_
        (try simp only [zP, zN, zA, zB, zC])
        refine pu_ (v := .int .i64 (j + 1 : Nat)) (y_assign rfl (by rfl) (by rfl)) ?_
        (try simp only [zP, zN, zA, zB, zC])
        refine nl_ ?_
        exact th_norm (hK28 (jq - 1) _ _ (by have := jlt.out; have := hj.out; omega) ⟨j + 1, fun us_ => (#[.slice (some a) L.length c, .slice (some b) M.length d, us 2, us 3, .bool false, us 5, .int .i64 i, .int .i64 (j + 1 : Nat), us 8, us 9, us 10, us 11, us 12, us 13, us 14, us 15, us 16, us 17, us 18, us 19, us 20, us 21, us 22, us 23, us 24, us 25, us 26, us 27, us 28, us 29, us 30, us 31, us 32, us 33, .int .i64 j, .int .i64 i, .bool true, .int .i64 j, .int .i64 (j + 1 : Nat), .slice (some b) M.length d, .int .i64 i, .pointer (some (b.add i)), .int .i64 yi, .slice (some b) M.length d, .int .i64 j, .pointer (some (b.add j)), .int .i64 yk, .bool false, .bool false, .slice (some a) L.length c, .slice (some b) M.length d, .int .i64 j, .pointer (some (b.add j)), .int .i64 yk, .pointer (some (a.add (yk * 28))), .agg (opC ao).toArray, .slice (some a) L.length c, .slice (some b) M.length d, .int .i64 i, .pointer (some (b.add i)), .int .i64 yi, .pointer (some (a.add (yi * 28))), .agg (opC bo).toArray, .bool true, .bool false, .bool false] : Array Value).getD us_ undef, rfl, C0, SL, SM, Lib.hid ⟨by have := jlt.out; omega, by have := jlt.out; have := hj.out; omega⟩, Lib.hid (rowQ_succ hq.out (pair_yes hyk.out hyi.out ha.out hb.out hc.out.1 hc.out.2))⟩)
      · have D36 := Lib.hid (show i ≤ j by omega)
        have HE2 := Lib.hid (show j = i by have := hj.out; omega)
        clear h
        refine s_ (fun K58 hK58 => ?_)
        refine pu_ (v := .int .i64 j) (y_move rfl (by rfl) (by rfl)) ?_
        (try simp only [zP, zN, zA, zB, zC])
        refine pu_ (v := .int .i64 i) (y_move rfl (by rfl) (by rfl)) ?_
        (try simp only [zP, zN, zA, zB, zC])
        refine pu_ (v := .bool false) (y_run (by rfl) (fun W => by have d := D36.out; go_simp)) ?_
        (try simp only [zP, zN, zA, zB, zC])
        refine nl_ (hK58 _ _ ?_); clear hK58 K58
        refine wp_cond_false rfl ?_
        refine wp_exit ?_
        refine th_exit ?_
        refine th_exit ?_
        refine ib_exit ?_
        refine ib_norm ?_
        refine th_norm (hK25 _ _ ?_); try clear hK25 K25
        refine r_ ?_
        refine pu_ (v := .int .i64 i) (y_move rfl (by rfl) (by rfl)) ?_
        (try simp only [zP, zN, zA, zB, zC])
        refine pu_ (v := .int .i64 (i + 1 : Nat)) (y_run (by rfl) (fun W => by have d := Wi.out; go_simp)) ?_
        (try simp only [zP, zN, zA, zB, zC])
        refine pu_ (v := .int .i64 (i + 1 : Nat)) (y_assign rfl (by rfl) (by rfl)) ?_
        (try simp only [zP, zN, zA, zB, zC])
        refine nl_ ?_
        exact th_norm (hK22 (iq - 1) _ _ (by have := ilt.out; have := hi.out; omega) ⟨i + 1, fun us_ => (#[.slice (some a) L.length c, .slice (some b) M.length d, us 2, us 3, .bool false, us 5, .int .i64 (i + 1 : Nat), .int .i64 j, us 8, us 9, us 10, us 11, us 12, us 13, us 14, us 15, us 16, us 17, us 18, us 19, us 20, us 21, us 22, us 23, us 24, us 25, us 26, us 27, us 28, us 29, us 30, us 31, .int .i64 i, .int .i64 (i + 1 : Nat), .int .i64 j, .int .i64 i, .bool false, us 37, us 38, us 39, us 40, us 41, us 42, us 43, us 44, us 45, us 46, us 47, us 48, us 49, us 50, us 51, us 52, us 53, us 54, us 55, us 56, us 57, us 58, us 59, us 60, us 61, us 62, us 63, us 64, us 65] : Array Value).getD us_ undef, rfl, C0, SL, SM, Lib.hid ⟨by have := ilt.out; omega, by have := ilt.out; have := hi.out; omega⟩, Lib.hid (pairQ_succ hp.out (by have h9 := hq.out; rw [HE2.out] at h9; exact h9))⟩)
    · have D31 := Lib.hid (show ¬ i < M.length by have := hi.out; omega)
      have HR := Lib.hid (show respP L M from respQ_iff.1 ⟨HRG.out, by have h9 := hp.out; rw [h] at h9; exact h9⟩)
      clear h
      refine s_ (fun K59 hK59 => ?_)
      refine pu_ (v := .int .i64 i) (y_move rfl (by rfl) (by rfl)) ?_
      (try simp only [zP, zN, zA, zB, zC])
      refine pu_ (v := .slice B M.length d) (y_move rfl (by rfl) (by rfl)) ?_
      (try simp only [zP, zN, zA, zB, zC])
      refine pu_ (v := .int .i64 M.length) (y_run (by rfl) (fun W => by go_simp)) ?_
      (try simp only [zP, zN, zA, zB, zC])
      refine pu_ (v := .bool false) (y_run (by rfl) (fun W => by have d := D31.out; go_simp)) ?_
      (try simp only [zP, zN, zA, zB, zC])
      refine nl_ (hK59 _ _ ?_); clear hK59 K59
      refine wp_cond_false rfl ?_
      refine wp_exit ?_
      refine th_exit ?_
      refine th_exit ?_
      refine ib_exit ?_
      refine th_norm (hK19 _ _ ?_); try clear hK19 K19
      refine s_ (fun K60 hK60 => ?_)
      refine pu_ (v := .bool true) (y_assign rfl (by rfl) (by rfl)) ?_
      (try simp only [zP, zN, zA, zB, zC])
      refine nl_ (hK60 _ _ ?_); clear hK60 K60
      refine wp_ret ?_
      refine hQ _ _ _ ?_
      refine bodyPost_ret (res1 rfl (rdv_tmp (v := .bool true) (by rfl))) rfl ?_
      exact ⟨_, rfl, ⟨fun _ => HR.out, fun _ => rfl⟩, C0.out⟩
theorem same_ {A B : Option Addr} {c d : Nat} {M : List Int} (HM : Hid (M.length ≤ 1000)) (SM : Hid (SrcIs w (.slice A M.length c) (M.length) ((M).map (Value.int .i64)) 1)) (SN : Hid (SrcIs w (.slice B M.length d) (M.length) ((M).map (Value.int .i64)) 1)) :
    Calls Try.prog 36 #[.slice A M.length c, .slice B M.length d] w fun en w' => en = .returned (.bool true) ∧ Ch [] w w' := by
  have C0 := Lib.hid (Ch.refl [] w)
  go_enter Try.func36, Try.ntmps36
  refine q_ (fun Q hQ hP => ?_)
  refine s_ (fun K1 hK1 => ?_)
  refine pu_ (v := .bool false) (y_assign rfl (by rfl) (by rfl)) ?_
  (try simp only [zP, zN, zA, zB, zC])
  refine nl_ (hK1 _ _ ?_); clear hK1 K1
  refine s_ (fun K2 hK2 => ?_)
  refine pu_ (v := .slice A M.length c) (y_move rfl (by rfl) (by rfl)) ?_
  (try simp only [zP, zN, zA, zB, zC])
  refine pu_ (v := .int .i64 M.length) (y_run (by rfl) (fun W => by go_simp)) ?_
  (try simp only [zP, zN, zA, zB, zC])
  refine pu_ (v := .slice B M.length d) (y_move rfl (by rfl) (by rfl)) ?_
  (try simp only [zP, zN, zA, zB, zC])
  refine pu_ (v := .int .i64 M.length) (y_run (by rfl) (fun W => by go_simp)) ?_
  (try simp only [zP, zN, zA, zB, zC])
  refine pu_ (v := .bool true) (y_run (by rfl) (fun W => by go_simp)) ?_
  (try simp only [zP, zN, zA, zB, zC])
  refine pu_ (v := .bool true) (y_assign rfl (by rfl) (by rfl)) ?_
  (try simp only [zP, zN, zA, zB, zC])
  refine nl_ (hK2 _ _ ?_); clear hK2 K2
  refine sq_ (fun K3 hK3 => ?_)
  refine s_ (fun K4 hK4 => ?_)
  refine pu_ (v := .int .i64 0) (y_assign rfl (by rfl) (by rfl)) ?_
  (try simp only [zP, zN, zA, zB, zC])
  refine nl_ (hK4 _ _ ?_); clear hK4 K4
  refine wp_block ?_
  refine loopk_ (fun (kq : Nat) (a' : Act) (w' : World) => ∃ (k : Nat), ∃ (us : Nat → Value), a' = ⟨#[.slice A M.length c, .slice B M.length d, us 2, us 3, .bool false, .bool true, .int .i64 k, us 7, us 8, us 9, us 10, us 11, us 12, us 13, us 14, us 15, us 16, us 17, us 18, us 19, us 20, us 21, us 22, us 23, us 24, us 25, us 26, us 27, us 28, us 29, us 30, us 31, us 32, us 33, us 34, us 35, us 36], []⟩ ∧ Hid (Ch [] w w') ∧ Hid (SrcIs w' (.slice A M.length c) (M.length) ((M).map (Value.int .i64)) 1) ∧ Hid (SrcIs w' (.slice B M.length d) (M.length) ((M).map (Value.int .i64)) 1) ∧ Hid (k ≤ M.length ∧ kq + k = M.length)) (M.length) (⟨0, fun us_ => (#[.slice A M.length c, .slice B M.length d, undef, undef, .bool false, .bool true, .int .i64 0, .slice A M.length c, .int .i64 M.length, .slice B M.length d, .int .i64 M.length, .bool true, undef, undef, undef, undef, undef, undef, undef, undef, undef, undef, undef, undef, undef, undef, undef, undef, undef, undef, undef, undef, undef, undef, undef, undef, undef] : Array Value).getD us_ undef, rfl, C0, SM, SN, Lib.hid ⟨by omega, by omega⟩⟩) ?_
  rintro kq _ w5 ⟨k, us, rfl, C0, SM, SN, hk⟩ K6 hK6
  refine sq_ (fun K7 hK7 => ?_)
  rcases at_ways hk.out.1 with ⟨z, hlt0, ho0⟩ | h
  · have hlt := Lib.hid hlt0
    have ho := Lib.hid ho0
    clear hlt0 ho0
    obtain ⟨a, hsm_a⟩ := src_some SM.out (by have := hlt.out; omega)
    subst hsm_a
    obtain ⟨b, hsm_b⟩ := src_some SN.out (by have := hlt.out; omega)
    subst hsm_b
    have D17 := Lib.hid (show (k : Int) < (M.length : Int) by have := hlt.out; omega)
    have Wk := Lib.hid (show IntKind.i64.wrap ((k : Int) + 1) = ((k + 1 : Nat) : Int) by rw [wr64 (by have := hlt.out; have := HM.out; omega)]; omega)
    refine s_ (fun K8 hK8 => ?_)
    refine pu_ (v := .bool true) (y_move rfl (by rfl) (by rfl)) ?_
    (try simp only [zP, zN, zA, zB, zC])
    refine pu_ (v := .bool true) (y_move rfl (by rfl) (by rfl)) ?_
    (try simp only [zP, zN, zA, zB, zC])
    refine pu_ (v := .int .i64 k) (y_move rfl (by rfl) (by rfl)) ?_
    (try simp only [zP, zN, zA, zB, zC])
    refine pu_ (v := .slice (some a) M.length c) (y_move rfl (by rfl) (by rfl)) ?_
    (try simp only [zP, zN, zA, zB, zC])
    refine pu_ (v := .int .i64 M.length) (y_run (by rfl) (fun W => by go_simp)) ?_
    (try simp only [zP, zN, zA, zB, zC])
    refine pu_ (v := .bool true) (y_run (by rfl) (fun W => by have d := D17.out; go_simp)) ?_
    (try simp only [zP, zN, zA, zB, zC])
    refine pu_ (v := .bool true) (y_pick (t := true) (by rfl) rfl (by rfl) (by rfl)) ?_
    (try simp only [zP, zN, zA, zB, zC])
    refine pu_ (v := .bool true) (y_move rfl (by rfl) (by rfl)) ?_
    (try simp only [zP, zN, zA, zB, zC])
    refine pu_ (v := .int .i64 k) (y_move rfl (by rfl) (by rfl)) ?_
    (try simp only [zP, zN, zA, zB, zC])
    refine pu_ (v := .slice (some b) M.length d) (y_move rfl (by rfl) (by rfl)) ?_
    (try simp only [zP, zN, zA, zB, zC])
    refine pu_ (v := .int .i64 M.length) (y_run (by rfl) (fun W => by go_simp)) ?_
    (try simp only [zP, zN, zA, zB, zC])
    refine pu_ (v := .bool true) (y_run (by rfl) (fun W => by have d := D17.out; go_simp)) ?_
    (try simp only [zP, zN, zA, zB, zC])
    refine pu_ (v := .bool true) (y_pick (t := true) (by rfl) rfl (by rfl) (by rfl)) ?_
    (try simp only [zP, zN, zA, zB, zC])
    refine nl_ (hK8 _ _ ?_); clear hK8 K8
    refine wp_cond_true rfl ?_
    refine wp_skip ?_
    refine th_norm (hK7 _ _ ?_); try clear hK7 K7
    refine sq_ (fun K9 hK9 => ?_)
    refine wp_block ?_
    refine startk_ (S := fun W => SrcIs W (.slice (some a) M.length c) (M.length) ((M).map (Value.int .i64)) 1 ∧ SrcIs W (.slice (some b) M.length d) (M.length) ((M).map (Value.int .i64)) 1 ∧ True) (ds := []) #[false, false, false, false, false, false, false, false, false, false] (by kernel_rfl) rfl rfl (fun W c => ⟨SM.out.chx c xnin_nil, SN.out.chx c xnin_nil, trivial⟩) (fun w10 C11 hS12 => ?_)
    have C0' := Lib.hid (show Ch [] w w10 from C0.out.trans' C11 (fun x hx => absurd hx (by simp)))
    have SM' := Lib.hid (show SrcIs w10 (.slice (some a) M.length c) (M.length) ((M).map (Value.int .i64)) 1 from SM.out.chx C11 xnin_nil)
    have SN' := Lib.hid (show SrcIs w10 (.slice (some b) M.length d) (M.length) ((M).map (Value.int .i64)) 1 from SN.out.chx C11 xnin_nil)
    clear C0 SM SN
    have C0 := C0'; clear C0'
    have SM := SM'; clear SM'
    have SN := SN'; clear SN'
    clear C11
    refine pure_ (i := 0) (N := some 27) (v := .slice (some a) M.length c) #[true, false, false, false, false, false, false, false, false, false] rfl rfl (by kernel_rfl) (fun c a w h => hP c a _ _ w h) (y_move rfl (by rfl) (by rfl)) rfl ?_
    (try simp only [zP, zN, zA, zB, zC])
    refine pure_ (i := 1) (N := some 28) (v := .int .i64 k) #[true, true, false, false, false, false, false, false, false, false] rfl rfl (by kernel_rfl) (fun c a w h => hP c a _ _ w h) (y_move rfl (by rfl) (by rfl)) rfl ?_
    (try simp only [zP, zN, zA, zB, zC])
    refine pure_ (i := 2) (N := some 29) (v := .pointer (some (a.add (k)))) #[true, true, true, false, false, false, false, false, false, false] rfl rfl (by kernel_rfl) (fun c a w h => hP c a _ _ w h) (y_run (by rfl) (fun W => by have d := D17.out; go_simp)) rfl ?_
    (try simp only [zP, zN, zA, zB, zC])
    refine take_ (i := 3) (N := some 30) (v := .int .i64 z) #[true, true, true, true, false, false, false, false, false, false] rfl rfl (by kernel_rfl) (fun c a w h => hP c a _ _ w h) (y_load (p := (a.add (k))) rfl (by rfl) (by rfl) (fun W hS => run_load_one (src_int hS.1 ho.out) Try.underlying3 rfl)) hS12 rfl ?_
    (try simp only [zP, zN, zA, zB, zC])
    refine pure_ (i := 4) (N := some 31) (v := .slice (some b) M.length d) #[true, true, true, true, true, false, false, false, false, false] rfl rfl (by kernel_rfl) (fun c a w h => hP c a _ _ w h) (y_move rfl (by rfl) (by rfl)) rfl ?_
    (try simp only [zP, zN, zA, zB, zC])
    refine pure_ (i := 5) (N := some 32) (v := .int .i64 k) #[true, true, true, true, true, true, false, false, false, false] rfl rfl (by kernel_rfl) (fun c a w h => hP c a _ _ w h) (y_move rfl (by rfl) (by rfl)) rfl ?_
    (try simp only [zP, zN, zA, zB, zC])
    refine pure_ (i := 6) (N := some 33) (v := .pointer (some (b.add (k)))) #[true, true, true, true, true, true, true, false, false, false] rfl rfl (by kernel_rfl) (fun c a w h => hP c a _ _ w h) (y_run (by rfl) (fun W => by have d := D17.out; go_simp)) rfl ?_
    (try simp only [zP, zN, zA, zB, zC])
    refine take_ (i := 7) (N := some 34) (v := .int .i64 z) #[true, true, true, true, true, true, true, true, false, false] rfl rfl (by kernel_rfl) (fun c a w h => hP c a _ _ w h) (y_load (p := (b.add (k))) rfl (by rfl) (by rfl) (fun W hS => run_load_one (src_int hS.2.1 ho.out) Try.underlying3 rfl)) hS12 rfl ?_
    (try simp only [zP, zN, zA, zB, zC])
    refine pure_ (i := 8) (N := some 35) (v := .bool true) #[true, true, true, true, true, true, true, true, true, false] rfl rfl (by kernel_rfl) (fun c a w h => hP c a _ _ w h) (y_run (by rfl) (fun W => by go_simp)) rfl ?_
    (try simp only [zP, zN, zA, zB, zC])
    refine pure_ (i := 9) (N := some 5) (v := .bool true) #[true, true, true, true, true, true, true, true, true, true] rfl rfl (by kernel_rfl) (fun c a w h => hP c a _ _ w h) (y_assign rfl (by rfl) (by rfl)) rfl ?_
    (try simp only [zP, zN, zA, zB, zC])
    refine done_ (by kernel_rfl) ?_
    refine ib_norm ?_
    refine th_norm (hK9 _ _ ?_); try clear hK9 K9
    refine r_ ?_
    refine pu_ (v := .int .i64 k) (y_move rfl (by rfl) (by rfl)) ?_
    (try simp only [zP, zN, zA, zB, zC])
    refine pu_ (v := .int .i64 (k + 1 : Nat)) (y_run (by rfl) (fun W => by have d := Wk.out; go_simp)) ?_
    (try simp only [zP, zN, zA, zB, zC])
    refine pu_ (v := .int .i64 (k + 1 : Nat)) (y_assign rfl (by rfl) (by rfl)) ?_
    (try simp only [zP, zN, zA, zB, zC])
    refine nl_ ?_
    exact th_norm (hK6 (kq - 1) _ _ (by have := hlt.out; have := hk.out; omega) ⟨k + 1, fun us_ => (#[.slice (some a) M.length c, .slice (some b) M.length d, us 2, us 3, .bool false, .bool true, .int .i64 (k + 1 : Nat), us 7, us 8, us 9, us 10, us 11, .bool true, .bool true, .int .i64 k, .slice (some a) M.length c, .int .i64 M.length, .bool true, .bool true, .bool true, .int .i64 k, .slice (some b) M.length d, .int .i64 M.length, .bool true, .bool true, .int .i64 k, .int .i64 (k + 1 : Nat), .slice (some a) M.length c, .int .i64 k, .pointer (some (a.add (k))), .int .i64 z, .slice (some b) M.length d, .int .i64 k, .pointer (some (b.add (k))), .int .i64 z, .bool true, us 36] : Array Value).getD us_ undef, rfl, C0, SM, SN, Lib.hid ⟨by have := hlt.out; omega, by have := hlt.out; have := hk.out; omega⟩⟩)
  · have D17 := Lib.hid (show ¬ k < M.length by have := hk.out; omega)
    clear h
    refine s_ (fun K13 hK13 => ?_)
    refine pu_ (v := .bool true) (y_move rfl (by rfl) (by rfl)) ?_
    (try simp only [zP, zN, zA, zB, zC])
    refine pu_ (v := .bool true) (y_move rfl (by rfl) (by rfl)) ?_
    (try simp only [zP, zN, zA, zB, zC])
    refine pu_ (v := .int .i64 k) (y_move rfl (by rfl) (by rfl)) ?_
    (try simp only [zP, zN, zA, zB, zC])
    refine pu_ (v := .slice A M.length c) (y_move rfl (by rfl) (by rfl)) ?_
    (try simp only [zP, zN, zA, zB, zC])
    refine pu_ (v := .int .i64 M.length) (y_run (by rfl) (fun W => by go_simp)) ?_
    (try simp only [zP, zN, zA, zB, zC])
    refine pu_ (v := .bool false) (y_run (by rfl) (fun W => by have d := D17.out; go_simp)) ?_
    (try simp only [zP, zN, zA, zB, zC])
    refine pu_ (v := .bool false) (y_pick (t := true) (by rfl) rfl (by rfl) (by rfl)) ?_
    (try simp only [zP, zN, zA, zB, zC])
    refine pu_ (v := .bool false) (y_move rfl (by rfl) (by rfl)) ?_
    (try simp only [zP, zN, zA, zB, zC])
    refine pu_ (y_off (by rfl)) ?_
    (try simp only [zP, zN, zA, zB, zC])
    refine pu_ (y_off (by rfl)) ?_
    (try simp only [zP, zN, zA, zB, zC])
    refine pu_ (y_off (by rfl)) ?_
    (try simp only [zP, zN, zA, zB, zC])
    refine pu_ (y_off (by rfl)) ?_
    (try simp only [zP, zN, zA, zB, zC])
    refine pu_ (v := .bool false) (y_pick (t := false) (by rfl) rfl (by rfl) (by rfl)) ?_
    (try simp only [zP, zN, zA, zB, zC])
    refine nl_ (hK13 _ _ ?_); clear hK13 K13
    refine wp_cond_false rfl ?_
    refine wp_exit ?_
    refine th_exit ?_
    refine th_exit ?_
    refine ib_exit ?_
    refine th_norm (hK3 _ _ ?_); try clear hK3 K3
    refine s_ (fun K14 hK14 => ?_)
    refine pu_ (v := .bool true) (y_move rfl (by rfl) (by rfl)) ?_
    (try simp only [zP, zN, zA, zB, zC])
    refine pu_ (v := .bool true) (y_assign rfl (by rfl) (by rfl)) ?_
    (try simp only [zP, zN, zA, zB, zC])
    refine nl_ (hK14 _ _ ?_); clear hK14 K14
    refine wp_ret ?_
    refine hQ _ _ _ ?_
    refine bodyPost_ret (res1 rfl (rdv_tmp (v := .bool true) (by rfl))) rfl ?_
    exact ⟨rfl, C0.out⟩
end
end Go.Proofs.Ytggcpbnlblbpjaa.L
