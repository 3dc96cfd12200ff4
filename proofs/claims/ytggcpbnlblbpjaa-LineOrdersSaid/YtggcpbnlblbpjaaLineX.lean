/- The walks of the document's answer: Whole, Order. -/
import Derived.Test.YtggcpbnlblbpjaaLineY
namespace Go.Proofs.Ytggcpbnlblbpjaa.L
open Go Go.RowKit Go.Proofs.Ytggcpbnlblbpjaa.K Go.Proofs.Ytggcpbnlblbpjaa.H Go.Proofs.YtggcpbnlblbpjaaW.PrintLast
set_option linter.unusedVariables false
set_option linter.unusedSimpArgs false
set_option maxRecDepth 100000
set_option maxHeartbeats 1600000
section
variable {w : World}
theorem rwhole_ {A B : Option Addr} {c d : Nat} {L : List HOp} {M : List Int} (HN : Hid (L.length ≤ 1000)) (HM : Hid (M.length ≤ 1000)) (SL : Hid (SrcIs w (.slice A L.length c) (L.length) ((L).flatMap opC) 28)) (SM : Hid (SrcIs w (.slice B M.length d) (M.length) ((M).map (Value.int .i64)) 1)) :
    Calls Try.prog 41 #[.slice A L.length c, .slice B M.length d] w fun en w' => ∃ b, en = .returned (.bool b) ∧ (b = true ↔ wholeP L M) ∧ Ch [] w w' := by
  have C0 := Lib.hid (Ch.refl [] w)
  go_enter Try.func41, Try.ntmps41
  refine q_ (fun Q hQ hP => ?_)
  refine s_ (fun K1 hK1 => ?_)
  refine pu_ (v := .bool false) (y_assign rfl (by rfl) (by rfl)) ?_
  (try simp only [zP, zN, zA, zB, zC])
  refine nl_ (hK1 _ _ ?_); clear hK1 K1
  refine sq_ (fun K2 hK2 => ?_)
  refine s_ (fun K3 hK3 => ?_)
  refine pu_ (v := .int .i64 0) (y_assign rfl (by rfl) (by rfl)) ?_
  (try simp only [zP, zN, zA, zB, zC])
  refine nl_ (hK3 _ _ ?_); clear hK3 K3
  refine wp_block ?_
  refine loopk_ (fun (kq : Nat) (a' : Act) (w' : World) => ∃ (k : Nat), ∃ (us : Nat → Value), a' = ⟨#[.slice A L.length c, .slice B M.length d, us 2, us 3, .bool false, .int .i64 k, us 6, us 7, us 8, us 9, us 10, us 11, us 12, us 13, us 14, us 15, us 16, us 17, us 18, us 19, us 20, us 21, us 22, us 23, us 24, us 25, us 26, us 27, us 28, us 29, us 30, us 31, us 32, us 33, us 34, us 35, us 36], []⟩ ∧ Hid (Ch [] w w') ∧ Hid (SrcIs w' (.slice A L.length c) (L.length) ((L).flatMap opC) 28) ∧ Hid (SrcIs w' (.slice B M.length d) (M.length) ((M).map (Value.int .i64)) 1) ∧ Hid (k ≤ L.length ∧ kq + k = L.length) ∧ Hid (wholeP (L.take k) M)) (L.length) (⟨0, fun us_ => (#[.slice A L.length c, .slice B M.length d, undef, undef, .bool false, .int .i64 0, undef, undef, undef, undef, undef, undef, undef, undef, undef, undef, undef, undef, undef, undef, undef, undef, undef, undef, undef, undef, undef, undef, undef, undef, undef, undef, undef, undef, undef, undef, undef] : Array Value).getD us_ undef, rfl, C0, SL, SM, Lib.hid ⟨by omega, by omega⟩, Lib.hid (whole_nil M)⟩) ?_
  rintro kq _ w4 ⟨k, us, rfl, C0, SL, SM, hk, hw⟩ K5 hK5
  refine sq_ (fun K6 hK6 => ?_)
  rcases at_ways hk.out.1 with ⟨o, hlt0, ho0⟩ | h
  · have hlt := Lib.hid hlt0
    have ho := Lib.hid ho0
    clear hlt0 ho0
    obtain ⟨a, hsm_a⟩ := src_some SL.out (by have := hlt.out; omega)
    subst hsm_a
    have D11 := Lib.hid (show (k : Int) < (L.length : Int) by have := hlt.out; omega)
    have Wk := Lib.hid (show IntKind.i64.wrap ((k : Int) + 1) = ((k + 1 : Nat) : Int) by rw [wr64 (by have := hlt.out; have := HN.out; omega)]; omega)
    refine s_ (fun K7 hK7 => ?_)
    refine pu_ (v := .int .i64 k) (y_move rfl (by rfl) (by rfl)) ?_
    (try simp only [zP, zN, zA, zB, zC])
    refine pu_ (v := .slice (some a) L.length c) (y_move rfl (by rfl) (by rfl)) ?_
    (try simp only [zP, zN, zA, zB, zC])
    refine pu_ (v := .int .i64 L.length) (y_run (by rfl) (fun W => by go_simp)) ?_
    (try simp only [zP, zN, zA, zB, zC])
    refine pu_ (v := .bool true) (y_run (by rfl) (fun W => by have d := D11.out; go_simp)) ?_
    (try simp only [zP, zN, zA, zB, zC])
    refine nl_ (hK7 _ _ ?_); clear hK7 K7
    refine wp_cond_true rfl ?_
    refine wp_skip ?_
    refine th_norm (hK6 _ _ ?_); try clear hK6 K6
    refine sq_ (fun K8 hK8 => ?_)
    refine wp_block ?_
    refine s_ (fun K9 hK9 => ?_)
    refine pu_ (v := .slice (some a) L.length c) (y_move rfl (by rfl) (by rfl)) ?_
    (try simp only [zP, zN, zA, zB, zC])
    refine pu_ (v := .int .i64 k) (y_move rfl (by rfl) (by rfl)) ?_
    (try simp only [zP, zN, zA, zB, zC])
    refine pu_ (v := .pointer (some (a.add (k * 28)))) (y_run (by rfl) (fun W => by have d := D11.out; go_simp)) ?_
    (try simp only [zP, zN, zA, zB, zC])
    refine pu_ (v := .pointer (some ((a.add (k * 28)).add 4))) (y_run (by rfl) (fun W => by go_simp)) ?_
    (try simp only [zP, zN, zA, zB, zC])
    refine ld_ (v := .int .i64 o.t) rfl (by rfl) (by rfl) (run_load_one (src_elem SL.out ho.out 4 _ (by simp [opC])) Try.underlying3 rfl) ?_
    (try simp only [zP, zN, zA, zB, zC])
    refine pu_ (v := .bool (decide (o.t ≤ 0))) (y_run (by rfl) (fun W => by go_simp)) ?_
    (try simp only [zP, zN, zA, zB, zC])
    refine pu_ (v := .bool (decide (o.t ≤ 0))) (y_assign rfl (by rfl) (by rfl)) ?_
    (try simp only [zP, zN, zA, zB, zC])
    refine nl_ (hK9 _ _ ?_); clear hK9 K9
    refine sq_ (fun K10 hK10 => ?_)
    refine s_ (fun K11 hK11 => ?_)
    refine pu_ (v := .int .i64 0) (y_assign rfl (by rfl) (by rfl)) ?_
    (try simp only [zP, zN, zA, zB, zC])
    refine nl_ (hK11 _ _ ?_); clear hK11 K11
    refine wp_block ?_
    refine loopk_ (fun (jq : Nat) (a' : Act) (w' : World) => ∃ (j : Nat), ∃ (b : Bool), ∃ (us : Nat → Value), a' = ⟨#[.slice (some a) L.length c, .slice B M.length d, us 2, us 3, .bool false, .int .i64 k, .bool b, .int .i64 j, us 8, us 9, us 10, us 11, us 12, us 13, us 14, us 15, us 16, us 17, us 18, us 19, us 20, us 21, us 22, us 23, us 24, us 25, us 26, us 27, us 28, us 29, us 30, us 31, us 32, us 33, us 34, us 35, us 36], []⟩ ∧ Hid (Ch [] w w') ∧ Hid (SrcIs w' (.slice (some a) L.length c) (L.length) ((L).flatMap opC) 28) ∧ Hid (SrcIs w' (.slice B M.length d) (M.length) ((M).map (Value.int .i64)) 1) ∧ Hid (j ≤ M.length ∧ jq + j = M.length) ∧ Hid (b = true ↔ (o.t ≤ 0 ∨ (k : Int) ∈ M.take j))) (M.length) (⟨0, decide (o.t ≤ 0), fun us_ => (#[.slice (some a) L.length c, .slice B M.length d, us 2, us 3, .bool false, .int .i64 k, .bool (decide (o.t ≤ 0)), .int .i64 0, .int .i64 k, .slice (some a) L.length c, .int .i64 L.length, .bool true, us 12, us 13, .slice (some a) L.length c, .int .i64 k, .pointer (some (a.add (k * 28))), .pointer (some ((a.add (k * 28)).add 4)), .int .i64 o.t, .bool (decide (o.t ≤ 0)), us 20, us 21, us 22, us 23, us 24, us 25, us 26, us 27, us 28, us 29, us 30, us 31, us 32, us 33, us 34, us 35, us 36] : Array Value).getD us_ undef, rfl, C0, SL, SM, Lib.hid ⟨by omega, by omega⟩, Lib.hid (by simp)⟩) ?_
    rintro jq _ w12 ⟨j, b, us, rfl, C0, SL, SM, hj, hin⟩ K13 hK13
    refine sq_ (fun K14 hK14 => ?_)
    rcases at_ways hj.out.1 with ⟨z, jlt0, hz0⟩ | h; rcases win_ways b k z with h | h | h
    · have jlt := Lib.hid jlt0
      have hz := Lib.hid hz0
      subst h
      clear jlt0 hz0
      obtain ⟨b2, hsm_b2⟩ := src_some SM.out (by have := jlt.out; omega)
      subst hsm_b2
      have D23 := Lib.hid (show (j : Int) < (M.length : Int) by have := jlt.out; omega)
      have Wj := Lib.hid (show IntKind.i64.wrap ((j : Int) + 1) = ((j + 1 : Nat) : Int) by rw [wr64 (by have := jlt.out; have := HM.out; omega)]; omega)
      refine s_ (fun K15 hK15 => ?_)
      refine pu_ (v := .int .i64 j) (y_move rfl (by rfl) (by rfl)) ?_
      (try simp only [zP, zN, zA, zB, zC])
      refine pu_ (v := .slice (some b2) M.length d) (y_move rfl (by rfl) (by rfl)) ?_
      (try simp only [zP, zN, zA, zB, zC])
      refine pu_ (v := .int .i64 M.length) (y_run (by rfl) (fun W => by go_simp)) ?_
      (try simp only [zP, zN, zA, zB, zC])
      refine pu_ (v := .bool true) (y_run (by rfl) (fun W => by have d := D23.out; go_simp)) ?_
      (try simp only [zP, zN, zA, zB, zC])
      refine nl_ (hK15 _ _ ?_); clear hK15 K15
      refine wp_cond_true rfl ?_
      refine wp_skip ?_
      refine th_norm (hK14 _ _ ?_); try clear hK14 K14
      refine sq_ (fun K16 hK16 => ?_)
      refine wp_block ?_
      refine r_ ?_
      refine pu_ (v := .bool true) (y_move rfl (by rfl) (by rfl)) ?_
      (try simp only [zP, zN, zA, zB, zC])
      refine pu_ (v := .bool true) (y_move rfl (by rfl) (by rfl)) ?_
      (try simp only [zP, zN, zA, zB, zC])
      refine pu_ (y_off (by rfl)) ?_
      (try simp only [zP, zN, zA, zB, zC])
      refine pu_ (y_off (by rfl)) ?_
      (try simp only [zP, zN, zA, zB, zC])
      refine pu_ (y_off (by rfl)) ?_
      (try simp only [zP, zN, zA, zB, zC])
      refine pu_ (y_off (by rfl)) ?_
      (try simp only [zP, zN, zA, zB, zC])
      refine pu_ (y_off (by rfl)) ?_
      (try simp only [zP, zN, zA, zB, zC])
      refine pu_ (y_off (by rfl)) ?_
      (try simp only [zP, zN, zA, zB, zC])
      refine pu_ (v := .bool true) (y_pick (t := true) (by rfl) rfl (by rfl) (by rfl)) ?_
      (try simp only [zP, zN, zA, zB, zC])
      refine pu_ (v := .bool true) (y_assign rfl (by rfl) (by rfl)) ?_
      (try simp only [zP, zN, zA, zB, zC])
      refine nl_ ?_
      refine ib_norm ?_
      refine th_norm (hK16 _ _ ?_); try clear hK16 K16
      refine r_ ?_
      refine pu_ (v := .int .i64 j) (y_move rfl (by rfl) (by rfl)) ?_
      (try simp only [zP, zN, zA, zB, zC])
      refine pu_ (v := .int .i64 (j + 1 : Nat)) (y_run (by rfl) (fun W => by have d := Wj.out; go_simp)) ?_
      (try simp only [zP, zN, zA, zB, zC])
      refine pu_ (v := .int .i64 (j + 1 : Nat)) (y_assign rfl (by rfl) (by rfl)) ?_
      (try simp only [zP, zN, zA, zB, zC])
      refine nl_ ?_
      exact th_norm (hK13 (jq - 1) _ _ (by have := jlt.out; have := hj.out; omega) ⟨j + 1, true, fun us_ => (#[.slice (some a) L.length c, .slice (some b2) M.length d, us 2, us 3, .bool false, .int .i64 k, .bool true, .int .i64 (j + 1 : Nat), us 8, us 9, us 10, us 11, us 12, us 13, us 14, us 15, us 16, us 17, us 18, us 19, .int .i64 j, .slice (some b2) M.length d, .int .i64 M.length, .bool true, .int .i64 j, .int .i64 (j + 1 : Nat), .bool true, .bool true, undef, undef, undef, undef, undef, undef, .bool true, us 35, us 36] : Array Value).getD us_ undef, rfl, C0, SL, SM, Lib.hid ⟨by have := jlt.out; omega, by have := jlt.out; have := hj.out; omega⟩, Lib.hid (win_step hz.out hin.out (rfl))⟩)
    · have jlt := Lib.hid jlt0
      have hz := Lib.hid hz0
      obtain ⟨hb, hc0⟩ := h
      subst hb
      have hc := Lib.hid hc0
      clear hc0
      clear jlt0 hz0
      obtain ⟨b2, hsm_b2⟩ := src_some SM.out (by have := jlt.out; omega)
      subst hsm_b2
      have D23 := Lib.hid (show (j : Int) < (M.length : Int) by have := jlt.out; omega)
      have Wj := Lib.hid (show IntKind.i64.wrap ((j : Int) + 1) = ((j + 1 : Nat) : Int) by rw [wr64 (by have := jlt.out; have := HM.out; omega)]; omega)
      have D33 := Lib.hid (show (k : Int) = z from hc.out)
      refine s_ (fun K17 hK17 => ?_)
      refine pu_ (v := .int .i64 j) (y_move rfl (by rfl) (by rfl)) ?_
      (try simp only [zP, zN, zA, zB, zC])
      refine pu_ (v := .slice (some b2) M.length d) (y_move rfl (by rfl) (by rfl)) ?_
      (try simp only [zP, zN, zA, zB, zC])
      refine pu_ (v := .int .i64 M.length) (y_run (by rfl) (fun W => by go_simp)) ?_
      (try simp only [zP, zN, zA, zB, zC])
      refine pu_ (v := .bool true) (y_run (by rfl) (fun W => by have d := D23.out; go_simp)) ?_
      (try simp only [zP, zN, zA, zB, zC])
      refine nl_ (hK17 _ _ ?_); clear hK17 K17
      refine wp_cond_true rfl ?_
      refine wp_skip ?_
      refine th_norm (hK14 _ _ ?_); try clear hK14 K14
      refine sq_ (fun K18 hK18 => ?_)
      refine wp_block ?_
      refine r_ ?_
      refine pu_ (v := .bool false) (y_move rfl (by rfl) (by rfl)) ?_
      (try simp only [zP, zN, zA, zB, zC])
      refine pu_ (v := .bool false) (y_move rfl (by rfl) (by rfl)) ?_
      (try simp only [zP, zN, zA, zB, zC])
      refine pu_ (v := .slice (some b2) M.length d) (y_move rfl (by rfl) (by rfl)) ?_
      (try simp only [zP, zN, zA, zB, zC])
      refine pu_ (v := .int .i64 j) (y_move rfl (by rfl) (by rfl)) ?_
      (try simp only [zP, zN, zA, zB, zC])
      refine pu_ (v := .pointer (some (b2.add (j)))) (y_run (by rfl) (fun W => by have d := D23.out; go_simp)) ?_
      (try simp only [zP, zN, zA, zB, zC])
      refine ld_ (v := .int .i64 z) rfl (by rfl) (by rfl) (run_load_one (src_int SM.out hz.out) Try.underlying3 rfl) ?_
      (try simp only [zP, zN, zA, zB, zC])
      refine pu_ (v := .int .i64 k) (y_move rfl (by rfl) (by rfl)) ?_
      (try simp only [zP, zN, zA, zB, zC])
      refine pu_ (v := .bool true) (y_run (by rfl) (fun W => by have d := D33.out; go_simp)) ?_
      (try simp only [zP, zN, zA, zB, zC])
      refine pu_ (v := .bool true) (y_pick (t := false) (by rfl) rfl (by rfl) (by rfl)) ?_
      (try simp only [zP, zN, zA, zB, zC])
      refine pu_ (v := .bool true) (y_assign rfl (by rfl) (by rfl)) ?_
      (try simp only [zP, zN, zA, zB, zC])
      refine nl_ ?_
      refine ib_norm ?_
      refine th_norm (hK18 _ _ ?_); try clear hK18 K18
      refine r_ ?_
      refine pu_ (v := .int .i64 j) (y_move rfl (by rfl) (by rfl)) ?_
      (try simp only [zP, zN, zA, zB, zC])
      refine pu_ (v := .int .i64 (j + 1 : Nat)) (y_run (by rfl) (fun W => by have d := Wj.out; go_simp)) ?_
      (try simp only [zP, zN, zA, zB, zC])
      refine pu_ (v := .int .i64 (j + 1 : Nat)) (y_assign rfl (by rfl) (by rfl)) ?_
      (try simp only [zP, zN, zA, zB, zC])
      refine nl_ ?_
      exact th_norm (hK13 (jq - 1) _ _ (by have := jlt.out; have := hj.out; omega) ⟨j + 1, true, fun us_ => (#[.slice (some a) L.length c, .slice (some b2) M.length d, us 2, us 3, .bool false, .int .i64 k, .bool true, .int .i64 (j + 1 : Nat), us 8, us 9, us 10, us 11, us 12, us 13, us 14, us 15, us 16, us 17, us 18, us 19, .int .i64 j, .slice (some b2) M.length d, .int .i64 M.length, .bool true, .int .i64 j, .int .i64 (j + 1 : Nat), .bool false, .bool false, .slice (some b2) M.length d, .int .i64 j, .pointer (some (b2.add (j))), .int .i64 z, .int .i64 k, .bool true, .bool true, us 35, us 36] : Array Value).getD us_ undef, rfl, C0, SL, SM, Lib.hid ⟨by have := jlt.out; omega, by have := jlt.out; have := hj.out; omega⟩, Lib.hid (win_step hz.out hin.out (by rw [decide_eq_true hc.out]; rfl))⟩)
    · have jlt := Lib.hid jlt0
      have hz := Lib.hid hz0
      obtain ⟨hb, hc0⟩ := h
      subst hb
      have hc := Lib.hid hc0
      clear hc0
      clear jlt0 hz0
      obtain ⟨b2, hsm_b2⟩ := src_some SM.out (by have := jlt.out; omega)
      subst hsm_b2
      have D23 := Lib.hid (show (j : Int) < (M.length : Int) by have := jlt.out; omega)
      have Wj := Lib.hid (show IntKind.i64.wrap ((j : Int) + 1) = ((j + 1 : Nat) : Int) by rw [wr64 (by have := jlt.out; have := HM.out; omega)]; omega)
      have D33 := Lib.hid (show ¬ z = (k : Int) from fun h9 => hc.out h9.symm)
      refine s_ (fun K19 hK19 => ?_)
      refine pu_ (v := .int .i64 j) (y_move rfl (by rfl) (by rfl)) ?_
      (try simp only [zP, zN, zA, zB, zC])
      refine pu_ (v := .slice (some b2) M.length d) (y_move rfl (by rfl) (by rfl)) ?_
      (try simp only [zP, zN, zA, zB, zC])
      refine pu_ (v := .int .i64 M.length) (y_run (by rfl) (fun W => by go_simp)) ?_
      (try simp only [zP, zN, zA, zB, zC])
      refine pu_ (v := .bool true) (y_run (by rfl) (fun W => by have d := D23.out; go_simp)) ?_
      (try simp only [zP, zN, zA, zB, zC])
      refine nl_ (hK19 _ _ ?_); clear hK19 K19
      refine wp_cond_true rfl ?_
      refine wp_skip ?_
      refine th_norm (hK14 _ _ ?_); try clear hK14 K14
      refine sq_ (fun K20 hK20 => ?_)
      refine wp_block ?_
      refine r_ ?_
      refine pu_ (v := .bool false) (y_move rfl (by rfl) (by rfl)) ?_
      (try simp only [zP, zN, zA, zB, zC])
      refine pu_ (v := .bool false) (y_move rfl (by rfl) (by rfl)) ?_
      (try simp only [zP, zN, zA, zB, zC])
      refine pu_ (v := .slice (some b2) M.length d) (y_move rfl (by rfl) (by rfl)) ?_
      (try simp only [zP, zN, zA, zB, zC])
      refine pu_ (v := .int .i64 j) (y_move rfl (by rfl) (by rfl)) ?_
      (try simp only [zP, zN, zA, zB, zC])
      refine pu_ (v := .pointer (some (b2.add (j)))) (y_run (by rfl) (fun W => by have d := D23.out; go_simp)) ?_
      (try simp only [zP, zN, zA, zB, zC])
      refine ld_ (v := .int .i64 z) rfl (by rfl) (by rfl) (run_load_one (src_int SM.out hz.out) Try.underlying3 rfl) ?_
      (try simp only [zP, zN, zA, zB, zC])
      refine pu_ (v := .int .i64 k) (y_move rfl (by rfl) (by rfl)) ?_
      (try simp only [zP, zN, zA, zB, zC])
      refine pu_ (v := .bool false) (y_run (by rfl) (fun W => by have d := D33.out; go_simp)) ?_
      (try simp only [zP, zN, zA, zB, zC])
      refine pu_ (v := .bool false) (y_pick (t := false) (by rfl) rfl (by rfl) (by rfl)) ?_
      (try simp only [zP, zN, zA, zB, zC])
      refine pu_ (v := .bool false) (y_assign rfl (by rfl) (by rfl)) ?_
      (try simp only [zP, zN, zA, zB, zC])
      refine nl_ ?_
      refine ib_norm ?_
      refine th_norm (hK20 _ _ ?_); try clear hK20 K20
      refine r_ ?_
      refine pu_ (v := .int .i64 j) (y_move rfl (by rfl) (by rfl)) ?_
      (try simp only [zP, zN, zA, zB, zC])
      refine pu_ (v := .int .i64 (j + 1 : Nat)) (y_run (by rfl) (fun W => by have d := Wj.out; go_simp)) ?_
      (try simp only [zP, zN, zA, zB, zC])
      refine pu_ (v := .int .i64 (j + 1 : Nat)) (y_assign rfl (by rfl) (by rfl)) ?_
      (try simp only [zP, zN, zA, zB, zC])
      refine nl_ ?_
      exact th_norm (hK13 (jq - 1) _ _ (by have := jlt.out; have := hj.out; omega) ⟨j + 1, false, fun us_ => (#[.slice (some a) L.length c, .slice (some b2) M.length d, us 2, us 3, .bool false, .int .i64 k, .bool false, .int .i64 (j + 1 : Nat), us 8, us 9, us 10, us 11, us 12, us 13, us 14, us 15, us 16, us 17, us 18, us 19, .int .i64 j, .slice (some b2) M.length d, .int .i64 M.length, .bool true, .int .i64 j, .int .i64 (j + 1 : Nat), .bool false, .bool false, .slice (some b2) M.length d, .int .i64 j, .pointer (some (b2.add (j))), .int .i64 z, .int .i64 k, .bool false, .bool false, us 35, us 36] : Array Value).getD us_ undef, rfl, C0, SL, SM, Lib.hid ⟨by have := jlt.out; omega, by have := jlt.out; have := hj.out; omega⟩, Lib.hid (win_step hz.out hin.out (by rw [decide_eq_false hc.out]; rfl))⟩)
    · have D23 := Lib.hid (show ¬ j < M.length by have := hj.out; omega)
      have hin2 := Lib.hid (show b = true ↔ (o.t ≤ 0 ∨ (k : Int) ∈ M) from by have h9 := hin.out; rw [h, List.take_length] at h9; exact h9)
      clear h
      refine s_ (fun K21 hK21 => ?_)
      refine pu_ (v := .int .i64 j) (y_move rfl (by rfl) (by rfl)) ?_
      (try simp only [zP, zN, zA, zB, zC])
      refine pu_ (v := .slice B M.length d) (y_move rfl (by rfl) (by rfl)) ?_
      (try simp only [zP, zN, zA, zB, zC])
      refine pu_ (v := .int .i64 M.length) (y_run (by rfl) (fun W => by go_simp)) ?_
      (try simp only [zP, zN, zA, zB, zC])
      refine pu_ (v := .bool false) (y_run (by rfl) (fun W => by have d := D23.out; go_simp)) ?_
      (try simp only [zP, zN, zA, zB, zC])
      refine nl_ (hK21 _ _ ?_); clear hK21 K21
      refine wp_cond_false rfl ?_
      refine wp_exit ?_
      refine th_exit ?_
      refine th_exit ?_
      refine ib_exit ?_
      refine th_norm (hK10 _ _ ?_); try clear hK10 K10
      rcases (show b = true ∨ b = false by cases b <;> simp) with h | h
      · subst h
        have HWP := Lib.hid (show o.t > 0 → (k : Int) ∈ M from fun h9 => (hin2.out.1 rfl).resolve_left (by omega))
        refine s_ (fun K22 hK22 => ?_)
        refine pu_ (v := .bool true) (y_move rfl (by rfl) (by rfl)) ?_
        (try simp only [zP, zN, zA, zB, zC])
        refine pu_ (v := .bool false) (y_run (by rfl) (fun W => by go_simp)) ?_
        (try simp only [zP, zN, zA, zB, zC])
        refine nl_ (hK22 _ _ ?_); clear hK22 K22
        refine wp_cond_false rfl ?_
        refine wp_skip ?_
        refine ib_norm ?_
        refine th_norm (hK8 _ _ ?_); try clear hK8 K8
        refine r_ ?_
        refine pu_ (v := .int .i64 k) (y_move rfl (by rfl) (by rfl)) ?_
        (try simp only [zP, zN, zA, zB, zC])
        refine pu_ (v := .int .i64 (k + 1 : Nat)) (y_run (by rfl) (fun W => by have d := Wk.out; go_simp)) ?_
        (try simp only [zP, zN, zA, zB, zC])
        refine pu_ (v := .int .i64 (k + 1 : Nat)) (y_assign rfl (by rfl) (by rfl)) ?_
        (try simp only [zP, zN, zA, zB, zC])
        refine nl_ ?_
        exact th_norm (hK5 (kq - 1) _ _ (by have := hlt.out; have := hk.out; omega) ⟨k + 1, fun us_ => (#[.slice (some a) L.length c, .slice B M.length d, us 2, us 3, .bool false, .int .i64 (k + 1 : Nat), .bool true, .int .i64 j, us 8, us 9, us 10, us 11, .int .i64 k, .int .i64 (k + 1 : Nat), us 14, us 15, us 16, us 17, us 18, us 19, .int .i64 j, .slice B M.length d, .int .i64 M.length, .bool false, us 24, us 25, us 26, us 27, us 28, us 29, us 30, us 31, us 32, us 33, us 34, .bool true, .bool false] : Array Value).getD us_ undef, rfl, C0, SL, SM, Lib.hid ⟨by have := hlt.out; omega, by have := hlt.out; have := hk.out; omega⟩, Lib.hid (whole_snoc ho.out hw.out HWP.out)⟩)
      · subst h
        have HR := Lib.hid (show ¬ wholeP L M from fun h9 => by have h8 : ¬ o.t ≤ 0 := fun h7 => Bool.noConfusion (hin2.out.2 (.inl h7)); exact Bool.noConfusion (hin2.out.2 (.inr (h9 k o ho.out (by omega)))))
        refine s_ (fun K23 hK23 => ?_)
        refine pu_ (v := .bool false) (y_move rfl (by rfl) (by rfl)) ?_
        (try simp only [zP, zN, zA, zB, zC])
        refine pu_ (v := .bool true) (y_run (by rfl) (fun W => by go_simp)) ?_
        (try simp only [zP, zN, zA, zB, zC])
        refine nl_ (hK23 _ _ ?_); clear hK23 K23
        refine wp_cond_true rfl ?_
        refine s_ (fun K24 hK24 => ?_)
        refine pu_ (v := .bool false) (y_assign rfl (by rfl) (by rfl)) ?_
        (try simp only [zP, zN, zA, zB, zC])
        refine nl_ (hK24 _ _ ?_); clear hK24 K24
        refine wp_ret ?_
        refine ib_ret ?_
        refine th_ret ?_
        refine th_ret ?_
        refine ib_ret ?_
        refine th_ret ?_
        refine hQ _ _ _ ?_
        refine bodyPost_ret (res1 rfl (rdv_tmp (v := .bool false) (by rfl))) rfl ?_
        exact ⟨_, rfl, ⟨fun h9 => absurd h9 (by decide), fun h9 => absurd h9 HR.out⟩, C0.out⟩
  · have D11 := Lib.hid (show ¬ k < L.length by have := hk.out; omega)
    have HR := Lib.hid (show wholeP L M from by have h9 := hw.out; rw [h, List.take_length] at h9; exact h9)
    clear h
    refine s_ (fun K25 hK25 => ?_)
    refine pu_ (v := .int .i64 k) (y_move rfl (by rfl) (by rfl)) ?_
    (try simp only [zP, zN, zA, zB, zC])
    refine pu_ (v := .slice A L.length c) (y_move rfl (by rfl) (by rfl)) ?_
    (try simp only [zP, zN, zA, zB, zC])
    refine pu_ (v := .int .i64 L.length) (y_run (by rfl) (fun W => by go_simp)) ?_
    (try simp only [zP, zN, zA, zB, zC])
    refine pu_ (v := .bool false) (y_run (by rfl) (fun W => by have d := D11.out; go_simp)) ?_
    (try simp only [zP, zN, zA, zB, zC])
    refine nl_ (hK25 _ _ ?_); clear hK25 K25
    refine wp_cond_false rfl ?_
    refine wp_exit ?_
    refine th_exit ?_
    refine th_exit ?_
    refine ib_exit ?_
    refine th_norm (hK2 _ _ ?_); try clear hK2 K2
    refine s_ (fun K26 hK26 => ?_)
    refine pu_ (v := .bool true) (y_assign rfl (by rfl) (by rfl)) ?_
    (try simp only [zP, zN, zA, zB, zC])
    refine nl_ (hK26 _ _ ?_); clear hK26 K26
    refine wp_ret ?_
    refine hQ _ _ _ ?_
    refine bodyPost_ret (res1 rfl (rdv_tmp (v := .bool true) (by rfl))) rfl ?_
    exact ⟨_, rfl, ⟨fun _ => HR.out, fun _ => rfl⟩, C0.out⟩
theorem rorder_ {A : Option Addr} {c : Nat} {L : List HOp} (HN : Hid (L.length ≤ 1000)) (SL : Hid (SrcIs w (.slice A L.length c) (L.length) ((L).flatMap opC) 28)) :
    Calls Try.prog 38 #[.slice A L.length c] w fun en w' => ∃ v' X', en = .returned v' ∧ OwnS w' w.heap.size 3 1 v' X'.length (X'.map vi) ∧ sorts L (doneI L L.length) X' ∧ Ch [] w w' := by
  have C0 := Lib.hid (Ch.refl [] w)
  obtain ⟨i3, I3⟩ := Info.of info3
  go_enter Try.func38, Try.ntmps38
  refine q_ (fun Q hQ hP => ?_)
  refine s_ (fun K1 hK1 => ?_)
  refine pu_ (v := .slice none 0 0) (y_assign rfl (by rfl) (by rfl)) ?_
  (try simp only [zP, zN, zA, zB, zC])
  refine nl_ (hK1 _ _ ?_); clear hK1 K1
  refine s_ (fun K2 hK2 => ?_)
  refine pu_ (v := .slice none 0 0) (y_assign rfl (by rfl) (by rfl)) ?_
  (try simp only [zP, zN, zA, zB, zC])
  refine nl_ (hK2 _ _ ?_); clear hK2 K2
  refine sq_ (fun K3 hK3 => ?_)
  refine s_ (fun K4 hK4 => ?_)
  refine pu_ (v := .int .i64 0) (y_assign rfl (by rfl) (by rfl)) ?_
  (try simp only [zP, zN, zA, zB, zC])
  refine nl_ (hK4 _ _ ?_); clear hK4 K4
  refine wp_block ?_
  refine loopk_ (fun (kq : Nat) (a' : Act) (w' : World) => ∃ (k : Nat), ∃ (v : Value), ∃ (X : List Int), ∃ (us : Nat → Value), a' = ⟨#[.slice A L.length c, us 1, .slice none 0 0, v, .int .i64 k, us 5, us 6, us 7, us 8, us 9, us 10, us 11, us 12, us 13, us 14, us 15, us 16, us 17, us 18, us 19, us 20, us 21, us 22, us 23, us 24, us 25, us 26, us 27, us 28, us 29, us 30, us 31, us 32, us 33, us 34, us 35, us 36, us 37, us 38, us 39, us 40, us 41, us 42, us 43, us 44, us 45, us 46, us 47, us 48, us 49, us 50, us 51, us 52, us 53, us 54, us 55], []⟩ ∧ Hid (Ch [] w w') ∧ Hid (SrcIs w' (.slice A L.length c) (L.length) ((L).flatMap opC) 28) ∧ Hid (OwnS w' w.heap.size 3 1 (v) (X.length) (X.map vi)) ∧ Hid (k ≤ L.length ∧ kq + k = L.length) ∧ Hid (sorts L (doneI L k) X) ∧ Hid (outP v X) ∧ Hid (∀ k, k ∈ xb (.slice A L.length c) → k ∉ rl v)) (L.length) (⟨0, _, [], fun us_ => (#[.slice A L.length c, undef, .slice none 0 0, .slice none 0 0, .int .i64 0, undef, undef, undef, undef, undef, undef, undef, undef, undef, undef, undef, undef, undef, undef, undef, undef, undef, undef, undef, undef, undef, undef, undef, undef, undef, undef, undef, undef, undef, undef, undef, undef, undef, undef, undef, undef, undef, undef, undef, undef, undef, undef, undef, undef, undef, undef, undef, undef, undef, undef, undef] : Array Value).getD us_ undef, rfl, C0, SL, Lib.hid (OwnS.nil _ _ _ _ _), Lib.hid ⟨by omega, by omega⟩, Lib.hid (sorts_nil L), Lib.hid (.inl ⟨rfl, rfl⟩), Lib.hid (fun k _ hm => absurd hm (by simp [rl]))⟩) ?_
  rintro kq _ w5 ⟨k, v, X, us, rfl, C0, SL, OX, hk, hs, hn, hxr⟩ K6 hK6
  refine sq_ (fun K7 hK7 => ?_)
  rcases at_ways hk.out.1 with ⟨o, hlt0, ho0⟩ | h; rcases Classical.em (o.d > 0) with h | h
  · have hlt := Lib.hid hlt0
    have ho := Lib.hid ho0
    have hd := Lib.hid h
    clear hlt0 ho0 h
    obtain ⟨a, hsm_a⟩ := src_some SL.out (by have := hlt.out; omega)
    subst hsm_a
    have D10 := Lib.hid (show (k : Int) < (L.length : Int) by have := hlt.out; omega)
    have Wk := Lib.hid (show IntKind.i64.wrap ((k : Int) + 1) = ((k + 1 : Nat) : Int) by rw [wr64 (by have := hlt.out; have := HN.out; omega)]; omega)
    have D18 := Lib.hid (show decide (o.d < 1) = false from decide_eq_false (by have := hd.out; omega))
    have HXN := Lib.hid (show X.length ≤ 1000 from by rw [hs.out.1.length_eq]; have := done_len L k; have := hlt.out; have := HN.out; omega)
    obtain ⟨Av, cv, hv, -, -⟩ := OX.out.slice
    subst hv
    refine s_ (fun K8 hK8 => ?_)
    refine pu_ (v := .int .i64 k) (y_move rfl (by rfl) (by rfl)) ?_
    (try simp only [zP, zN, zA, zB, zC])
    refine pu_ (v := .slice (some a) L.length c) (y_move rfl (by rfl) (by rfl)) ?_
    (try simp only [zP, zN, zA, zB, zC])
    refine pu_ (v := .int .i64 L.length) (y_run (by rfl) (fun W => by go_simp)) ?_
    (try simp only [zP, zN, zA, zB, zC])
    refine pu_ (v := .bool true) (y_run (by rfl) (fun W => by have d := D10.out; go_simp)) ?_
    (try simp only [zP, zN, zA, zB, zC])
    refine nl_ (hK8 _ _ ?_); clear hK8 K8
    refine wp_cond_true rfl ?_
    refine wp_skip ?_
    refine th_norm (hK7 _ _ ?_); try clear hK7 K7
    refine sq_ (fun K9 hK9 => ?_)
    refine wp_block ?_
    refine sq_ (fun K10 hK10 => ?_)
    refine s_ (fun K11 hK11 => ?_)
    refine pu_ (v := .slice (some a) L.length c) (y_move rfl (by rfl) (by rfl)) ?_
    (try simp only [zP, zN, zA, zB, zC])
    refine pu_ (v := .int .i64 k) (y_move rfl (by rfl) (by rfl)) ?_
    (try simp only [zP, zN, zA, zB, zC])
    refine pu_ (v := .pointer (some (a.add (k * 28)))) (y_run (by rfl) (fun W => by have d := D10.out; go_simp)) ?_
    (try simp only [zP, zN, zA, zB, zC])
    refine pu_ (v := .pointer (some ((a.add (k * 28)).add 3))) (y_run (by rfl) (fun W => by go_simp)) ?_
    (try simp only [zP, zN, zA, zB, zC])
    refine ld_ (v := .int .i64 o.d) rfl (by rfl) (by rfl) (run_load_one (src_elem SL.out ho.out 3 _ (by simp [opC])) Try.underlying3 rfl) ?_
    (try simp only [zP, zN, zA, zB, zC])
    refine pu_ (v := .bool false) (y_run (by rfl) (fun W => by have d := D18.out; go_simp)) ?_
    (try simp only [zP, zN, zA, zB, zC])
    refine nl_ (hK11 _ _ ?_); clear hK11 K11
    refine wp_cond_false rfl ?_
    refine wp_skip ?_
    refine th_norm (hK10 _ _ ?_); try clear hK10 K10
    refine s_ (fun K12 hK12 => ?_)
    refine pu_ (v := .slice Av X.length cv) (y_move rfl (by rfl) (by rfl)) ?_
    (try simp only [zP, zN, zA, zB, zC])
    refine pu_ (v := .int .i64 X.length) (y_run (by rfl) (fun W => by go_simp)) ?_
    (try simp only [zP, zN, zA, zB, zC])
    refine pu_ (v := .int .i64 X.length) (y_assign rfl (by rfl) (by rfl)) ?_
    (try simp only [zP, zN, zA, zB, zC])
    refine nl_ (hK12 _ _ ?_); clear hK12 K12
    refine sq_ (fun K13 hK13 => ?_)
    refine wp_block ?_
    refine loopk_ (fun (jq : Nat) (a' : Act) (w' : World) => ∃ (j : Nat), ∃ (us : Nat → Value), a' = ⟨#[.slice (some a) L.length c, us 1, .slice none 0 0, .slice Av X.length cv, .int .i64 k, .int .i64 j, us 6, us 7, us 8, us 9, us 10, us 11, us 12, us 13, us 14, us 15, us 16, us 17, us 18, us 19, us 20, us 21, us 22, us 23, us 24, us 25, us 26, us 27, us 28, us 29, us 30, us 31, us 32, us 33, us 34, us 35, us 36, us 37, us 38, us 39, us 40, us 41, us 42, us 43, us 44, us 45, us 46, us 47, us 48, us 49, us 50, us 51, us 52, us 53, us 54, us 55], []⟩ ∧ Hid (Ch [] w w') ∧ Hid (SrcIs w' (.slice (some a) L.length c) (L.length) ((L).flatMap opC) 28) ∧ Hid (OwnS w' w.heap.size 3 1 (.slice Av X.length cv) (X.length) (X.map vi)) ∧ Hid (j ≤ X.length ∧ jq = j) ∧ Hid (∀ y ∈ X.drop j, o.d < kd L y)) (X.length) (⟨X.length, fun us_ => (#[.slice (some a) L.length c, us 1, .slice none 0 0, .slice Av X.length cv, .int .i64 k, .int .i64 X.length, us 6, .int .i64 k, .slice (some a) L.length c, .int .i64 L.length, .bool true, us 11, us 12, .slice (some a) L.length c, .int .i64 k, .pointer (some (a.add (k * 28))), .pointer (some ((a.add (k * 28)).add 3)), .int .i64 o.d, .bool false, .slice Av X.length cv, .int .i64 X.length, us 21, us 22, us 23, us 24, us 25, us 26, us 27, us 28, us 29, us 30, us 31, us 32, us 33, us 34, us 35, us 36, us 37, us 38, us 39, us 40, us 41, us 42, us 43, us 44, us 45, us 46, us 47, us 48, us 49, us 50, us 51, us 52, us 53, us 54, us 55] : Array Value).getD us_ undef, rfl, C0, SL, OX, Lib.hid ⟨by omega, rfl⟩, Lib.hid (ins_none X o.d)⟩) ?_
    rintro jq _ w14 ⟨j, us, rfl, C0, SL, OX, hj, hin⟩ K15 hK15
    refine sq_ (fun K16 hK16 => ?_)
    rcases ins_at hs.out hj.out.1 with ⟨i, y, p, hji0, hX0, hyk0, hp0, hky0⟩ | h; rcases Classical.em (o.d < p.d) with h | h
    · have hji := Lib.hid hji0
      have hX := Lib.hid hX0
      have hyk := Lib.hid hyk0
      have hp := Lib.hid hp0
      have hky := Lib.hid hky0
      have hc := Lib.hid h
      clear hji0 hX0 hyk0 hp0 hky0 h
      have D22 := Lib.hid (show 0 < j by have := hji.out; omega)
      have WI := Lib.hid (show IntKind.i64.wrap ((j : Int) - 1) = (i : Int) by have h9 := hji.out; rw [wr64 (by have := hj.out; have := HXN.out; omega)]; omega)
      obtain ⟨gv, cv0, hv, -, -, -, -, -⟩ := OX.out.some_ (by have := hji.out; have := hj.out; omega)
      injection hv with hv1 _ hv3
      subst hv1 hv3
      have DI := Lib.hid (show (i : Int) < (X.length : Int) by have := hji.out; have := hj.out; omega)
      have DY := Lib.hid (show (y : Int) < (L.length : Int) by have := hyk.out; have := hlt.out; omega)
      have DK := Lib.hid (show (k : Int) < (L.length : Int) by have := hlt.out; omega)
      have D38 := Lib.hid (show decide (o.d < p.d) = true from decide_eq_true hc.out)
      refine sq_ (fun K17 hK17 => ?_)
      refine startk_ (S := fun W => SrcIs W (.slice (some a) L.length c) (L.length) ((L).flatMap opC) 28 ∧ OwnS W w.heap.size 3 1 (.slice (some ⟨gv, 0, none⟩) X.length cv) (X.length) (X.map vi) ∧ True) (ds := []) #[false, false, false, false, false, false, false, false, false, false, false, false, false, false, false, false, false, false, false] (by kernel_rfl) rfl rfl (fun W c => ⟨SL.out.chx c xnin_nil, OX.out.ch c rnin_nil, trivial⟩) (fun w18 C19 hS20 => ?_)
      have C0' := Lib.hid (show Ch [] w w18 from C0.out.trans' C19 (fun x hx => absurd hx (by simp)))
      have SL' := Lib.hid (show SrcIs w18 (.slice (some a) L.length c) (L.length) ((L).flatMap opC) 28 from SL.out.chx C19 xnin_nil)
      have OX' := Lib.hid (show OwnS w18 w.heap.size 3 1 (.slice (some ⟨gv, 0, none⟩) X.length cv) (X.length) (X.map vi) from OX.out.ch C19 rnin_nil)
      clear C0 SL OX
      have C0 := C0'; clear C0'
      have SL := SL'; clear SL'
      have OX := OX'; clear OX'
      clear C19
      refine pure_ (i := 0) (N := some 21) (v := .int .i64 j) #[true, false, false, false, false, false, false, false, false, false, false, false, false, false, false, false, false, false, false] rfl rfl (by kernel_rfl) (fun c a w h => hP c a _ _ w h) (y_move rfl (by rfl) (by rfl)) rfl ?_
      (try simp only [zP, zN, zA, zB, zC])
      refine pure_ (i := 1) (N := some 22) (v := .bool true) #[true, true, false, false, false, false, false, false, false, false, false, false, false, false, false, false, false, false, false] rfl rfl (by kernel_rfl) (fun c a w h => hP c a _ _ w h) (y_run (by rfl) (fun W => by have d := D22.out; go_simp)) rfl ?_
      (try simp only [zP, zN, zA, zB, zC])
      refine pure_ (i := 2) (N := some 23) (v := .bool true) #[true, true, true, false, false, false, false, false, false, false, false, false, false, false, false, false, false, false, false] rfl rfl (by kernel_rfl) (fun c a w h => hP c a _ _ w h) (y_move rfl (by rfl) (by rfl)) rfl ?_
      (try simp only [zP, zN, zA, zB, zC])
      refine pure_ (i := 3) (N := some 24) (v := .slice (some a) L.length c) #[true, true, true, true, false, false, false, false, false, false, false, false, false, false, false, false, false, false, false] rfl rfl (by kernel_rfl) (fun c a w h => hP c a _ _ w h) (y_move rfl (by rfl) (by rfl)) rfl ?_
      (try simp only [zP, zN, zA, zB, zC])
      refine pure_ (i := 4) (N := some 25) (v := .slice (some ⟨gv, 0, none⟩) X.length cv) #[true, true, true, true, true, false, false, false, false, false, false, false, false, false, false, false, false, false, false] rfl rfl (by kernel_rfl) (fun c a w h => hP c a _ _ w h) (y_move rfl (by rfl) (by rfl)) rfl ?_
      (try simp only [zP, zN, zA, zB, zC])
      refine pure_ (i := 5) (N := some 26) (v := .int .i64 j) #[true, true, true, true, true, true, false, false, false, false, false, false, false, false, false, false, false, false, false] rfl rfl (by kernel_rfl) (fun c a w h => hP c a _ _ w h) (y_move rfl (by rfl) (by rfl)) rfl ?_
      (try simp only [zP, zN, zA, zB, zC])
      refine pure_ (i := 6) (N := some 27) (v := .int .i64 (i : Nat)) #[true, true, true, true, true, true, true, false, false, false, false, false, false, false, false, false, false, false, false] rfl rfl (by kernel_rfl) (fun c a w h => hP c a _ _ w h) (y_run (by rfl) (fun W => by have d := WI.out; go_simp)) rfl ?_
      (try simp only [zP, zN, zA, zB, zC])
      refine pure_ (i := 7) (N := some 28) (v := .pointer (some ⟨gv, i, none⟩)) #[true, true, true, true, true, true, true, true, false, false, false, false, false, false, false, false, false, false, false] rfl rfl (by kernel_rfl) (fun c a w h => hP c a _ _ w h) (y_run (by rfl) (fun W => by have d := DI.out; go_simp)) rfl ?_
      (try simp only [zP, zN, zA, zB, zC])
      refine take_ (i := 8) (N := some 29) (v := .int .i64 y) #[true, true, true, true, true, true, true, true, true, false, false, false, false, false, false, false, false, false, false] rfl rfl (by kernel_rfl) (fun c a w h => hP c a _ _ w h) (y_load (p := ⟨gv, i, none⟩) rfl (by rfl) (by rfl) (fun W hS => run_load_one (own_cell hS.2.1 (by rw [List.getElem?_map, hX.out]; rfl)) Try.underlying3 rfl)) hS20 rfl ?_
      (try simp only [zP, zN, zA, zB, zC])
      refine pure_ (i := 9) (N := some 30) (v := .pointer (some (a.add (y * 28)))) #[true, true, true, true, true, true, true, true, true, true, false, false, false, false, false, false, false, false, false] rfl rfl (by kernel_rfl) (fun c a w h => hP c a _ _ w h) (y_run (by rfl) (fun W => by have d := DY.out; go_simp)) rfl ?_
      (try simp only [zP, zN, zA, zB, zC])
      refine pure_ (i := 10) (N := some 31) (v := .pointer (some ((a.add (y * 28)).add 3))) #[true, true, true, true, true, true, true, true, true, true, true, false, false, false, false, false, false, false, false] rfl rfl (by kernel_rfl) (fun c a w h => hP c a _ _ w h) (y_run (by rfl) (fun W => by go_simp)) rfl ?_
      (try simp only [zP, zN, zA, zB, zC])
      refine take_ (i := 11) (N := some 32) (v := .int .i64 p.d) #[true, true, true, true, true, true, true, true, true, true, true, true, false, false, false, false, false, false, false] rfl rfl (by kernel_rfl) (fun c a w h => hP c a _ _ w h) (y_load (p := ((a.add (y * 28)).add 3)) rfl (by rfl) (by rfl) (fun W hS => run_load_one (src_elem hS.1 hp.out 3 _ (by simp [opC])) Try.underlying3 rfl)) hS20 rfl ?_
      (try simp only [zP, zN, zA, zB, zC])
      refine pure_ (i := 12) (N := some 33) (v := .slice (some a) L.length c) #[true, true, true, true, true, true, true, true, true, true, true, true, true, false, false, false, false, false, false] rfl rfl (by kernel_rfl) (fun c a w h => hP c a _ _ w h) (y_move rfl (by rfl) (by rfl)) rfl ?_
      (try simp only [zP, zN, zA, zB, zC])
      refine pure_ (i := 13) (N := some 34) (v := .int .i64 k) #[true, true, true, true, true, true, true, true, true, true, true, true, true, true, false, false, false, false, false] rfl rfl (by kernel_rfl) (fun c a w h => hP c a _ _ w h) (y_move rfl (by rfl) (by rfl)) rfl ?_
      (try simp only [zP, zN, zA, zB, zC])
      refine pure_ (i := 14) (N := some 35) (v := .pointer (some (a.add (k * 28)))) #[true, true, true, true, true, true, true, true, true, true, true, true, true, true, true, false, false, false, false] rfl rfl (by kernel_rfl) (fun c a w h => hP c a _ _ w h) (y_run (by rfl) (fun W => by have d := DK.out; go_simp)) rfl ?_
      (try simp only [zP, zN, zA, zB, zC])
      refine pure_ (i := 15) (N := some 36) (v := .pointer (some ((a.add (k * 28)).add 3))) #[true, true, true, true, true, true, true, true, true, true, true, true, true, true, true, true, false, false, false] rfl rfl (by kernel_rfl) (fun c a w h => hP c a _ _ w h) (y_run (by rfl) (fun W => by go_simp)) rfl ?_
      (try simp only [zP, zN, zA, zB, zC])
      refine take_ (i := 16) (N := some 37) (v := .int .i64 o.d) #[true, true, true, true, true, true, true, true, true, true, true, true, true, true, true, true, true, false, false] rfl rfl (by kernel_rfl) (fun c a w h => hP c a _ _ w h) (y_load (p := ((a.add (k * 28)).add 3)) rfl (by rfl) (by rfl) (fun W hS => run_load_one (src_elem hS.1 ho.out 3 _ (by simp [opC])) Try.underlying3 rfl)) hS20 rfl ?_
      (try simp only [zP, zN, zA, zB, zC])
      refine pure_ (i := 17) (N := some 38) (v := .bool true) #[true, true, true, true, true, true, true, true, true, true, true, true, true, true, true, true, true, true, false] rfl rfl (by kernel_rfl) (fun c a w h => hP c a _ _ w h) (y_run (by rfl) (fun W => by have d := D38.out; go_simp)) rfl ?_
      (try simp only [zP, zN, zA, zB, zC])
      refine pure_ (i := 18) (N := some 39) (v := .bool true) #[true, true, true, true, true, true, true, true, true, true, true, true, true, true, true, true, true, true, true] rfl rfl (by kernel_rfl) (fun c a w h => hP c a _ _ w h) (y_pick (t := true) (by rfl) rfl (by rfl) (by rfl)) rfl ?_
      (try simp only [zP, zN, zA, zB, zC])
      refine done_ (by kernel_rfl) (th_norm (hK17 _ _ ?_)); clear hK17 K17
      refine wp_cond_true rfl ?_
      refine wp_skip ?_
      refine th_norm (hK16 _ _ ?_); try clear hK16 K16
      refine wp_block ?_
      refine r_ ?_
      refine pu_ (v := .int .i64 j) (y_move rfl (by rfl) (by rfl)) ?_
      (try simp only [zP, zN, zA, zB, zC])
      refine pu_ (v := .int .i64 (i : Nat)) (y_run (by rfl) (fun W => by have d := WI.out; go_simp)) ?_
      (try simp only [zP, zN, zA, zB, zC])
      refine pu_ (v := .int .i64 (i : Nat)) (y_assign rfl (by rfl) (by rfl)) ?_
      (try simp only [zP, zN, zA, zB, zC])
      refine nl_ ?_
      refine ib_norm ?_
      exact th_norm (hK15 (jq - 1) _ _ (by have := hji.out; have := hj.out; omega) ⟨i, fun us_ => (#[.slice (some a) L.length c, us 1, .slice none 0 0, .slice (some ⟨gv, 0, none⟩) X.length cv, .int .i64 k, .int .i64 (i : Nat), us 6, us 7, us 8, us 9, us 10, us 11, us 12, us 13, us 14, us 15, us 16, us 17, us 18, us 19, us 20, .int .i64 j, .bool true, .bool true, .slice (some a) L.length c, .slice (some ⟨gv, 0, none⟩) X.length cv, .int .i64 j, .int .i64 (i : Nat), .pointer (some ⟨gv, i, none⟩), .int .i64 y, .pointer (some (a.add (y * 28))), .pointer (some ((a.add (y * 28)).add 3)), .int .i64 p.d, .slice (some a) L.length c, .int .i64 k, .pointer (some (a.add (k * 28))), .pointer (some ((a.add (k * 28)).add 3)), .int .i64 o.d, .bool true, .bool true, .int .i64 j, .int .i64 (i : Nat), us 42, us 43, us 44, us 45, us 46, us 47, us 48, us 49, us 50, us 51, us 52, us 53, us 54, us 55] : Array Value).getD us_ undef, rfl, C0, SL, OX, Lib.hid ⟨by have := hji.out; have := hj.out; omega, by have := hji.out; have := hj.out; omega⟩, Lib.hid (ins_step hji.out hX.out (by rw [hky.out]; exact hc.out) hin.out)⟩)
    · have hji := Lib.hid hji0
      have hX := Lib.hid hX0
      have hyk := Lib.hid hyk0
      have hp := Lib.hid hp0
      have hky := Lib.hid hky0
      have hc := Lib.hid h
      clear hji0 hX0 hyk0 hp0 hky0 h
      have D22 := Lib.hid (show 0 < j by have := hji.out; omega)
      have WI := Lib.hid (show IntKind.i64.wrap ((j : Int) - 1) = (i : Int) by have h9 := hji.out; rw [wr64 (by have := hj.out; have := HXN.out; omega)]; omega)
      obtain ⟨gv, cv0, hv, -, -, -, -, -⟩ := OX.out.some_ (by have := hji.out; have := hj.out; omega)
      injection hv with hv1 _ hv3
      subst hv1 hv3
      have DI := Lib.hid (show (i : Int) < (X.length : Int) by have := hji.out; have := hj.out; omega)
      have DY := Lib.hid (show (y : Int) < (L.length : Int) by have := hyk.out; have := hlt.out; omega)
      have DK := Lib.hid (show (k : Int) < (L.length : Int) by have := hlt.out; omega)
      have D38 := Lib.hid (show decide (o.d < p.d) = false from decide_eq_false hc.out)
      have hex := Lib.hid (show ∀ y ∈ X.take j, ¬ o.d < kd L y from ins_end hs.out.2 hji.out hX.out (by rw [hky.out]; exact hc.out))
      refine sq_ (fun K21 hK21 => ?_)
      refine startk_ (S := fun W => SrcIs W (.slice (some a) L.length c) (L.length) ((L).flatMap opC) 28 ∧ OwnS W w.heap.size 3 1 (.slice (some ⟨gv, 0, none⟩) X.length cv) (X.length) (X.map vi) ∧ True) (ds := []) #[false, false, false, false, false, false, false, false, false, false, false, false, false, false, false, false, false, false, false] (by kernel_rfl) rfl rfl (fun W c => ⟨SL.out.chx c xnin_nil, OX.out.ch c rnin_nil, trivial⟩) (fun w22 C23 hS24 => ?_)
      have C0' := Lib.hid (show Ch [] w w22 from C0.out.trans' C23 (fun x hx => absurd hx (by simp)))
      have SL' := Lib.hid (show SrcIs w22 (.slice (some a) L.length c) (L.length) ((L).flatMap opC) 28 from SL.out.chx C23 xnin_nil)
      have OX' := Lib.hid (show OwnS w22 w.heap.size 3 1 (.slice (some ⟨gv, 0, none⟩) X.length cv) (X.length) (X.map vi) from OX.out.ch C23 rnin_nil)
      clear C0 SL OX
      have C0 := C0'; clear C0'
      have SL := SL'; clear SL'
      have OX := OX'; clear OX'
      clear C23
      refine pure_ (i := 0) (N := some 21) (v := .int .i64 j) #[true, false, false, false, false, false, false, false, false, false, false, false, false, false, false, false, false, false, false] rfl rfl (by kernel_rfl) (fun c a w h => hP c a _ _ w h) (y_move rfl (by rfl) (by rfl)) rfl ?_
      (try simp only [zP, zN, zA, zB, zC])
      refine pure_ (i := 1) (N := some 22) (v := .bool true) #[true, true, false, false, false, false, false, false, false, false, false, false, false, false, false, false, false, false, false] rfl rfl (by kernel_rfl) (fun c a w h => hP c a _ _ w h) (y_run (by rfl) (fun W => by have d := D22.out; go_simp)) rfl ?_
      (try simp only [zP, zN, zA, zB, zC])
      refine pure_ (i := 2) (N := some 23) (v := .bool true) #[true, true, true, false, false, false, false, false, false, false, false, false, false, false, false, false, false, false, false] rfl rfl (by kernel_rfl) (fun c a w h => hP c a _ _ w h) (y_move rfl (by rfl) (by rfl)) rfl ?_
      (try simp only [zP, zN, zA, zB, zC])
      refine pure_ (i := 3) (N := some 24) (v := .slice (some a) L.length c) #[true, true, true, true, false, false, false, false, false, false, false, false, false, false, false, false, false, false, false] rfl rfl (by kernel_rfl) (fun c a w h => hP c a _ _ w h) (y_move rfl (by rfl) (by rfl)) rfl ?_
      (try simp only [zP, zN, zA, zB, zC])
      refine pure_ (i := 4) (N := some 25) (v := .slice (some ⟨gv, 0, none⟩) X.length cv) #[true, true, true, true, true, false, false, false, false, false, false, false, false, false, false, false, false, false, false] rfl rfl (by kernel_rfl) (fun c a w h => hP c a _ _ w h) (y_move rfl (by rfl) (by rfl)) rfl ?_
      (try simp only [zP, zN, zA, zB, zC])
      refine pure_ (i := 5) (N := some 26) (v := .int .i64 j) #[true, true, true, true, true, true, false, false, false, false, false, false, false, false, false, false, false, false, false] rfl rfl (by kernel_rfl) (fun c a w h => hP c a _ _ w h) (y_move rfl (by rfl) (by rfl)) rfl ?_
      (try simp only [zP, zN, zA, zB, zC])
      refine pure_ (i := 6) (N := some 27) (v := .int .i64 (i : Nat)) #[true, true, true, true, true, true, true, false, false, false, false, false, false, false, false, false, false, false, false] rfl rfl (by kernel_rfl) (fun c a w h => hP c a _ _ w h) (y_run (by rfl) (fun W => by have d := WI.out; go_simp)) rfl ?_
      (try simp only [zP, zN, zA, zB, zC])
      refine pure_ (i := 7) (N := some 28) (v := .pointer (some ⟨gv, i, none⟩)) #[true, true, true, true, true, true, true, true, false, false, false, false, false, false, false, false, false, false, false] rfl rfl (by kernel_rfl) (fun c a w h => hP c a _ _ w h) (y_run (by rfl) (fun W => by have d := DI.out; go_simp)) rfl ?_
      (try simp only [zP, zN, zA, zB, zC])
      refine take_ (i := 8) (N := some 29) (v := .int .i64 y) #[true, true, true, true, true, true, true, true, true, false, false, false, false, false, false, false, false, false, false] rfl rfl (by kernel_rfl) (fun c a w h => hP c a _ _ w h) (y_load (p := ⟨gv, i, none⟩) rfl (by rfl) (by rfl) (fun W hS => run_load_one (own_cell hS.2.1 (by rw [List.getElem?_map, hX.out]; rfl)) Try.underlying3 rfl)) hS24 rfl ?_
      (try simp only [zP, zN, zA, zB, zC])
      refine pure_ (i := 9) (N := some 30) (v := .pointer (some (a.add (y * 28)))) #[true, true, true, true, true, true, true, true, true, true, false, false, false, false, false, false, false, false, false] rfl rfl (by kernel_rfl) (fun c a w h => hP c a _ _ w h) (y_run (by rfl) (fun W => by have d := DY.out; go_simp)) rfl ?_
      (try simp only [zP, zN, zA, zB, zC])
      refine pure_ (i := 10) (N := some 31) (v := .pointer (some ((a.add (y * 28)).add 3))) #[true, true, true, true, true, true, true, true, true, true, true, false, false, false, false, false, false, false, false] rfl rfl (by kernel_rfl) (fun c a w h => hP c a _ _ w h) (y_run (by rfl) (fun W => by go_simp)) rfl ?_
      (try simp only [zP, zN, zA, zB, zC])
      refine take_ (i := 11) (N := some 32) (v := .int .i64 p.d) #[true, true, true, true, true, true, true, true, true, true, true, true, false, false, false, false, false, false, false] rfl rfl (by kernel_rfl) (fun c a w h => hP c a _ _ w h) (y_load (p := ((a.add (y * 28)).add 3)) rfl (by rfl) (by rfl) (fun W hS => run_load_one (src_elem hS.1 hp.out 3 _ (by simp [opC])) Try.underlying3 rfl)) hS24 rfl ?_
      (try simp only [zP, zN, zA, zB, zC])
      refine pure_ (i := 12) (N := some 33) (v := .slice (some a) L.length c) #[true, true, true, true, true, true, true, true, true, true, true, true, true, false, false, false, false, false, false] rfl rfl (by kernel_rfl) (fun c a w h => hP c a _ _ w h) (y_move rfl (by rfl) (by rfl)) rfl ?_
      (try simp only [zP, zN, zA, zB, zC])
      refine pure_ (i := 13) (N := some 34) (v := .int .i64 k) #[true, true, true, true, true, true, true, true, true, true, true, true, true, true, false, false, false, false, false] rfl rfl (by kernel_rfl) (fun c a w h => hP c a _ _ w h) (y_move rfl (by rfl) (by rfl)) rfl ?_
      (try simp only [zP, zN, zA, zB, zC])
      refine pure_ (i := 14) (N := some 35) (v := .pointer (some (a.add (k * 28)))) #[true, true, true, true, true, true, true, true, true, true, true, true, true, true, true, false, false, false, false] rfl rfl (by kernel_rfl) (fun c a w h => hP c a _ _ w h) (y_run (by rfl) (fun W => by have d := DK.out; go_simp)) rfl ?_
      (try simp only [zP, zN, zA, zB, zC])
      refine pure_ (i := 15) (N := some 36) (v := .pointer (some ((a.add (k * 28)).add 3))) #[true, true, true, true, true, true, true, true, true, true, true, true, true, true, true, true, false, false, false] rfl rfl (by kernel_rfl) (fun c a w h => hP c a _ _ w h) (y_run (by rfl) (fun W => by go_simp)) rfl ?_
      (try simp only [zP, zN, zA, zB, zC])
      refine take_ (i := 16) (N := some 37) (v := .int .i64 o.d) #[true, true, true, true, true, true, true, true, true, true, true, true, true, true, true, true, true, false, false] rfl rfl (by kernel_rfl) (fun c a w h => hP c a _ _ w h) (y_load (p := ((a.add (k * 28)).add 3)) rfl (by rfl) (by rfl) (fun W hS => run_load_one (src_elem hS.1 ho.out 3 _ (by simp [opC])) Try.underlying3 rfl)) hS24 rfl ?_
      (try simp only [zP, zN, zA, zB, zC])
      refine pure_ (i := 17) (N := some 38) (v := .bool false) #[true, true, true, true, true, true, true, true, true, true, true, true, true, true, true, true, true, true, false] rfl rfl (by kernel_rfl) (fun c a w h => hP c a _ _ w h) (y_run (by rfl) (fun W => by have d := D38.out; go_simp)) rfl ?_
      (try simp only [zP, zN, zA, zB, zC])
      refine pure_ (i := 18) (N := some 39) (v := .bool false) #[true, true, true, true, true, true, true, true, true, true, true, true, true, true, true, true, true, true, true] rfl rfl (by kernel_rfl) (fun c a w h => hP c a _ _ w h) (y_pick (t := true) (by rfl) rfl (by rfl) (by rfl)) rfl ?_
      (try simp only [zP, zN, zA, zB, zC])
      refine done_ (by kernel_rfl) (th_norm (hK21 _ _ ?_)); clear hK21 K21
      refine wp_cond_false rfl ?_
      refine wp_exit ?_
      refine th_exit ?_
      refine th_exit ?_
      refine ib_exit ?_
      refine th_norm (hK13 _ _ ?_); try clear hK13 K13
      obtain ⟨vF, vT, hF0, hT0, hFs0, hTs0⟩ := cuts hn.out OX.out hj.out.1
      · have HF := Lib.hid hF0
        have HT := Lib.hid hT0
        have HFS := Lib.hid hFs0
        have HTS := Lib.hid hTs0
        clear hF0 hT0 hFs0 hTs0
        refine s_ (fun K25 hK25 => ?_)
        refine pu_ (v := .int .i64 k) (y_move rfl (by rfl) (by rfl)) ?_
        (try simp only [zP, zN, zA, zB, zC])
        refine ef_ (fun K26 hK26 => ?_)
        refine e_buildS (parts := #[(0, .int .i64 k)]) (cells := #[.int .i64 k]) (by rfl) rfl rfl (by first | rfl | (simp only [List.map_toArray, List.map_cons, List.map_nil]; first | done | rfl)) Try.underlying44 I3.hi I3.hz I3.hs (by decide) (by decide) (by kernel_rfl) ?_
        rintro g27 w28 HG29 B30 C31
        have nw32 := Lib.hid (show w.heap.size ≤ g27 by have := C0.out.size; have := HG29.out; omega)
        have nx33 := Lib.hid (SL.out.ne_new (by decide) HG29)
        have nr34 := Lib.hid (OX.out.ne_new HG29)
        have C0' := Lib.hid (show Ch [] w w28 from C0.out.trans' C31 (fun x hx => absurd hx (by simp)))
        have SL' := Lib.hid (show SrcIs w28 (.slice (some a) L.length c) (L.length) ((L).flatMap opC) 28 from SL.out.chx C31 xnin_nil)
        have OX' := Lib.hid (show OwnS w28 w.heap.size 3 1 (.slice (some ⟨gv, 0, none⟩) X.length cv) (X.length) (X.map vi) from OX.out.ch C31 rnin_nil)
        clear C0 SL OX
        have C0 := C0'; clear C0'
        have SL := SL'; clear SL'
        have OX := OX'; clear OX'
        have Fg27 := Lib.hid (show Blk w28 g27 (#[.int .i64 k]) 3 from B30); clear B30 C31
        refine hK26 _ _ ?_; clear hK26 K26
        (try simp only [zP, zN, zA, zB, zC])
        refine pu_ (v := .slice (some ⟨gv, 0, none⟩) X.length cv) (y_move rfl (by rfl) (by rfl)) ?_
        (try simp only [zP, zN, zA, zB, zC])
        refine pu_ (v := .int .i64 j) (y_move rfl (by rfl) (by rfl)) ?_
        (try simp only [zP, zN, zA, zB, zC])
        refine pu_ (v := vF) (y_slice (by rfl) rfl (by rfl) (by rfl) rfl rfl HF.out) ?_
        (try simp only [zP, zN, zA, zB, zC])
        refine ef_ (fun K35 hK35 => ?_)
        have OK := Lib.hid (show OwnS w28 w.heap.size 3 1 (.slice (some ⟨g27, 0, none⟩) 1 1) (1) ([Value.int .i64 (k : Nat)]) from own_of_blk Fg27.out nw32.out)
        have HXK := Lib.hid (show ∀ k, k ∈ xb (.slice (some a) L.length c) → k ∉ rl (.slice (some ⟨g27, 0, none⟩) 1 1) from fun k hk hm => nx33.out (by rw [← row_one hm]; exact hk))
        have HRK := Lib.hid (show ∀ k, k ∈ rl (.slice (some ⟨gv, 0, none⟩) X.length cv) → k ∉ rl (.slice (some ⟨g27, 0, none⟩) 1 1) from fun k hk hm => nr34.out (by rw [← row_one hm]; exact hk))
        clear Fg27
        refine e_append (by rfl) rfl rfl (w.heap.size) 3 _ _ 1 8 Try.underlying44 I3.hi I3.hz I3.hs I3.hb rfl (by decide) (.slice (some ⟨g27, 0, none⟩) 1 1) (1) ([Value.int .i64 (k : Nat)]) (by rfl) OK.out (vF) (X.length - j) ((X.drop j).map vi) (by rfl) (HFS.out _ OX.out) (ones_vi _) (by have := HXN.out; have := hj.out; unfold maxLen; omega) (by have := HXN.out; have := hj.out; omega) C0.out.size ?_
        rintro v36 w37 O38 C39 R40 -
        have xr42 := Lib.hid (show ∀ k, k ∈ xb (.slice (some a) L.length c) → k ∉ rl v36 from fun k hk hm => (R40 k hm).elim (fun h => HXK.out k hk h) (fun h => by have := SL.out.lt (by decide) k hk; omega))
        have rr43 := Lib.hid (show ∀ k, k ∈ rl (.slice (some ⟨gv, 0, none⟩) X.length cv) → k ∉ rl v36 from fun k hk hm => (R40 k hm).elim (fun h => HRK.out k hk h) (fun h => by have := (OX.out.lt k hk).2; omega))
        have C0' := Lib.hid (show Ch [] w w37 from C0.out.trans' C39 (fun x hx => .inr (OK.out.lt x hx).1))
        have SL' := Lib.hid (show SrcIs w37 (.slice (some a) L.length c) (L.length) ((L).flatMap opC) 28 from SL.out.chx C39 HXK.out)
        have OX' := Lib.hid (show OwnS w37 w.heap.size 3 1 (.slice (some ⟨gv, 0, none⟩) X.length cv) (X.length) (X.map vi) from OX.out.ch C39 HRK.out)
        clear C0 SL OX
        have C0 := C0'; clear C0'
        have SL := SL'; clear SL'
        have OX := OX'; clear OX'
        clear OK
        have OK := Lib.hid (show OwnS w37 w.heap.size 3 1 (v36) (1 + (X.length - j)) ([Value.int .i64 (k : Nat)] ++ (X.drop j).map vi) from O38); clear O38 C39
        refine hK35 _ _ ?_; clear hK35 K35
        (try simp only [zP, zN, zA, zB, zC])
        refine pu_ (v := v36) (y_assign rfl (by rfl) (by rfl)) ?_
        (try simp only [zP, zN, zA, zB, zC])
        refine nl_ (hK25 _ _ ?_); clear hK25 K25
        refine r_ ?_
        refine ef_ (fun K44 hK44 => ?_)
        refine e_buildS0 (by rfl) rfl rfl Try.underlying44 I3.hi ?_
        rintro g45 w46 HG47 C49
        have C0' := Lib.hid (show Ch [] w w46 from C0.out.trans' C49 (fun x hx => absurd hx (by simp)))
        have SL' := Lib.hid (show SrcIs w46 (.slice (some a) L.length c) (L.length) ((L).flatMap opC) 28 from SL.out.chx C49 xnin_nil)
        have OX' := Lib.hid (show OwnS w46 w.heap.size 3 1 (.slice (some ⟨gv, 0, none⟩) X.length cv) (X.length) (X.map vi) from OX.out.ch C49 rnin_nil)
        have OK' := Lib.hid (show OwnS w46 w.heap.size 3 1 (v36) (1 + (X.length - j)) ([Value.int .i64 (k : Nat)] ++ (X.drop j).map vi) from OK.out.ch C49 rnin_nil)
        clear C0 SL OX OK
        have C0 := C0'; clear C0'
        have SL := SL'; clear SL'
        have OX := OX'; clear OX'
        have OK := OK'; clear OK'
        clear C49
        have Z50 := Lib.hid (show OwnS w46 w.heap.size 3 1 (.slice (some ⟨g45, 0, none⟩) 0 0) (0) ([]) from OwnS.nil _ _ _ _ _)
        refine hK44 _ _ ?_; clear hK44 K44
        (try simp only [zP, zN, zA, zB, zC])
        refine pu_ (v := .slice (some ⟨gv, 0, none⟩) X.length cv) (y_move rfl (by rfl) (by rfl)) ?_
        (try simp only [zP, zN, zA, zB, zC])
        refine pu_ (v := .int .i64 j) (y_move rfl (by rfl) (by rfl)) ?_
        (try simp only [zP, zN, zA, zB, zC])
        refine pu_ (v := vT) (y_slice (by rfl) rfl (by rfl) rfl (by rfl) rfl HT.out) ?_
        (try simp only [zP, zN, zA, zB, zC])
        refine ef_ (fun K51 hK51 => ?_)
        refine e_append (by rfl) rfl rfl (w.heap.size) 3 _ _ 1 8 Try.underlying44 I3.hi I3.hz I3.hs I3.hb rfl (by decide) (.slice (some ⟨g45, 0, none⟩) 0 0) (0) ([]) (by rfl) Z50.out (vT) j ((X.take j).map vi) (by rfl) (HTS.out _ OX.out) (ones_vi _) (by have := HXN.out; have := hj.out; unfold maxLen; omega) (by have := HXN.out; have := hj.out; omega) C0.out.size ?_
        rintro v52 w53 O54 C55 R56 -
        replace C55 : Ch [] _ _ := C55
        replace R56 : ∀ k, k ∈ rl v52 → w46.heap.size ≤ k := fun k hk => (R56 k hk).elim (fun h => absurd h (by simp [rl])) id
        have rw57 := Lib.hid (show ∀ x, x ∈ rl v52 → x ∈ [] ∨ w.heap.size ≤ x from fun x hx => .inr (by have := R56 x hx; have := C0.out.size; omega))
        have xr58 := Lib.hid (show ∀ k, k ∈ xb (.slice (some a) L.length c) → k ∉ rl v52 from fun k hk hm => by have := R56 k hm; have := SL.out.lt (by decide) k hk; omega)
        have rr59 := Lib.hid (show ∀ k, k ∈ rl (.slice (some ⟨gv, 0, none⟩) X.length cv) → k ∉ rl v52 from fun k hk hm => by have := R56 k hm; have := (OX.out.lt k hk).2; omega)
        have rr60 := Lib.hid (show ∀ k, k ∈ rl (v36) → k ∉ rl v52 from fun k hk hm => by have := R56 k hm; have := (OK.out.lt k hk).2; omega)
        have C0' := Lib.hid (show Ch [] w w53 from C0.out.trans' C55 (fun x hx => absurd hx (by simp)))
        have SL' := Lib.hid (show SrcIs w53 (.slice (some a) L.length c) (L.length) ((L).flatMap opC) 28 from SL.out.chx C55 xnin_nil)
        have OX' := Lib.hid (show OwnS w53 w.heap.size 3 1 (.slice (some ⟨gv, 0, none⟩) X.length cv) (X.length) (X.map vi) from OX.out.ch C55 rnin_nil)
        have OK' := Lib.hid (show OwnS w53 w.heap.size 3 1 (v36) (1 + (X.length - j)) ([Value.int .i64 (k : Nat)] ++ (X.drop j).map vi) from OK.out.ch C55 rnin_nil)
        clear C0 SL OX OK
        have C0 := C0'; clear C0'
        have SL := SL'; clear SL'
        have OX := OX'; clear OX'
        have OK := OK'; clear OK'
        clear Z50
        have Z50 := Lib.hid (show OwnS w53 w.heap.size 3 1 (v52) (j) ((X.take j).map vi) from (by simpa using O54)); clear O54 C55
        refine hK51 _ _ ?_; clear hK51 K51
        (try simp only [zP, zN, zA, zB, zC])
        refine pu_ (v := v36) (y_move rfl (by rfl) (by rfl)) ?_
        (try simp only [zP, zN, zA, zB, zC])
        refine ef_ (fun K61 hK61 => ?_)
        refine e_append (by rfl) rfl rfl (w.heap.size) 3 _ _ 1 8 Try.underlying44 I3.hi I3.hz I3.hs I3.hb rfl (by decide) (v52) (j) ((X.take j).map vi) (by rfl) Z50.out (v36) (1 + (X.length - j)) (([Value.int .i64 (k : Nat)] ++ (X.drop j).map vi)) (by rfl) OK.out.src (ones_cons rfl (ones_vi _)) (by have := HXN.out; have := hj.out; unfold maxLen; omega) (by have := HXN.out; have := hj.out; omega) C0.out.size ?_
        rintro v62 w63 O64 C65 R66 -
        have rw67 := Lib.hid (show ∀ x, x ∈ rl v62 → x ∈ [] ∨ w.heap.size ≤ x from fun x hx => (R66 x hx).elim (fun h => rw57.out _ h) (fun h => .inr (by have := C0.out.size; omega)))
        have xr68 := Lib.hid (show ∀ k, k ∈ xb (.slice (some a) L.length c) → k ∉ rl v62 from fun k hk hm => (R66 k hm).elim (fun h => xr58.out k hk h) (fun h => by have := SL.out.lt (by decide) k hk; omega))
        have rr69 := Lib.hid (show ∀ k, k ∈ rl (.slice (some ⟨gv, 0, none⟩) X.length cv) → k ∉ rl v62 from fun k hk hm => (R66 k hm).elim (fun h => rr59.out k hk h) (fun h => by have := (OX.out.lt k hk).2; omega))
        have rr70 := Lib.hid (show ∀ k, k ∈ rl (v36) → k ∉ rl v62 from fun k hk hm => (R66 k hm).elim (fun h => rr60.out k hk h) (fun h => by have := (OK.out.lt k hk).2; omega))
        have C0' := Lib.hid (show Ch [] w w63 from C0.out.trans' C65 (fun x hx => .inr (Z50.out.lt x hx).1))
        have SL' := Lib.hid (show SrcIs w63 (.slice (some a) L.length c) (L.length) ((L).flatMap opC) 28 from SL.out.chx C65 xr58.out)
        have OX' := Lib.hid (show OwnS w63 w.heap.size 3 1 (.slice (some ⟨gv, 0, none⟩) X.length cv) (X.length) (X.map vi) from OX.out.ch C65 rr59.out)
        have OK' := Lib.hid (show OwnS w63 w.heap.size 3 1 (v36) (1 + (X.length - j)) ([Value.int .i64 (k : Nat)] ++ (X.drop j).map vi) from OK.out.ch C65 rr60.out)
        clear C0 SL OX OK
        have C0 := C0'; clear C0'
        have SL := SL'; clear SL'
        have OX := OX'; clear OX'
        have OK := OK'; clear OK'
        clear Z50
        have Z50 := Lib.hid (show OwnS w63 w.heap.size 3 1 (v62) (j + (1 + (X.length - j))) ((X.take j).map vi ++ ([Value.int .i64 (k : Nat)] ++ (X.drop j).map vi)) from O64); clear O64 C65
        refine hK61 _ _ ?_; clear hK61 K61
        (try simp only [zP, zN, zA, zB, zC])
        refine pu_ (v := v62) (y_assign rfl (by rfl) (by rfl)) ?_
        (try simp only [zP, zN, zA, zB, zC])
        refine nl_ ?_
        refine ib_norm ?_
        refine th_norm (hK9 _ _ ?_); try clear hK9 K9
        refine r_ ?_
        refine pu_ (v := .int .i64 k) (y_move rfl (by rfl) (by rfl)) ?_
        (try simp only [zP, zN, zA, zB, zC])
        refine pu_ (v := .int .i64 (k + 1 : Nat)) (y_run (by rfl) (fun W => by have d := Wk.out; go_simp)) ?_
        (try simp only [zP, zN, zA, zB, zC])
        refine pu_ (v := .int .i64 (k + 1 : Nat)) (y_assign rfl (by rfl) (by rfl)) ?_
        (try simp only [zP, zN, zA, zB, zC])
        refine nl_ ?_
        exact th_norm (hK6 (kq - 1) _ _ (by have := hlt.out; have := hk.out; omega) ⟨k + 1, _, X.take j ++ (k : Int) :: X.drop j, fun us_ => (#[.slice (some a) L.length c, us 1, .slice none 0 0, v62, .int .i64 (k + 1 : Nat), .int .i64 j, v36, us 7, us 8, us 9, us 10, .int .i64 k, .int .i64 (k + 1 : Nat), us 13, us 14, us 15, us 16, us 17, us 18, us 19, us 20, .int .i64 j, .bool true, .bool true, .slice (some a) L.length c, .slice (some ⟨gv, 0, none⟩) X.length cv, .int .i64 j, .int .i64 (i : Nat), .pointer (some ⟨gv, i, none⟩), .int .i64 y, .pointer (some (a.add (y * 28))), .pointer (some ((a.add (y * 28)).add 3)), .int .i64 p.d, .slice (some a) L.length c, .int .i64 k, .pointer (some (a.add (k * 28))), .pointer (some ((a.add (k * 28)).add 3)), .int .i64 o.d, .bool false, .bool false, us 40, us 41, .int .i64 k, .slice (some ⟨g27, 0, none⟩) 1 1, .slice (some ⟨gv, 0, none⟩) X.length cv, .int .i64 j, vF, v36, .slice (some ⟨g45, 0, none⟩) 0 0, .slice (some ⟨gv, 0, none⟩) X.length cv, .int .i64 j, vT, v52, v36, v62, us 55] : Array Value).getD us_ undef, rfl, C0, SL, Lib.hid (own_conv Z50.out (by have := hj.out; rw [List.length_append, List.length_take, List.length_cons, List.length_drop]; omega) (by rw [List.map_append, List.map_cons]; rfl)), Lib.hid ⟨by have := hlt.out; omega, by have := hlt.out; have := hk.out; omega⟩, Lib.hid (ins_sorts hs.out ho.out hd.out hin.out hex.out), Lib.hid (.inr (by rw [List.length_append, List.length_cons]; omega)), Lib.hid (xr68.out)⟩)
    · have hj0 := Lib.hid h
      clear h
      have D22 := Lib.hid (show ¬ 0 < j by have := hj0.out; omega)
      have hex := Lib.hid (show ∀ y ∈ X.take j, ¬ o.d < kd L y from ins_zero hj0.out)
      refine sq_ (fun K71 hK71 => ?_)
      refine startk_ (S := fun W => True) (ds := []) #[false, false, false, false, false, false, false, false, false, false, false, false, false, false, false, false, false, false, false] (by kernel_rfl) rfl rfl (fun W c => trivial) (fun w72 C73 hS74 => ?_)
      have C0' := Lib.hid (show Ch [] w w72 from C0.out.trans' C73 (fun x hx => absurd hx (by simp)))
      have SL' := Lib.hid (show SrcIs w72 (.slice (some a) L.length c) (L.length) ((L).flatMap opC) 28 from SL.out.chx C73 xnin_nil)
      have OX' := Lib.hid (show OwnS w72 w.heap.size 3 1 (.slice Av X.length cv) (X.length) (X.map vi) from OX.out.ch C73 rnin_nil)
      clear C0 SL OX
      have C0 := C0'; clear C0'
      have SL := SL'; clear SL'
      have OX := OX'; clear OX'
      clear C73
      refine pure_ (i := 0) (N := some 21) (v := .int .i64 j) #[true, false, false, false, false, false, false, false, false, false, false, false, false, false, false, false, false, false, false] rfl rfl (by kernel_rfl) (fun c a w h => hP c a _ _ w h) (y_move rfl (by rfl) (by rfl)) rfl ?_
      (try simp only [zP, zN, zA, zB, zC])
      refine pure_ (i := 1) (N := some 22) (v := .bool false) #[true, true, false, false, false, false, false, false, false, false, false, false, false, false, false, false, false, false, false] rfl rfl (by kernel_rfl) (fun c a w h => hP c a _ _ w h) (y_run (by rfl) (fun W => by have d := D22.out; go_simp)) rfl ?_
      (try simp only [zP, zN, zA, zB, zC])
      refine pure_ (i := 2) (N := some 23) (v := .bool false) #[true, true, true, false, false, false, false, false, false, false, false, false, false, false, false, false, false, false, false] rfl rfl (by kernel_rfl) (fun c a w h => hP c a _ _ w h) (y_move rfl (by rfl) (by rfl)) rfl ?_
      (try simp only [zP, zN, zA, zB, zC])
      refine pure_ (i := 3) (N := some 24) (v := undef) #[true, true, true, true, false, false, false, false, false, false, false, false, false, false, false, false, false, false, false] rfl rfl (by kernel_rfl) (fun c a w h => hP c a _ _ w h) (y_off (by rfl)) rfl ?_
      (try simp only [zP, zN, zA, zB, zC])
      refine pure_ (i := 4) (N := some 25) (v := undef) #[true, true, true, true, true, false, false, false, false, false, false, false, false, false, false, false, false, false, false] rfl rfl (by kernel_rfl) (fun c a w h => hP c a _ _ w h) (y_off (by rfl)) rfl ?_
      (try simp only [zP, zN, zA, zB, zC])
      refine pure_ (i := 5) (N := some 26) (v := undef) #[true, true, true, true, true, true, false, false, false, false, false, false, false, false, false, false, false, false, false] rfl rfl (by kernel_rfl) (fun c a w h => hP c a _ _ w h) (y_off (by rfl)) rfl ?_
      (try simp only [zP, zN, zA, zB, zC])
      refine pure_ (i := 6) (N := some 27) (v := undef) #[true, true, true, true, true, true, true, false, false, false, false, false, false, false, false, false, false, false, false] rfl rfl (by kernel_rfl) (fun c a w h => hP c a _ _ w h) (y_off (by rfl)) rfl ?_
      (try simp only [zP, zN, zA, zB, zC])
      refine pure_ (i := 7) (N := some 28) (v := undef) #[true, true, true, true, true, true, true, true, false, false, false, false, false, false, false, false, false, false, false] rfl rfl (by kernel_rfl) (fun c a w h => hP c a _ _ w h) (y_off (by rfl)) rfl ?_
      (try simp only [zP, zN, zA, zB, zC])
      refine pure_ (i := 8) (N := some 29) (v := undef) #[true, true, true, true, true, true, true, true, true, false, false, false, false, false, false, false, false, false, false] rfl rfl (by kernel_rfl) (fun c a w h => hP c a _ _ w h) (y_off (by rfl)) rfl ?_
      (try simp only [zP, zN, zA, zB, zC])
      refine pure_ (i := 9) (N := some 30) (v := undef) #[true, true, true, true, true, true, true, true, true, true, false, false, false, false, false, false, false, false, false] rfl rfl (by kernel_rfl) (fun c a w h => hP c a _ _ w h) (y_off (by rfl)) rfl ?_
      (try simp only [zP, zN, zA, zB, zC])
      refine pure_ (i := 10) (N := some 31) (v := undef) #[true, true, true, true, true, true, true, true, true, true, true, false, false, false, false, false, false, false, false] rfl rfl (by kernel_rfl) (fun c a w h => hP c a _ _ w h) (y_off (by rfl)) rfl ?_
      (try simp only [zP, zN, zA, zB, zC])
      refine pure_ (i := 11) (N := some 32) (v := undef) #[true, true, true, true, true, true, true, true, true, true, true, true, false, false, false, false, false, false, false] rfl rfl (by kernel_rfl) (fun c a w h => hP c a _ _ w h) (y_off (by rfl)) rfl ?_
      (try simp only [zP, zN, zA, zB, zC])
      refine pure_ (i := 12) (N := some 33) (v := undef) #[true, true, true, true, true, true, true, true, true, true, true, true, true, false, false, false, false, false, false] rfl rfl (by kernel_rfl) (fun c a w h => hP c a _ _ w h) (y_off (by rfl)) rfl ?_
      (try simp only [zP, zN, zA, zB, zC])
      refine pure_ (i := 13) (N := some 34) (v := undef) #[true, true, true, true, true, true, true, true, true, true, true, true, true, true, false, false, false, false, false] rfl rfl (by kernel_rfl) (fun c a w h => hP c a _ _ w h) (y_off (by rfl)) rfl ?_
      (try simp only [zP, zN, zA, zB, zC])
      refine pure_ (i := 14) (N := some 35) (v := undef) #[true, true, true, true, true, true, true, true, true, true, true, true, true, true, true, false, false, false, false] rfl rfl (by kernel_rfl) (fun c a w h => hP c a _ _ w h) (y_off (by rfl)) rfl ?_
      (try simp only [zP, zN, zA, zB, zC])
      refine pure_ (i := 15) (N := some 36) (v := undef) #[true, true, true, true, true, true, true, true, true, true, true, true, true, true, true, true, false, false, false] rfl rfl (by kernel_rfl) (fun c a w h => hP c a _ _ w h) (y_off (by rfl)) rfl ?_
      (try simp only [zP, zN, zA, zB, zC])
      refine pure_ (i := 16) (N := some 37) (v := undef) #[true, true, true, true, true, true, true, true, true, true, true, true, true, true, true, true, true, false, false] rfl rfl (by kernel_rfl) (fun c a w h => hP c a _ _ w h) (y_off (by rfl)) rfl ?_
      (try simp only [zP, zN, zA, zB, zC])
      refine pure_ (i := 17) (N := some 38) (v := undef) #[true, true, true, true, true, true, true, true, true, true, true, true, true, true, true, true, true, true, false] rfl rfl (by kernel_rfl) (fun c a w h => hP c a _ _ w h) (y_off (by rfl)) rfl ?_
      (try simp only [zP, zN, zA, zB, zC])
      refine pure_ (i := 18) (N := some 39) (v := .bool false) #[true, true, true, true, true, true, true, true, true, true, true, true, true, true, true, true, true, true, true] rfl rfl (by kernel_rfl) (fun c a w h => hP c a _ _ w h) (y_pick (t := false) (by rfl) rfl (by rfl) (by rfl)) rfl ?_
      (try simp only [zP, zN, zA, zB, zC])
      refine done_ (by kernel_rfl) (th_norm (hK71 _ _ ?_)); clear hK71 K71
      refine wp_cond_false rfl ?_
      refine wp_exit ?_
      refine th_exit ?_
      refine th_exit ?_
      refine ib_exit ?_
      refine th_norm (hK13 _ _ ?_); try clear hK13 K13
      obtain ⟨vF, vT, hF0, hT0, hFs0, hTs0⟩ := cuts hn.out OX.out hj.out.1
      · have HF := Lib.hid hF0
        have HT := Lib.hid hT0
        have HFS := Lib.hid hFs0
        have HTS := Lib.hid hTs0
        clear hF0 hT0 hFs0 hTs0
        refine s_ (fun K75 hK75 => ?_)
        refine pu_ (v := .int .i64 k) (y_move rfl (by rfl) (by rfl)) ?_
        (try simp only [zP, zN, zA, zB, zC])
        refine ef_ (fun K76 hK76 => ?_)
        refine e_buildS (parts := #[(0, .int .i64 k)]) (cells := #[.int .i64 k]) (by rfl) rfl rfl (by first | rfl | (simp only [List.map_toArray, List.map_cons, List.map_nil]; first | done | rfl)) Try.underlying44 I3.hi I3.hz I3.hs (by decide) (by decide) (by kernel_rfl) ?_
        rintro g77 w78 HG79 B80 C81
        have nw82 := Lib.hid (show w.heap.size ≤ g77 by have := C0.out.size; have := HG79.out; omega)
        have nx83 := Lib.hid (SL.out.ne_new (by decide) HG79)
        have nr84 := Lib.hid (OX.out.ne_new HG79)
        have C0' := Lib.hid (show Ch [] w w78 from C0.out.trans' C81 (fun x hx => absurd hx (by simp)))
        have SL' := Lib.hid (show SrcIs w78 (.slice (some a) L.length c) (L.length) ((L).flatMap opC) 28 from SL.out.chx C81 xnin_nil)
        have OX' := Lib.hid (show OwnS w78 w.heap.size 3 1 (.slice Av X.length cv) (X.length) (X.map vi) from OX.out.ch C81 rnin_nil)
        clear C0 SL OX
        have C0 := C0'; clear C0'
        have SL := SL'; clear SL'
        have OX := OX'; clear OX'
        have Fg77 := Lib.hid (show Blk w78 g77 (#[.int .i64 k]) 3 from B80); clear B80 C81
        refine hK76 _ _ ?_; clear hK76 K76
        (try simp only [zP, zN, zA, zB, zC])
        refine pu_ (v := .slice Av X.length cv) (y_move rfl (by rfl) (by rfl)) ?_
        (try simp only [zP, zN, zA, zB, zC])
        refine pu_ (v := .int .i64 j) (y_move rfl (by rfl) (by rfl)) ?_
        (try simp only [zP, zN, zA, zB, zC])
        refine pu_ (v := vF) (y_slice (by rfl) rfl (by rfl) (by rfl) rfl rfl HF.out) ?_
        (try simp only [zP, zN, zA, zB, zC])
        refine ef_ (fun K85 hK85 => ?_)
        have OK := Lib.hid (show OwnS w78 w.heap.size 3 1 (.slice (some ⟨g77, 0, none⟩) 1 1) (1) ([Value.int .i64 (k : Nat)]) from own_of_blk Fg77.out nw82.out)
        have HXK := Lib.hid (show ∀ k, k ∈ xb (.slice (some a) L.length c) → k ∉ rl (.slice (some ⟨g77, 0, none⟩) 1 1) from fun k hk hm => nx83.out (by rw [← row_one hm]; exact hk))
        have HRK := Lib.hid (show ∀ k, k ∈ rl (.slice Av X.length cv) → k ∉ rl (.slice (some ⟨g77, 0, none⟩) 1 1) from fun k hk hm => nr84.out (by rw [← row_one hm]; exact hk))
        clear Fg77
        refine e_append (by rfl) rfl rfl (w.heap.size) 3 _ _ 1 8 Try.underlying44 I3.hi I3.hz I3.hs I3.hb rfl (by decide) (.slice (some ⟨g77, 0, none⟩) 1 1) (1) ([Value.int .i64 (k : Nat)]) (by rfl) OK.out (vF) (X.length - j) ((X.drop j).map vi) (by rfl) (HFS.out _ OX.out) (ones_vi _) (by have := HXN.out; have := hj.out; unfold maxLen; omega) (by have := HXN.out; have := hj.out; omega) C0.out.size ?_
        rintro v86 w87 O88 C89 R90 -
        have xr92 := Lib.hid (show ∀ k, k ∈ xb (.slice (some a) L.length c) → k ∉ rl v86 from fun k hk hm => (R90 k hm).elim (fun h => HXK.out k hk h) (fun h => by have := SL.out.lt (by decide) k hk; omega))
        have rr93 := Lib.hid (show ∀ k, k ∈ rl (.slice Av X.length cv) → k ∉ rl v86 from fun k hk hm => (R90 k hm).elim (fun h => HRK.out k hk h) (fun h => by have := (OX.out.lt k hk).2; omega))
        have C0' := Lib.hid (show Ch [] w w87 from C0.out.trans' C89 (fun x hx => .inr (OK.out.lt x hx).1))
        have SL' := Lib.hid (show SrcIs w87 (.slice (some a) L.length c) (L.length) ((L).flatMap opC) 28 from SL.out.chx C89 HXK.out)
        have OX' := Lib.hid (show OwnS w87 w.heap.size 3 1 (.slice Av X.length cv) (X.length) (X.map vi) from OX.out.ch C89 HRK.out)
        clear C0 SL OX
        have C0 := C0'; clear C0'
        have SL := SL'; clear SL'
        have OX := OX'; clear OX'
        clear OK
        have OK := Lib.hid (show OwnS w87 w.heap.size 3 1 (v86) (1 + (X.length - j)) ([Value.int .i64 (k : Nat)] ++ (X.drop j).map vi) from O88); clear O88 C89
        refine hK85 _ _ ?_; clear hK85 K85
        (try simp only [zP, zN, zA, zB, zC])
        refine pu_ (v := v86) (y_assign rfl (by rfl) (by rfl)) ?_
        (try simp only [zP, zN, zA, zB, zC])
        refine nl_ (hK75 _ _ ?_); clear hK75 K75
        refine r_ ?_
        refine ef_ (fun K94 hK94 => ?_)
        refine e_buildS0 (by rfl) rfl rfl Try.underlying44 I3.hi ?_
        rintro g95 w96 HG97 C99
        have C0' := Lib.hid (show Ch [] w w96 from C0.out.trans' C99 (fun x hx => absurd hx (by simp)))
        have SL' := Lib.hid (show SrcIs w96 (.slice (some a) L.length c) (L.length) ((L).flatMap opC) 28 from SL.out.chx C99 xnin_nil)
        have OX' := Lib.hid (show OwnS w96 w.heap.size 3 1 (.slice Av X.length cv) (X.length) (X.map vi) from OX.out.ch C99 rnin_nil)
        have OK' := Lib.hid (show OwnS w96 w.heap.size 3 1 (v86) (1 + (X.length - j)) ([Value.int .i64 (k : Nat)] ++ (X.drop j).map vi) from OK.out.ch C99 rnin_nil)
        clear C0 SL OX OK
        have C0 := C0'; clear C0'
        have SL := SL'; clear SL'
        have OX := OX'; clear OX'
        have OK := OK'; clear OK'
        clear C99
        have Z100 := Lib.hid (show OwnS w96 w.heap.size 3 1 (.slice (some ⟨g95, 0, none⟩) 0 0) (0) ([]) from OwnS.nil _ _ _ _ _)
        refine hK94 _ _ ?_; clear hK94 K94
        (try simp only [zP, zN, zA, zB, zC])
        refine pu_ (v := .slice Av X.length cv) (y_move rfl (by rfl) (by rfl)) ?_
        (try simp only [zP, zN, zA, zB, zC])
        refine pu_ (v := .int .i64 j) (y_move rfl (by rfl) (by rfl)) ?_
        (try simp only [zP, zN, zA, zB, zC])
        refine pu_ (v := vT) (y_slice (by rfl) rfl (by rfl) rfl (by rfl) rfl HT.out) ?_
        (try simp only [zP, zN, zA, zB, zC])
        refine ef_ (fun K101 hK101 => ?_)
        refine e_append (by rfl) rfl rfl (w.heap.size) 3 _ _ 1 8 Try.underlying44 I3.hi I3.hz I3.hs I3.hb rfl (by decide) (.slice (some ⟨g95, 0, none⟩) 0 0) (0) ([]) (by rfl) Z100.out (vT) j ((X.take j).map vi) (by rfl) (HTS.out _ OX.out) (ones_vi _) (by have := HXN.out; have := hj.out; unfold maxLen; omega) (by have := HXN.out; have := hj.out; omega) C0.out.size ?_
        rintro v102 w103 O104 C105 R106 -
        replace C105 : Ch [] _ _ := C105
        replace R106 : ∀ k, k ∈ rl v102 → w96.heap.size ≤ k := fun k hk => (R106 k hk).elim (fun h => absurd h (by simp [rl])) id
        have rw107 := Lib.hid (show ∀ x, x ∈ rl v102 → x ∈ [] ∨ w.heap.size ≤ x from fun x hx => .inr (by have := R106 x hx; have := C0.out.size; omega))
        have xr108 := Lib.hid (show ∀ k, k ∈ xb (.slice (some a) L.length c) → k ∉ rl v102 from fun k hk hm => by have := R106 k hm; have := SL.out.lt (by decide) k hk; omega)
        have rr109 := Lib.hid (show ∀ k, k ∈ rl (.slice Av X.length cv) → k ∉ rl v102 from fun k hk hm => by have := R106 k hm; have := (OX.out.lt k hk).2; omega)
        have rr110 := Lib.hid (show ∀ k, k ∈ rl (v86) → k ∉ rl v102 from fun k hk hm => by have := R106 k hm; have := (OK.out.lt k hk).2; omega)
        have C0' := Lib.hid (show Ch [] w w103 from C0.out.trans' C105 (fun x hx => absurd hx (by simp)))
        have SL' := Lib.hid (show SrcIs w103 (.slice (some a) L.length c) (L.length) ((L).flatMap opC) 28 from SL.out.chx C105 xnin_nil)
        have OX' := Lib.hid (show OwnS w103 w.heap.size 3 1 (.slice Av X.length cv) (X.length) (X.map vi) from OX.out.ch C105 rnin_nil)
        have OK' := Lib.hid (show OwnS w103 w.heap.size 3 1 (v86) (1 + (X.length - j)) ([Value.int .i64 (k : Nat)] ++ (X.drop j).map vi) from OK.out.ch C105 rnin_nil)
        clear C0 SL OX OK
        have C0 := C0'; clear C0'
        have SL := SL'; clear SL'
        have OX := OX'; clear OX'
        have OK := OK'; clear OK'
        clear Z100
        have Z100 := Lib.hid (show OwnS w103 w.heap.size 3 1 (v102) (j) ((X.take j).map vi) from (by simpa using O104)); clear O104 C105
        refine hK101 _ _ ?_; clear hK101 K101
        (try simp only [zP, zN, zA, zB, zC])
        refine pu_ (v := v86) (y_move rfl (by rfl) (by rfl)) ?_
        (try simp only [zP, zN, zA, zB, zC])
        refine ef_ (fun K111 hK111 => ?_)
        refine e_append (by rfl) rfl rfl (w.heap.size) 3 _ _ 1 8 Try.underlying44 I3.hi I3.hz I3.hs I3.hb rfl (by decide) (v102) (j) ((X.take j).map vi) (by rfl) Z100.out (v86) (1 + (X.length - j)) (([Value.int .i64 (k : Nat)] ++ (X.drop j).map vi)) (by rfl) OK.out.src (ones_cons rfl (ones_vi _)) (by have := HXN.out; have := hj.out; unfold maxLen; omega) (by have := HXN.out; have := hj.out; omega) C0.out.size ?_
        rintro v112 w113 O114 C115 R116 -
        have rw117 := Lib.hid (show ∀ x, x ∈ rl v112 → x ∈ [] ∨ w.heap.size ≤ x from fun x hx => (R116 x hx).elim (fun h => rw107.out _ h) (fun h => .inr (by have := C0.out.size; omega)))
        have xr118 := Lib.hid (show ∀ k, k ∈ xb (.slice (some a) L.length c) → k ∉ rl v112 from fun k hk hm => (R116 k hm).elim (fun h => xr108.out k hk h) (fun h => by have := SL.out.lt (by decide) k hk; omega))
        have rr119 := Lib.hid (show ∀ k, k ∈ rl (.slice Av X.length cv) → k ∉ rl v112 from fun k hk hm => (R116 k hm).elim (fun h => rr109.out k hk h) (fun h => by have := (OX.out.lt k hk).2; omega))
        have rr120 := Lib.hid (show ∀ k, k ∈ rl (v86) → k ∉ rl v112 from fun k hk hm => (R116 k hm).elim (fun h => rr110.out k hk h) (fun h => by have := (OK.out.lt k hk).2; omega))
        have C0' := Lib.hid (show Ch [] w w113 from C0.out.trans' C115 (fun x hx => .inr (Z100.out.lt x hx).1))
        have SL' := Lib.hid (show SrcIs w113 (.slice (some a) L.length c) (L.length) ((L).flatMap opC) 28 from SL.out.chx C115 xr108.out)
        have OX' := Lib.hid (show OwnS w113 w.heap.size 3 1 (.slice Av X.length cv) (X.length) (X.map vi) from OX.out.ch C115 rr109.out)
        have OK' := Lib.hid (show OwnS w113 w.heap.size 3 1 (v86) (1 + (X.length - j)) ([Value.int .i64 (k : Nat)] ++ (X.drop j).map vi) from OK.out.ch C115 rr110.out)
        clear C0 SL OX OK
        have C0 := C0'; clear C0'
        have SL := SL'; clear SL'
        have OX := OX'; clear OX'
        have OK := OK'; clear OK'
        clear Z100
        have Z100 := Lib.hid (show OwnS w113 w.heap.size 3 1 (v112) (j + (1 + (X.length - j))) ((X.take j).map vi ++ ([Value.int .i64 (k : Nat)] ++ (X.drop j).map vi)) from O114); clear O114 C115
        refine hK111 _ _ ?_; clear hK111 K111
        (try simp only [zP, zN, zA, zB, zC])
        refine pu_ (v := v112) (y_assign rfl (by rfl) (by rfl)) ?_
        (try simp only [zP, zN, zA, zB, zC])
        refine nl_ ?_
        refine ib_norm ?_
        refine th_norm (hK9 _ _ ?_); try clear hK9 K9
        refine r_ ?_
        refine pu_ (v := .int .i64 k) (y_move rfl (by rfl) (by rfl)) ?_
        (try simp only [zP, zN, zA, zB, zC])
        refine pu_ (v := .int .i64 (k + 1 : Nat)) (y_run (by rfl) (fun W => by have d := Wk.out; go_simp)) ?_
        (try simp only [zP, zN, zA, zB, zC])
        refine pu_ (v := .int .i64 (k + 1 : Nat)) (y_assign rfl (by rfl) (by rfl)) ?_
        (try simp only [zP, zN, zA, zB, zC])
        refine nl_ ?_
        exact th_norm (hK6 (kq - 1) _ _ (by have := hlt.out; have := hk.out; omega) ⟨k + 1, _, X.take j ++ (k : Int) :: X.drop j, fun us_ => (#[.slice (some a) L.length c, us 1, .slice none 0 0, v112, .int .i64 (k + 1 : Nat), .int .i64 j, v86, us 7, us 8, us 9, us 10, .int .i64 k, .int .i64 (k + 1 : Nat), us 13, us 14, us 15, us 16, us 17, us 18, us 19, us 20, .int .i64 j, .bool false, .bool false, undef, undef, undef, undef, undef, undef, undef, undef, undef, undef, undef, undef, undef, undef, undef, .bool false, us 40, us 41, .int .i64 k, .slice (some ⟨g77, 0, none⟩) 1 1, .slice Av X.length cv, .int .i64 j, vF, v86, .slice (some ⟨g95, 0, none⟩) 0 0, .slice Av X.length cv, .int .i64 j, vT, v102, v86, v112, us 55] : Array Value).getD us_ undef, rfl, C0, SL, Lib.hid (own_conv Z100.out (by have := hj.out; rw [List.length_append, List.length_take, List.length_cons, List.length_drop]; omega) (by rw [List.map_append, List.map_cons]; rfl)), Lib.hid ⟨by have := hlt.out; omega, by have := hlt.out; have := hk.out; omega⟩, Lib.hid (ins_sorts hs.out ho.out hd.out hin.out hex.out), Lib.hid (.inr (by rw [List.length_append, List.length_cons]; omega)), Lib.hid (xr118.out)⟩)
  · have hlt := Lib.hid hlt0
    have ho := Lib.hid ho0
    have hd := Lib.hid h
    clear hlt0 ho0 h
    obtain ⟨a, hsm_a⟩ := src_some SL.out (by have := hlt.out; omega)
    subst hsm_a
    have D10 := Lib.hid (show (k : Int) < (L.length : Int) by have := hlt.out; omega)
    have Wk := Lib.hid (show IntKind.i64.wrap ((k : Int) + 1) = ((k + 1 : Nat) : Int) by rw [wr64 (by have := hlt.out; have := HN.out; omega)]; omega)
    have D18 := Lib.hid (show decide (o.d < 1) = true from decide_eq_true (by have := hd.out; omega))
    refine s_ (fun K121 hK121 => ?_)
    refine pu_ (v := .int .i64 k) (y_move rfl (by rfl) (by rfl)) ?_
    (try simp only [zP, zN, zA, zB, zC])
    refine pu_ (v := .slice (some a) L.length c) (y_move rfl (by rfl) (by rfl)) ?_
    (try simp only [zP, zN, zA, zB, zC])
    refine pu_ (v := .int .i64 L.length) (y_run (by rfl) (fun W => by go_simp)) ?_
    (try simp only [zP, zN, zA, zB, zC])
    refine pu_ (v := .bool true) (y_run (by rfl) (fun W => by have d := D10.out; go_simp)) ?_
    (try simp only [zP, zN, zA, zB, zC])
    refine nl_ (hK121 _ _ ?_); clear hK121 K121
    refine wp_cond_true rfl ?_
    refine wp_skip ?_
    refine th_norm (hK7 _ _ ?_); try clear hK7 K7
    refine sq_ (fun K122 hK122 => ?_)
    refine wp_block ?_
    refine sq_ (fun K123 hK123 => ?_)
    refine s_ (fun K124 hK124 => ?_)
    refine pu_ (v := .slice (some a) L.length c) (y_move rfl (by rfl) (by rfl)) ?_
    (try simp only [zP, zN, zA, zB, zC])
    refine pu_ (v := .int .i64 k) (y_move rfl (by rfl) (by rfl)) ?_
    (try simp only [zP, zN, zA, zB, zC])
    refine pu_ (v := .pointer (some (a.add (k * 28)))) (y_run (by rfl) (fun W => by have d := D10.out; go_simp)) ?_
    (try simp only [zP, zN, zA, zB, zC])
    refine pu_ (v := .pointer (some ((a.add (k * 28)).add 3))) (y_run (by rfl) (fun W => by go_simp)) ?_
    (try simp only [zP, zN, zA, zB, zC])
    refine ld_ (v := .int .i64 o.d) rfl (by rfl) (by rfl) (run_load_one (src_elem SL.out ho.out 3 _ (by simp [opC])) Try.underlying3 rfl) ?_
    (try simp only [zP, zN, zA, zB, zC])
    refine pu_ (v := .bool true) (y_run (by rfl) (fun W => by have d := D18.out; go_simp)) ?_
    (try simp only [zP, zN, zA, zB, zC])
    refine nl_ (hK124 _ _ ?_); clear hK124 K124
    refine wp_cond_true rfl ?_
    refine wp_exit ?_
    refine th_exit ?_
    refine ib_exit ?_
    refine th_norm (hK122 _ _ ?_); try clear hK122 K122
    refine r_ ?_
    refine pu_ (v := .int .i64 k) (y_move rfl (by rfl) (by rfl)) ?_
    (try simp only [zP, zN, zA, zB, zC])
    refine pu_ (v := .int .i64 (k + 1 : Nat)) (y_run (by rfl) (fun W => by have d := Wk.out; go_simp)) ?_
    (try simp only [zP, zN, zA, zB, zC])
    refine pu_ (v := .int .i64 (k + 1 : Nat)) (y_assign rfl (by rfl) (by rfl)) ?_
    (try simp only [zP, zN, zA, zB, zC])
    refine nl_ ?_
    exact th_norm (hK6 (kq - 1) _ _ (by have := hlt.out; have := hk.out; omega) ⟨k + 1, _, X, fun us_ => (#[.slice (some a) L.length c, us 1, .slice none 0 0, v, .int .i64 (k + 1 : Nat), us 5, us 6, .int .i64 k, .slice (some a) L.length c, .int .i64 L.length, .bool true, .int .i64 k, .int .i64 (k + 1 : Nat), .slice (some a) L.length c, .int .i64 k, .pointer (some (a.add (k * 28))), .pointer (some ((a.add (k * 28)).add 3)), .int .i64 o.d, .bool true, us 19, us 20, us 21, us 22, us 23, us 24, us 25, us 26, us 27, us 28, us 29, us 30, us 31, us 32, us 33, us 34, us 35, us 36, us 37, us 38, us 39, us 40, us 41, us 42, us 43, us 44, us 45, us 46, us 47, us 48, us 49, us 50, us 51, us 52, us 53, us 54, us 55] : Array Value).getD us_ undef, rfl, C0, SL, OX, Lib.hid ⟨by have := hlt.out; omega, by have := hlt.out; have := hk.out; omega⟩, Lib.hid (by rw [done_no ho.out hd.out]; exact hs.out), hn, hxr⟩)
  · have D10 := Lib.hid (show ¬ k < L.length by have := hk.out; omega)
    have HS := Lib.hid (show sorts L (doneI L L.length) X from by have h9 := hs.out; rw [h] at h9; exact h9)
    clear h
    refine s_ (fun K125 hK125 => ?_)
    refine pu_ (v := .int .i64 k) (y_move rfl (by rfl) (by rfl)) ?_
    (try simp only [zP, zN, zA, zB, zC])
    refine pu_ (v := .slice A L.length c) (y_move rfl (by rfl) (by rfl)) ?_
    (try simp only [zP, zN, zA, zB, zC])
    refine pu_ (v := .int .i64 L.length) (y_run (by rfl) (fun W => by go_simp)) ?_
    (try simp only [zP, zN, zA, zB, zC])
    refine pu_ (v := .bool false) (y_run (by rfl) (fun W => by have d := D10.out; go_simp)) ?_
    (try simp only [zP, zN, zA, zB, zC])
    refine nl_ (hK125 _ _ ?_); clear hK125 K125
    refine wp_cond_false rfl ?_
    refine wp_exit ?_
    refine th_exit ?_
    refine th_exit ?_
    refine ib_exit ?_
    refine th_norm (hK3 _ _ ?_); try clear hK3 K3
    refine s_ (fun K126 hK126 => ?_)
    refine pu_ (v := v) (y_move rfl (by rfl) (by rfl)) ?_
    (try simp only [zP, zN, zA, zB, zC])
    refine pu_ (v := v) (y_assign rfl (by rfl) (by rfl)) ?_
    (try simp only [zP, zN, zA, zB, zC])
    refine nl_ (hK126 _ _ ?_); clear hK126 K126
    refine wp_ret ?_
    refine hQ _ _ _ ?_
    refine bodyPost_ret (res1 rfl (rdv_tmp (v := v) (by rfl))) rfl ?_
    exact ⟨_, _, rfl, OX.out, HS.out, C0.out⟩
end
end Go.Proofs.Ytggcpbnlblbpjaa.L
