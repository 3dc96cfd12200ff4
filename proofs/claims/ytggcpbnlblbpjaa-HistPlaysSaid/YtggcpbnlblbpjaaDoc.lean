/- The walks of the document's book. -/
import Derived.Test.YtggcpbnlblbpjaaDocB
namespace Go.Proofs.Ytggcpbnlblbpjaa.L
open Go Go.RowKit Go.Proofs.Ytggcpbnlblbpjaa.K Go.Proofs.Ytggcpbnlblbpjaa.H Go.Proofs.YtggcpbnlblbpjaaW.PrintLast
set_option linter.unusedVariables false
set_option linter.unusedSimpArgs false
set_option maxRecDepth 100000
set_option maxHeartbeats 1600000
section
variable {w : World}
theorem rix_ {A : Option Addr} {z : Nat} {L : List HOp} {now : Nat} {u : Value} (c n : Int) (HN : Hid (L.length ≤ 1000)) (HU : u.oneCell' = true) (SL : Hid (SrcIs w (.slice A L.length z) (L.length) ((L).flatMap opC) 28)) :
    Calls Try.prog 25 #[.agg #[.int .i64 now, .slice A L.length z, u], .int .i64 c, .int .i64 n] w fun en w' => en = .returned (.int .i64 (ixZ (idx c n 0 L))) ∧ Ch [] w w' := by
  have C0 := Lib.hid (Ch.refl [] w)
  go_enter Try.func25, Try.ntmps25
  refine q_ (fun Q hQ hP => ?_)
  refine s_ (fun K1 hK1 => ?_)
  refine ef_ (fun K2 hK2 => ?_)
  refine e_boxN (by rfl) rfl rfl (cs := #[.int .i64 now, .slice A L.length z, u]) (v := .agg #[.int .i64 now, .slice A L.length z, u]) (by rfl) rfl ?_
  rintro g3 w4 HG5 B6 C7
  have nw8 := Lib.hid (show w.heap.size ≤ g3 by have := C0.out.size; have := HG5.out; omega)
  have nx9 := Lib.hid (SL.out.ne_new (by decide) HG5)
  have C0' := Lib.hid (show Ch [] w w4 from C0.out.trans' C7 (fun x hx => absurd hx (by simp)))
  have SL' := Lib.hid (show SrcIs w4 (.slice A L.length z) (L.length) ((L).flatMap opC) 28 from SL.out.chx C7 xnin_nil)
  clear C0 SL
  have C0 := C0'; clear C0'
  have SL := SL'; clear SL'
  have Fg3 := Lib.hid (show Blk w4 g3 (#[.int .i64 now, .slice A L.length z, u]) 53 from B6); clear B6 C7
  refine hK2 _ _ ?_; clear hK2 K2
  (try simp only [zP, zN, zA, zB, zC])
  refine pu_ (v := .int .i64 0) (y_assign rfl (by rfl) (by rfl)) ?_
  (try simp only [zP, zN, zA, zB, zC])
  refine nl_ (hK1 _ _ ?_); clear hK1 K1
  refine sq_ (fun K10 hK10 => ?_)
  refine s_ (fun K11 hK11 => ?_)
  refine pu_ (v := .int .i64 0) (y_assign rfl (by rfl) (by rfl)) ?_
  (try simp only [zP, zN, zA, zB, zC])
  refine nl_ (hK11 _ _ ?_); clear hK11 K11
  refine wp_block ?_
  refine loopk_ (fun (kq : Nat) (a' : Act) (w' : World) => ∃ (k : Nat), ∃ (us : Nat → Value), a' = ⟨#[us 0, .int .i64 c, .int .i64 n, .pointer (some ⟨g3, 0, none⟩), us 4, us 5, .int .i64 0, .int .i64 k, us 8, us 9, us 10, us 11, us 12, us 13, us 14, us 15, us 16, us 17, us 18, us 19, us 20, us 21, us 22, us 23, us 24, us 25, us 26, us 27, us 28, us 29, us 30, us 31, us 32, us 33], []⟩ ∧ Hid (Ch [] w w') ∧ Hid (SrcIs w' (.slice A L.length z) (L.length) ((L).flatMap opC) 28) ∧ Hid (Blk w' g3 (#[.int .i64 now, .slice A L.length z, u]) 53) ∧ Hid (k ≤ L.length ∧ kq + k = L.length) ∧ Hid (idx c n 0 L = idx c n k (L.drop k))) (L.length) (⟨0, fun us_ => (#[.agg #[.int .i64 now, .slice A L.length z, u], .int .i64 c, .int .i64 n, .pointer (some ⟨g3, 0, none⟩), undef, undef, .int .i64 0, .int .i64 0, undef, undef, undef, undef, undef, undef, undef, undef, undef, undef, undef, undef, undef, undef, undef, undef, undef, undef, undef, undef, undef, undef, undef, undef, undef, undef] : Array Value).getD us_ undef, rfl, C0, SL, Fg3, Lib.hid ⟨by omega, by omega⟩, Lib.hid rfl⟩) ?_
  rintro kq _ w12 ⟨k, us, rfl, C0, SL, Fg3, hk, hi⟩ K13 hK13
  refine sq_ (fun K14 hK14 => ?_)
  rcases at_ways hk.out.1 with ⟨o, hlt0, ho0⟩ | h; rcases ix_ways o c n with h | h | h
  · have hlt := Lib.hid hlt0
    have ho := Lib.hid ho0
    clear hlt0 ho0
    obtain ⟨a, hsm_a⟩ := src_some SL.out (by have := hlt.out; omega)
    subst hsm_a
    have D12 := Lib.hid (show (k : Int) < (L.length : Int) by have := hlt.out; omega)
    have Wk := Lib.hid (show IntKind.i64.wrap ((k : Int) + 1) = ((k + 1 : Nat) : Int) by rw [wr64 (by have := hlt.out; have := HN.out; omega)]; omega)
    have DK := Lib.hid (show (k : Int) < (L.length : Int) by have := hlt.out; omega)
    have D22 := Lib.hid (show ¬ o.c = c from h)
    have hc := Lib.hid (show ¬ (o.c = c ∧ o.n = n) from fun h9 => h h9.1)
    clear h
    refine s_ (fun K15 hK15 => ?_)
    refine pu_ (v := .int .i64 k) (y_move rfl (by rfl) (by rfl)) ?_
    (try simp only [zP, zN, zA, zB, zC])
    refine pu_ (v := .pointer (some ⟨g3, 1, none⟩)) (y_run (by rfl) (fun W => by go_simp)) ?_
    (try simp only [zP, zN, zA, zB, zC])
    refine ld_ (v := .slice (some a) L.length z) rfl (by rfl) (by rfl) (run_load_one ((Fg3.out.cell 1).trans rfl) Try.underlying51 rfl) ?_
    (try simp only [zP, zN, zA, zB, zC])
    refine pu_ (v := .int .i64 L.length) (y_run (by rfl) (fun W => by go_simp)) ?_
    (try simp only [zP, zN, zA, zB, zC])
    refine pu_ (v := .bool true) (y_run (by rfl) (fun W => by have d := D12.out; go_simp)) ?_
    (try simp only [zP, zN, zA, zB, zC])
    refine nl_ (hK15 _ _ ?_); clear hK15 K15
    refine wp_cond_true rfl ?_
    refine wp_skip ?_
    refine th_norm (hK14 _ _ ?_); try clear hK14 K14
    refine sq_ (fun K16 hK16 => ?_)
    refine wp_block ?_
    refine s_ (fun K17 hK17 => ?_)
    refine pu_ (v := .pointer (some ⟨g3, 1, none⟩)) (y_run (by rfl) (fun W => by go_simp)) ?_
    (try simp only [zP, zN, zA, zB, zC])
    refine ld_ (v := .slice (some a) L.length z) rfl (by rfl) (by rfl) (run_load_one ((Fg3.out.cell 1).trans rfl) Try.underlying51 rfl) ?_
    (try simp only [zP, zN, zA, zB, zC])
    refine pu_ (v := .int .i64 k) (y_move rfl (by rfl) (by rfl)) ?_
    (try simp only [zP, zN, zA, zB, zC])
    refine pu_ (v := .pointer (some (a.add (k * 28)))) (y_run (by rfl) (fun W => by have d := DK.out; go_simp)) ?_
    (try simp only [zP, zN, zA, zB, zC])
    refine pu_ (v := .pointer (some ((a.add (k * 28)).add 0))) (y_run (by rfl) (fun W => by go_simp)) ?_
    (try simp only [zP, zN, zA, zB, zC])
    refine ld_ (v := .int .i64 o.c) rfl (by rfl) (by rfl) (run_load_one (src_elem SL.out ho.out 0 _ (by simp [opC])) Try.underlying3 rfl) ?_
    (try simp only [zP, zN, zA, zB, zC])
    refine pu_ (v := .int .i64 c) (y_move rfl (by rfl) (by rfl)) ?_
    (try simp only [zP, zN, zA, zB, zC])
    refine pu_ (v := .bool false) (y_run (by rfl) (fun W => by have d := D22.out; go_simp)) ?_
    (try simp only [zP, zN, zA, zB, zC])
    refine pu_ (v := .bool false) (y_move rfl (by rfl) (by rfl)) ?_
    (try simp only [zP, zN, zA, zB, zC])
    refine pu_ (y_off (by rfl)) ?_
    (try simp only [zP, zN, zA, zB, zC])
    refine pu_ (y_off (by rfl)) ?_
    (try simp only [zP, zN, zA, zB, zC])
    refine pu_ (y_off (by rfl)) ?_
    (try simp only [zP, zN, zA, zB, zC])
    refine pu_ (y_off (by rfl)) ?_
    (try simp only [zP, zN, zA, zB, zC])
    refine pu_ (y_off (by rfl)) ?_
    (try simp only [zP, zN, zA, zB, zC])
    refine pu_ (y_off (by rfl)) ?_
    (try simp only [zP, zN, zA, zB, zC])
    refine pu_ (y_off (by rfl)) ?_
    (try simp only [zP, zN, zA, zB, zC])
    refine pu_ (y_off (by rfl)) ?_
    (try simp only [zP, zN, zA, zB, zC])
    refine pu_ (v := .bool false) (y_pick (t := false) (by rfl) rfl (by rfl) (by rfl)) ?_
    (try simp only [zP, zN, zA, zB, zC])
    refine nl_ (hK17 _ _ ?_); clear hK17 K17
    refine wp_cond_false rfl ?_
    refine wp_skip ?_
    refine ib_norm ?_
    refine th_norm (hK16 _ _ ?_); try clear hK16 K16
    refine r_ ?_
    refine pu_ (v := .int .i64 k) (y_move rfl (by rfl) (by rfl)) ?_
    (try simp only [zP, zN, zA, zB, zC])
    refine pu_ (v := .int .i64 (k + 1 : Nat)) (y_run (by rfl) (fun W => by have d := Wk.out; go_simp)) ?_
    (try simp only [zP, zN, zA, zB, zC])
    refine pu_ (v := .int .i64 (k + 1 : Nat)) (y_assign rfl (by rfl) (by rfl)) ?_
    (try simp only [zP, zN, zA, zB, zC])
    refine nl_ ?_
    exact th_norm (hK13 (kq - 1) _ _ (by have := hlt.out; have := hk.out; omega) ⟨k + 1, fun us_ => (#[us 0, .int .i64 c, .int .i64 n, .pointer (some ⟨g3, 0, none⟩), us 4, us 5, .int .i64 0, .int .i64 (k + 1 : Nat), .int .i64 k, .pointer (some ⟨g3, 1, none⟩), .slice (some a) L.length z, .int .i64 L.length, .bool true, .int .i64 k, .int .i64 (k + 1 : Nat), .pointer (some ⟨g3, 1, none⟩), .slice (some a) L.length z, .int .i64 k, .pointer (some (a.add (k * 28))), .pointer (some ((a.add (k * 28)).add 0)), .int .i64 o.c, .int .i64 c, .bool false, .bool false, undef, undef, undef, undef, undef, undef, undef, undef, .bool false, us 33] : Array Value).getD us_ undef, rfl, C0, SL, Fg3, Lib.hid ⟨by have := hlt.out; omega, by have := hlt.out; have := hk.out; omega⟩, Lib.hid (ix_next hi.out ho.out hc.out)⟩)
  · have hlt := Lib.hid hlt0
    have ho := Lib.hid ho0
    clear hlt0 ho0
    obtain ⟨a, hsm_a⟩ := src_some SL.out (by have := hlt.out; omega)
    subst hsm_a
    have D12 := Lib.hid (show (k : Int) < (L.length : Int) by have := hlt.out; omega)
    have Wk := Lib.hid (show IntKind.i64.wrap ((k : Int) + 1) = ((k + 1 : Nat) : Int) by rw [wr64 (by have := hlt.out; have := HN.out; omega)]; omega)
    have DK := Lib.hid (show (k : Int) < (L.length : Int) by have := hlt.out; omega)
    have D22 := Lib.hid (show o.c = c from h.1)
    have D31 := Lib.hid h.2
    have hc := Lib.hid (show ¬ (o.c = c ∧ o.n = n) from fun h9 => h.2 h9.2)
    clear h
    refine s_ (fun K18 hK18 => ?_)
    refine pu_ (v := .int .i64 k) (y_move rfl (by rfl) (by rfl)) ?_
    (try simp only [zP, zN, zA, zB, zC])
    refine pu_ (v := .pointer (some ⟨g3, 1, none⟩)) (y_run (by rfl) (fun W => by go_simp)) ?_
    (try simp only [zP, zN, zA, zB, zC])
    refine ld_ (v := .slice (some a) L.length z) rfl (by rfl) (by rfl) (run_load_one ((Fg3.out.cell 1).trans rfl) Try.underlying51 rfl) ?_
    (try simp only [zP, zN, zA, zB, zC])
    refine pu_ (v := .int .i64 L.length) (y_run (by rfl) (fun W => by go_simp)) ?_
    (try simp only [zP, zN, zA, zB, zC])
    refine pu_ (v := .bool true) (y_run (by rfl) (fun W => by have d := D12.out; go_simp)) ?_
    (try simp only [zP, zN, zA, zB, zC])
    refine nl_ (hK18 _ _ ?_); clear hK18 K18
    refine wp_cond_true rfl ?_
    refine wp_skip ?_
    refine th_norm (hK14 _ _ ?_); try clear hK14 K14
    refine sq_ (fun K19 hK19 => ?_)
    refine wp_block ?_
    refine s_ (fun K20 hK20 => ?_)
    refine pu_ (v := .pointer (some ⟨g3, 1, none⟩)) (y_run (by rfl) (fun W => by go_simp)) ?_
    (try simp only [zP, zN, zA, zB, zC])
    refine ld_ (v := .slice (some a) L.length z) rfl (by rfl) (by rfl) (run_load_one ((Fg3.out.cell 1).trans rfl) Try.underlying51 rfl) ?_
    (try simp only [zP, zN, zA, zB, zC])
    refine pu_ (v := .int .i64 k) (y_move rfl (by rfl) (by rfl)) ?_
    (try simp only [zP, zN, zA, zB, zC])
    refine pu_ (v := .pointer (some (a.add (k * 28)))) (y_run (by rfl) (fun W => by have d := DK.out; go_simp)) ?_
    (try simp only [zP, zN, zA, zB, zC])
    refine pu_ (v := .pointer (some ((a.add (k * 28)).add 0))) (y_run (by rfl) (fun W => by go_simp)) ?_
    (try simp only [zP, zN, zA, zB, zC])
    refine ld_ (v := .int .i64 o.c) rfl (by rfl) (by rfl) (run_load_one (src_elem SL.out ho.out 0 _ (by simp [opC])) Try.underlying3 rfl) ?_
    (try simp only [zP, zN, zA, zB, zC])
    refine pu_ (v := .int .i64 c) (y_move rfl (by rfl) (by rfl)) ?_
    (try simp only [zP, zN, zA, zB, zC])
    refine pu_ (v := .bool true) (y_run (by rfl) (fun W => by have d := D22.out; go_simp)) ?_
    (try simp only [zP, zN, zA, zB, zC])
    refine pu_ (v := .bool true) (y_move rfl (by rfl) (by rfl)) ?_
    (try simp only [zP, zN, zA, zB, zC])
    refine pu_ (v := .pointer (some ⟨g3, 1, none⟩)) (y_run (by rfl) (fun W => by go_simp)) ?_
    (try simp only [zP, zN, zA, zB, zC])
    refine ld_ (v := .slice (some a) L.length z) rfl (by rfl) (by rfl) (run_load_one ((Fg3.out.cell 1).trans rfl) Try.underlying51 rfl) ?_
    (try simp only [zP, zN, zA, zB, zC])
    refine pu_ (v := .int .i64 k) (y_move rfl (by rfl) (by rfl)) ?_
    (try simp only [zP, zN, zA, zB, zC])
    refine pu_ (v := .pointer (some (a.add (k * 28)))) (y_run (by rfl) (fun W => by have d := DK.out; go_simp)) ?_
    (try simp only [zP, zN, zA, zB, zC])
    refine pu_ (v := .pointer (some ((a.add (k * 28)).add 1))) (y_run (by rfl) (fun W => by go_simp)) ?_
    (try simp only [zP, zN, zA, zB, zC])
    refine ld_ (v := .int .i64 o.n) rfl (by rfl) (by rfl) (run_load_one (src_elem SL.out ho.out 1 _ (by simp [opC])) Try.underlying3 rfl) ?_
    (try simp only [zP, zN, zA, zB, zC])
    refine pu_ (v := .int .i64 n) (y_move rfl (by rfl) (by rfl)) ?_
    (try simp only [zP, zN, zA, zB, zC])
    refine pu_ (v := .bool false) (y_run (by rfl) (fun W => by have d := D31.out; go_simp)) ?_
    (try simp only [zP, zN, zA, zB, zC])
    refine pu_ (v := .bool false) (y_pick (t := true) (by rfl) rfl (by rfl) (by rfl)) ?_
    (try simp only [zP, zN, zA, zB, zC])
    refine nl_ (hK20 _ _ ?_); clear hK20 K20
    refine wp_cond_false rfl ?_
    refine wp_skip ?_
    refine ib_norm ?_
    refine th_norm (hK19 _ _ ?_); try clear hK19 K19
    refine r_ ?_
    refine pu_ (v := .int .i64 k) (y_move rfl (by rfl) (by rfl)) ?_
    (try simp only [zP, zN, zA, zB, zC])
    refine pu_ (v := .int .i64 (k + 1 : Nat)) (y_run (by rfl) (fun W => by have d := Wk.out; go_simp)) ?_
    (try simp only [zP, zN, zA, zB, zC])
    refine pu_ (v := .int .i64 (k + 1 : Nat)) (y_assign rfl (by rfl) (by rfl)) ?_
    (try simp only [zP, zN, zA, zB, zC])
    refine nl_ ?_
    exact th_norm (hK13 (kq - 1) _ _ (by have := hlt.out; have := hk.out; omega) ⟨k + 1, fun us_ => (#[us 0, .int .i64 c, .int .i64 n, .pointer (some ⟨g3, 0, none⟩), us 4, us 5, .int .i64 0, .int .i64 (k + 1 : Nat), .int .i64 k, .pointer (some ⟨g3, 1, none⟩), .slice (some a) L.length z, .int .i64 L.length, .bool true, .int .i64 k, .int .i64 (k + 1 : Nat), .pointer (some ⟨g3, 1, none⟩), .slice (some a) L.length z, .int .i64 k, .pointer (some (a.add (k * 28))), .pointer (some ((a.add (k * 28)).add 0)), .int .i64 o.c, .int .i64 c, .bool true, .bool true, .pointer (some ⟨g3, 1, none⟩), .slice (some a) L.length z, .int .i64 k, .pointer (some (a.add (k * 28))), .pointer (some ((a.add (k * 28)).add 1)), .int .i64 o.n, .int .i64 n, .bool false, .bool false, us 33] : Array Value).getD us_ undef, rfl, C0, SL, Fg3, Lib.hid ⟨by have := hlt.out; omega, by have := hlt.out; have := hk.out; omega⟩, Lib.hid (ix_next hi.out ho.out hc.out)⟩)
  · have hlt := Lib.hid hlt0
    have ho := Lib.hid ho0
    clear hlt0 ho0
    obtain ⟨a, hsm_a⟩ := src_some SL.out (by have := hlt.out; omega)
    subst hsm_a
    have D12 := Lib.hid (show (k : Int) < (L.length : Int) by have := hlt.out; omega)
    have Wk := Lib.hid (show IntKind.i64.wrap ((k : Int) + 1) = ((k + 1 : Nat) : Int) by rw [wr64 (by have := hlt.out; have := HN.out; omega)]; omega)
    have DK := Lib.hid (show (k : Int) < (L.length : Int) by have := hlt.out; omega)
    have D22 := Lib.hid (show o.c = c from h.1)
    have D31 := Lib.hid h.2
    have HR := Lib.hid (show ixZ (idx c n 0 L) = k from ix_hit hi.out ho.out h.1 h.2)
    clear h
    refine s_ (fun K21 hK21 => ?_)
    refine pu_ (v := .int .i64 k) (y_move rfl (by rfl) (by rfl)) ?_
    (try simp only [zP, zN, zA, zB, zC])
    refine pu_ (v := .pointer (some ⟨g3, 1, none⟩)) (y_run (by rfl) (fun W => by go_simp)) ?_
    (try simp only [zP, zN, zA, zB, zC])
    refine ld_ (v := .slice (some a) L.length z) rfl (by rfl) (by rfl) (run_load_one ((Fg3.out.cell 1).trans rfl) Try.underlying51 rfl) ?_
    (try simp only [zP, zN, zA, zB, zC])
    refine pu_ (v := .int .i64 L.length) (y_run (by rfl) (fun W => by go_simp)) ?_
    (try simp only [zP, zN, zA, zB, zC])
    refine pu_ (v := .bool true) (y_run (by rfl) (fun W => by have d := D12.out; go_simp)) ?_
    (try simp only [zP, zN, zA, zB, zC])
    refine nl_ (hK21 _ _ ?_); clear hK21 K21
    refine wp_cond_true rfl ?_
    refine wp_skip ?_
    refine th_norm (hK14 _ _ ?_); try clear hK14 K14
    refine sq_ (fun K22 hK22 => ?_)
    refine wp_block ?_
    refine s_ (fun K23 hK23 => ?_)
    refine pu_ (v := .pointer (some ⟨g3, 1, none⟩)) (y_run (by rfl) (fun W => by go_simp)) ?_
    (try simp only [zP, zN, zA, zB, zC])
    refine ld_ (v := .slice (some a) L.length z) rfl (by rfl) (by rfl) (run_load_one ((Fg3.out.cell 1).trans rfl) Try.underlying51 rfl) ?_
    (try simp only [zP, zN, zA, zB, zC])
    refine pu_ (v := .int .i64 k) (y_move rfl (by rfl) (by rfl)) ?_
    (try simp only [zP, zN, zA, zB, zC])
    refine pu_ (v := .pointer (some (a.add (k * 28)))) (y_run (by rfl) (fun W => by have d := DK.out; go_simp)) ?_
    (try simp only [zP, zN, zA, zB, zC])
    refine pu_ (v := .pointer (some ((a.add (k * 28)).add 0))) (y_run (by rfl) (fun W => by go_simp)) ?_
    (try simp only [zP, zN, zA, zB, zC])
    refine ld_ (v := .int .i64 o.c) rfl (by rfl) (by rfl) (run_load_one (src_elem SL.out ho.out 0 _ (by simp [opC])) Try.underlying3 rfl) ?_
    (try simp only [zP, zN, zA, zB, zC])
    refine pu_ (v := .int .i64 c) (y_move rfl (by rfl) (by rfl)) ?_
    (try simp only [zP, zN, zA, zB, zC])
    refine pu_ (v := .bool true) (y_run (by rfl) (fun W => by have d := D22.out; go_simp)) ?_
    (try simp only [zP, zN, zA, zB, zC])
    refine pu_ (v := .bool true) (y_move rfl (by rfl) (by rfl)) ?_
    (try simp only [zP, zN, zA, zB, zC])
    refine pu_ (v := .pointer (some ⟨g3, 1, none⟩)) (y_run (by rfl) (fun W => by go_simp)) ?_
    (try simp only [zP, zN, zA, zB, zC])
    refine ld_ (v := .slice (some a) L.length z) rfl (by rfl) (by rfl) (run_load_one ((Fg3.out.cell 1).trans rfl) Try.underlying51 rfl) ?_
    (try simp only [zP, zN, zA, zB, zC])
    refine pu_ (v := .int .i64 k) (y_move rfl (by rfl) (by rfl)) ?_
    (try simp only [zP, zN, zA, zB, zC])
    refine pu_ (v := .pointer (some (a.add (k * 28)))) (y_run (by rfl) (fun W => by have d := DK.out; go_simp)) ?_
    (try simp only [zP, zN, zA, zB, zC])
    refine pu_ (v := .pointer (some ((a.add (k * 28)).add 1))) (y_run (by rfl) (fun W => by go_simp)) ?_
    (try simp only [zP, zN, zA, zB, zC])
    refine ld_ (v := .int .i64 o.n) rfl (by rfl) (by rfl) (run_load_one (src_elem SL.out ho.out 1 _ (by simp [opC])) Try.underlying3 rfl) ?_
    (try simp only [zP, zN, zA, zB, zC])
    refine pu_ (v := .int .i64 n) (y_move rfl (by rfl) (by rfl)) ?_
    (try simp only [zP, zN, zA, zB, zC])
    refine pu_ (v := .bool true) (y_run (by rfl) (fun W => by have d := D31.out; go_simp)) ?_
    (try simp only [zP, zN, zA, zB, zC])
    refine pu_ (v := .bool true) (y_pick (t := true) (by rfl) rfl (by rfl) (by rfl)) ?_
    (try simp only [zP, zN, zA, zB, zC])
    refine nl_ (hK23 _ _ ?_); clear hK23 K23
    refine wp_cond_true rfl ?_
    refine s_ (fun K24 hK24 => ?_)
    refine pu_ (v := .int .i64 k) (y_move rfl (by rfl) (by rfl)) ?_
    (try simp only [zP, zN, zA, zB, zC])
    refine pu_ (v := .int .i64 k) (y_assign rfl (by rfl) (by rfl)) ?_
    (try simp only [zP, zN, zA, zB, zC])
    refine nl_ (hK24 _ _ ?_); clear hK24 K24
    refine wp_ret ?_
    refine ib_ret ?_
    refine th_ret ?_
    refine th_ret ?_
    refine ib_ret ?_
    refine th_ret ?_
    refine hQ _ _ _ ?_
    refine bodyPost_ret (res1 rfl (rdv_tmp (v := .int .i64 k) (by rfl))) rfl ?_
    exact ⟨by rw [HR.out], C0.out⟩
  · have D12 := Lib.hid (show ¬ k < L.length by have := hk.out; omega)
    have HR := Lib.hid (show ixZ (idx c n 0 L) = -1 from ix_end hi.out h)
    clear h
    refine s_ (fun K25 hK25 => ?_)
    refine pu_ (v := .int .i64 k) (y_move rfl (by rfl) (by rfl)) ?_
    (try simp only [zP, zN, zA, zB, zC])
    refine pu_ (v := .pointer (some ⟨g3, 1, none⟩)) (y_run (by rfl) (fun W => by go_simp)) ?_
    (try simp only [zP, zN, zA, zB, zC])
    refine ld_ (v := .slice A L.length z) rfl (by rfl) (by rfl) (run_load_one ((Fg3.out.cell 1).trans rfl) Try.underlying51 rfl) ?_
    (try simp only [zP, zN, zA, zB, zC])
    refine pu_ (v := .int .i64 L.length) (y_run (by rfl) (fun W => by go_simp)) ?_
    (try simp only [zP, zN, zA, zB, zC])
    refine pu_ (v := .bool false) (y_run (by rfl) (fun W => by have d := D12.out; go_simp)) ?_
    (try simp only [zP, zN, zA, zB, zC])
    refine nl_ (hK25 _ _ ?_); clear hK25 K25
    refine wp_cond_false rfl ?_
    refine wp_exit ?_
    refine th_exit ?_
    refine th_exit ?_
    refine ib_exit ?_
    refine th_norm (hK10 _ _ ?_); try clear hK10 K10
    refine s_ (fun K26 hK26 => ?_)
    refine pu_ (v := .int .i64 (-1)) (y_assign rfl (by rfl) (by rfl)) ?_
    (try simp only [zP, zN, zA, zB, zC])
    refine nl_ (hK26 _ _ ?_); clear hK26 K26
    refine wp_ret ?_
    refine hQ _ _ _ ?_
    refine bodyPost_ret (res1 rfl (rdv_tmp (v := .int .i64 (-1)) (by rfl))) rfl ?_
    exact ⟨by rw [HR.out], C0.out⟩
theorem rix_some {A : Option Addr} {z : Nat} {L : List HOp} {now j : Nat} {u : Value} {c n : Int} (HN : Hid (L.length ≤ 1000)) (HU : u.oneCell' = true) (HJ : Hid (idx c n 0 L = some j)) (SL : Hid (SrcIs w (.slice A L.length z) L.length (L.flatMap opC) 28)) :
    Calls Try.prog 25 #[.agg #[.int .i64 now, .slice A L.length z, u], .int .i64 c, .int .i64 n] w fun en w' => en = .returned (.int .i64 j) ∧ Ch [] w w' := by
  have h := rix_ (now := now) (u := u) c n HN HU SL
  rw [HJ.out] at h
  exact h
theorem rix_none {A : Option Addr} {z : Nat} {L : List HOp} {now : Nat} {u : Value} {c n : Int} (HN : Hid (L.length ≤ 1000)) (HU : u.oneCell' = true) (HJ : Hid (idx c n 0 L = none)) (SL : Hid (SrcIs w (.slice A L.length z) L.length (L.flatMap opC) 28)) :
    Calls Try.prog 25 #[.agg #[.int .i64 now, .slice A L.length z, u], .int .i64 c, .int .i64 n] w fun en w' => en = .returned (.int .i64 (-1)) ∧ Ch [] w w' := by
  have h := rix_ (now := now) (u := u) c n HN HU SL
  rw [HJ.out] at h
  exact h
theorem rask_some {A : Option Addr} {z : Nat} {L : List HOp} {now j : Nat} {u : Value} {c n : Int} (HN : Hid (L.length ≤ 1000)) (HU : u.oneCell' = true) (HJ : Hid (idx c n 0 L = some j))  (SL : Hid (SrcIs w (.slice A L.length z) (L.length) ((L).flatMap opC) 28)) :
    Calls Try.prog 18 #[.agg #[.int .i64 now, .slice A L.length z, u], .int .i64 c, .int .i64 n] w fun en w' => en = .returned (.tuple #[.agg #[.int .i64 now, .slice A L.length z, u], .int .i64 7]) ∧ Ch [] w w' := by
  have C0 := Lib.hid (Ch.refl [] w)
  go_enter Try.func18, Try.ntmps18
  refine q_ (fun Q hQ hP => ?_)
  refine s_ (fun K1 hK1 => ?_)
  refine ef_ (fun K2 hK2 => ?_)
  refine e_boxN (by rfl) rfl rfl (cs := #[.int .i64 now, .slice A L.length z, u]) (v := .agg #[.int .i64 now, .slice A L.length z, u]) (by rfl) rfl ?_
  rintro g3 w4 HG5 B6 C7
  have nw8 := Lib.hid (show w.heap.size ≤ g3 by have := C0.out.size; have := HG5.out; omega)
  have nx9 := Lib.hid (SL.out.ne_new (by decide) HG5)
  have C0' := Lib.hid (show Ch [] w w4 from C0.out.trans' C7 (fun x hx => absurd hx (by simp)))
  have SL' := Lib.hid (show SrcIs w4 (.slice A L.length z) (L.length) ((L).flatMap opC) 28 from SL.out.chx C7 xnin_nil)
  clear C0 SL
  have C0 := C0'; clear C0'
  have SL := SL'; clear SL'
  have Fg3 := Lib.hid (show Blk w4 g3 (#[.int .i64 now, .slice A L.length z, u]) 53 from B6); clear B6 C7
  refine hK2 _ _ ?_; clear hK2 K2
  (try simp only [zP, zN, zA, zB, zC])
  refine ef_ (fun K10 hK10 => ?_)
  refine e_alloc (by rfl) rfl rfl (cs := #[.int .i64 0, .slice none 0 0, .slice none 0 0]) (by kernel_rfl) ?_
  rintro g11 w12 HG13 B14 C15
  have nw16 := Lib.hid (show w.heap.size ≤ g11 by have := C0.out.size; have := HG13.out; omega)
  have nx17 := Lib.hid (SL.out.ne_new (by decide) HG13)
  have ne18 := Lib.hid (Fg3.out.ne_new HG13)
  have C0' := Lib.hid (show Ch [] w w12 from C0.out.trans' C15 (fun x hx => absurd hx (by simp)))
  have SL' := Lib.hid (show SrcIs w12 (.slice A L.length z) (L.length) ((L).flatMap opC) 28 from SL.out.chx C15 xnin_nil)
  have Fg3' := Lib.hid (show Blk w12 g3 (#[.int .i64 now, .slice A L.length z, u]) 53 from C15.blk Fg3.out nin_nil)
  clear C0 SL Fg3
  have C0 := C0'; clear C0'
  have SL := SL'; clear SL'
  have Fg3 := Fg3'; clear Fg3'
  have Fg11 := Lib.hid (show Blk w12 g11 (#[.int .i64 0, .slice none 0 0, .slice none 0 0]) 53 from B14); clear B14 C15
  refine hK10 _ _ ?_; clear hK10 K10
  (try simp only [zP, zN, zA, zB, zC])
  refine pu_ (v := .int .i64 0) (y_assign rfl (by rfl) (by rfl)) ?_
  (try simp only [zP, zN, zA, zB, zC])
  refine nl_ (hK1 _ _ ?_); clear hK1 K1
  refine sq_ (fun K19 hK19 => ?_)
  refine s_ (fun K20 hK20 => ?_)
  refine ld_ (v := .agg (#[.int .i64 now, .slice A L.length z, u])) rfl (by rfl) (by rfl) (run_loadVar_row _ _ 53 53 (#[.int .i64 now, .slice A L.length z, u]) (0, 0) _ Fg3.out Try.underlying53 rfl (by kernel_rfl)) ?_
  (try simp only [zP, zN, zA, zB, zC])
  refine pu_ (v := .int .i64 c) (y_move rfl (by rfl) (by rfl)) ?_
  (try simp only [zP, zN, zA, zB, zC])
  refine pu_ (v := .int .i64 n) (y_move rfl (by rfl) (by rfl)) ?_
  (try simp only [zP, zN, zA, zB, zC])
  refine ef_ (fun K21 hK21 => ?_)
  refine e_call Try.func25 (by kernel_rfl) rfl #[.agg (#[.int .i64 now, .slice A L.length z, u]), .int .i64 c, .int .i64 n] (by rfl) rfl rfl (by first | rfl | (simp only [List.map_toArray, List.map_cons, List.map_nil]; first | done | rfl)) ((rix_some HN HU HJ SL)) ?_
  rintro en w23 ⟨rfl, cc22⟩
  refine ⟨_, rfl, ?_⟩
  have C0' := Lib.hid (show Ch [] w w23 from C0.out.trans' cc22 (fun x hx => absurd hx (by simp)))
  have SL' := Lib.hid (show SrcIs w23 (.slice A L.length z) (L.length) ((L).flatMap opC) 28 from SL.out.chx cc22 xnin_nil)
  have Fg3' := Lib.hid (show Blk w23 g3 (#[.int .i64 now, .slice A L.length z, u]) 53 from cc22.blk Fg3.out nin_nil)
  have Fg11' := Lib.hid (show Blk w23 g11 (#[.int .i64 0, .slice none 0 0, .slice none 0 0]) 53 from cc22.blk Fg11.out nin_nil)
  clear C0 SL Fg3 Fg11
  have C0 := C0'; clear C0'
  have SL := SL'; clear SL'
  have Fg3 := Fg3'; clear Fg3'
  have Fg11 := Fg11'; clear Fg11'
  clear cc22
  refine hK21 _ _ ?_; clear hK21 K21
  (try simp only [zP, zN, zA, zB, zC])
  refine pu_ (v := .bool true) (y_run (by rfl) (fun W => by go_simp)) ?_
  (try simp only [zP, zN, zA, zB, zC])
  refine nl_ (hK20 _ _ ?_); clear hK20 K20
  refine wp_cond_true rfl ?_
  refine s_ (fun K24 hK24 => ?_)
  refine ld_ (v := .agg (#[.int .i64 now, .slice A L.length z, u])) rfl (by rfl) (by rfl) (run_loadVar_row _ _ 53 53 (#[.int .i64 now, .slice A L.length z, u]) (0, 0) _ Fg3.out Try.underlying53 rfl (by kernel_rfl)) ?_
  (try simp only [zP, zN, zA, zB, zC])
  refine ef_ (fun K25 hK25 => ?_)
  refine e_storeN (cells := (#[.int .i64 now, .slice A L.length z, u])) (by rfl) rfl rfl (by rfl) (by rfl) Fg11.out (by kernel_rfl) (by rfl) (ones_cons rfl (ones_cons rfl (ones_cons HU ones_nil))) ?_
  rintro w26 B27 C28
  have C0' := Lib.hid (show Ch [] w w26 from C0.out.trans' C28 (inw_cons (.inr nw16.out) inw_nil))
  have SL' := Lib.hid (show SrcIs w26 (.slice A L.length z) (L.length) ((L).flatMap opC) 28 from SL.out.chx C28 (xnin_cons nx17.out xnin_nil))
  have Fg3' := Lib.hid (show Blk w26 g3 (#[.int .i64 now, .slice A L.length z, u]) 53 from C28.blk Fg3.out (nin_cons ne18.out nin_nil))
  clear C0 SL Fg3
  have C0 := C0'; clear C0'
  have SL := SL'; clear SL'
  have Fg3 := Fg3'; clear Fg3'
  clear Fg11; have Fg11 := Lib.hid (show Blk w26 g11 ((#[.int .i64 now, .slice A L.length z, u])) 53 from B27); clear B27 C28
  refine hK25 _ _ ?_; clear hK25 K25
  (try simp only [zP, zN, zA, zB, zC])
  refine pu_ (v := .int .i64 7) (y_assign rfl (by rfl) (by rfl)) ?_
  (try simp only [zP, zN, zA, zB, zC])
  refine nl_ (hK24 _ _ ?_); clear hK24 K24
  refine wp_ret ?_
  refine th_ret ?_
  refine hQ _ _ _ ?_
  refine bodyPost_ret (res2 rfl (rdv_cell (by rfl) (run_loadVar_row _ _ 53 53 ((#[.int .i64 now, .slice A L.length z, u])) (0, 0) _ Fg11.out Try.underlying53 rfl (by kernel_rfl))) (rdv_tmp (v := .int .i64 7) (by rfl))) rfl ?_
  exact ⟨rfl, C0.out⟩
theorem rtell_none {A : Option Addr} {z : Nat} {L : List HOp} {now : Nat} {u : Value} {c n : Int} (HN : Hid (L.length ≤ 1000)) (HU : u.oneCell' = true) (HJ : Hid (idx c n 0 L = none))  (SL : Hid (SrcIs w (.slice A L.length z) (L.length) ((L).flatMap opC) 28)) :
    Calls Try.prog 20 #[.agg #[.int .i64 now, .slice A L.length z, u], .int .i64 c, .int .i64 n] w fun en w' => en = .returned (.tuple #[.agg #[.int .i64 now, .slice A L.length z, u], .int .i64 6]) ∧ Ch [] w w' := by
  have C0 := Lib.hid (Ch.refl [] w)
  go_enter Try.func20, Try.ntmps20
  refine q_ (fun Q hQ hP => ?_)
  refine s_ (fun K1 hK1 => ?_)
  refine ef_ (fun K2 hK2 => ?_)
  refine e_boxN (by rfl) rfl rfl (cs := #[.int .i64 now, .slice A L.length z, u]) (v := .agg #[.int .i64 now, .slice A L.length z, u]) (by rfl) rfl ?_
  rintro g3 w4 HG5 B6 C7
  have nw8 := Lib.hid (show w.heap.size ≤ g3 by have := C0.out.size; have := HG5.out; omega)
  have nx9 := Lib.hid (SL.out.ne_new (by decide) HG5)
  have C0' := Lib.hid (show Ch [] w w4 from C0.out.trans' C7 (fun x hx => absurd hx (by simp)))
  have SL' := Lib.hid (show SrcIs w4 (.slice A L.length z) (L.length) ((L).flatMap opC) 28 from SL.out.chx C7 xnin_nil)
  clear C0 SL
  have C0 := C0'; clear C0'
  have SL := SL'; clear SL'
  have Fg3 := Lib.hid (show Blk w4 g3 (#[.int .i64 now, .slice A L.length z, u]) 53 from B6); clear B6 C7
  refine hK2 _ _ ?_; clear hK2 K2
  (try simp only [zP, zN, zA, zB, zC])
  refine ef_ (fun K10 hK10 => ?_)
  refine e_alloc (by rfl) rfl rfl (cs := #[.int .i64 0, .slice none 0 0, .slice none 0 0]) (by kernel_rfl) ?_
  rintro g11 w12 HG13 B14 C15
  have nw16 := Lib.hid (show w.heap.size ≤ g11 by have := C0.out.size; have := HG13.out; omega)
  have nx17 := Lib.hid (SL.out.ne_new (by decide) HG13)
  have ne18 := Lib.hid (Fg3.out.ne_new HG13)
  have C0' := Lib.hid (show Ch [] w w12 from C0.out.trans' C15 (fun x hx => absurd hx (by simp)))
  have SL' := Lib.hid (show SrcIs w12 (.slice A L.length z) (L.length) ((L).flatMap opC) 28 from SL.out.chx C15 xnin_nil)
  have Fg3' := Lib.hid (show Blk w12 g3 (#[.int .i64 now, .slice A L.length z, u]) 53 from C15.blk Fg3.out nin_nil)
  clear C0 SL Fg3
  have C0 := C0'; clear C0'
  have SL := SL'; clear SL'
  have Fg3 := Fg3'; clear Fg3'
  have Fg11 := Lib.hid (show Blk w12 g11 (#[.int .i64 0, .slice none 0 0, .slice none 0 0]) 53 from B14); clear B14 C15
  refine hK10 _ _ ?_; clear hK10 K10
  (try simp only [zP, zN, zA, zB, zC])
  refine pu_ (v := .int .i64 0) (y_assign rfl (by rfl) (by rfl)) ?_
  (try simp only [zP, zN, zA, zB, zC])
  refine nl_ (hK1 _ _ ?_); clear hK1 K1
  refine s_ (fun K19 hK19 => ?_)
  refine ld_ (v := .agg (#[.int .i64 now, .slice A L.length z, u])) rfl (by rfl) (by rfl) (run_loadVar_row _ _ 53 53 (#[.int .i64 now, .slice A L.length z, u]) (0, 0) _ Fg3.out Try.underlying53 rfl (by kernel_rfl)) ?_
  (try simp only [zP, zN, zA, zB, zC])
  refine pu_ (v := .int .i64 c) (y_move rfl (by rfl) (by rfl)) ?_
  (try simp only [zP, zN, zA, zB, zC])
  refine pu_ (v := .int .i64 n) (y_move rfl (by rfl) (by rfl)) ?_
  (try simp only [zP, zN, zA, zB, zC])
  refine ef_ (fun K20 hK20 => ?_)
  refine e_call Try.func25 (by kernel_rfl) rfl #[.agg (#[.int .i64 now, .slice A L.length z, u]), .int .i64 c, .int .i64 n] (by rfl) rfl rfl (by first | rfl | (simp only [List.map_toArray, List.map_cons, List.map_nil]; first | done | rfl)) ((rix_none HN HU HJ SL)) ?_
  rintro en w22 ⟨rfl, cc21⟩
  refine ⟨_, rfl, ?_⟩
  have C0' := Lib.hid (show Ch [] w w22 from C0.out.trans' cc21 (fun x hx => absurd hx (by simp)))
  have SL' := Lib.hid (show SrcIs w22 (.slice A L.length z) (L.length) ((L).flatMap opC) 28 from SL.out.chx cc21 xnin_nil)
  have Fg3' := Lib.hid (show Blk w22 g3 (#[.int .i64 now, .slice A L.length z, u]) 53 from cc21.blk Fg3.out nin_nil)
  have Fg11' := Lib.hid (show Blk w22 g11 (#[.int .i64 0, .slice none 0 0, .slice none 0 0]) 53 from cc21.blk Fg11.out nin_nil)
  clear C0 SL Fg3 Fg11
  have C0 := C0'; clear C0'
  have SL := SL'; clear SL'
  have Fg3 := Fg3'; clear Fg3'
  have Fg11 := Fg11'; clear Fg11'
  clear cc21
  refine hK20 _ _ ?_; clear hK20 K20
  (try simp only [zP, zN, zA, zB, zC])
  refine pu_ (v := .int .i64 (-1)) (y_assign rfl (by rfl) (by rfl)) ?_
  (try simp only [zP, zN, zA, zB, zC])
  refine nl_ (hK19 _ _ ?_); clear hK19 K19
  refine sq_ (fun K23 hK23 => ?_)
  refine s_ (fun K24 hK24 => ?_)
  refine pu_ (v := .int .i64 (-1)) (y_move rfl (by rfl) (by rfl)) ?_
  (try simp only [zP, zN, zA, zB, zC])
  refine pu_ (v := .bool true) (y_run (by rfl) (fun W => by go_simp)) ?_
  (try simp only [zP, zN, zA, zB, zC])
  refine nl_ (hK24 _ _ ?_); clear hK24 K24
  refine wp_cond_true rfl ?_
  refine s_ (fun K25 hK25 => ?_)
  refine ld_ (v := .agg (#[.int .i64 now, .slice A L.length z, u])) rfl (by rfl) (by rfl) (run_loadVar_row _ _ 53 53 (#[.int .i64 now, .slice A L.length z, u]) (0, 0) _ Fg3.out Try.underlying53 rfl (by kernel_rfl)) ?_
  (try simp only [zP, zN, zA, zB, zC])
  refine ef_ (fun K26 hK26 => ?_)
  refine e_storeN (cells := (#[.int .i64 now, .slice A L.length z, u])) (by rfl) rfl rfl (by rfl) (by rfl) Fg11.out (by kernel_rfl) (by rfl) (ones_cons rfl (ones_cons rfl (ones_cons HU ones_nil))) ?_
  rintro w27 B28 C29
  have C0' := Lib.hid (show Ch [] w w27 from C0.out.trans' C29 (inw_cons (.inr nw16.out) inw_nil))
  have SL' := Lib.hid (show SrcIs w27 (.slice A L.length z) (L.length) ((L).flatMap opC) 28 from SL.out.chx C29 (xnin_cons nx17.out xnin_nil))
  have Fg3' := Lib.hid (show Blk w27 g3 (#[.int .i64 now, .slice A L.length z, u]) 53 from C29.blk Fg3.out (nin_cons ne18.out nin_nil))
  clear C0 SL Fg3
  have C0 := C0'; clear C0'
  have SL := SL'; clear SL'
  have Fg3 := Fg3'; clear Fg3'
  clear Fg11; have Fg11 := Lib.hid (show Blk w27 g11 ((#[.int .i64 now, .slice A L.length z, u])) 53 from B28); clear B28 C29
  refine hK26 _ _ ?_; clear hK26 K26
  (try simp only [zP, zN, zA, zB, zC])
  refine pu_ (v := .int .i64 6) (y_assign rfl (by rfl) (by rfl)) ?_
  (try simp only [zP, zN, zA, zB, zC])
  refine nl_ (hK25 _ _ ?_); clear hK25 K25
  refine wp_ret ?_
  refine th_ret ?_
  refine hQ _ _ _ ?_
  refine bodyPost_ret (res2 rfl (rdv_cell (by rfl) (run_loadVar_row _ _ 53 53 ((#[.int .i64 now, .slice A L.length z, u])) (0, 0) _ Fg11.out Try.underlying53 rfl (by kernel_rfl))) (rdv_tmp (v := .int .i64 6) (by rfl))) rfl ?_
  exact ⟨rfl, C0.out⟩
theorem rask_none {A : Option Addr} {z : Nat} {L : List HOp} {now : Nat} {u : Value} {c n : Int} (HN : Hid (L.length ≤ 1000)) (HU : u.oneCell' = true) (HJ : Hid (idx c n 0 L = none)) (HW : Hid (now ≤ 1000)) (SL : Hid (SrcIs w (.slice A L.length z) (L.length) ((L).flatMap opC) 28)) :
    Calls Try.prog 18 #[.agg #[.int .i64 now, .slice A L.length z, u], .int .i64 c, .int .i64 n] w fun en w' => ∃ v', en = .returned (.tuple #[.agg #[.int .i64 (now + 1 : Nat), v', u], .int .i64 0]) ∧ OwnS w' w.heap.size 59 28 v' (L.length + 1) ((L ++ [(⟨c, n, ((now + 1 : Nat) : Int), 0, 0, ZC, ZR⟩ : HOp)]).flatMap opC) ∧ Ch [] w w' := by
  have C0 := Lib.hid (Ch.refl [] w)
  obtain ⟨i59, I59⟩ := Info.of info59
  have WA := Lib.hid (show IntKind.i64.wrap ((now : Int) + 1) = ((now + 1 : Nat) : Int) by rw [wr64 (by have := HW.out; omega)]; omega)
  go_enter Try.func18, Try.ntmps18
  refine q_ (fun Q hQ hP => ?_)
  refine s_ (fun K1 hK1 => ?_)
  refine ef_ (fun K2 hK2 => ?_)
  refine e_boxN (by rfl) rfl rfl (cs := #[.int .i64 now, .slice A L.length z, u]) (v := .agg #[.int .i64 now, .slice A L.length z, u]) (by rfl) rfl ?_
  rintro g3 w4 HG5 B6 C7
  have nw8 := Lib.hid (show w.heap.size ≤ g3 by have := C0.out.size; have := HG5.out; omega)
  have nx9 := Lib.hid (SL.out.ne_new (by decide) HG5)
  have C0' := Lib.hid (show Ch [] w w4 from C0.out.trans' C7 (fun x hx => absurd hx (by simp)))
  have SL' := Lib.hid (show SrcIs w4 (.slice A L.length z) (L.length) ((L).flatMap opC) 28 from SL.out.chx C7 xnin_nil)
  clear C0 SL
  have C0 := C0'; clear C0'
  have SL := SL'; clear SL'
  have Fg3 := Lib.hid (show Blk w4 g3 (#[.int .i64 now, .slice A L.length z, u]) 53 from B6); clear B6 C7
  refine hK2 _ _ ?_; clear hK2 K2
  (try simp only [zP, zN, zA, zB, zC])
  refine ef_ (fun K10 hK10 => ?_)
  refine e_alloc (by rfl) rfl rfl (cs := #[.int .i64 0, .slice none 0 0, .slice none 0 0]) (by kernel_rfl) ?_
  rintro g11 w12 HG13 B14 C15
  have nw16 := Lib.hid (show w.heap.size ≤ g11 by have := C0.out.size; have := HG13.out; omega)
  have nx17 := Lib.hid (SL.out.ne_new (by decide) HG13)
  have ne18 := Lib.hid (Fg3.out.ne_new HG13)
  have C0' := Lib.hid (show Ch [] w w12 from C0.out.trans' C15 (fun x hx => absurd hx (by simp)))
  have SL' := Lib.hid (show SrcIs w12 (.slice A L.length z) (L.length) ((L).flatMap opC) 28 from SL.out.chx C15 xnin_nil)
  have Fg3' := Lib.hid (show Blk w12 g3 (#[.int .i64 now, .slice A L.length z, u]) 53 from C15.blk Fg3.out nin_nil)
  clear C0 SL Fg3
  have C0 := C0'; clear C0'
  have SL := SL'; clear SL'
  have Fg3 := Fg3'; clear Fg3'
  have Fg11 := Lib.hid (show Blk w12 g11 (#[.int .i64 0, .slice none 0 0, .slice none 0 0]) 53 from B14); clear B14 C15
  refine hK10 _ _ ?_; clear hK10 K10
  (try simp only [zP, zN, zA, zB, zC])
  refine pu_ (v := .int .i64 0) (y_assign rfl (by rfl) (by rfl)) ?_
  (try simp only [zP, zN, zA, zB, zC])
  refine nl_ (hK1 _ _ ?_); clear hK1 K1
  refine sq_ (fun K19 hK19 => ?_)
  refine s_ (fun K20 hK20 => ?_)
  refine ld_ (v := .agg (#[.int .i64 now, .slice A L.length z, u])) rfl (by rfl) (by rfl) (run_loadVar_row _ _ 53 53 (#[.int .i64 now, .slice A L.length z, u]) (0, 0) _ Fg3.out Try.underlying53 rfl (by kernel_rfl)) ?_
  (try simp only [zP, zN, zA, zB, zC])
  refine pu_ (v := .int .i64 c) (y_move rfl (by rfl) (by rfl)) ?_
  (try simp only [zP, zN, zA, zB, zC])
  refine pu_ (v := .int .i64 n) (y_move rfl (by rfl) (by rfl)) ?_
  (try simp only [zP, zN, zA, zB, zC])
  refine ef_ (fun K21 hK21 => ?_)
  refine e_call Try.func25 (by kernel_rfl) rfl #[.agg (#[.int .i64 now, .slice A L.length z, u]), .int .i64 c, .int .i64 n] (by rfl) rfl rfl (by first | rfl | (simp only [List.map_toArray, List.map_cons, List.map_nil]; first | done | rfl)) ((rix_none HN HU HJ SL)) ?_
  rintro en w23 ⟨rfl, cc22⟩
  refine ⟨_, rfl, ?_⟩
  have C0' := Lib.hid (show Ch [] w w23 from C0.out.trans' cc22 (fun x hx => absurd hx (by simp)))
  have SL' := Lib.hid (show SrcIs w23 (.slice A L.length z) (L.length) ((L).flatMap opC) 28 from SL.out.chx cc22 xnin_nil)
  have Fg3' := Lib.hid (show Blk w23 g3 (#[.int .i64 now, .slice A L.length z, u]) 53 from cc22.blk Fg3.out nin_nil)
  have Fg11' := Lib.hid (show Blk w23 g11 (#[.int .i64 0, .slice none 0 0, .slice none 0 0]) 53 from cc22.blk Fg11.out nin_nil)
  clear C0 SL Fg3 Fg11
  have C0 := C0'; clear C0'
  have SL := SL'; clear SL'
  have Fg3 := Fg3'; clear Fg3'
  have Fg11 := Fg11'; clear Fg11'
  clear cc22
  refine hK21 _ _ ?_; clear hK21 K21
  (try simp only [zP, zN, zA, zB, zC])
  refine pu_ (v := .bool false) (y_run (by rfl) (fun W => by go_simp)) ?_
  (try simp only [zP, zN, zA, zB, zC])
  refine nl_ (hK20 _ _ ?_); clear hK20 K20
  refine wp_cond_false rfl ?_
  refine wp_skip ?_
  refine th_norm (hK19 _ _ ?_); try clear hK19 K19
  refine s_ (fun K24 hK24 => ?_)
  refine pu_ (v := .pointer (some ⟨g3, 0, none⟩)) (y_run (by rfl) (fun W => by go_simp)) ?_
  (try simp only [zP, zN, zA, zB, zC])
  refine ld_ (v := .int .i64 now) rfl (by rfl) (by rfl) (run_load_one ((Fg3.out.cell 0).trans rfl) Try.underlying3 rfl) ?_
  (try simp only [zP, zN, zA, zB, zC])
  refine pu_ (v := .int .i64 (now + 1 : Nat)) (y_run (by rfl) (fun W => by have d := WA.out; go_simp)) ?_
  (try simp only [zP, zN, zA, zB, zC])
  refine pu_ (v := .pointer (some ⟨g3, 0, none⟩)) (y_run (by rfl) (fun W => by go_simp)) ?_
  (try simp only [zP, zN, zA, zB, zC])
  refine ef_ (fun K25 hK25 => ?_)
  refine e_store1 (b := g3) (j := 0) (v := .int .i64 (now + 1 : Nat)) (by rfl) rfl rfl (by rfl) (by rfl) Fg3.out (show 0 < 3 by omega) (by kernel_rfl) rfl ?_
  rintro w26 B27 C28
  have C0' := Lib.hid (show Ch [] w w26 from C0.out.trans' C28 (inw_cons (.inr nw8.out) inw_nil))
  have SL' := Lib.hid (show SrcIs w26 (.slice A L.length z) (L.length) ((L).flatMap opC) 28 from SL.out.chx C28 (xnin_cons nx9.out xnin_nil))
  have Fg11' := Lib.hid (show Blk w26 g11 (#[.int .i64 0, .slice none 0 0, .slice none 0 0]) 53 from C28.blk Fg11.out (nin_cons (Ne.symm ne18.out) nin_nil))
  clear C0 SL Fg11
  have C0 := C0'; clear C0'
  have SL := SL'; clear SL'
  have Fg11 := Fg11'; clear Fg11'
  clear Fg3; have Fg3 := Lib.hid (show Blk w26 g3 (#[.int .i64 (now + 1 : Nat), .slice A L.length z, u]) 53 from B27); clear B27 C28
  refine hK25 _ _ ?_; clear hK25 K25
  (try simp only [zP, zN, zA, zB, zC])
  refine nl_ (hK24 _ _ ?_); clear hK24 K24
  refine sq_ (fun K29 hK29 => ?_)
  refine startk_ (S := fun W => Blk W g3 (#[.int .i64 (now + 1 : Nat), .slice A L.length z, u]) 53 ∧ True) (ds := [12]) #[false, false, false, false, false, false, false, false, false, false, false, false, false] (by kernel_rfl) rfl rfl (fun W c => ⟨c.blk Fg3.out nin_nil, trivial⟩) (fun w30 C31 hS32 => ?_)
  have C0' := Lib.hid (show Ch [] w w30 from C0.out.trans' C31 (fun x hx => absurd hx (by simp)))
  have SL' := Lib.hid (show SrcIs w30 (.slice A L.length z) (L.length) ((L).flatMap opC) 28 from SL.out.chx C31 xnin_nil)
  have Fg3' := Lib.hid (show Blk w30 g3 (#[.int .i64 (now + 1 : Nat), .slice A L.length z, u]) 53 from C31.blk Fg3.out nin_nil)
  have Fg11' := Lib.hid (show Blk w30 g11 (#[.int .i64 0, .slice none 0 0, .slice none 0 0]) 53 from C31.blk Fg11.out nin_nil)
  clear C0 SL Fg3 Fg11
  have C0 := C0'; clear C0'
  have SL := SL'; clear SL'
  have Fg3 := Fg3'; clear Fg3'
  have Fg11 := Fg11'; clear Fg11'
  clear C31
  refine pure_ (i := 1) (N := some 19) (v := .pointer (some ⟨g3, 1, none⟩)) #[false, true, false, false, false, false, false, false, false, false, false, false, false] rfl rfl (by kernel_rfl) (fun c a w h => hP c a _ _ w h) (y_run (by rfl) (fun W => by go_simp)) rfl ?_
  (try simp only [zP, zN, zA, zB, zC])
  refine take_ (i := 2) (N := some 20) (v := .slice A L.length z) #[false, true, true, false, false, false, false, false, false, false, false, false, false] rfl rfl (by kernel_rfl) (fun c a w h => hP c a _ _ w h) (y_load (p := ⟨g3, 1, none⟩) rfl (by rfl) (by rfl) (fun W hS => run_load_one ((hS.1.cell 1).trans rfl) Try.underlying51 rfl)) hS32 rfl ?_
  (try simp only [zP, zN, zA, zB, zC])
  refine pure_ (i := 4) (N := some 22) (v := .int .i64 c) #[false, true, true, false, true, false, false, false, false, false, false, false, false] rfl rfl (by kernel_rfl) (fun c a w h => hP c a _ _ w h) (y_move rfl (by rfl) (by rfl)) rfl ?_
  (try simp only [zP, zN, zA, zB, zC])
  refine pure_ (i := 5) (N := some 23) (v := .int .i64 n) #[false, true, true, false, true, true, false, false, false, false, false, false, false] rfl rfl (by kernel_rfl) (fun c a w h => hP c a _ _ w h) (y_move rfl (by rfl) (by rfl)) rfl ?_
  (try simp only [zP, zN, zA, zB, zC])
  refine pure_ (i := 6) (N := some 24) (v := .pointer (some ⟨g3, 0, none⟩)) #[false, true, true, false, true, true, true, false, false, false, false, false, false] rfl rfl (by kernel_rfl) (fun c a w h => hP c a _ _ w h) (y_run (by rfl) (fun W => by go_simp)) rfl ?_
  (try simp only [zP, zN, zA, zB, zC])
  refine take_ (i := 7) (N := some 25) (v := .int .i64 (now + 1 : Nat)) #[false, true, true, false, true, true, true, true, false, false, false, false, false] rfl rfl (by kernel_rfl) (fun c a w h => hP c a _ _ w h) (y_load (p := ⟨g3, 0, none⟩) rfl (by rfl) (by rfl) (fun W hS => run_load_one ((hS.1.cell 0).trans rfl) Try.underlying3 rfl)) hS32 rfl ?_
  (try simp only [zP, zN, zA, zB, zC])
  refine pure_ (i := 8) (N := some 26) (v := .agg #[.int .i64 c, .int .i64 n, .int .i64 (now + 1 : Nat), .int .i64 0, .int .i64 0, .int .i64 0, .int .i64 0, .int .u64 0, .string ⟨#[]⟩, .slice none 0 0, .slice none 0 0, .slice none 0 0, .int .i64 0, .int .i64 0, .int .i64 0, .int .i64 0, .int .i64 0, .int .i64 0, .int .i64 0, .string ⟨#[]⟩, .slice none 0 0, .int .i64 0, .int .i64 0, .int .i64 0, .int .u64 0, .string ⟨#[]⟩, .slice none 0 0, .slice none 0 0]) #[false, true, true, false, true, true, true, true, true, false, false, false, false] rfl rfl (by kernel_rfl) (fun c a w h => hP c a _ _ w h) (y_build (vs := #[(0, .int .i64 c), (1, .int .i64 n), (2, .int .i64 (now + 1 : Nat))]) (by rfl) rfl (by first | rfl | (simp only [List.map_toArray, List.map_cons, List.map_nil]; first | done | rfl)) (by kernel_rfl)) rfl ?_
  (try simp only [zP, zN, zA, zB, zC])
  refine two_ (i := 0) (j := 9) (Ni := some 18) (Nj := some 27) #[true, true, true, false, true, true, true, true, true, false, false, false, false] #[false, true, true, false, true, true, true, true, true, true, false, false, false] rfl rfl rfl rfl (by kernel_rfl) (by simp) (by simp) (fun K33 hK33 => ?_) (fun K34 hK34 => ?_)
  · refine e_buildS0 (by rfl) rfl rfl Try.underlying51 I59.hi ?_
    rintro g35 w36 HG37 C39
    have C0' := Lib.hid (show Ch [] w w36 from C0.out.trans' C39 (fun x hx => absurd hx (by simp)))
    have SL' := Lib.hid (show SrcIs w36 (.slice A L.length z) (L.length) ((L).flatMap opC) 28 from SL.out.chx C39 xnin_nil)
    have Fg3' := Lib.hid (show Blk w36 g3 (#[.int .i64 (now + 1 : Nat), .slice A L.length z, u]) 53 from C39.blk Fg3.out nin_nil)
    have Fg11' := Lib.hid (show Blk w36 g11 (#[.int .i64 0, .slice none 0 0, .slice none 0 0]) 53 from C39.blk Fg11.out nin_nil)
    clear C0 SL Fg3 Fg11
    have C0 := C0'; clear C0'
    have SL := SL'; clear SL'
    have Fg3 := Fg3'; clear Fg3'
    have Fg11 := Fg11'; clear Fg11'
    clear C39
    have Z40 := Lib.hid (show OwnS w36 w.heap.size 59 28 (.slice (some ⟨g35, 0, none⟩) 0 0) (0) ([]) from OwnS.nil _ _ _ _ _)
    refine hK33.out _ _ ⟨Fg3.out, trivial⟩ (fun hS41 => ?_); clear hK33 K33
    (try simp only [zP, zN, zA, zB, zC])
    refine two_ (i := 3) (j := 9) (Ni := some 21) (Nj := some 27) #[true, true, true, true, true, true, true, true, true, false, false, false, false] #[true, true, true, false, true, true, true, true, true, true, false, false, false] rfl rfl rfl rfl (by kernel_rfl) (by simp) (by simp) (fun K42 hK42 => ?_) (fun K43 hK43 => ?_)
    · refine e_append (by rfl) rfl rfl (w.heap.size) 59 _ _ 28 344 Try.underlying51 I59.hi I59.hz I59.hs I59.hb rfl (by decide) (.slice (some ⟨g35, 0, none⟩) 0 0) (0) ([]) (by rfl) Z40.out (.slice A L.length z) L.length (L.flatMap opC) (by rfl) SL.out (flat_one opC_one L) (by have := HN.out; unfold maxLen; omega) (by have := HN.out; omega) C0.out.size ?_
      rintro v44 w45 O46 C47 R48 -
      replace C47 : Ch [] _ _ := C47
      replace R48 : ∀ k, k ∈ rl v44 → w36.heap.size ≤ k := fun k hk => (R48 k hk).elim (fun h => absurd h (by simp [rl])) id
      have rw49 := Lib.hid (show ∀ x, x ∈ rl v44 → x ∈ [] ∨ w.heap.size ≤ x from fun x hx => .inr (by have := R48 x hx; have := C0.out.size; omega))
      have xr50 := Lib.hid (show ∀ k, k ∈ xb (.slice A L.length z) → k ∉ rl v44 from fun k hk hm => by have := R48 k hm; have := SL.out.lt (by decide) k hk; omega)
      have C0' := Lib.hid (show Ch [] w w45 from C0.out.trans' C47 (fun x hx => absurd hx (by simp)))
      have SL' := Lib.hid (show SrcIs w45 (.slice A L.length z) (L.length) ((L).flatMap opC) 28 from SL.out.chx C47 xnin_nil)
      have Fg3' := Lib.hid (show Blk w45 g3 (#[.int .i64 (now + 1 : Nat), .slice A L.length z, u]) 53 from C47.blk Fg3.out nin_nil)
      have Fg11' := Lib.hid (show Blk w45 g11 (#[.int .i64 0, .slice none 0 0, .slice none 0 0]) 53 from C47.blk Fg11.out nin_nil)
      clear C0 SL Fg3 Fg11
      have C0 := C0'; clear C0'
      have SL := SL'; clear SL'
      have Fg3 := Fg3'; clear Fg3'
      have Fg11 := Fg11'; clear Fg11'
      clear Z40
      have Z40 := Lib.hid (show OwnS w45 w.heap.size 59 28 (v44) (L.length) (L.flatMap opC) from (by simpa using O46)); clear O46 C47
      refine hK42.out _ _ ⟨Fg3.out, trivial⟩ (fun hS51 => ?_); clear hK42 K42
      (try simp only [zP, zN, zA, zB, zC])
      refine one_ (i := 9) (N := some 27) #[true, true, true, true, true, true, true, true, true, true, false, false, false] rfl rfl (by kernel_rfl) (by simp) (fun K52 hK52 => ?_)
      refine e_buildS (parts := #[(0, .agg #[.int .i64 c, .int .i64 n, .int .i64 (now + 1 : Nat), .int .i64 0, .int .i64 0, .int .i64 0, .int .i64 0, .int .u64 0, .string ⟨#[]⟩, .slice none 0 0, .slice none 0 0, .slice none 0 0, .int .i64 0, .int .i64 0, .int .i64 0, .int .i64 0, .int .i64 0, .int .i64 0, .int .i64 0, .string ⟨#[]⟩, .slice none 0 0, .int .i64 0, .int .i64 0, .int .i64 0, .int .u64 0, .string ⟨#[]⟩, .slice none 0 0, .slice none 0 0])]) (cells := #[.int .i64 c, .int .i64 n, .int .i64 (now + 1 : Nat), .int .i64 0, .int .i64 0, .int .i64 0, .int .i64 0, .int .u64 0, .string ⟨#[]⟩, .slice none 0 0, .slice none 0 0, .slice none 0 0, .int .i64 0, .int .i64 0, .int .i64 0, .int .i64 0, .int .i64 0, .int .i64 0, .int .i64 0, .string ⟨#[]⟩, .slice none 0 0, .int .i64 0, .int .i64 0, .int .i64 0, .int .u64 0, .string ⟨#[]⟩, .slice none 0 0, .slice none 0 0]) (by rfl) rfl rfl (by first | rfl | (simp only [List.map_toArray, List.map_cons, List.map_nil]; first | done | rfl)) Try.underlying51 I59.hi I59.hz I59.hs (by decide) (by decide) (by kernel_rfl) ?_
      rintro g53 w54 HG55 B56 C57
      have nw58 := Lib.hid (show w.heap.size ≤ g53 by have := C0.out.size; have := HG55.out; omega)
      have nx59 := Lib.hid (SL.out.ne_new (by decide) HG55)
      have nr60 := Lib.hid (Z40.out.ne_new HG55)
      have C0' := Lib.hid (show Ch [] w w54 from C0.out.trans' C57 (fun x hx => absurd hx (by simp)))
      have SL' := Lib.hid (show SrcIs w54 (.slice A L.length z) (L.length) ((L).flatMap opC) 28 from SL.out.chx C57 xnin_nil)
      have Fg3' := Lib.hid (show Blk w54 g3 (#[.int .i64 (now + 1 : Nat), .slice A L.length z, u]) 53 from C57.blk Fg3.out nin_nil)
      have Fg11' := Lib.hid (show Blk w54 g11 (#[.int .i64 0, .slice none 0 0, .slice none 0 0]) 53 from C57.blk Fg11.out nin_nil)
      have Z40' := Lib.hid (show OwnS w54 w.heap.size 59 28 (v44) (L.length) (L.flatMap opC) from Z40.out.ch C57 rnin_nil)
      clear C0 SL Fg3 Fg11 Z40
      have C0 := C0'; clear C0'
      have SL := SL'; clear SL'
      have Fg3 := Fg3'; clear Fg3'
      have Fg11 := Fg11'; clear Fg11'
      have Z40 := Z40'; clear Z40'
      have Fg53 := Lib.hid (show Blk w54 g53 (#[.int .i64 c, .int .i64 n, .int .i64 (now + 1 : Nat), .int .i64 0, .int .i64 0, .int .i64 0, .int .i64 0, .int .u64 0, .string ⟨#[]⟩, .slice none 0 0, .slice none 0 0, .slice none 0 0, .int .i64 0, .int .i64 0, .int .i64 0, .int .i64 0, .int .i64 0, .int .i64 0, .int .i64 0, .string ⟨#[]⟩, .slice none 0 0, .int .i64 0, .int .i64 0, .int .i64 0, .int .u64 0, .string ⟨#[]⟩, .slice none 0 0, .slice none 0 0]) 59 from B56); clear B56 C57
      refine hK52.out _ _ ⟨Fg3.out, trivial⟩ (fun hS61 => ?_); clear hK52 K52
      (try simp only [zP, zN, zA, zB, zC])
      refine one_ (i := 10) (N := some 28) #[true, true, true, true, true, true, true, true, true, true, true, false, false] rfl rfl (by kernel_rfl) (by simp) (fun K62 hK62 => ?_)
      refine e_append (by rfl) rfl rfl (w.heap.size) 59 _ _ 28 344 Try.underlying51 I59.hi I59.hz I59.hs I59.hb rfl (by decide) (v44) (L.length) (L.flatMap opC) (by rfl) Z40.out (.slice (some ⟨g53, 0, none⟩) 1 1) 1 (opC (⟨c, n, ((now + 1 : Nat) : Int), 0, 0, ZC, ZR⟩ : HOp)) (by rfl) ⟨rfl, .inr ⟨_, _, rfl, CellsAt.blk Fg53.out 0⟩⟩ (opC_one (⟨c, n, ((now + 1 : Nat) : Int), 0, 0, ZC, ZR⟩ : HOp)) (by have := HN.out; unfold maxLen; omega) (by have := HN.out; omega) C0.out.size ?_
      rintro v63 w64 O65 C66 R67 -
      have rw68 := Lib.hid (show ∀ x, x ∈ rl v63 → x ∈ [] ∨ w.heap.size ≤ x from fun x hx => (R67 x hx).elim (fun h => rw49.out _ h) (fun h => .inr (by have := C0.out.size; omega)))
      have xr69 := Lib.hid (show ∀ k, k ∈ xb (.slice A L.length z) → k ∉ rl v63 from fun k hk hm => (R67 k hm).elim (fun h => xr50.out k hk h) (fun h => by have := SL.out.lt (by decide) k hk; omega))
      have nr70 := Lib.hid (show g53 ∉ rl v63 from fun hk => (R67 _ hk).elim nr60.out (fun h => by have := Fg53.out.lt; omega))
      have C0' := Lib.hid (show Ch [] w w64 from C0.out.trans' C66 (fun x hx => .inr (Z40.out.lt x hx).1))
      have SL' := Lib.hid (show SrcIs w64 (.slice A L.length z) (L.length) ((L).flatMap opC) 28 from SL.out.chx C66 xr50.out)
      have Fg3' := Lib.hid (show Blk w64 g3 (#[.int .i64 (now + 1 : Nat), .slice A L.length z, u]) 53 from C66.blk Fg3.out (Z40.out.ne Fg3.out (by decide)))
      have Fg11' := Lib.hid (show Blk w64 g11 (#[.int .i64 0, .slice none 0 0, .slice none 0 0]) 53 from C66.blk Fg11.out (Z40.out.ne Fg11.out (by decide)))
      have Fg53' := Lib.hid (show Blk w64 g53 (#[.int .i64 c, .int .i64 n, .int .i64 (now + 1 : Nat), .int .i64 0, .int .i64 0, .int .i64 0, .int .i64 0, .int .u64 0, .string ⟨#[]⟩, .slice none 0 0, .slice none 0 0, .slice none 0 0, .int .i64 0, .int .i64 0, .int .i64 0, .int .i64 0, .int .i64 0, .int .i64 0, .int .i64 0, .string ⟨#[]⟩, .slice none 0 0, .int .i64 0, .int .i64 0, .int .i64 0, .int .u64 0, .string ⟨#[]⟩, .slice none 0 0, .slice none 0 0]) 59 from C66.blk Fg53.out nr60.out)
      clear C0 SL Fg3 Fg11 Fg53
      have C0 := C0'; clear C0'
      have SL := SL'; clear SL'
      have Fg3 := Fg3'; clear Fg3'
      have Fg11 := Fg11'; clear Fg11'
      have Fg53 := Fg53'; clear Fg53'
      clear Z40
      have Z40 := Lib.hid (show OwnS w64 w.heap.size 59 28 (v63) (L.length + 1) (L.flatMap opC ++ opC (⟨c, n, ((now + 1 : Nat) : Int), 0, 0, ZC, ZR⟩ : HOp)) from O65); clear O65 C66
      refine hK62.out _ _ ⟨Fg3.out, trivial⟩ (fun hS71 => ?_); clear hK62 K62
      (try simp only [zP, zN, zA, zB, zC])
      refine pure_ (i := 11) (N := some 29) (v := .pointer (some ⟨g3, 1, none⟩)) #[true, true, true, true, true, true, true, true, true, true, true, true, false] rfl rfl (by kernel_rfl) (fun c a w h => hP c a _ _ w h) (y_run (by rfl) (fun W => by go_simp)) rfl ?_
      (try simp only [zP, zN, zA, zB, zC])
      refine last_ (i := 12) (N := none) #[true, true, true, true, true, true, true, true, true, true, true, true, true] rfl rfl (by kernel_rfl) (by simp) (fun K72 hK72 => ?_)
      refine e_store1 (b := g3) (j := 1) (v := v63) (by rfl) rfl rfl (by rfl) (by rfl) Fg3.out (show 1 < 3 by omega) (by kernel_rfl) Z40.out.one ?_
      rintro w73 B74 C75
      have C0' := Lib.hid (show Ch [] w w73 from C0.out.trans' C75 (inw_cons (.inr nw8.out) inw_nil))
      have SL' := Lib.hid (show SrcIs w73 (.slice A L.length z) (L.length) ((L).flatMap opC) 28 from SL.out.chx C75 (xnin_cons nx9.out xnin_nil))
      have Fg11' := Lib.hid (show Blk w73 g11 (#[.int .i64 0, .slice none 0 0, .slice none 0 0]) 53 from C75.blk Fg11.out (nin_cons (Ne.symm ne18.out) nin_nil))
      have Z40' := Lib.hid (show OwnS w73 w.heap.size 59 28 (v63) (L.length + 1) (L.flatMap opC ++ opC (⟨c, n, ((now + 1 : Nat) : Int), 0, 0, ZC, ZR⟩ : HOp)) from Z40.out.ch C75 (rnin_cons (Z40.out.ne Fg3.out (by decide)) rnin_nil))
      have Fg53' := Lib.hid (show Blk w73 g53 (#[.int .i64 c, .int .i64 n, .int .i64 (now + 1 : Nat), .int .i64 0, .int .i64 0, .int .i64 0, .int .i64 0, .int .u64 0, .string ⟨#[]⟩, .slice none 0 0, .slice none 0 0, .slice none 0 0, .int .i64 0, .int .i64 0, .int .i64 0, .int .i64 0, .int .i64 0, .int .i64 0, .int .i64 0, .string ⟨#[]⟩, .slice none 0 0, .int .i64 0, .int .i64 0, .int .i64 0, .int .u64 0, .string ⟨#[]⟩, .slice none 0 0, .slice none 0 0]) 59 from C75.blk Fg53.out (nin_cons (Blk.ne_type Fg53.out Fg3.out (by decide)) nin_nil))
      clear C0 SL Fg11 Z40 Fg53
      have C0 := C0'; clear C0'
      have SL := SL'; clear SL'
      have Fg11 := Fg11'; clear Fg11'
      have Z40 := Z40'; clear Z40'
      have Fg53 := Fg53'; clear Fg53'
      clear Fg3; have Fg3 := Lib.hid (show Blk w73 g3 (#[.int .i64 (now + 1 : Nat), v63, u]) 53 from B74); clear B74 C75
      refine hK72.out _ _ ?_; clear hK72 K72
      (try simp only [zP, zN, zA, zB, zC])
      refine done_ (by kernel_rfl) (th_norm (hK29 _ _ ?_)); clear hK29 K29
      refine s_ (fun K76 hK76 => ?_)
      refine ld_ (v := .agg (#[.int .i64 (now + 1 : Nat), v63, u])) rfl (by rfl) (by rfl) (run_loadVar_row _ _ 53 53 (#[.int .i64 (now + 1 : Nat), v63, u]) (0, 0) _ Fg3.out Try.underlying53 rfl (by kernel_rfl)) ?_
      (try simp only [zP, zN, zA, zB, zC])
      refine ef_ (fun K77 hK77 => ?_)
      refine e_storeN (cells := (#[.int .i64 (now + 1 : Nat), v63, u])) (by rfl) rfl rfl (by rfl) (by rfl) Fg11.out (by kernel_rfl) (by rfl) (ones_cons rfl (ones_cons Z40.out.one (ones_cons HU ones_nil))) ?_
      rintro w78 B79 C80
      have C0' := Lib.hid (show Ch [] w w78 from C0.out.trans' C80 (inw_cons (.inr nw16.out) inw_nil))
      have SL' := Lib.hid (show SrcIs w78 (.slice A L.length z) (L.length) ((L).flatMap opC) 28 from SL.out.chx C80 (xnin_cons nx17.out xnin_nil))
      have Fg3' := Lib.hid (show Blk w78 g3 (#[.int .i64 (now + 1 : Nat), v63, u]) 53 from C80.blk Fg3.out (nin_cons ne18.out nin_nil))
      have Z40' := Lib.hid (show OwnS w78 w.heap.size 59 28 (v63) (L.length + 1) (L.flatMap opC ++ opC (⟨c, n, ((now + 1 : Nat) : Int), 0, 0, ZC, ZR⟩ : HOp)) from Z40.out.ch C80 (rnin_cons (Z40.out.ne Fg11.out (by decide)) rnin_nil))
      have Fg53' := Lib.hid (show Blk w78 g53 (#[.int .i64 c, .int .i64 n, .int .i64 (now + 1 : Nat), .int .i64 0, .int .i64 0, .int .i64 0, .int .i64 0, .int .u64 0, .string ⟨#[]⟩, .slice none 0 0, .slice none 0 0, .slice none 0 0, .int .i64 0, .int .i64 0, .int .i64 0, .int .i64 0, .int .i64 0, .int .i64 0, .int .i64 0, .string ⟨#[]⟩, .slice none 0 0, .int .i64 0, .int .i64 0, .int .i64 0, .int .u64 0, .string ⟨#[]⟩, .slice none 0 0, .slice none 0 0]) 59 from C80.blk Fg53.out (nin_cons (Blk.ne_type Fg53.out Fg11.out (by decide)) nin_nil))
      clear C0 SL Fg3 Z40 Fg53
      have C0 := C0'; clear C0'
      have SL := SL'; clear SL'
      have Fg3 := Fg3'; clear Fg3'
      have Z40 := Z40'; clear Z40'
      have Fg53 := Fg53'; clear Fg53'
      clear Fg11; have Fg11 := Lib.hid (show Blk w78 g11 ((#[.int .i64 (now + 1 : Nat), v63, u])) 53 from B79); clear B79 C80
      refine hK77 _ _ ?_; clear hK77 K77
      (try simp only [zP, zN, zA, zB, zC])
      refine pu_ (v := .int .i64 0) (y_assign rfl (by rfl) (by rfl)) ?_
      (try simp only [zP, zN, zA, zB, zC])
      refine nl_ (hK76 _ _ ?_); clear hK76 K76
      refine wp_ret ?_
      refine hQ _ _ _ ?_
      refine bodyPost_ret (res2 rfl (rdv_cell (by rfl) (run_loadVar_row _ _ 53 53 ((#[.int .i64 (now + 1 : Nat), v63, u])) (0, 0) _ Fg11.out Try.underlying53 rfl (by kernel_rfl))) (rdv_tmp (v := .int .i64 0) (by rfl))) rfl ?_
      exact ⟨_, rfl, by have h := Z40.out; rwa [show L.flatMap opC ++ opC (⟨c, n, ((now + 1 : Nat) : Int), 0, 0, ZC, ZR⟩ : HOp) = (L ++ [(⟨c, n, ((now + 1 : Nat) : Int), 0, 0, ZC, ZR⟩ : HOp)]).flatMap opC by simp] at h, C0.out⟩
    · refine e_buildS (parts := #[(0, .agg #[.int .i64 c, .int .i64 n, .int .i64 (now + 1 : Nat), .int .i64 0, .int .i64 0, .int .i64 0, .int .i64 0, .int .u64 0, .string ⟨#[]⟩, .slice none 0 0, .slice none 0 0, .slice none 0 0, .int .i64 0, .int .i64 0, .int .i64 0, .int .i64 0, .int .i64 0, .int .i64 0, .int .i64 0, .string ⟨#[]⟩, .slice none 0 0, .int .i64 0, .int .i64 0, .int .i64 0, .int .u64 0, .string ⟨#[]⟩, .slice none 0 0, .slice none 0 0])]) (cells := #[.int .i64 c, .int .i64 n, .int .i64 (now + 1 : Nat), .int .i64 0, .int .i64 0, .int .i64 0, .int .i64 0, .int .u64 0, .string ⟨#[]⟩, .slice none 0 0, .slice none 0 0, .slice none 0 0, .int .i64 0, .int .i64 0, .int .i64 0, .int .i64 0, .int .i64 0, .int .i64 0, .int .i64 0, .string ⟨#[]⟩, .slice none 0 0, .int .i64 0, .int .i64 0, .int .i64 0, .int .u64 0, .string ⟨#[]⟩, .slice none 0 0, .slice none 0 0]) (by rfl) rfl rfl (by first | rfl | (simp only [List.map_toArray, List.map_cons, List.map_nil]; first | done | rfl)) Try.underlying51 I59.hi I59.hz I59.hs (by decide) (by decide) (by kernel_rfl) ?_
      rintro g81 w82 HG83 B84 C85
      have nw86 := Lib.hid (show w.heap.size ≤ g81 by have := C0.out.size; have := HG83.out; omega)
      have nx87 := Lib.hid (SL.out.ne_new (by decide) HG83)
      have nr88 := Lib.hid (Z40.out.ne_new HG83)
      have C0' := Lib.hid (show Ch [] w w82 from C0.out.trans' C85 (fun x hx => absurd hx (by simp)))
      have SL' := Lib.hid (show SrcIs w82 (.slice A L.length z) (L.length) ((L).flatMap opC) 28 from SL.out.chx C85 xnin_nil)
      have Fg3' := Lib.hid (show Blk w82 g3 (#[.int .i64 (now + 1 : Nat), .slice A L.length z, u]) 53 from C85.blk Fg3.out nin_nil)
      have Fg11' := Lib.hid (show Blk w82 g11 (#[.int .i64 0, .slice none 0 0, .slice none 0 0]) 53 from C85.blk Fg11.out nin_nil)
      have Z40' := Lib.hid (show OwnS w82 w.heap.size 59 28 (.slice (some ⟨g35, 0, none⟩) 0 0) (0) ([]) from Z40.out.ch C85 (fun k hk => absurd hk (by simp [rl])))
      clear C0 SL Fg3 Fg11 Z40
      have C0 := C0'; clear C0'
      have SL := SL'; clear SL'
      have Fg3 := Fg3'; clear Fg3'
      have Fg11 := Fg11'; clear Fg11'
      have Z40 := Z40'; clear Z40'
      have Fg81 := Lib.hid (show Blk w82 g81 (#[.int .i64 c, .int .i64 n, .int .i64 (now + 1 : Nat), .int .i64 0, .int .i64 0, .int .i64 0, .int .i64 0, .int .u64 0, .string ⟨#[]⟩, .slice none 0 0, .slice none 0 0, .slice none 0 0, .int .i64 0, .int .i64 0, .int .i64 0, .int .i64 0, .int .i64 0, .int .i64 0, .int .i64 0, .string ⟨#[]⟩, .slice none 0 0, .int .i64 0, .int .i64 0, .int .i64 0, .int .u64 0, .string ⟨#[]⟩, .slice none 0 0, .slice none 0 0]) 59 from B84); clear B84 C85
      refine hK43.out _ _ ⟨Fg3.out, trivial⟩ (fun hS89 => ?_); clear hK43 K43
      (try simp only [zP, zN, zA, zB, zC])
      refine one_ (i := 3) (N := some 21) #[true, true, true, true, true, true, true, true, true, true, false, false, false] rfl rfl (by kernel_rfl) (by simp) (fun K90 hK90 => ?_)
      refine e_append (by rfl) rfl rfl (w.heap.size) 59 _ _ 28 344 Try.underlying51 I59.hi I59.hz I59.hs I59.hb rfl (by decide) (.slice (some ⟨g35, 0, none⟩) 0 0) (0) ([]) (by rfl) Z40.out (.slice A L.length z) L.length (L.flatMap opC) (by rfl) SL.out (flat_one opC_one L) (by have := HN.out; unfold maxLen; omega) (by have := HN.out; omega) C0.out.size ?_
      rintro v91 w92 O93 C94 R95 -
      replace C94 : Ch [] _ _ := C94
      replace R95 : ∀ k, k ∈ rl v91 → w82.heap.size ≤ k := fun k hk => (R95 k hk).elim (fun h => absurd h (by simp [rl])) id
      have rw96 := Lib.hid (show ∀ x, x ∈ rl v91 → x ∈ [] ∨ w.heap.size ≤ x from fun x hx => .inr (by have := R95 x hx; have := C0.out.size; omega))
      have xr97 := Lib.hid (show ∀ k, k ∈ xb (.slice A L.length z) → k ∉ rl v91 from fun k hk hm => by have := R95 k hm; have := SL.out.lt (by decide) k hk; omega)
      have nr98 := Lib.hid (show g81 ∉ rl v91 from fun hk => by have := R95 _ hk; have := Fg81.out.lt; omega)
      have C0' := Lib.hid (show Ch [] w w92 from C0.out.trans' C94 (fun x hx => absurd hx (by simp)))
      have SL' := Lib.hid (show SrcIs w92 (.slice A L.length z) (L.length) ((L).flatMap opC) 28 from SL.out.chx C94 xnin_nil)
      have Fg3' := Lib.hid (show Blk w92 g3 (#[.int .i64 (now + 1 : Nat), .slice A L.length z, u]) 53 from C94.blk Fg3.out nin_nil)
      have Fg11' := Lib.hid (show Blk w92 g11 (#[.int .i64 0, .slice none 0 0, .slice none 0 0]) 53 from C94.blk Fg11.out nin_nil)
      have Fg81' := Lib.hid (show Blk w92 g81 (#[.int .i64 c, .int .i64 n, .int .i64 (now + 1 : Nat), .int .i64 0, .int .i64 0, .int .i64 0, .int .i64 0, .int .u64 0, .string ⟨#[]⟩, .slice none 0 0, .slice none 0 0, .slice none 0 0, .int .i64 0, .int .i64 0, .int .i64 0, .int .i64 0, .int .i64 0, .int .i64 0, .int .i64 0, .string ⟨#[]⟩, .slice none 0 0, .int .i64 0, .int .i64 0, .int .i64 0, .int .u64 0, .string ⟨#[]⟩, .slice none 0 0, .slice none 0 0]) 59 from C94.blk Fg81.out nin_nil)
      clear C0 SL Fg3 Fg11 Fg81
      have C0 := C0'; clear C0'
      have SL := SL'; clear SL'
      have Fg3 := Fg3'; clear Fg3'
      have Fg11 := Fg11'; clear Fg11'
      have Fg81 := Fg81'; clear Fg81'
      clear Z40
      have Z40 := Lib.hid (show OwnS w92 w.heap.size 59 28 (v91) (L.length) (L.flatMap opC) from (by simpa using O93)); clear O93 C94
      refine hK90.out _ _ ⟨Fg3.out, trivial⟩ (fun hS99 => ?_); clear hK90 K90
      (try simp only [zP, zN, zA, zB, zC])
      refine one_ (i := 10) (N := some 28) #[true, true, true, true, true, true, true, true, true, true, true, false, false] rfl rfl (by kernel_rfl) (by simp) (fun K100 hK100 => ?_)
      refine e_append (by rfl) rfl rfl (w.heap.size) 59 _ _ 28 344 Try.underlying51 I59.hi I59.hz I59.hs I59.hb rfl (by decide) (v91) (L.length) (L.flatMap opC) (by rfl) Z40.out (.slice (some ⟨g81, 0, none⟩) 1 1) 1 (opC (⟨c, n, ((now + 1 : Nat) : Int), 0, 0, ZC, ZR⟩ : HOp)) (by rfl) ⟨rfl, .inr ⟨_, _, rfl, CellsAt.blk Fg81.out 0⟩⟩ (opC_one (⟨c, n, ((now + 1 : Nat) : Int), 0, 0, ZC, ZR⟩ : HOp)) (by have := HN.out; unfold maxLen; omega) (by have := HN.out; omega) C0.out.size ?_
      rintro v101 w102 O103 C104 R105 -
      have rw106 := Lib.hid (show ∀ x, x ∈ rl v101 → x ∈ [] ∨ w.heap.size ≤ x from fun x hx => (R105 x hx).elim (fun h => rw96.out _ h) (fun h => .inr (by have := C0.out.size; omega)))
      have xr107 := Lib.hid (show ∀ k, k ∈ xb (.slice A L.length z) → k ∉ rl v101 from fun k hk hm => (R105 k hm).elim (fun h => xr97.out k hk h) (fun h => by have := SL.out.lt (by decide) k hk; omega))
      have nr108 := Lib.hid (show g81 ∉ rl v101 from fun hk => (R105 _ hk).elim nr98.out (fun h => by have := Fg81.out.lt; omega))
      have C0' := Lib.hid (show Ch [] w w102 from C0.out.trans' C104 (fun x hx => .inr (Z40.out.lt x hx).1))
      have SL' := Lib.hid (show SrcIs w102 (.slice A L.length z) (L.length) ((L).flatMap opC) 28 from SL.out.chx C104 xr97.out)
      have Fg3' := Lib.hid (show Blk w102 g3 (#[.int .i64 (now + 1 : Nat), .slice A L.length z, u]) 53 from C104.blk Fg3.out (Z40.out.ne Fg3.out (by decide)))
      have Fg11' := Lib.hid (show Blk w102 g11 (#[.int .i64 0, .slice none 0 0, .slice none 0 0]) 53 from C104.blk Fg11.out (Z40.out.ne Fg11.out (by decide)))
      have Fg81' := Lib.hid (show Blk w102 g81 (#[.int .i64 c, .int .i64 n, .int .i64 (now + 1 : Nat), .int .i64 0, .int .i64 0, .int .i64 0, .int .i64 0, .int .u64 0, .string ⟨#[]⟩, .slice none 0 0, .slice none 0 0, .slice none 0 0, .int .i64 0, .int .i64 0, .int .i64 0, .int .i64 0, .int .i64 0, .int .i64 0, .int .i64 0, .string ⟨#[]⟩, .slice none 0 0, .int .i64 0, .int .i64 0, .int .i64 0, .int .u64 0, .string ⟨#[]⟩, .slice none 0 0, .slice none 0 0]) 59 from C104.blk Fg81.out nr98.out)
      clear C0 SL Fg3 Fg11 Fg81
      have C0 := C0'; clear C0'
      have SL := SL'; clear SL'
      have Fg3 := Fg3'; clear Fg3'
      have Fg11 := Fg11'; clear Fg11'
      have Fg81 := Fg81'; clear Fg81'
      clear Z40
      have Z40 := Lib.hid (show OwnS w102 w.heap.size 59 28 (v101) (L.length + 1) (L.flatMap opC ++ opC (⟨c, n, ((now + 1 : Nat) : Int), 0, 0, ZC, ZR⟩ : HOp)) from O103); clear O103 C104
      refine hK100.out _ _ ⟨Fg3.out, trivial⟩ (fun hS109 => ?_); clear hK100 K100
      (try simp only [zP, zN, zA, zB, zC])
      refine pure_ (i := 11) (N := some 29) (v := .pointer (some ⟨g3, 1, none⟩)) #[true, true, true, true, true, true, true, true, true, true, true, true, false] rfl rfl (by kernel_rfl) (fun c a w h => hP c a _ _ w h) (y_run (by rfl) (fun W => by go_simp)) rfl ?_
      (try simp only [zP, zN, zA, zB, zC])
      refine last_ (i := 12) (N := none) #[true, true, true, true, true, true, true, true, true, true, true, true, true] rfl rfl (by kernel_rfl) (by simp) (fun K110 hK110 => ?_)
      refine e_store1 (b := g3) (j := 1) (v := v101) (by rfl) rfl rfl (by rfl) (by rfl) Fg3.out (show 1 < 3 by omega) (by kernel_rfl) Z40.out.one ?_
      rintro w111 B112 C113
      have C0' := Lib.hid (show Ch [] w w111 from C0.out.trans' C113 (inw_cons (.inr nw8.out) inw_nil))
      have SL' := Lib.hid (show SrcIs w111 (.slice A L.length z) (L.length) ((L).flatMap opC) 28 from SL.out.chx C113 (xnin_cons nx9.out xnin_nil))
      have Fg11' := Lib.hid (show Blk w111 g11 (#[.int .i64 0, .slice none 0 0, .slice none 0 0]) 53 from C113.blk Fg11.out (nin_cons (Ne.symm ne18.out) nin_nil))
      have Z40' := Lib.hid (show OwnS w111 w.heap.size 59 28 (v101) (L.length + 1) (L.flatMap opC ++ opC (⟨c, n, ((now + 1 : Nat) : Int), 0, 0, ZC, ZR⟩ : HOp)) from Z40.out.ch C113 (rnin_cons (Z40.out.ne Fg3.out (by decide)) rnin_nil))
      have Fg81' := Lib.hid (show Blk w111 g81 (#[.int .i64 c, .int .i64 n, .int .i64 (now + 1 : Nat), .int .i64 0, .int .i64 0, .int .i64 0, .int .i64 0, .int .u64 0, .string ⟨#[]⟩, .slice none 0 0, .slice none 0 0, .slice none 0 0, .int .i64 0, .int .i64 0, .int .i64 0, .int .i64 0, .int .i64 0, .int .i64 0, .int .i64 0, .string ⟨#[]⟩, .slice none 0 0, .int .i64 0, .int .i64 0, .int .i64 0, .int .u64 0, .string ⟨#[]⟩, .slice none 0 0, .slice none 0 0]) 59 from C113.blk Fg81.out (nin_cons (Blk.ne_type Fg81.out Fg3.out (by decide)) nin_nil))
      clear C0 SL Fg11 Z40 Fg81
      have C0 := C0'; clear C0'
      have SL := SL'; clear SL'
      have Fg11 := Fg11'; clear Fg11'
      have Z40 := Z40'; clear Z40'
      have Fg81 := Fg81'; clear Fg81'
      clear Fg3; have Fg3 := Lib.hid (show Blk w111 g3 (#[.int .i64 (now + 1 : Nat), v101, u]) 53 from B112); clear B112 C113
      refine hK110.out _ _ ?_; clear hK110 K110
      (try simp only [zP, zN, zA, zB, zC])
      refine done_ (by kernel_rfl) (th_norm (hK29 _ _ ?_)); clear hK29 K29
      refine s_ (fun K114 hK114 => ?_)
      refine ld_ (v := .agg (#[.int .i64 (now + 1 : Nat), v101, u])) rfl (by rfl) (by rfl) (run_loadVar_row _ _ 53 53 (#[.int .i64 (now + 1 : Nat), v101, u]) (0, 0) _ Fg3.out Try.underlying53 rfl (by kernel_rfl)) ?_
      (try simp only [zP, zN, zA, zB, zC])
      refine ef_ (fun K115 hK115 => ?_)
      refine e_storeN (cells := (#[.int .i64 (now + 1 : Nat), v101, u])) (by rfl) rfl rfl (by rfl) (by rfl) Fg11.out (by kernel_rfl) (by rfl) (ones_cons rfl (ones_cons Z40.out.one (ones_cons HU ones_nil))) ?_
      rintro w116 B117 C118
      have C0' := Lib.hid (show Ch [] w w116 from C0.out.trans' C118 (inw_cons (.inr nw16.out) inw_nil))
      have SL' := Lib.hid (show SrcIs w116 (.slice A L.length z) (L.length) ((L).flatMap opC) 28 from SL.out.chx C118 (xnin_cons nx17.out xnin_nil))
      have Fg3' := Lib.hid (show Blk w116 g3 (#[.int .i64 (now + 1 : Nat), v101, u]) 53 from C118.blk Fg3.out (nin_cons ne18.out nin_nil))
      have Z40' := Lib.hid (show OwnS w116 w.heap.size 59 28 (v101) (L.length + 1) (L.flatMap opC ++ opC (⟨c, n, ((now + 1 : Nat) : Int), 0, 0, ZC, ZR⟩ : HOp)) from Z40.out.ch C118 (rnin_cons (Z40.out.ne Fg11.out (by decide)) rnin_nil))
      have Fg81' := Lib.hid (show Blk w116 g81 (#[.int .i64 c, .int .i64 n, .int .i64 (now + 1 : Nat), .int .i64 0, .int .i64 0, .int .i64 0, .int .i64 0, .int .u64 0, .string ⟨#[]⟩, .slice none 0 0, .slice none 0 0, .slice none 0 0, .int .i64 0, .int .i64 0, .int .i64 0, .int .i64 0, .int .i64 0, .int .i64 0, .int .i64 0, .string ⟨#[]⟩, .slice none 0 0, .int .i64 0, .int .i64 0, .int .i64 0, .int .u64 0, .string ⟨#[]⟩, .slice none 0 0, .slice none 0 0]) 59 from C118.blk Fg81.out (nin_cons (Blk.ne_type Fg81.out Fg11.out (by decide)) nin_nil))
      clear C0 SL Fg3 Z40 Fg81
      have C0 := C0'; clear C0'
      have SL := SL'; clear SL'
      have Fg3 := Fg3'; clear Fg3'
      have Z40 := Z40'; clear Z40'
      have Fg81 := Fg81'; clear Fg81'
      clear Fg11; have Fg11 := Lib.hid (show Blk w116 g11 ((#[.int .i64 (now + 1 : Nat), v101, u])) 53 from B117); clear B117 C118
      refine hK115 _ _ ?_; clear hK115 K115
      (try simp only [zP, zN, zA, zB, zC])
      refine pu_ (v := .int .i64 0) (y_assign rfl (by rfl) (by rfl)) ?_
      (try simp only [zP, zN, zA, zB, zC])
      refine nl_ (hK114 _ _ ?_); clear hK114 K114
      refine wp_ret ?_
      refine hQ _ _ _ ?_
      refine bodyPost_ret (res2 rfl (rdv_cell (by rfl) (run_loadVar_row _ _ 53 53 ((#[.int .i64 (now + 1 : Nat), v101, u])) (0, 0) _ Fg11.out Try.underlying53 rfl (by kernel_rfl))) (rdv_tmp (v := .int .i64 0) (by rfl))) rfl ?_
      exact ⟨_, rfl, by have h := Z40.out; rwa [show L.flatMap opC ++ opC (⟨c, n, ((now + 1 : Nat) : Int), 0, 0, ZC, ZR⟩ : HOp) = (L ++ [(⟨c, n, ((now + 1 : Nat) : Int), 0, 0, ZC, ZR⟩ : HOp)]).flatMap opC by simp] at h, C0.out⟩
  · refine e_buildS (parts := #[(0, .agg #[.int .i64 c, .int .i64 n, .int .i64 (now + 1 : Nat), .int .i64 0, .int .i64 0, .int .i64 0, .int .i64 0, .int .u64 0, .string ⟨#[]⟩, .slice none 0 0, .slice none 0 0, .slice none 0 0, .int .i64 0, .int .i64 0, .int .i64 0, .int .i64 0, .int .i64 0, .int .i64 0, .int .i64 0, .string ⟨#[]⟩, .slice none 0 0, .int .i64 0, .int .i64 0, .int .i64 0, .int .u64 0, .string ⟨#[]⟩, .slice none 0 0, .slice none 0 0])]) (cells := #[.int .i64 c, .int .i64 n, .int .i64 (now + 1 : Nat), .int .i64 0, .int .i64 0, .int .i64 0, .int .i64 0, .int .u64 0, .string ⟨#[]⟩, .slice none 0 0, .slice none 0 0, .slice none 0 0, .int .i64 0, .int .i64 0, .int .i64 0, .int .i64 0, .int .i64 0, .int .i64 0, .int .i64 0, .string ⟨#[]⟩, .slice none 0 0, .int .i64 0, .int .i64 0, .int .i64 0, .int .u64 0, .string ⟨#[]⟩, .slice none 0 0, .slice none 0 0]) (by rfl) rfl rfl (by first | rfl | (simp only [List.map_toArray, List.map_cons, List.map_nil]; first | done | rfl)) Try.underlying51 I59.hi I59.hz I59.hs (by decide) (by decide) (by kernel_rfl) ?_
    rintro g119 w120 HG121 B122 C123
    have nw124 := Lib.hid (show w.heap.size ≤ g119 by have := C0.out.size; have := HG121.out; omega)
    have nx125 := Lib.hid (SL.out.ne_new (by decide) HG121)
    have C0' := Lib.hid (show Ch [] w w120 from C0.out.trans' C123 (fun x hx => absurd hx (by simp)))
    have SL' := Lib.hid (show SrcIs w120 (.slice A L.length z) (L.length) ((L).flatMap opC) 28 from SL.out.chx C123 xnin_nil)
    have Fg3' := Lib.hid (show Blk w120 g3 (#[.int .i64 (now + 1 : Nat), .slice A L.length z, u]) 53 from C123.blk Fg3.out nin_nil)
    have Fg11' := Lib.hid (show Blk w120 g11 (#[.int .i64 0, .slice none 0 0, .slice none 0 0]) 53 from C123.blk Fg11.out nin_nil)
    clear C0 SL Fg3 Fg11
    have C0 := C0'; clear C0'
    have SL := SL'; clear SL'
    have Fg3 := Fg3'; clear Fg3'
    have Fg11 := Fg11'; clear Fg11'
    have Fg119 := Lib.hid (show Blk w120 g119 (#[.int .i64 c, .int .i64 n, .int .i64 (now + 1 : Nat), .int .i64 0, .int .i64 0, .int .i64 0, .int .i64 0, .int .u64 0, .string ⟨#[]⟩, .slice none 0 0, .slice none 0 0, .slice none 0 0, .int .i64 0, .int .i64 0, .int .i64 0, .int .i64 0, .int .i64 0, .int .i64 0, .int .i64 0, .string ⟨#[]⟩, .slice none 0 0, .int .i64 0, .int .i64 0, .int .i64 0, .int .u64 0, .string ⟨#[]⟩, .slice none 0 0, .slice none 0 0]) 59 from B122); clear B122 C123
    refine hK34.out _ _ ⟨Fg3.out, trivial⟩ (fun hS126 => ?_); clear hK34 K34
    (try simp only [zP, zN, zA, zB, zC])
    refine one_ (i := 0) (N := some 18) #[true, true, true, false, true, true, true, true, true, true, false, false, false] rfl rfl (by kernel_rfl) (by simp) (fun K127 hK127 => ?_)
    refine e_buildS0 (by rfl) rfl rfl Try.underlying51 I59.hi ?_
    rintro g128 w129 HG130 C132
    have C0' := Lib.hid (show Ch [] w w129 from C0.out.trans' C132 (fun x hx => absurd hx (by simp)))
    have SL' := Lib.hid (show SrcIs w129 (.slice A L.length z) (L.length) ((L).flatMap opC) 28 from SL.out.chx C132 xnin_nil)
    have Fg3' := Lib.hid (show Blk w129 g3 (#[.int .i64 (now + 1 : Nat), .slice A L.length z, u]) 53 from C132.blk Fg3.out nin_nil)
    have Fg11' := Lib.hid (show Blk w129 g11 (#[.int .i64 0, .slice none 0 0, .slice none 0 0]) 53 from C132.blk Fg11.out nin_nil)
    have Fg119' := Lib.hid (show Blk w129 g119 (#[.int .i64 c, .int .i64 n, .int .i64 (now + 1 : Nat), .int .i64 0, .int .i64 0, .int .i64 0, .int .i64 0, .int .u64 0, .string ⟨#[]⟩, .slice none 0 0, .slice none 0 0, .slice none 0 0, .int .i64 0, .int .i64 0, .int .i64 0, .int .i64 0, .int .i64 0, .int .i64 0, .int .i64 0, .string ⟨#[]⟩, .slice none 0 0, .int .i64 0, .int .i64 0, .int .i64 0, .int .u64 0, .string ⟨#[]⟩, .slice none 0 0, .slice none 0 0]) 59 from C132.blk Fg119.out nin_nil)
    clear C0 SL Fg3 Fg11 Fg119
    have C0 := C0'; clear C0'
    have SL := SL'; clear SL'
    have Fg3 := Fg3'; clear Fg3'
    have Fg11 := Fg11'; clear Fg11'
    have Fg119 := Fg119'; clear Fg119'
    clear C132
    have Z133 := Lib.hid (show OwnS w129 w.heap.size 59 28 (.slice (some ⟨g128, 0, none⟩) 0 0) (0) ([]) from OwnS.nil _ _ _ _ _)
    refine hK127.out _ _ ⟨Fg3.out, trivial⟩ (fun hS134 => ?_); clear hK127 K127
    (try simp only [zP, zN, zA, zB, zC])
    refine one_ (i := 3) (N := some 21) #[true, true, true, true, true, true, true, true, true, true, false, false, false] rfl rfl (by kernel_rfl) (by simp) (fun K135 hK135 => ?_)
    refine e_append (by rfl) rfl rfl (w.heap.size) 59 _ _ 28 344 Try.underlying51 I59.hi I59.hz I59.hs I59.hb rfl (by decide) (.slice (some ⟨g128, 0, none⟩) 0 0) (0) ([]) (by rfl) Z133.out (.slice A L.length z) L.length (L.flatMap opC) (by rfl) SL.out (flat_one opC_one L) (by have := HN.out; unfold maxLen; omega) (by have := HN.out; omega) C0.out.size ?_
    rintro v136 w137 O138 C139 R140 -
    replace C139 : Ch [] _ _ := C139
    replace R140 : ∀ k, k ∈ rl v136 → w129.heap.size ≤ k := fun k hk => (R140 k hk).elim (fun h => absurd h (by simp [rl])) id
    have rw141 := Lib.hid (show ∀ x, x ∈ rl v136 → x ∈ [] ∨ w.heap.size ≤ x from fun x hx => .inr (by have := R140 x hx; have := C0.out.size; omega))
    have xr142 := Lib.hid (show ∀ k, k ∈ xb (.slice A L.length z) → k ∉ rl v136 from fun k hk hm => by have := R140 k hm; have := SL.out.lt (by decide) k hk; omega)
    have nr143 := Lib.hid (show g119 ∉ rl v136 from fun hk => by have := R140 _ hk; have := Fg119.out.lt; omega)
    have C0' := Lib.hid (show Ch [] w w137 from C0.out.trans' C139 (fun x hx => absurd hx (by simp)))
    have SL' := Lib.hid (show SrcIs w137 (.slice A L.length z) (L.length) ((L).flatMap opC) 28 from SL.out.chx C139 xnin_nil)
    have Fg3' := Lib.hid (show Blk w137 g3 (#[.int .i64 (now + 1 : Nat), .slice A L.length z, u]) 53 from C139.blk Fg3.out nin_nil)
    have Fg11' := Lib.hid (show Blk w137 g11 (#[.int .i64 0, .slice none 0 0, .slice none 0 0]) 53 from C139.blk Fg11.out nin_nil)
    have Fg119' := Lib.hid (show Blk w137 g119 (#[.int .i64 c, .int .i64 n, .int .i64 (now + 1 : Nat), .int .i64 0, .int .i64 0, .int .i64 0, .int .i64 0, .int .u64 0, .string ⟨#[]⟩, .slice none 0 0, .slice none 0 0, .slice none 0 0, .int .i64 0, .int .i64 0, .int .i64 0, .int .i64 0, .int .i64 0, .int .i64 0, .int .i64 0, .string ⟨#[]⟩, .slice none 0 0, .int .i64 0, .int .i64 0, .int .i64 0, .int .u64 0, .string ⟨#[]⟩, .slice none 0 0, .slice none 0 0]) 59 from C139.blk Fg119.out nin_nil)
    clear C0 SL Fg3 Fg11 Fg119
    have C0 := C0'; clear C0'
    have SL := SL'; clear SL'
    have Fg3 := Fg3'; clear Fg3'
    have Fg11 := Fg11'; clear Fg11'
    have Fg119 := Fg119'; clear Fg119'
    clear Z133
    have Z133 := Lib.hid (show OwnS w137 w.heap.size 59 28 (v136) (L.length) (L.flatMap opC) from (by simpa using O138)); clear O138 C139
    refine hK135.out _ _ ⟨Fg3.out, trivial⟩ (fun hS144 => ?_); clear hK135 K135
    (try simp only [zP, zN, zA, zB, zC])
    refine one_ (i := 10) (N := some 28) #[true, true, true, true, true, true, true, true, true, true, true, false, false] rfl rfl (by kernel_rfl) (by simp) (fun K145 hK145 => ?_)
    refine e_append (by rfl) rfl rfl (w.heap.size) 59 _ _ 28 344 Try.underlying51 I59.hi I59.hz I59.hs I59.hb rfl (by decide) (v136) (L.length) (L.flatMap opC) (by rfl) Z133.out (.slice (some ⟨g119, 0, none⟩) 1 1) 1 (opC (⟨c, n, ((now + 1 : Nat) : Int), 0, 0, ZC, ZR⟩ : HOp)) (by rfl) ⟨rfl, .inr ⟨_, _, rfl, CellsAt.blk Fg119.out 0⟩⟩ (opC_one (⟨c, n, ((now + 1 : Nat) : Int), 0, 0, ZC, ZR⟩ : HOp)) (by have := HN.out; unfold maxLen; omega) (by have := HN.out; omega) C0.out.size ?_
    rintro v146 w147 O148 C149 R150 -
    have rw151 := Lib.hid (show ∀ x, x ∈ rl v146 → x ∈ [] ∨ w.heap.size ≤ x from fun x hx => (R150 x hx).elim (fun h => rw141.out _ h) (fun h => .inr (by have := C0.out.size; omega)))
    have xr152 := Lib.hid (show ∀ k, k ∈ xb (.slice A L.length z) → k ∉ rl v146 from fun k hk hm => (R150 k hm).elim (fun h => xr142.out k hk h) (fun h => by have := SL.out.lt (by decide) k hk; omega))
    have nr153 := Lib.hid (show g119 ∉ rl v146 from fun hk => (R150 _ hk).elim nr143.out (fun h => by have := Fg119.out.lt; omega))
    have C0' := Lib.hid (show Ch [] w w147 from C0.out.trans' C149 (fun x hx => .inr (Z133.out.lt x hx).1))
    have SL' := Lib.hid (show SrcIs w147 (.slice A L.length z) (L.length) ((L).flatMap opC) 28 from SL.out.chx C149 xr142.out)
    have Fg3' := Lib.hid (show Blk w147 g3 (#[.int .i64 (now + 1 : Nat), .slice A L.length z, u]) 53 from C149.blk Fg3.out (Z133.out.ne Fg3.out (by decide)))
    have Fg11' := Lib.hid (show Blk w147 g11 (#[.int .i64 0, .slice none 0 0, .slice none 0 0]) 53 from C149.blk Fg11.out (Z133.out.ne Fg11.out (by decide)))
    have Fg119' := Lib.hid (show Blk w147 g119 (#[.int .i64 c, .int .i64 n, .int .i64 (now + 1 : Nat), .int .i64 0, .int .i64 0, .int .i64 0, .int .i64 0, .int .u64 0, .string ⟨#[]⟩, .slice none 0 0, .slice none 0 0, .slice none 0 0, .int .i64 0, .int .i64 0, .int .i64 0, .int .i64 0, .int .i64 0, .int .i64 0, .int .i64 0, .string ⟨#[]⟩, .slice none 0 0, .int .i64 0, .int .i64 0, .int .i64 0, .int .u64 0, .string ⟨#[]⟩, .slice none 0 0, .slice none 0 0]) 59 from C149.blk Fg119.out nr143.out)
    clear C0 SL Fg3 Fg11 Fg119
    have C0 := C0'; clear C0'
    have SL := SL'; clear SL'
    have Fg3 := Fg3'; clear Fg3'
    have Fg11 := Fg11'; clear Fg11'
    have Fg119 := Fg119'; clear Fg119'
    clear Z133
    have Z133 := Lib.hid (show OwnS w147 w.heap.size 59 28 (v146) (L.length + 1) (L.flatMap opC ++ opC (⟨c, n, ((now + 1 : Nat) : Int), 0, 0, ZC, ZR⟩ : HOp)) from O148); clear O148 C149
    refine hK145.out _ _ ⟨Fg3.out, trivial⟩ (fun hS154 => ?_); clear hK145 K145
    (try simp only [zP, zN, zA, zB, zC])
    refine pure_ (i := 11) (N := some 29) (v := .pointer (some ⟨g3, 1, none⟩)) #[true, true, true, true, true, true, true, true, true, true, true, true, false] rfl rfl (by kernel_rfl) (fun c a w h => hP c a _ _ w h) (y_run (by rfl) (fun W => by go_simp)) rfl ?_
    (try simp only [zP, zN, zA, zB, zC])
    refine last_ (i := 12) (N := none) #[true, true, true, true, true, true, true, true, true, true, true, true, true] rfl rfl (by kernel_rfl) (by simp) (fun K155 hK155 => ?_)
    refine e_store1 (b := g3) (j := 1) (v := v146) (by rfl) rfl rfl (by rfl) (by rfl) Fg3.out (show 1 < 3 by omega) (by kernel_rfl) Z133.out.one ?_
    rintro w156 B157 C158
    have C0' := Lib.hid (show Ch [] w w156 from C0.out.trans' C158 (inw_cons (.inr nw8.out) inw_nil))
    have SL' := Lib.hid (show SrcIs w156 (.slice A L.length z) (L.length) ((L).flatMap opC) 28 from SL.out.chx C158 (xnin_cons nx9.out xnin_nil))
    have Fg11' := Lib.hid (show Blk w156 g11 (#[.int .i64 0, .slice none 0 0, .slice none 0 0]) 53 from C158.blk Fg11.out (nin_cons (Ne.symm ne18.out) nin_nil))
    have Fg119' := Lib.hid (show Blk w156 g119 (#[.int .i64 c, .int .i64 n, .int .i64 (now + 1 : Nat), .int .i64 0, .int .i64 0, .int .i64 0, .int .i64 0, .int .u64 0, .string ⟨#[]⟩, .slice none 0 0, .slice none 0 0, .slice none 0 0, .int .i64 0, .int .i64 0, .int .i64 0, .int .i64 0, .int .i64 0, .int .i64 0, .int .i64 0, .string ⟨#[]⟩, .slice none 0 0, .int .i64 0, .int .i64 0, .int .i64 0, .int .u64 0, .string ⟨#[]⟩, .slice none 0 0, .slice none 0 0]) 59 from C158.blk Fg119.out (nin_cons (Blk.ne_type Fg119.out Fg3.out (by decide)) nin_nil))
    have Z133' := Lib.hid (show OwnS w156 w.heap.size 59 28 (v146) (L.length + 1) (L.flatMap opC ++ opC (⟨c, n, ((now + 1 : Nat) : Int), 0, 0, ZC, ZR⟩ : HOp)) from Z133.out.ch C158 (rnin_cons (Z133.out.ne Fg3.out (by decide)) rnin_nil))
    clear C0 SL Fg11 Fg119 Z133
    have C0 := C0'; clear C0'
    have SL := SL'; clear SL'
    have Fg11 := Fg11'; clear Fg11'
    have Fg119 := Fg119'; clear Fg119'
    have Z133 := Z133'; clear Z133'
    clear Fg3; have Fg3 := Lib.hid (show Blk w156 g3 (#[.int .i64 (now + 1 : Nat), v146, u]) 53 from B157); clear B157 C158
    refine hK155.out _ _ ?_; clear hK155 K155
    (try simp only [zP, zN, zA, zB, zC])
    refine done_ (by kernel_rfl) (th_norm (hK29 _ _ ?_)); clear hK29 K29
    refine s_ (fun K159 hK159 => ?_)
    refine ld_ (v := .agg (#[.int .i64 (now + 1 : Nat), v146, u])) rfl (by rfl) (by rfl) (run_loadVar_row _ _ 53 53 (#[.int .i64 (now + 1 : Nat), v146, u]) (0, 0) _ Fg3.out Try.underlying53 rfl (by kernel_rfl)) ?_
    (try simp only [zP, zN, zA, zB, zC])
    refine ef_ (fun K160 hK160 => ?_)
    refine e_storeN (cells := (#[.int .i64 (now + 1 : Nat), v146, u])) (by rfl) rfl rfl (by rfl) (by rfl) Fg11.out (by kernel_rfl) (by rfl) (ones_cons rfl (ones_cons Z133.out.one (ones_cons HU ones_nil))) ?_
    rintro w161 B162 C163
    have C0' := Lib.hid (show Ch [] w w161 from C0.out.trans' C163 (inw_cons (.inr nw16.out) inw_nil))
    have SL' := Lib.hid (show SrcIs w161 (.slice A L.length z) (L.length) ((L).flatMap opC) 28 from SL.out.chx C163 (xnin_cons nx17.out xnin_nil))
    have Fg3' := Lib.hid (show Blk w161 g3 (#[.int .i64 (now + 1 : Nat), v146, u]) 53 from C163.blk Fg3.out (nin_cons ne18.out nin_nil))
    have Fg119' := Lib.hid (show Blk w161 g119 (#[.int .i64 c, .int .i64 n, .int .i64 (now + 1 : Nat), .int .i64 0, .int .i64 0, .int .i64 0, .int .i64 0, .int .u64 0, .string ⟨#[]⟩, .slice none 0 0, .slice none 0 0, .slice none 0 0, .int .i64 0, .int .i64 0, .int .i64 0, .int .i64 0, .int .i64 0, .int .i64 0, .int .i64 0, .string ⟨#[]⟩, .slice none 0 0, .int .i64 0, .int .i64 0, .int .i64 0, .int .u64 0, .string ⟨#[]⟩, .slice none 0 0, .slice none 0 0]) 59 from C163.blk Fg119.out (nin_cons (Blk.ne_type Fg119.out Fg11.out (by decide)) nin_nil))
    have Z133' := Lib.hid (show OwnS w161 w.heap.size 59 28 (v146) (L.length + 1) (L.flatMap opC ++ opC (⟨c, n, ((now + 1 : Nat) : Int), 0, 0, ZC, ZR⟩ : HOp)) from Z133.out.ch C163 (rnin_cons (Z133.out.ne Fg11.out (by decide)) rnin_nil))
    clear C0 SL Fg3 Fg119 Z133
    have C0 := C0'; clear C0'
    have SL := SL'; clear SL'
    have Fg3 := Fg3'; clear Fg3'
    have Fg119 := Fg119'; clear Fg119'
    have Z133 := Z133'; clear Z133'
    clear Fg11; have Fg11 := Lib.hid (show Blk w161 g11 ((#[.int .i64 (now + 1 : Nat), v146, u])) 53 from B162); clear B162 C163
    refine hK160 _ _ ?_; clear hK160 K160
    (try simp only [zP, zN, zA, zB, zC])
    refine pu_ (v := .int .i64 0) (y_assign rfl (by rfl) (by rfl)) ?_
    (try simp only [zP, zN, zA, zB, zC])
    refine nl_ (hK159 _ _ ?_); clear hK159 K159
    refine wp_ret ?_
    refine hQ _ _ _ ?_
    refine bodyPost_ret (res2 rfl (rdv_cell (by rfl) (run_loadVar_row _ _ 53 53 ((#[.int .i64 (now + 1 : Nat), v146, u])) (0, 0) _ Fg11.out Try.underlying53 rfl (by kernel_rfl))) (rdv_tmp (v := .int .i64 0) (by rfl))) rfl ?_
    exact ⟨_, rfl, by have h := Z133.out; rwa [show L.flatMap opC ++ opC (⟨c, n, ((now + 1 : Nat) : Int), 0, 0, ZC, ZR⟩ : HOp) = (L ++ [(⟨c, n, ((now + 1 : Nat) : Int), 0, 0, ZC, ZR⟩ : HOp)]).flatMap opC by simp] at h, C0.out⟩
theorem rinner_ {A : Option Addr} {z : Nat} {I : List Int} {now : Nat} {v : Value} (HN : Hid (I.length ≤ 1000)) (HV : v.oneCell' = true) (HW : Hid (now ≤ 1000)) (SI : Hid (SrcIs w (.slice A I.length z) (I.length) ((I).map (Value.int .i64)) 1)) :
    Calls Try.prog 21 #[.agg #[.int .i64 now, v, .slice A I.length z]] w fun en w' => ∃ u', en = .returned (.agg #[.int .i64 (now + 1 : Nat), v, u']) ∧ OwnS w' w.heap.size 3 1 u' (I.length + 1) ((I ++ [((now + 1 : Nat) : Int)]).map vi) ∧ Ch [] w w' := by
  have C0 := Lib.hid (Ch.refl [] w)
  obtain ⟨i3, I3⟩ := Info.of info3
  have WA := Lib.hid (show IntKind.i64.wrap ((now : Int) + 1) = ((now + 1 : Nat) : Int) by rw [wr64 (by have := HW.out; omega)]; omega)
  go_enter Try.func21, Try.ntmps21
  refine q_ (fun Q hQ hP => ?_)
  refine s_ (fun K1 hK1 => ?_)
  refine ef_ (fun K2 hK2 => ?_)
  refine e_boxN (by rfl) rfl rfl (cs := #[.int .i64 now, v, .slice A I.length z]) (v := .agg #[.int .i64 now, v, .slice A I.length z]) (by rfl) rfl ?_
  rintro g3 w4 HG5 B6 C7
  have nw8 := Lib.hid (show w.heap.size ≤ g3 by have := C0.out.size; have := HG5.out; omega)
  have nx9 := Lib.hid (SI.out.ne_new (by decide) HG5)
  have C0' := Lib.hid (show Ch [] w w4 from C0.out.trans' C7 (fun x hx => absurd hx (by simp)))
  have SI' := Lib.hid (show SrcIs w4 (.slice A I.length z) (I.length) ((I).map (Value.int .i64)) 1 from SI.out.chx C7 xnin_nil)
  clear C0 SI
  have C0 := C0'; clear C0'
  have SI := SI'; clear SI'
  have Fg3 := Lib.hid (show Blk w4 g3 (#[.int .i64 now, v, .slice A I.length z]) 53 from B6); clear B6 C7
  refine hK2 _ _ ?_; clear hK2 K2
  (try simp only [zP, zN, zA, zB, zC])
  refine ef_ (fun K10 hK10 => ?_)
  refine e_alloc (by rfl) rfl rfl (cs := #[.int .i64 0, .slice none 0 0, .slice none 0 0]) (by kernel_rfl) ?_
  rintro g11 w12 HG13 B14 C15
  have nw16 := Lib.hid (show w.heap.size ≤ g11 by have := C0.out.size; have := HG13.out; omega)
  have nx17 := Lib.hid (SI.out.ne_new (by decide) HG13)
  have ne18 := Lib.hid (Fg3.out.ne_new HG13)
  have C0' := Lib.hid (show Ch [] w w12 from C0.out.trans' C15 (fun x hx => absurd hx (by simp)))
  have SI' := Lib.hid (show SrcIs w12 (.slice A I.length z) (I.length) ((I).map (Value.int .i64)) 1 from SI.out.chx C15 xnin_nil)
  have Fg3' := Lib.hid (show Blk w12 g3 (#[.int .i64 now, v, .slice A I.length z]) 53 from C15.blk Fg3.out nin_nil)
  clear C0 SI Fg3
  have C0 := C0'; clear C0'
  have SI := SI'; clear SI'
  have Fg3 := Fg3'; clear Fg3'
  have Fg11 := Lib.hid (show Blk w12 g11 (#[.int .i64 0, .slice none 0 0, .slice none 0 0]) 53 from B14); clear B14 C15
  refine hK10 _ _ ?_; clear hK10 K10
  (try simp only [zP, zN, zA, zB, zC])
  refine nl_ (hK1 _ _ ?_); clear hK1 K1
  refine s_ (fun K19 hK19 => ?_)
  refine pu_ (v := .pointer (some ⟨g3, 0, none⟩)) (y_run (by rfl) (fun W => by go_simp)) ?_
  (try simp only [zP, zN, zA, zB, zC])
  refine ld_ (v := .int .i64 now) rfl (by rfl) (by rfl) (run_load_one ((Fg3.out.cell 0).trans rfl) Try.underlying3 rfl) ?_
  (try simp only [zP, zN, zA, zB, zC])
  refine pu_ (v := .int .i64 (now + 1 : Nat)) (y_run (by rfl) (fun W => by have d := WA.out; go_simp)) ?_
  (try simp only [zP, zN, zA, zB, zC])
  refine pu_ (v := .pointer (some ⟨g3, 0, none⟩)) (y_run (by rfl) (fun W => by go_simp)) ?_
  (try simp only [zP, zN, zA, zB, zC])
  refine ef_ (fun K20 hK20 => ?_)
  refine e_store1 (b := g3) (j := 0) (v := .int .i64 (now + 1 : Nat)) (by rfl) rfl rfl (by rfl) (by rfl) Fg3.out (show 0 < 3 by omega) (by kernel_rfl) rfl ?_
  rintro w21 B22 C23
  have C0' := Lib.hid (show Ch [] w w21 from C0.out.trans' C23 (inw_cons (.inr nw8.out) inw_nil))
  have SI' := Lib.hid (show SrcIs w21 (.slice A I.length z) (I.length) ((I).map (Value.int .i64)) 1 from SI.out.chx C23 (xnin_cons nx9.out xnin_nil))
  have Fg11' := Lib.hid (show Blk w21 g11 (#[.int .i64 0, .slice none 0 0, .slice none 0 0]) 53 from C23.blk Fg11.out (nin_cons (Ne.symm ne18.out) nin_nil))
  clear C0 SI Fg11
  have C0 := C0'; clear C0'
  have SI := SI'; clear SI'
  have Fg11 := Fg11'; clear Fg11'
  clear Fg3; have Fg3 := Lib.hid (show Blk w21 g3 (#[.int .i64 (now + 1 : Nat), v, .slice A I.length z]) 53 from B22); clear B22 C23
  refine hK20 _ _ ?_; clear hK20 K20
  (try simp only [zP, zN, zA, zB, zC])
  refine nl_ (hK19 _ _ ?_); clear hK19 K19
  refine sq_ (fun K24 hK24 => ?_)
  refine startk_ (S := fun W => Blk W g3 (#[.int .i64 (now + 1 : Nat), v, .slice A I.length z]) 53 ∧ True) (ds := [9]) #[false, false, false, false, false, false, false, false, false, false] (by kernel_rfl) rfl rfl (fun W c => ⟨c.blk Fg3.out nin_nil, trivial⟩) (fun w25 C26 hS27 => ?_)
  have C0' := Lib.hid (show Ch [] w w25 from C0.out.trans' C26 (fun x hx => absurd hx (by simp)))
  have SI' := Lib.hid (show SrcIs w25 (.slice A I.length z) (I.length) ((I).map (Value.int .i64)) 1 from SI.out.chx C26 xnin_nil)
  have Fg3' := Lib.hid (show Blk w25 g3 (#[.int .i64 (now + 1 : Nat), v, .slice A I.length z]) 53 from C26.blk Fg3.out nin_nil)
  have Fg11' := Lib.hid (show Blk w25 g11 (#[.int .i64 0, .slice none 0 0, .slice none 0 0]) 53 from C26.blk Fg11.out nin_nil)
  clear C0 SI Fg3 Fg11
  have C0 := C0'; clear C0'
  have SI := SI'; clear SI'
  have Fg3 := Fg3'; clear Fg3'
  have Fg11 := Fg11'; clear Fg11'
  clear C26
  refine pure_ (i := 1) (N := some 8) (v := .pointer (some ⟨g3, 2, none⟩)) #[false, true, false, false, false, false, false, false, false, false] rfl rfl (by kernel_rfl) (fun c a w h => hP c a _ _ w h) (y_run (by rfl) (fun W => by go_simp)) rfl ?_
  (try simp only [zP, zN, zA, zB, zC])
  refine take_ (i := 2) (N := some 9) (v := .slice A I.length z) #[false, true, true, false, false, false, false, false, false, false] rfl rfl (by kernel_rfl) (fun c a w h => hP c a _ _ w h) (y_load (p := ⟨g3, 2, none⟩) rfl (by rfl) (by rfl) (fun W hS => run_load_one ((hS.1.cell 2).trans rfl) Try.underlying44 rfl)) hS27 rfl ?_
  (try simp only [zP, zN, zA, zB, zC])
  refine pure_ (i := 4) (N := some 11) (v := .pointer (some ⟨g3, 0, none⟩)) #[false, true, true, false, true, false, false, false, false, false] rfl rfl (by kernel_rfl) (fun c a w h => hP c a _ _ w h) (y_run (by rfl) (fun W => by go_simp)) rfl ?_
  (try simp only [zP, zN, zA, zB, zC])
  refine take_ (i := 5) (N := some 12) (v := .int .i64 (now + 1 : Nat)) #[false, true, true, false, true, true, false, false, false, false] rfl rfl (by kernel_rfl) (fun c a w h => hP c a _ _ w h) (y_load (p := ⟨g3, 0, none⟩) rfl (by rfl) (by rfl) (fun W hS => run_load_one ((hS.1.cell 0).trans rfl) Try.underlying3 rfl)) hS27 rfl ?_
  (try simp only [zP, zN, zA, zB, zC])
  refine two_ (i := 0) (j := 6) (Ni := some 7) (Nj := some 13) #[true, true, true, false, true, true, false, false, false, false] #[false, true, true, false, true, true, true, false, false, false] rfl rfl rfl rfl (by kernel_rfl) (by simp) (by simp) (fun K28 hK28 => ?_) (fun K29 hK29 => ?_)
  · refine e_buildS0 (by rfl) rfl rfl Try.underlying44 I3.hi ?_
    rintro g30 w31 HG32 C34
    have C0' := Lib.hid (show Ch [] w w31 from C0.out.trans' C34 (fun x hx => absurd hx (by simp)))
    have SI' := Lib.hid (show SrcIs w31 (.slice A I.length z) (I.length) ((I).map (Value.int .i64)) 1 from SI.out.chx C34 xnin_nil)
    have Fg3' := Lib.hid (show Blk w31 g3 (#[.int .i64 (now + 1 : Nat), v, .slice A I.length z]) 53 from C34.blk Fg3.out nin_nil)
    have Fg11' := Lib.hid (show Blk w31 g11 (#[.int .i64 0, .slice none 0 0, .slice none 0 0]) 53 from C34.blk Fg11.out nin_nil)
    clear C0 SI Fg3 Fg11
    have C0 := C0'; clear C0'
    have SI := SI'; clear SI'
    have Fg3 := Fg3'; clear Fg3'
    have Fg11 := Fg11'; clear Fg11'
    clear C34
    have Z35 := Lib.hid (show OwnS w31 w.heap.size 3 1 (.slice (some ⟨g30, 0, none⟩) 0 0) (0) ([]) from OwnS.nil _ _ _ _ _)
    refine hK28.out _ _ ⟨Fg3.out, trivial⟩ (fun hS36 => ?_); clear hK28 K28
    (try simp only [zP, zN, zA, zB, zC])
    refine two_ (i := 3) (j := 6) (Ni := some 10) (Nj := some 13) #[true, true, true, true, true, true, false, false, false, false] #[true, true, true, false, true, true, true, false, false, false] rfl rfl rfl rfl (by kernel_rfl) (by simp) (by simp) (fun K37 hK37 => ?_) (fun K38 hK38 => ?_)
    · refine e_append (by rfl) rfl rfl (w.heap.size) 3 _ _ 1 8 Try.underlying44 I3.hi I3.hz I3.hs I3.hb rfl (by decide) (.slice (some ⟨g30, 0, none⟩) 0 0) (0) ([]) (by rfl) Z35.out (.slice A I.length z) I.length (I.map vi) (by rfl) SI.out (vi_one _) (by have := HN.out; unfold maxLen; omega) (by have := HN.out; omega) C0.out.size ?_
      rintro v39 w40 O41 C42 R43 -
      replace C42 : Ch [] _ _ := C42
      replace R43 : ∀ k, k ∈ rl v39 → w31.heap.size ≤ k := fun k hk => (R43 k hk).elim (fun h => absurd h (by simp [rl])) id
      have rw44 := Lib.hid (show ∀ x, x ∈ rl v39 → x ∈ [] ∨ w.heap.size ≤ x from fun x hx => .inr (by have := R43 x hx; have := C0.out.size; omega))
      have xr45 := Lib.hid (show ∀ k, k ∈ xb (.slice A I.length z) → k ∉ rl v39 from fun k hk hm => by have := R43 k hm; have := SI.out.lt (by decide) k hk; omega)
      have C0' := Lib.hid (show Ch [] w w40 from C0.out.trans' C42 (fun x hx => absurd hx (by simp)))
      have SI' := Lib.hid (show SrcIs w40 (.slice A I.length z) (I.length) ((I).map (Value.int .i64)) 1 from SI.out.chx C42 xnin_nil)
      have Fg3' := Lib.hid (show Blk w40 g3 (#[.int .i64 (now + 1 : Nat), v, .slice A I.length z]) 53 from C42.blk Fg3.out nin_nil)
      have Fg11' := Lib.hid (show Blk w40 g11 (#[.int .i64 0, .slice none 0 0, .slice none 0 0]) 53 from C42.blk Fg11.out nin_nil)
      clear C0 SI Fg3 Fg11
      have C0 := C0'; clear C0'
      have SI := SI'; clear SI'
      have Fg3 := Fg3'; clear Fg3'
      have Fg11 := Fg11'; clear Fg11'
      clear Z35
      have Z35 := Lib.hid (show OwnS w40 w.heap.size 3 1 (v39) (I.length) (I.map vi) from (by simpa using O41)); clear O41 C42
      refine hK37.out _ _ ⟨Fg3.out, trivial⟩ (fun hS46 => ?_); clear hK37 K37
      (try simp only [zP, zN, zA, zB, zC])
      refine one_ (i := 6) (N := some 13) #[true, true, true, true, true, true, true, false, false, false] rfl rfl (by kernel_rfl) (by simp) (fun K47 hK47 => ?_)
      refine e_buildS (parts := #[(0, .int .i64 (now + 1 : Nat))]) (cells := #[.int .i64 (now + 1 : Nat)]) (by rfl) rfl rfl (by first | rfl | (simp only [List.map_toArray, List.map_cons, List.map_nil]; first | done | rfl)) Try.underlying44 I3.hi I3.hz I3.hs (by decide) (by decide) (by kernel_rfl) ?_
      rintro g48 w49 HG50 B51 C52
      have nw53 := Lib.hid (show w.heap.size ≤ g48 by have := C0.out.size; have := HG50.out; omega)
      have nx54 := Lib.hid (SI.out.ne_new (by decide) HG50)
      have nr55 := Lib.hid (Z35.out.ne_new HG50)
      have C0' := Lib.hid (show Ch [] w w49 from C0.out.trans' C52 (fun x hx => absurd hx (by simp)))
      have SI' := Lib.hid (show SrcIs w49 (.slice A I.length z) (I.length) ((I).map (Value.int .i64)) 1 from SI.out.chx C52 xnin_nil)
      have Fg3' := Lib.hid (show Blk w49 g3 (#[.int .i64 (now + 1 : Nat), v, .slice A I.length z]) 53 from C52.blk Fg3.out nin_nil)
      have Fg11' := Lib.hid (show Blk w49 g11 (#[.int .i64 0, .slice none 0 0, .slice none 0 0]) 53 from C52.blk Fg11.out nin_nil)
      have Z35' := Lib.hid (show OwnS w49 w.heap.size 3 1 (v39) (I.length) (I.map vi) from Z35.out.ch C52 rnin_nil)
      clear C0 SI Fg3 Fg11 Z35
      have C0 := C0'; clear C0'
      have SI := SI'; clear SI'
      have Fg3 := Fg3'; clear Fg3'
      have Fg11 := Fg11'; clear Fg11'
      have Z35 := Z35'; clear Z35'
      have Fg48 := Lib.hid (show Blk w49 g48 (#[.int .i64 (now + 1 : Nat)]) 3 from B51); clear B51 C52
      refine hK47.out _ _ ⟨Fg3.out, trivial⟩ (fun hS56 => ?_); clear hK47 K47
      (try simp only [zP, zN, zA, zB, zC])
      refine one_ (i := 7) (N := some 14) #[true, true, true, true, true, true, true, true, false, false] rfl rfl (by kernel_rfl) (by simp) (fun K57 hK57 => ?_)
      refine e_append (by rfl) rfl rfl (w.heap.size) 3 _ _ 1 8 Try.underlying44 I3.hi I3.hz I3.hs I3.hb rfl (by decide) (v39) (I.length) (I.map vi) (by rfl) Z35.out (.slice (some ⟨g48, 0, none⟩) 1 1) 1 ([Value.int .i64 (now + 1 : Nat)]) (by rfl) ⟨rfl, .inr ⟨_, _, rfl, CellsAt.blk Fg48.out 0⟩⟩ (ones_cons rfl ones_nil) (by have := HN.out; unfold maxLen; omega) (by have := HN.out; omega) C0.out.size ?_
      rintro v58 w59 O60 C61 R62 -
      have rw63 := Lib.hid (show ∀ x, x ∈ rl v58 → x ∈ [] ∨ w.heap.size ≤ x from fun x hx => (R62 x hx).elim (fun h => rw44.out _ h) (fun h => .inr (by have := C0.out.size; omega)))
      have xr64 := Lib.hid (show ∀ k, k ∈ xb (.slice A I.length z) → k ∉ rl v58 from fun k hk hm => (R62 k hm).elim (fun h => xr45.out k hk h) (fun h => by have := SI.out.lt (by decide) k hk; omega))
      have nr65 := Lib.hid (show g48 ∉ rl v58 from fun hk => (R62 _ hk).elim nr55.out (fun h => by have := Fg48.out.lt; omega))
      have C0' := Lib.hid (show Ch [] w w59 from C0.out.trans' C61 (fun x hx => .inr (Z35.out.lt x hx).1))
      have SI' := Lib.hid (show SrcIs w59 (.slice A I.length z) (I.length) ((I).map (Value.int .i64)) 1 from SI.out.chx C61 xr45.out)
      have Fg3' := Lib.hid (show Blk w59 g3 (#[.int .i64 (now + 1 : Nat), v, .slice A I.length z]) 53 from C61.blk Fg3.out (Z35.out.ne Fg3.out (by decide)))
      have Fg11' := Lib.hid (show Blk w59 g11 (#[.int .i64 0, .slice none 0 0, .slice none 0 0]) 53 from C61.blk Fg11.out (Z35.out.ne Fg11.out (by decide)))
      have Fg48' := Lib.hid (show Blk w59 g48 (#[.int .i64 (now + 1 : Nat)]) 3 from C61.blk Fg48.out nr55.out)
      clear C0 SI Fg3 Fg11 Fg48
      have C0 := C0'; clear C0'
      have SI := SI'; clear SI'
      have Fg3 := Fg3'; clear Fg3'
      have Fg11 := Fg11'; clear Fg11'
      have Fg48 := Fg48'; clear Fg48'
      clear Z35
      have Z35 := Lib.hid (show OwnS w59 w.heap.size 3 1 (v58) (I.length + 1) (I.map vi ++ [Value.int .i64 (now + 1 : Nat)]) from O60); clear O60 C61
      refine hK57.out _ _ ⟨Fg3.out, trivial⟩ (fun hS66 => ?_); clear hK57 K57
      (try simp only [zP, zN, zA, zB, zC])
      refine pure_ (i := 8) (N := some 15) (v := .pointer (some ⟨g3, 2, none⟩)) #[true, true, true, true, true, true, true, true, true, false] rfl rfl (by kernel_rfl) (fun c a w h => hP c a _ _ w h) (y_run (by rfl) (fun W => by go_simp)) rfl ?_
      (try simp only [zP, zN, zA, zB, zC])
      refine last_ (i := 9) (N := none) #[true, true, true, true, true, true, true, true, true, true] rfl rfl (by kernel_rfl) (by simp) (fun K67 hK67 => ?_)
      refine e_store1 (b := g3) (j := 2) (v := v58) (by rfl) rfl rfl (by rfl) (by rfl) Fg3.out (show 2 < 3 by omega) (by kernel_rfl) Z35.out.one ?_
      rintro w68 B69 C70
      have C0' := Lib.hid (show Ch [] w w68 from C0.out.trans' C70 (inw_cons (.inr nw8.out) inw_nil))
      have SI' := Lib.hid (show SrcIs w68 (.slice A I.length z) (I.length) ((I).map (Value.int .i64)) 1 from SI.out.chx C70 (xnin_cons nx9.out xnin_nil))
      have Fg11' := Lib.hid (show Blk w68 g11 (#[.int .i64 0, .slice none 0 0, .slice none 0 0]) 53 from C70.blk Fg11.out (nin_cons (Ne.symm ne18.out) nin_nil))
      have Z35' := Lib.hid (show OwnS w68 w.heap.size 3 1 (v58) (I.length + 1) (I.map vi ++ [Value.int .i64 (now + 1 : Nat)]) from Z35.out.ch C70 (rnin_cons (Z35.out.ne Fg3.out (by decide)) rnin_nil))
      have Fg48' := Lib.hid (show Blk w68 g48 (#[.int .i64 (now + 1 : Nat)]) 3 from C70.blk Fg48.out (nin_cons (Blk.ne_type Fg48.out Fg3.out (by decide)) nin_nil))
      clear C0 SI Fg11 Z35 Fg48
      have C0 := C0'; clear C0'
      have SI := SI'; clear SI'
      have Fg11 := Fg11'; clear Fg11'
      have Z35 := Z35'; clear Z35'
      have Fg48 := Fg48'; clear Fg48'
      clear Fg3; have Fg3 := Lib.hid (show Blk w68 g3 (#[.int .i64 (now + 1 : Nat), v, v58]) 53 from B69); clear B69 C70
      refine hK67.out _ _ ?_; clear hK67 K67
      (try simp only [zP, zN, zA, zB, zC])
      refine done_ (by kernel_rfl) (th_norm (hK24 _ _ ?_)); clear hK24 K24
      refine s_ (fun K71 hK71 => ?_)
      refine ld_ (v := .agg (#[.int .i64 (now + 1 : Nat), v, v58])) rfl (by rfl) (by rfl) (run_loadVar_row _ _ 53 53 (#[.int .i64 (now + 1 : Nat), v, v58]) (0, 0) _ Fg3.out Try.underlying53 rfl (by kernel_rfl)) ?_
      (try simp only [zP, zN, zA, zB, zC])
      refine ef_ (fun K72 hK72 => ?_)
      refine e_storeN (cells := (#[.int .i64 (now + 1 : Nat), v, v58])) (by rfl) rfl rfl (by rfl) (by rfl) Fg11.out (by kernel_rfl) (by rfl) (ones_cons rfl (ones_cons HV (ones_cons Z35.out.one ones_nil))) ?_
      rintro w73 B74 C75
      have C0' := Lib.hid (show Ch [] w w73 from C0.out.trans' C75 (inw_cons (.inr nw16.out) inw_nil))
      have SI' := Lib.hid (show SrcIs w73 (.slice A I.length z) (I.length) ((I).map (Value.int .i64)) 1 from SI.out.chx C75 (xnin_cons nx17.out xnin_nil))
      have Fg3' := Lib.hid (show Blk w73 g3 (#[.int .i64 (now + 1 : Nat), v, v58]) 53 from C75.blk Fg3.out (nin_cons ne18.out nin_nil))
      have Z35' := Lib.hid (show OwnS w73 w.heap.size 3 1 (v58) (I.length + 1) (I.map vi ++ [Value.int .i64 (now + 1 : Nat)]) from Z35.out.ch C75 (rnin_cons (Z35.out.ne Fg11.out (by decide)) rnin_nil))
      have Fg48' := Lib.hid (show Blk w73 g48 (#[.int .i64 (now + 1 : Nat)]) 3 from C75.blk Fg48.out (nin_cons (Blk.ne_type Fg48.out Fg11.out (by decide)) nin_nil))
      clear C0 SI Fg3 Z35 Fg48
      have C0 := C0'; clear C0'
      have SI := SI'; clear SI'
      have Fg3 := Fg3'; clear Fg3'
      have Z35 := Z35'; clear Z35'
      have Fg48 := Fg48'; clear Fg48'
      clear Fg11; have Fg11 := Lib.hid (show Blk w73 g11 ((#[.int .i64 (now + 1 : Nat), v, v58])) 53 from B74); clear B74 C75
      refine hK72 _ _ ?_; clear hK72 K72
      (try simp only [zP, zN, zA, zB, zC])
      refine nl_ (hK71 _ _ ?_); clear hK71 K71
      refine wp_ret ?_
      refine hQ _ _ _ ?_
      refine bodyPost_ret (res1 rfl (rdv_cell (by rfl) (run_loadVar_row _ _ 53 53 ((#[.int .i64 (now + 1 : Nat), v, v58])) (0, 0) _ Fg11.out Try.underlying53 rfl (by kernel_rfl)))) rfl ?_
      exact ⟨_, rfl, by have h := Z35.out; rwa [show I.map vi ++ [Value.int .i64 ((now + 1 : Nat) : Int)] = (I ++ [((now + 1 : Nat) : Int)]).map vi by simp] at h, C0.out⟩
    · refine e_buildS (parts := #[(0, .int .i64 (now + 1 : Nat))]) (cells := #[.int .i64 (now + 1 : Nat)]) (by rfl) rfl rfl (by first | rfl | (simp only [List.map_toArray, List.map_cons, List.map_nil]; first | done | rfl)) Try.underlying44 I3.hi I3.hz I3.hs (by decide) (by decide) (by kernel_rfl) ?_
      rintro g76 w77 HG78 B79 C80
      have nw81 := Lib.hid (show w.heap.size ≤ g76 by have := C0.out.size; have := HG78.out; omega)
      have nx82 := Lib.hid (SI.out.ne_new (by decide) HG78)
      have nr83 := Lib.hid (Z35.out.ne_new HG78)
      have C0' := Lib.hid (show Ch [] w w77 from C0.out.trans' C80 (fun x hx => absurd hx (by simp)))
      have SI' := Lib.hid (show SrcIs w77 (.slice A I.length z) (I.length) ((I).map (Value.int .i64)) 1 from SI.out.chx C80 xnin_nil)
      have Fg3' := Lib.hid (show Blk w77 g3 (#[.int .i64 (now + 1 : Nat), v, .slice A I.length z]) 53 from C80.blk Fg3.out nin_nil)
      have Fg11' := Lib.hid (show Blk w77 g11 (#[.int .i64 0, .slice none 0 0, .slice none 0 0]) 53 from C80.blk Fg11.out nin_nil)
      have Z35' := Lib.hid (show OwnS w77 w.heap.size 3 1 (.slice (some ⟨g30, 0, none⟩) 0 0) (0) ([]) from Z35.out.ch C80 (fun k hk => absurd hk (by simp [rl])))
      clear C0 SI Fg3 Fg11 Z35
      have C0 := C0'; clear C0'
      have SI := SI'; clear SI'
      have Fg3 := Fg3'; clear Fg3'
      have Fg11 := Fg11'; clear Fg11'
      have Z35 := Z35'; clear Z35'
      have Fg76 := Lib.hid (show Blk w77 g76 (#[.int .i64 (now + 1 : Nat)]) 3 from B79); clear B79 C80
      refine hK38.out _ _ ⟨Fg3.out, trivial⟩ (fun hS84 => ?_); clear hK38 K38
      (try simp only [zP, zN, zA, zB, zC])
      refine one_ (i := 3) (N := some 10) #[true, true, true, true, true, true, true, false, false, false] rfl rfl (by kernel_rfl) (by simp) (fun K85 hK85 => ?_)
      refine e_append (by rfl) rfl rfl (w.heap.size) 3 _ _ 1 8 Try.underlying44 I3.hi I3.hz I3.hs I3.hb rfl (by decide) (.slice (some ⟨g30, 0, none⟩) 0 0) (0) ([]) (by rfl) Z35.out (.slice A I.length z) I.length (I.map vi) (by rfl) SI.out (vi_one _) (by have := HN.out; unfold maxLen; omega) (by have := HN.out; omega) C0.out.size ?_
      rintro v86 w87 O88 C89 R90 -
      replace C89 : Ch [] _ _ := C89
      replace R90 : ∀ k, k ∈ rl v86 → w77.heap.size ≤ k := fun k hk => (R90 k hk).elim (fun h => absurd h (by simp [rl])) id
      have rw91 := Lib.hid (show ∀ x, x ∈ rl v86 → x ∈ [] ∨ w.heap.size ≤ x from fun x hx => .inr (by have := R90 x hx; have := C0.out.size; omega))
      have xr92 := Lib.hid (show ∀ k, k ∈ xb (.slice A I.length z) → k ∉ rl v86 from fun k hk hm => by have := R90 k hm; have := SI.out.lt (by decide) k hk; omega)
      have nr93 := Lib.hid (show g76 ∉ rl v86 from fun hk => by have := R90 _ hk; have := Fg76.out.lt; omega)
      have C0' := Lib.hid (show Ch [] w w87 from C0.out.trans' C89 (fun x hx => absurd hx (by simp)))
      have SI' := Lib.hid (show SrcIs w87 (.slice A I.length z) (I.length) ((I).map (Value.int .i64)) 1 from SI.out.chx C89 xnin_nil)
      have Fg3' := Lib.hid (show Blk w87 g3 (#[.int .i64 (now + 1 : Nat), v, .slice A I.length z]) 53 from C89.blk Fg3.out nin_nil)
      have Fg11' := Lib.hid (show Blk w87 g11 (#[.int .i64 0, .slice none 0 0, .slice none 0 0]) 53 from C89.blk Fg11.out nin_nil)
      have Fg76' := Lib.hid (show Blk w87 g76 (#[.int .i64 (now + 1 : Nat)]) 3 from C89.blk Fg76.out nin_nil)
      clear C0 SI Fg3 Fg11 Fg76
      have C0 := C0'; clear C0'
      have SI := SI'; clear SI'
      have Fg3 := Fg3'; clear Fg3'
      have Fg11 := Fg11'; clear Fg11'
      have Fg76 := Fg76'; clear Fg76'
      clear Z35
      have Z35 := Lib.hid (show OwnS w87 w.heap.size 3 1 (v86) (I.length) (I.map vi) from (by simpa using O88)); clear O88 C89
      refine hK85.out _ _ ⟨Fg3.out, trivial⟩ (fun hS94 => ?_); clear hK85 K85
      (try simp only [zP, zN, zA, zB, zC])
      refine one_ (i := 7) (N := some 14) #[true, true, true, true, true, true, true, true, false, false] rfl rfl (by kernel_rfl) (by simp) (fun K95 hK95 => ?_)
      refine e_append (by rfl) rfl rfl (w.heap.size) 3 _ _ 1 8 Try.underlying44 I3.hi I3.hz I3.hs I3.hb rfl (by decide) (v86) (I.length) (I.map vi) (by rfl) Z35.out (.slice (some ⟨g76, 0, none⟩) 1 1) 1 ([Value.int .i64 (now + 1 : Nat)]) (by rfl) ⟨rfl, .inr ⟨_, _, rfl, CellsAt.blk Fg76.out 0⟩⟩ (ones_cons rfl ones_nil) (by have := HN.out; unfold maxLen; omega) (by have := HN.out; omega) C0.out.size ?_
      rintro v96 w97 O98 C99 R100 -
      have rw101 := Lib.hid (show ∀ x, x ∈ rl v96 → x ∈ [] ∨ w.heap.size ≤ x from fun x hx => (R100 x hx).elim (fun h => rw91.out _ h) (fun h => .inr (by have := C0.out.size; omega)))
      have xr102 := Lib.hid (show ∀ k, k ∈ xb (.slice A I.length z) → k ∉ rl v96 from fun k hk hm => (R100 k hm).elim (fun h => xr92.out k hk h) (fun h => by have := SI.out.lt (by decide) k hk; omega))
      have nr103 := Lib.hid (show g76 ∉ rl v96 from fun hk => (R100 _ hk).elim nr93.out (fun h => by have := Fg76.out.lt; omega))
      have C0' := Lib.hid (show Ch [] w w97 from C0.out.trans' C99 (fun x hx => .inr (Z35.out.lt x hx).1))
      have SI' := Lib.hid (show SrcIs w97 (.slice A I.length z) (I.length) ((I).map (Value.int .i64)) 1 from SI.out.chx C99 xr92.out)
      have Fg3' := Lib.hid (show Blk w97 g3 (#[.int .i64 (now + 1 : Nat), v, .slice A I.length z]) 53 from C99.blk Fg3.out (Z35.out.ne Fg3.out (by decide)))
      have Fg11' := Lib.hid (show Blk w97 g11 (#[.int .i64 0, .slice none 0 0, .slice none 0 0]) 53 from C99.blk Fg11.out (Z35.out.ne Fg11.out (by decide)))
      have Fg76' := Lib.hid (show Blk w97 g76 (#[.int .i64 (now + 1 : Nat)]) 3 from C99.blk Fg76.out nr93.out)
      clear C0 SI Fg3 Fg11 Fg76
      have C0 := C0'; clear C0'
      have SI := SI'; clear SI'
      have Fg3 := Fg3'; clear Fg3'
      have Fg11 := Fg11'; clear Fg11'
      have Fg76 := Fg76'; clear Fg76'
      clear Z35
      have Z35 := Lib.hid (show OwnS w97 w.heap.size 3 1 (v96) (I.length + 1) (I.map vi ++ [Value.int .i64 (now + 1 : Nat)]) from O98); clear O98 C99
      refine hK95.out _ _ ⟨Fg3.out, trivial⟩ (fun hS104 => ?_); clear hK95 K95
      (try simp only [zP, zN, zA, zB, zC])
      refine pure_ (i := 8) (N := some 15) (v := .pointer (some ⟨g3, 2, none⟩)) #[true, true, true, true, true, true, true, true, true, false] rfl rfl (by kernel_rfl) (fun c a w h => hP c a _ _ w h) (y_run (by rfl) (fun W => by go_simp)) rfl ?_
      (try simp only [zP, zN, zA, zB, zC])
      refine last_ (i := 9) (N := none) #[true, true, true, true, true, true, true, true, true, true] rfl rfl (by kernel_rfl) (by simp) (fun K105 hK105 => ?_)
      refine e_store1 (b := g3) (j := 2) (v := v96) (by rfl) rfl rfl (by rfl) (by rfl) Fg3.out (show 2 < 3 by omega) (by kernel_rfl) Z35.out.one ?_
      rintro w106 B107 C108
      have C0' := Lib.hid (show Ch [] w w106 from C0.out.trans' C108 (inw_cons (.inr nw8.out) inw_nil))
      have SI' := Lib.hid (show SrcIs w106 (.slice A I.length z) (I.length) ((I).map (Value.int .i64)) 1 from SI.out.chx C108 (xnin_cons nx9.out xnin_nil))
      have Fg11' := Lib.hid (show Blk w106 g11 (#[.int .i64 0, .slice none 0 0, .slice none 0 0]) 53 from C108.blk Fg11.out (nin_cons (Ne.symm ne18.out) nin_nil))
      have Z35' := Lib.hid (show OwnS w106 w.heap.size 3 1 (v96) (I.length + 1) (I.map vi ++ [Value.int .i64 (now + 1 : Nat)]) from Z35.out.ch C108 (rnin_cons (Z35.out.ne Fg3.out (by decide)) rnin_nil))
      have Fg76' := Lib.hid (show Blk w106 g76 (#[.int .i64 (now + 1 : Nat)]) 3 from C108.blk Fg76.out (nin_cons (Blk.ne_type Fg76.out Fg3.out (by decide)) nin_nil))
      clear C0 SI Fg11 Z35 Fg76
      have C0 := C0'; clear C0'
      have SI := SI'; clear SI'
      have Fg11 := Fg11'; clear Fg11'
      have Z35 := Z35'; clear Z35'
      have Fg76 := Fg76'; clear Fg76'
      clear Fg3; have Fg3 := Lib.hid (show Blk w106 g3 (#[.int .i64 (now + 1 : Nat), v, v96]) 53 from B107); clear B107 C108
      refine hK105.out _ _ ?_; clear hK105 K105
      (try simp only [zP, zN, zA, zB, zC])
      refine done_ (by kernel_rfl) (th_norm (hK24 _ _ ?_)); clear hK24 K24
      refine s_ (fun K109 hK109 => ?_)
      refine ld_ (v := .agg (#[.int .i64 (now + 1 : Nat), v, v96])) rfl (by rfl) (by rfl) (run_loadVar_row _ _ 53 53 (#[.int .i64 (now + 1 : Nat), v, v96]) (0, 0) _ Fg3.out Try.underlying53 rfl (by kernel_rfl)) ?_
      (try simp only [zP, zN, zA, zB, zC])
      refine ef_ (fun K110 hK110 => ?_)
      refine e_storeN (cells := (#[.int .i64 (now + 1 : Nat), v, v96])) (by rfl) rfl rfl (by rfl) (by rfl) Fg11.out (by kernel_rfl) (by rfl) (ones_cons rfl (ones_cons HV (ones_cons Z35.out.one ones_nil))) ?_
      rintro w111 B112 C113
      have C0' := Lib.hid (show Ch [] w w111 from C0.out.trans' C113 (inw_cons (.inr nw16.out) inw_nil))
      have SI' := Lib.hid (show SrcIs w111 (.slice A I.length z) (I.length) ((I).map (Value.int .i64)) 1 from SI.out.chx C113 (xnin_cons nx17.out xnin_nil))
      have Fg3' := Lib.hid (show Blk w111 g3 (#[.int .i64 (now + 1 : Nat), v, v96]) 53 from C113.blk Fg3.out (nin_cons ne18.out nin_nil))
      have Z35' := Lib.hid (show OwnS w111 w.heap.size 3 1 (v96) (I.length + 1) (I.map vi ++ [Value.int .i64 (now + 1 : Nat)]) from Z35.out.ch C113 (rnin_cons (Z35.out.ne Fg11.out (by decide)) rnin_nil))
      have Fg76' := Lib.hid (show Blk w111 g76 (#[.int .i64 (now + 1 : Nat)]) 3 from C113.blk Fg76.out (nin_cons (Blk.ne_type Fg76.out Fg11.out (by decide)) nin_nil))
      clear C0 SI Fg3 Z35 Fg76
      have C0 := C0'; clear C0'
      have SI := SI'; clear SI'
      have Fg3 := Fg3'; clear Fg3'
      have Z35 := Z35'; clear Z35'
      have Fg76 := Fg76'; clear Fg76'
      clear Fg11; have Fg11 := Lib.hid (show Blk w111 g11 ((#[.int .i64 (now + 1 : Nat), v, v96])) 53 from B112); clear B112 C113
      refine hK110 _ _ ?_; clear hK110 K110
      (try simp only [zP, zN, zA, zB, zC])
      refine nl_ (hK109 _ _ ?_); clear hK109 K109
      refine wp_ret ?_
      refine hQ _ _ _ ?_
      refine bodyPost_ret (res1 rfl (rdv_cell (by rfl) (run_loadVar_row _ _ 53 53 ((#[.int .i64 (now + 1 : Nat), v, v96])) (0, 0) _ Fg11.out Try.underlying53 rfl (by kernel_rfl)))) rfl ?_
      exact ⟨_, rfl, by have h := Z35.out; rwa [show I.map vi ++ [Value.int .i64 ((now + 1 : Nat) : Int)] = (I ++ [((now + 1 : Nat) : Int)]).map vi by simp] at h, C0.out⟩
  · refine e_buildS (parts := #[(0, .int .i64 (now + 1 : Nat))]) (cells := #[.int .i64 (now + 1 : Nat)]) (by rfl) rfl rfl (by first | rfl | (simp only [List.map_toArray, List.map_cons, List.map_nil]; first | done | rfl)) Try.underlying44 I3.hi I3.hz I3.hs (by decide) (by decide) (by kernel_rfl) ?_
    rintro g114 w115 HG116 B117 C118
    have nw119 := Lib.hid (show w.heap.size ≤ g114 by have := C0.out.size; have := HG116.out; omega)
    have nx120 := Lib.hid (SI.out.ne_new (by decide) HG116)
    have C0' := Lib.hid (show Ch [] w w115 from C0.out.trans' C118 (fun x hx => absurd hx (by simp)))
    have SI' := Lib.hid (show SrcIs w115 (.slice A I.length z) (I.length) ((I).map (Value.int .i64)) 1 from SI.out.chx C118 xnin_nil)
    have Fg3' := Lib.hid (show Blk w115 g3 (#[.int .i64 (now + 1 : Nat), v, .slice A I.length z]) 53 from C118.blk Fg3.out nin_nil)
    have Fg11' := Lib.hid (show Blk w115 g11 (#[.int .i64 0, .slice none 0 0, .slice none 0 0]) 53 from C118.blk Fg11.out nin_nil)
    clear C0 SI Fg3 Fg11
    have C0 := C0'; clear C0'
    have SI := SI'; clear SI'
    have Fg3 := Fg3'; clear Fg3'
    have Fg11 := Fg11'; clear Fg11'
    have Fg114 := Lib.hid (show Blk w115 g114 (#[.int .i64 (now + 1 : Nat)]) 3 from B117); clear B117 C118
    refine hK29.out _ _ ⟨Fg3.out, trivial⟩ (fun hS121 => ?_); clear hK29 K29
    (try simp only [zP, zN, zA, zB, zC])
    refine one_ (i := 0) (N := some 7) #[true, true, true, false, true, true, true, false, false, false] rfl rfl (by kernel_rfl) (by simp) (fun K122 hK122 => ?_)
    refine e_buildS0 (by rfl) rfl rfl Try.underlying44 I3.hi ?_
    rintro g123 w124 HG125 C127
    have C0' := Lib.hid (show Ch [] w w124 from C0.out.trans' C127 (fun x hx => absurd hx (by simp)))
    have SI' := Lib.hid (show SrcIs w124 (.slice A I.length z) (I.length) ((I).map (Value.int .i64)) 1 from SI.out.chx C127 xnin_nil)
    have Fg3' := Lib.hid (show Blk w124 g3 (#[.int .i64 (now + 1 : Nat), v, .slice A I.length z]) 53 from C127.blk Fg3.out nin_nil)
    have Fg11' := Lib.hid (show Blk w124 g11 (#[.int .i64 0, .slice none 0 0, .slice none 0 0]) 53 from C127.blk Fg11.out nin_nil)
    have Fg114' := Lib.hid (show Blk w124 g114 (#[.int .i64 (now + 1 : Nat)]) 3 from C127.blk Fg114.out nin_nil)
    clear C0 SI Fg3 Fg11 Fg114
    have C0 := C0'; clear C0'
    have SI := SI'; clear SI'
    have Fg3 := Fg3'; clear Fg3'
    have Fg11 := Fg11'; clear Fg11'
    have Fg114 := Fg114'; clear Fg114'
    clear C127
    have Z128 := Lib.hid (show OwnS w124 w.heap.size 3 1 (.slice (some ⟨g123, 0, none⟩) 0 0) (0) ([]) from OwnS.nil _ _ _ _ _)
    refine hK122.out _ _ ⟨Fg3.out, trivial⟩ (fun hS129 => ?_); clear hK122 K122
    (try simp only [zP, zN, zA, zB, zC])
    refine one_ (i := 3) (N := some 10) #[true, true, true, true, true, true, true, false, false, false] rfl rfl (by kernel_rfl) (by simp) (fun K130 hK130 => ?_)
    refine e_append (by rfl) rfl rfl (w.heap.size) 3 _ _ 1 8 Try.underlying44 I3.hi I3.hz I3.hs I3.hb rfl (by decide) (.slice (some ⟨g123, 0, none⟩) 0 0) (0) ([]) (by rfl) Z128.out (.slice A I.length z) I.length (I.map vi) (by rfl) SI.out (vi_one _) (by have := HN.out; unfold maxLen; omega) (by have := HN.out; omega) C0.out.size ?_
    rintro v131 w132 O133 C134 R135 -
    replace C134 : Ch [] _ _ := C134
    replace R135 : ∀ k, k ∈ rl v131 → w124.heap.size ≤ k := fun k hk => (R135 k hk).elim (fun h => absurd h (by simp [rl])) id
    have rw136 := Lib.hid (show ∀ x, x ∈ rl v131 → x ∈ [] ∨ w.heap.size ≤ x from fun x hx => .inr (by have := R135 x hx; have := C0.out.size; omega))
    have xr137 := Lib.hid (show ∀ k, k ∈ xb (.slice A I.length z) → k ∉ rl v131 from fun k hk hm => by have := R135 k hm; have := SI.out.lt (by decide) k hk; omega)
    have nr138 := Lib.hid (show g114 ∉ rl v131 from fun hk => by have := R135 _ hk; have := Fg114.out.lt; omega)
    have C0' := Lib.hid (show Ch [] w w132 from C0.out.trans' C134 (fun x hx => absurd hx (by simp)))
    have SI' := Lib.hid (show SrcIs w132 (.slice A I.length z) (I.length) ((I).map (Value.int .i64)) 1 from SI.out.chx C134 xnin_nil)
    have Fg3' := Lib.hid (show Blk w132 g3 (#[.int .i64 (now + 1 : Nat), v, .slice A I.length z]) 53 from C134.blk Fg3.out nin_nil)
    have Fg11' := Lib.hid (show Blk w132 g11 (#[.int .i64 0, .slice none 0 0, .slice none 0 0]) 53 from C134.blk Fg11.out nin_nil)
    have Fg114' := Lib.hid (show Blk w132 g114 (#[.int .i64 (now + 1 : Nat)]) 3 from C134.blk Fg114.out nin_nil)
    clear C0 SI Fg3 Fg11 Fg114
    have C0 := C0'; clear C0'
    have SI := SI'; clear SI'
    have Fg3 := Fg3'; clear Fg3'
    have Fg11 := Fg11'; clear Fg11'
    have Fg114 := Fg114'; clear Fg114'
    clear Z128
    have Z128 := Lib.hid (show OwnS w132 w.heap.size 3 1 (v131) (I.length) (I.map vi) from (by simpa using O133)); clear O133 C134
    refine hK130.out _ _ ⟨Fg3.out, trivial⟩ (fun hS139 => ?_); clear hK130 K130
    (try simp only [zP, zN, zA, zB, zC])
    refine one_ (i := 7) (N := some 14) #[true, true, true, true, true, true, true, true, false, false] rfl rfl (by kernel_rfl) (by simp) (fun K140 hK140 => ?_)
    refine e_append (by rfl) rfl rfl (w.heap.size) 3 _ _ 1 8 Try.underlying44 I3.hi I3.hz I3.hs I3.hb rfl (by decide) (v131) (I.length) (I.map vi) (by rfl) Z128.out (.slice (some ⟨g114, 0, none⟩) 1 1) 1 ([Value.int .i64 (now + 1 : Nat)]) (by rfl) ⟨rfl, .inr ⟨_, _, rfl, CellsAt.blk Fg114.out 0⟩⟩ (ones_cons rfl ones_nil) (by have := HN.out; unfold maxLen; omega) (by have := HN.out; omega) C0.out.size ?_
    rintro v141 w142 O143 C144 R145 -
    have rw146 := Lib.hid (show ∀ x, x ∈ rl v141 → x ∈ [] ∨ w.heap.size ≤ x from fun x hx => (R145 x hx).elim (fun h => rw136.out _ h) (fun h => .inr (by have := C0.out.size; omega)))
    have xr147 := Lib.hid (show ∀ k, k ∈ xb (.slice A I.length z) → k ∉ rl v141 from fun k hk hm => (R145 k hm).elim (fun h => xr137.out k hk h) (fun h => by have := SI.out.lt (by decide) k hk; omega))
    have nr148 := Lib.hid (show g114 ∉ rl v141 from fun hk => (R145 _ hk).elim nr138.out (fun h => by have := Fg114.out.lt; omega))
    have C0' := Lib.hid (show Ch [] w w142 from C0.out.trans' C144 (fun x hx => .inr (Z128.out.lt x hx).1))
    have SI' := Lib.hid (show SrcIs w142 (.slice A I.length z) (I.length) ((I).map (Value.int .i64)) 1 from SI.out.chx C144 xr137.out)
    have Fg3' := Lib.hid (show Blk w142 g3 (#[.int .i64 (now + 1 : Nat), v, .slice A I.length z]) 53 from C144.blk Fg3.out (Z128.out.ne Fg3.out (by decide)))
    have Fg11' := Lib.hid (show Blk w142 g11 (#[.int .i64 0, .slice none 0 0, .slice none 0 0]) 53 from C144.blk Fg11.out (Z128.out.ne Fg11.out (by decide)))
    have Fg114' := Lib.hid (show Blk w142 g114 (#[.int .i64 (now + 1 : Nat)]) 3 from C144.blk Fg114.out nr138.out)
    clear C0 SI Fg3 Fg11 Fg114
    have C0 := C0'; clear C0'
    have SI := SI'; clear SI'
    have Fg3 := Fg3'; clear Fg3'
    have Fg11 := Fg11'; clear Fg11'
    have Fg114 := Fg114'; clear Fg114'
    clear Z128
    have Z128 := Lib.hid (show OwnS w142 w.heap.size 3 1 (v141) (I.length + 1) (I.map vi ++ [Value.int .i64 (now + 1 : Nat)]) from O143); clear O143 C144
    refine hK140.out _ _ ⟨Fg3.out, trivial⟩ (fun hS149 => ?_); clear hK140 K140
    (try simp only [zP, zN, zA, zB, zC])
    refine pure_ (i := 8) (N := some 15) (v := .pointer (some ⟨g3, 2, none⟩)) #[true, true, true, true, true, true, true, true, true, false] rfl rfl (by kernel_rfl) (fun c a w h => hP c a _ _ w h) (y_run (by rfl) (fun W => by go_simp)) rfl ?_
    (try simp only [zP, zN, zA, zB, zC])
    refine last_ (i := 9) (N := none) #[true, true, true, true, true, true, true, true, true, true] rfl rfl (by kernel_rfl) (by simp) (fun K150 hK150 => ?_)
    refine e_store1 (b := g3) (j := 2) (v := v141) (by rfl) rfl rfl (by rfl) (by rfl) Fg3.out (show 2 < 3 by omega) (by kernel_rfl) Z128.out.one ?_
    rintro w151 B152 C153
    have C0' := Lib.hid (show Ch [] w w151 from C0.out.trans' C153 (inw_cons (.inr nw8.out) inw_nil))
    have SI' := Lib.hid (show SrcIs w151 (.slice A I.length z) (I.length) ((I).map (Value.int .i64)) 1 from SI.out.chx C153 (xnin_cons nx9.out xnin_nil))
    have Fg11' := Lib.hid (show Blk w151 g11 (#[.int .i64 0, .slice none 0 0, .slice none 0 0]) 53 from C153.blk Fg11.out (nin_cons (Ne.symm ne18.out) nin_nil))
    have Fg114' := Lib.hid (show Blk w151 g114 (#[.int .i64 (now + 1 : Nat)]) 3 from C153.blk Fg114.out (nin_cons (Blk.ne_type Fg114.out Fg3.out (by decide)) nin_nil))
    have Z128' := Lib.hid (show OwnS w151 w.heap.size 3 1 (v141) (I.length + 1) (I.map vi ++ [Value.int .i64 (now + 1 : Nat)]) from Z128.out.ch C153 (rnin_cons (Z128.out.ne Fg3.out (by decide)) rnin_nil))
    clear C0 SI Fg11 Fg114 Z128
    have C0 := C0'; clear C0'
    have SI := SI'; clear SI'
    have Fg11 := Fg11'; clear Fg11'
    have Fg114 := Fg114'; clear Fg114'
    have Z128 := Z128'; clear Z128'
    clear Fg3; have Fg3 := Lib.hid (show Blk w151 g3 (#[.int .i64 (now + 1 : Nat), v, v141]) 53 from B152); clear B152 C153
    refine hK150.out _ _ ?_; clear hK150 K150
    (try simp only [zP, zN, zA, zB, zC])
    refine done_ (by kernel_rfl) (th_norm (hK24 _ _ ?_)); clear hK24 K24
    refine s_ (fun K154 hK154 => ?_)
    refine ld_ (v := .agg (#[.int .i64 (now + 1 : Nat), v, v141])) rfl (by rfl) (by rfl) (run_loadVar_row _ _ 53 53 (#[.int .i64 (now + 1 : Nat), v, v141]) (0, 0) _ Fg3.out Try.underlying53 rfl (by kernel_rfl)) ?_
    (try simp only [zP, zN, zA, zB, zC])
    refine ef_ (fun K155 hK155 => ?_)
    refine e_storeN (cells := (#[.int .i64 (now + 1 : Nat), v, v141])) (by rfl) rfl rfl (by rfl) (by rfl) Fg11.out (by kernel_rfl) (by rfl) (ones_cons rfl (ones_cons HV (ones_cons Z128.out.one ones_nil))) ?_
    rintro w156 B157 C158
    have C0' := Lib.hid (show Ch [] w w156 from C0.out.trans' C158 (inw_cons (.inr nw16.out) inw_nil))
    have SI' := Lib.hid (show SrcIs w156 (.slice A I.length z) (I.length) ((I).map (Value.int .i64)) 1 from SI.out.chx C158 (xnin_cons nx17.out xnin_nil))
    have Fg3' := Lib.hid (show Blk w156 g3 (#[.int .i64 (now + 1 : Nat), v, v141]) 53 from C158.blk Fg3.out (nin_cons ne18.out nin_nil))
    have Fg114' := Lib.hid (show Blk w156 g114 (#[.int .i64 (now + 1 : Nat)]) 3 from C158.blk Fg114.out (nin_cons (Blk.ne_type Fg114.out Fg11.out (by decide)) nin_nil))
    have Z128' := Lib.hid (show OwnS w156 w.heap.size 3 1 (v141) (I.length + 1) (I.map vi ++ [Value.int .i64 (now + 1 : Nat)]) from Z128.out.ch C158 (rnin_cons (Z128.out.ne Fg11.out (by decide)) rnin_nil))
    clear C0 SI Fg3 Fg114 Z128
    have C0 := C0'; clear C0'
    have SI := SI'; clear SI'
    have Fg3 := Fg3'; clear Fg3'
    have Fg114 := Fg114'; clear Fg114'
    have Z128 := Z128'; clear Z128'
    clear Fg11; have Fg11 := Lib.hid (show Blk w156 g11 ((#[.int .i64 (now + 1 : Nat), v, v141])) 53 from B157); clear B157 C158
    refine hK155 _ _ ?_; clear hK155 K155
    (try simp only [zP, zN, zA, zB, zC])
    refine nl_ (hK154 _ _ ?_); clear hK154 K154
    refine wp_ret ?_
    refine hQ _ _ _ ?_
    refine bodyPost_ret (res1 rfl (rdv_cell (by rfl) (run_loadVar_row _ _ 53 53 ((#[.int .i64 (now + 1 : Nat), v, v141])) (0, 0) _ Fg11.out Try.underlying53 rfl (by kernel_rfl)))) rfl ?_
    exact ⟨_, rfl, by have h := Z128.out; rwa [show I.map vi ++ [Value.int .i64 ((now + 1 : Nat) : Int)] = (I ++ [((now + 1 : Nat) : Int)]).map vi by simp] at h, C0.out⟩
theorem rtell_done {a : Addr} {z : Nat} {L : List HOp} {now j : Nat} {u : Value} {c n : Int} {o : HOp} (HN : Hid (L.length ≤ 1000)) (HU : u.oneCell' = true) (HJ : Hid (idx c n 0 L = some j)) (HO : Hid (L[j]? = some o)) (HD : Hid ((o.d == 0) = true)) (SL : Hid (SrcIs w (.slice (some a) L.length z) (L.length) ((L).flatMap opC) 28)) :
    Calls Try.prog 20 #[.agg #[.int .i64 now, .slice (some a) L.length z, u], .int .i64 c, .int .i64 n] w fun en w' => en = .returned (.tuple #[.agg #[.int .i64 now, .slice (some a) L.length z, u], .int .i64 5]) ∧ Ch [] w w' := by
  have C0 := Lib.hid (Ch.refl [] w)
  have HL := Lib.hid (show j < L.length from (List.getElem?_eq_some_iff.1 HO.out).1)
  have DJ := Lib.hid (show (j : Int) < (L.length : Int) by have := HL.out; omega)
  have DZ := Lib.hid (show ¬ (j : Int) < 0 by omega)
  go_enter Try.func20, Try.ntmps20
  refine q_ (fun Q hQ hP => ?_)
  refine s_ (fun K1 hK1 => ?_)
  refine ef_ (fun K2 hK2 => ?_)
  refine e_boxN (by rfl) rfl rfl (cs := #[.int .i64 now, .slice (some a) L.length z, u]) (v := .agg #[.int .i64 now, .slice (some a) L.length z, u]) (by rfl) rfl ?_
  rintro g3 w4 HG5 B6 C7
  have nw8 := Lib.hid (show w.heap.size ≤ g3 by have := C0.out.size; have := HG5.out; omega)
  have nx9 := Lib.hid (SL.out.ne_new (by decide) HG5)
  have C0' := Lib.hid (show Ch [] w w4 from C0.out.trans' C7 (fun x hx => absurd hx (by simp)))
  have SL' := Lib.hid (show SrcIs w4 (.slice (some a) L.length z) (L.length) ((L).flatMap opC) 28 from SL.out.chx C7 xnin_nil)
  clear C0 SL
  have C0 := C0'; clear C0'
  have SL := SL'; clear SL'
  have Fg3 := Lib.hid (show Blk w4 g3 (#[.int .i64 now, .slice (some a) L.length z, u]) 53 from B6); clear B6 C7
  refine hK2 _ _ ?_; clear hK2 K2
  (try simp only [zP, zN, zA, zB, zC])
  refine ef_ (fun K10 hK10 => ?_)
  refine e_alloc (by rfl) rfl rfl (cs := #[.int .i64 0, .slice none 0 0, .slice none 0 0]) (by kernel_rfl) ?_
  rintro g11 w12 HG13 B14 C15
  have nw16 := Lib.hid (show w.heap.size ≤ g11 by have := C0.out.size; have := HG13.out; omega)
  have nx17 := Lib.hid (SL.out.ne_new (by decide) HG13)
  have ne18 := Lib.hid (Fg3.out.ne_new HG13)
  have C0' := Lib.hid (show Ch [] w w12 from C0.out.trans' C15 (fun x hx => absurd hx (by simp)))
  have SL' := Lib.hid (show SrcIs w12 (.slice (some a) L.length z) (L.length) ((L).flatMap opC) 28 from SL.out.chx C15 xnin_nil)
  have Fg3' := Lib.hid (show Blk w12 g3 (#[.int .i64 now, .slice (some a) L.length z, u]) 53 from C15.blk Fg3.out nin_nil)
  clear C0 SL Fg3
  have C0 := C0'; clear C0'
  have SL := SL'; clear SL'
  have Fg3 := Fg3'; clear Fg3'
  have Fg11 := Lib.hid (show Blk w12 g11 (#[.int .i64 0, .slice none 0 0, .slice none 0 0]) 53 from B14); clear B14 C15
  refine hK10 _ _ ?_; clear hK10 K10
  (try simp only [zP, zN, zA, zB, zC])
  refine pu_ (v := .int .i64 0) (y_assign rfl (by rfl) (by rfl)) ?_
  (try simp only [zP, zN, zA, zB, zC])
  refine nl_ (hK1 _ _ ?_); clear hK1 K1
  refine s_ (fun K19 hK19 => ?_)
  refine ld_ (v := .agg (#[.int .i64 now, .slice (some a) L.length z, u])) rfl (by rfl) (by rfl) (run_loadVar_row _ _ 53 53 (#[.int .i64 now, .slice (some a) L.length z, u]) (0, 0) _ Fg3.out Try.underlying53 rfl (by kernel_rfl)) ?_
  (try simp only [zP, zN, zA, zB, zC])
  refine pu_ (v := .int .i64 c) (y_move rfl (by rfl) (by rfl)) ?_
  (try simp only [zP, zN, zA, zB, zC])
  refine pu_ (v := .int .i64 n) (y_move rfl (by rfl) (by rfl)) ?_
  (try simp only [zP, zN, zA, zB, zC])
  refine ef_ (fun K20 hK20 => ?_)
  refine e_call Try.func25 (by kernel_rfl) rfl #[.agg (#[.int .i64 now, .slice (some a) L.length z, u]), .int .i64 c, .int .i64 n] (by rfl) rfl rfl (by first | rfl | (simp only [List.map_toArray, List.map_cons, List.map_nil]; first | done | rfl)) ((rix_some HN HU HJ SL)) ?_
  rintro en w22 ⟨rfl, cc21⟩
  refine ⟨_, rfl, ?_⟩
  have C0' := Lib.hid (show Ch [] w w22 from C0.out.trans' cc21 (fun x hx => absurd hx (by simp)))
  have SL' := Lib.hid (show SrcIs w22 (.slice (some a) L.length z) (L.length) ((L).flatMap opC) 28 from SL.out.chx cc21 xnin_nil)
  have Fg3' := Lib.hid (show Blk w22 g3 (#[.int .i64 now, .slice (some a) L.length z, u]) 53 from cc21.blk Fg3.out nin_nil)
  have Fg11' := Lib.hid (show Blk w22 g11 (#[.int .i64 0, .slice none 0 0, .slice none 0 0]) 53 from cc21.blk Fg11.out nin_nil)
  clear C0 SL Fg3 Fg11
  have C0 := C0'; clear C0'
  have SL := SL'; clear SL'
  have Fg3 := Fg3'; clear Fg3'
  have Fg11 := Fg11'; clear Fg11'
  clear cc21
  refine hK20 _ _ ?_; clear hK20 K20
  (try simp only [zP, zN, zA, zB, zC])
  refine pu_ (v := .int .i64 j) (y_assign rfl (by rfl) (by rfl)) ?_
  (try simp only [zP, zN, zA, zB, zC])
  refine nl_ (hK19 _ _ ?_); clear hK19 K19
  refine sq_ (fun K23 hK23 => ?_)
  refine s_ (fun K24 hK24 => ?_)
  refine pu_ (v := .int .i64 j) (y_move rfl (by rfl) (by rfl)) ?_
  (try simp only [zP, zN, zA, zB, zC])
  refine pu_ (v := .bool false) (y_run (by rfl) (fun W => by have d := DZ.out; go_simp)) ?_
  (try simp only [zP, zN, zA, zB, zC])
  refine nl_ (hK24 _ _ ?_); clear hK24 K24
  refine wp_cond_false rfl ?_
  refine wp_skip ?_
  refine th_norm (hK23 _ _ ?_); try clear hK23 K23
  refine sq_ (fun K25 hK25 => ?_)
  refine s_ (fun K26 hK26 => ?_)
  refine pu_ (v := .pointer (some ⟨g3, 1, none⟩)) (y_run (by rfl) (fun W => by go_simp)) ?_
  (try simp only [zP, zN, zA, zB, zC])
  refine ld_ (v := .slice (some a) L.length z) rfl (by rfl) (by rfl) (run_load_one ((Fg3.out.cell 1).trans rfl) Try.underlying51 rfl) ?_
  (try simp only [zP, zN, zA, zB, zC])
  refine pu_ (v := .int .i64 j) (y_move rfl (by rfl) (by rfl)) ?_
  (try simp only [zP, zN, zA, zB, zC])
  refine pu_ (v := .pointer (some (a.add (j * 28)))) (y_run (by rfl) (fun W => by have d := DJ.out; go_simp)) ?_
  (try simp only [zP, zN, zA, zB, zC])
  refine pu_ (v := .pointer (some ((a.add (j * 28)).add 3))) (y_run (by rfl) (fun W => by go_simp)) ?_
  (try simp only [zP, zN, zA, zB, zC])
  refine ld_ (v := .int .i64 o.d) rfl (by rfl) (by rfl) (run_load_one (src_elem SL.out HO.out 3 _ (by simp [opC])) Try.underlying3 rfl) ?_
  (try simp only [zP, zN, zA, zB, zC])
  refine pu_ (v := .bool true) (y_run (by rfl) (fun W => by have d := HD.out; go_simp)) ?_
  (try simp only [zP, zN, zA, zB, zC])
  refine pu_ (v := .bool true) (y_move rfl (by rfl) (by rfl)) ?_
  (try simp only [zP, zN, zA, zB, zC])
  refine pu_ (y_off (by rfl)) ?_
  (try simp only [zP, zN, zA, zB, zC])
  refine pu_ (y_off (by rfl)) ?_
  (try simp only [zP, zN, zA, zB, zC])
  refine pu_ (y_off (by rfl)) ?_
  (try simp only [zP, zN, zA, zB, zC])
  refine pu_ (y_off (by rfl)) ?_
  (try simp only [zP, zN, zA, zB, zC])
  refine pu_ (y_off (by rfl)) ?_
  (try simp only [zP, zN, zA, zB, zC])
  refine pu_ (y_off (by rfl)) ?_
  (try simp only [zP, zN, zA, zB, zC])
  refine pu_ (y_off (by rfl)) ?_
  (try simp only [zP, zN, zA, zB, zC])
  refine pu_ (v := .bool true) (y_pick (t := true) (by rfl) rfl (by rfl) (by rfl)) ?_
  (try simp only [zP, zN, zA, zB, zC])
  refine nl_ (hK26 _ _ ?_); clear hK26 K26
  refine wp_cond_true rfl ?_
  refine s_ (fun K27 hK27 => ?_)
  refine ld_ (v := .agg (#[.int .i64 now, .slice (some a) L.length z, u])) rfl (by rfl) (by rfl) (run_loadVar_row _ _ 53 53 (#[.int .i64 now, .slice (some a) L.length z, u]) (0, 0) _ Fg3.out Try.underlying53 rfl (by kernel_rfl)) ?_
  (try simp only [zP, zN, zA, zB, zC])
  refine ef_ (fun K28 hK28 => ?_)
  refine e_storeN (cells := (#[.int .i64 now, .slice (some a) L.length z, u])) (by rfl) rfl rfl (by rfl) (by rfl) Fg11.out (by kernel_rfl) (by rfl) (ones_cons rfl (ones_cons rfl (ones_cons HU ones_nil))) ?_
  rintro w29 B30 C31
  have C0' := Lib.hid (show Ch [] w w29 from C0.out.trans' C31 (inw_cons (.inr nw16.out) inw_nil))
  have SL' := Lib.hid (show SrcIs w29 (.slice (some a) L.length z) (L.length) ((L).flatMap opC) 28 from SL.out.chx C31 (xnin_cons nx17.out xnin_nil))
  have Fg3' := Lib.hid (show Blk w29 g3 (#[.int .i64 now, .slice (some a) L.length z, u]) 53 from C31.blk Fg3.out (nin_cons ne18.out nin_nil))
  clear C0 SL Fg3
  have C0 := C0'; clear C0'
  have SL := SL'; clear SL'
  have Fg3 := Fg3'; clear Fg3'
  clear Fg11; have Fg11 := Lib.hid (show Blk w29 g11 ((#[.int .i64 now, .slice (some a) L.length z, u])) 53 from B30); clear B30 C31
  refine hK28 _ _ ?_; clear hK28 K28
  (try simp only [zP, zN, zA, zB, zC])
  refine pu_ (v := .int .i64 5) (y_assign rfl (by rfl) (by rfl)) ?_
  (try simp only [zP, zN, zA, zB, zC])
  refine nl_ (hK27 _ _ ?_); clear hK27 K27
  refine wp_ret ?_
  refine th_ret ?_
  refine hQ _ _ _ ?_
  refine bodyPost_ret (res2 rfl (rdv_cell (by rfl) (run_loadVar_row _ _ 53 53 ((#[.int .i64 now, .slice (some a) L.length z, u])) (0, 0) _ Fg11.out Try.underlying53 rfl (by kernel_rfl))) (rdv_tmp (v := .int .i64 5) (by rfl))) rfl ?_
  exact ⟨rfl, C0.out⟩
theorem rtell_told {a : Addr} {z : Nat} {L : List HOp} {now j : Nat} {u : Value} {c n : Int} {o : HOp} (HN : Hid (L.length ≤ 1000)) (HU : u.oneCell' = true) (HJ : Hid (idx c n 0 L = some j)) (HO : Hid (L[j]? = some o)) (HD : Hid ((o.d == 0) = false)) (HT : Hid (decide (o.t > 0) = true)) (SL : Hid (SrcIs w (.slice (some a) L.length z) (L.length) ((L).flatMap opC) 28)) :
    Calls Try.prog 20 #[.agg #[.int .i64 now, .slice (some a) L.length z, u], .int .i64 c, .int .i64 n] w fun en w' => en = .returned (.tuple #[.agg #[.int .i64 now, .slice (some a) L.length z, u], .int .i64 5]) ∧ Ch [] w w' := by
  have C0 := Lib.hid (Ch.refl [] w)
  have HL := Lib.hid (show j < L.length from (List.getElem?_eq_some_iff.1 HO.out).1)
  have DJ := Lib.hid (show (j : Int) < (L.length : Int) by have := HL.out; omega)
  have DZ := Lib.hid (show ¬ (j : Int) < 0 by omega)
  go_enter Try.func20, Try.ntmps20
  refine q_ (fun Q hQ hP => ?_)
  refine s_ (fun K1 hK1 => ?_)
  refine ef_ (fun K2 hK2 => ?_)
  refine e_boxN (by rfl) rfl rfl (cs := #[.int .i64 now, .slice (some a) L.length z, u]) (v := .agg #[.int .i64 now, .slice (some a) L.length z, u]) (by rfl) rfl ?_
  rintro g3 w4 HG5 B6 C7
  have nw8 := Lib.hid (show w.heap.size ≤ g3 by have := C0.out.size; have := HG5.out; omega)
  have nx9 := Lib.hid (SL.out.ne_new (by decide) HG5)
  have C0' := Lib.hid (show Ch [] w w4 from C0.out.trans' C7 (fun x hx => absurd hx (by simp)))
  have SL' := Lib.hid (show SrcIs w4 (.slice (some a) L.length z) (L.length) ((L).flatMap opC) 28 from SL.out.chx C7 xnin_nil)
  clear C0 SL
  have C0 := C0'; clear C0'
  have SL := SL'; clear SL'
  have Fg3 := Lib.hid (show Blk w4 g3 (#[.int .i64 now, .slice (some a) L.length z, u]) 53 from B6); clear B6 C7
  refine hK2 _ _ ?_; clear hK2 K2
  (try simp only [zP, zN, zA, zB, zC])
  refine ef_ (fun K10 hK10 => ?_)
  refine e_alloc (by rfl) rfl rfl (cs := #[.int .i64 0, .slice none 0 0, .slice none 0 0]) (by kernel_rfl) ?_
  rintro g11 w12 HG13 B14 C15
  have nw16 := Lib.hid (show w.heap.size ≤ g11 by have := C0.out.size; have := HG13.out; omega)
  have nx17 := Lib.hid (SL.out.ne_new (by decide) HG13)
  have ne18 := Lib.hid (Fg3.out.ne_new HG13)
  have C0' := Lib.hid (show Ch [] w w12 from C0.out.trans' C15 (fun x hx => absurd hx (by simp)))
  have SL' := Lib.hid (show SrcIs w12 (.slice (some a) L.length z) (L.length) ((L).flatMap opC) 28 from SL.out.chx C15 xnin_nil)
  have Fg3' := Lib.hid (show Blk w12 g3 (#[.int .i64 now, .slice (some a) L.length z, u]) 53 from C15.blk Fg3.out nin_nil)
  clear C0 SL Fg3
  have C0 := C0'; clear C0'
  have SL := SL'; clear SL'
  have Fg3 := Fg3'; clear Fg3'
  have Fg11 := Lib.hid (show Blk w12 g11 (#[.int .i64 0, .slice none 0 0, .slice none 0 0]) 53 from B14); clear B14 C15
  refine hK10 _ _ ?_; clear hK10 K10
  (try simp only [zP, zN, zA, zB, zC])
  refine pu_ (v := .int .i64 0) (y_assign rfl (by rfl) (by rfl)) ?_
  (try simp only [zP, zN, zA, zB, zC])
  refine nl_ (hK1 _ _ ?_); clear hK1 K1
  refine s_ (fun K19 hK19 => ?_)
  refine ld_ (v := .agg (#[.int .i64 now, .slice (some a) L.length z, u])) rfl (by rfl) (by rfl) (run_loadVar_row _ _ 53 53 (#[.int .i64 now, .slice (some a) L.length z, u]) (0, 0) _ Fg3.out Try.underlying53 rfl (by kernel_rfl)) ?_
  (try simp only [zP, zN, zA, zB, zC])
  refine pu_ (v := .int .i64 c) (y_move rfl (by rfl) (by rfl)) ?_
  (try simp only [zP, zN, zA, zB, zC])
  refine pu_ (v := .int .i64 n) (y_move rfl (by rfl) (by rfl)) ?_
  (try simp only [zP, zN, zA, zB, zC])
  refine ef_ (fun K20 hK20 => ?_)
  refine e_call Try.func25 (by kernel_rfl) rfl #[.agg (#[.int .i64 now, .slice (some a) L.length z, u]), .int .i64 c, .int .i64 n] (by rfl) rfl rfl (by first | rfl | (simp only [List.map_toArray, List.map_cons, List.map_nil]; first | done | rfl)) ((rix_some HN HU HJ SL)) ?_
  rintro en w22 ⟨rfl, cc21⟩
  refine ⟨_, rfl, ?_⟩
  have C0' := Lib.hid (show Ch [] w w22 from C0.out.trans' cc21 (fun x hx => absurd hx (by simp)))
  have SL' := Lib.hid (show SrcIs w22 (.slice (some a) L.length z) (L.length) ((L).flatMap opC) 28 from SL.out.chx cc21 xnin_nil)
  have Fg3' := Lib.hid (show Blk w22 g3 (#[.int .i64 now, .slice (some a) L.length z, u]) 53 from cc21.blk Fg3.out nin_nil)
  have Fg11' := Lib.hid (show Blk w22 g11 (#[.int .i64 0, .slice none 0 0, .slice none 0 0]) 53 from cc21.blk Fg11.out nin_nil)
  clear C0 SL Fg3 Fg11
  have C0 := C0'; clear C0'
  have SL := SL'; clear SL'
  have Fg3 := Fg3'; clear Fg3'
  have Fg11 := Fg11'; clear Fg11'
  clear cc21
  refine hK20 _ _ ?_; clear hK20 K20
  (try simp only [zP, zN, zA, zB, zC])
  refine pu_ (v := .int .i64 j) (y_assign rfl (by rfl) (by rfl)) ?_
  (try simp only [zP, zN, zA, zB, zC])
  refine nl_ (hK19 _ _ ?_); clear hK19 K19
  refine sq_ (fun K23 hK23 => ?_)
  refine s_ (fun K24 hK24 => ?_)
  refine pu_ (v := .int .i64 j) (y_move rfl (by rfl) (by rfl)) ?_
  (try simp only [zP, zN, zA, zB, zC])
  refine pu_ (v := .bool false) (y_run (by rfl) (fun W => by have d := DZ.out; go_simp)) ?_
  (try simp only [zP, zN, zA, zB, zC])
  refine nl_ (hK24 _ _ ?_); clear hK24 K24
  refine wp_cond_false rfl ?_
  refine wp_skip ?_
  refine th_norm (hK23 _ _ ?_); try clear hK23 K23
  refine sq_ (fun K25 hK25 => ?_)
  refine s_ (fun K26 hK26 => ?_)
  refine pu_ (v := .pointer (some ⟨g3, 1, none⟩)) (y_run (by rfl) (fun W => by go_simp)) ?_
  (try simp only [zP, zN, zA, zB, zC])
  refine ld_ (v := .slice (some a) L.length z) rfl (by rfl) (by rfl) (run_load_one ((Fg3.out.cell 1).trans rfl) Try.underlying51 rfl) ?_
  (try simp only [zP, zN, zA, zB, zC])
  refine pu_ (v := .int .i64 j) (y_move rfl (by rfl) (by rfl)) ?_
  (try simp only [zP, zN, zA, zB, zC])
  refine pu_ (v := .pointer (some (a.add (j * 28)))) (y_run (by rfl) (fun W => by have d := DJ.out; go_simp)) ?_
  (try simp only [zP, zN, zA, zB, zC])
  refine pu_ (v := .pointer (some ((a.add (j * 28)).add 3))) (y_run (by rfl) (fun W => by go_simp)) ?_
  (try simp only [zP, zN, zA, zB, zC])
  refine ld_ (v := .int .i64 o.d) rfl (by rfl) (by rfl) (run_load_one (src_elem SL.out HO.out 3 _ (by simp [opC])) Try.underlying3 rfl) ?_
  (try simp only [zP, zN, zA, zB, zC])
  refine pu_ (v := .bool false) (y_run (by rfl) (fun W => by have d := HD.out; go_simp)) ?_
  (try simp only [zP, zN, zA, zB, zC])
  refine pu_ (v := .bool false) (y_move rfl (by rfl) (by rfl)) ?_
  (try simp only [zP, zN, zA, zB, zC])
  refine pu_ (v := .pointer (some ⟨g3, 1, none⟩)) (y_run (by rfl) (fun W => by go_simp)) ?_
  (try simp only [zP, zN, zA, zB, zC])
  refine ld_ (v := .slice (some a) L.length z) rfl (by rfl) (by rfl) (run_load_one ((Fg3.out.cell 1).trans rfl) Try.underlying51 rfl) ?_
  (try simp only [zP, zN, zA, zB, zC])
  refine pu_ (v := .int .i64 j) (y_move rfl (by rfl) (by rfl)) ?_
  (try simp only [zP, zN, zA, zB, zC])
  refine pu_ (v := .pointer (some (a.add (j * 28)))) (y_run (by rfl) (fun W => by have d := DJ.out; go_simp)) ?_
  (try simp only [zP, zN, zA, zB, zC])
  refine pu_ (v := .pointer (some ((a.add (j * 28)).add 4))) (y_run (by rfl) (fun W => by go_simp)) ?_
  (try simp only [zP, zN, zA, zB, zC])
  refine ld_ (v := .int .i64 o.t) rfl (by rfl) (by rfl) (run_load_one (src_elem SL.out HO.out 4 _ (by simp [opC])) Try.underlying3 rfl) ?_
  (try simp only [zP, zN, zA, zB, zC])
  refine pu_ (v := .bool true) (y_run (by rfl) (fun W => by have d := HT.out; go_simp)) ?_
  (try simp only [zP, zN, zA, zB, zC])
  refine pu_ (v := .bool true) (y_pick (t := false) (by rfl) rfl (by rfl) (by rfl)) ?_
  (try simp only [zP, zN, zA, zB, zC])
  refine nl_ (hK26 _ _ ?_); clear hK26 K26
  refine wp_cond_true rfl ?_
  refine s_ (fun K27 hK27 => ?_)
  refine ld_ (v := .agg (#[.int .i64 now, .slice (some a) L.length z, u])) rfl (by rfl) (by rfl) (run_loadVar_row _ _ 53 53 (#[.int .i64 now, .slice (some a) L.length z, u]) (0, 0) _ Fg3.out Try.underlying53 rfl (by kernel_rfl)) ?_
  (try simp only [zP, zN, zA, zB, zC])
  refine ef_ (fun K28 hK28 => ?_)
  refine e_storeN (cells := (#[.int .i64 now, .slice (some a) L.length z, u])) (by rfl) rfl rfl (by rfl) (by rfl) Fg11.out (by kernel_rfl) (by rfl) (ones_cons rfl (ones_cons rfl (ones_cons HU ones_nil))) ?_
  rintro w29 B30 C31
  have C0' := Lib.hid (show Ch [] w w29 from C0.out.trans' C31 (inw_cons (.inr nw16.out) inw_nil))
  have SL' := Lib.hid (show SrcIs w29 (.slice (some a) L.length z) (L.length) ((L).flatMap opC) 28 from SL.out.chx C31 (xnin_cons nx17.out xnin_nil))
  have Fg3' := Lib.hid (show Blk w29 g3 (#[.int .i64 now, .slice (some a) L.length z, u]) 53 from C31.blk Fg3.out (nin_cons ne18.out nin_nil))
  clear C0 SL Fg3
  have C0 := C0'; clear C0'
  have SL := SL'; clear SL'
  have Fg3 := Fg3'; clear Fg3'
  clear Fg11; have Fg11 := Lib.hid (show Blk w29 g11 ((#[.int .i64 now, .slice (some a) L.length z, u])) 53 from B30); clear B30 C31
  refine hK28 _ _ ?_; clear hK28 K28
  (try simp only [zP, zN, zA, zB, zC])
  refine pu_ (v := .int .i64 5) (y_assign rfl (by rfl) (by rfl)) ?_
  (try simp only [zP, zN, zA, zB, zC])
  refine nl_ (hK27 _ _ ?_); clear hK27 K27
  refine wp_ret ?_
  refine th_ret ?_
  refine hQ _ _ _ ?_
  refine bodyPost_ret (res2 rfl (rdv_cell (by rfl) (run_loadVar_row _ _ 53 53 ((#[.int .i64 now, .slice (some a) L.length z, u])) (0, 0) _ Fg11.out Try.underlying53 rfl (by kernel_rfl))) (rdv_tmp (v := .int .i64 5) (by rfl))) rfl ?_
  exact ⟨rfl, C0.out⟩
theorem rtell_ok {a : Addr} {z : Nat} {L : List HOp} {now j : Nat} {u : Value} {c n : Int} {o : HOp} (HN : Hid (L.length ≤ 1000)) (HU : u.oneCell' = true) (HJ : Hid (idx c n 0 L = some j)) (HO : Hid (L[j]? = some o)) (HD : Hid ((o.d == 0) = false)) (HT : Hid (decide (o.t > 0) = false)) (HW : Hid (now ≤ 1000)) (SL : Hid (SrcIs w (.slice (some a) L.length z) (L.length) ((L).flatMap opC) 28)) :
    Calls Try.prog 20 #[.agg #[.int .i64 now, .slice (some a) L.length z, u], .int .i64 c, .int .i64 n] w fun en w' => ∃ v', en = .returned (.tuple #[.agg #[.int .i64 (now + 1 : Nat), v', u], .int .i64 0]) ∧ OwnS w' w.heap.size 59 28 v' L.length ((L.set j { o with t := ((now + 1 : Nat) : Int) }).flatMap opC) ∧ Ch [] w w' := by
  have C0 := Lib.hid (Ch.refl [] w)
  obtain ⟨i59, I59⟩ := Info.of info59
  have WA := Lib.hid (show IntKind.i64.wrap ((now : Int) + 1) = ((now + 1 : Nat) : Int) by rw [wr64 (by have := HW.out; omega)]; omega)
  have HL := Lib.hid (show j < L.length from (List.getElem?_eq_some_iff.1 HO.out).1)
  have DJ := Lib.hid (show (j : Int) < (L.length : Int) by have := HL.out; omega)
  have DZ := Lib.hid (show ¬ (j : Int) < 0 by omega)
  go_enter Try.func20, Try.ntmps20
  refine q_ (fun Q hQ hP => ?_)
  refine s_ (fun K1 hK1 => ?_)
  refine ef_ (fun K2 hK2 => ?_)
  refine e_boxN (by rfl) rfl rfl (cs := #[.int .i64 now, .slice (some a) L.length z, u]) (v := .agg #[.int .i64 now, .slice (some a) L.length z, u]) (by rfl) rfl ?_
  rintro g3 w4 HG5 B6 C7
  have nw8 := Lib.hid (show w.heap.size ≤ g3 by have := C0.out.size; have := HG5.out; omega)
  have nx9 := Lib.hid (SL.out.ne_new (by decide) HG5)
  have C0' := Lib.hid (show Ch [] w w4 from C0.out.trans' C7 (fun x hx => absurd hx (by simp)))
  have SL' := Lib.hid (show SrcIs w4 (.slice (some a) L.length z) (L.length) ((L).flatMap opC) 28 from SL.out.chx C7 xnin_nil)
  clear C0 SL
  have C0 := C0'; clear C0'
  have SL := SL'; clear SL'
  have Fg3 := Lib.hid (show Blk w4 g3 (#[.int .i64 now, .slice (some a) L.length z, u]) 53 from B6); clear B6 C7
  refine hK2 _ _ ?_; clear hK2 K2
  (try simp only [zP, zN, zA, zB, zC])
  refine ef_ (fun K10 hK10 => ?_)
  refine e_alloc (by rfl) rfl rfl (cs := #[.int .i64 0, .slice none 0 0, .slice none 0 0]) (by kernel_rfl) ?_
  rintro g11 w12 HG13 B14 C15
  have nw16 := Lib.hid (show w.heap.size ≤ g11 by have := C0.out.size; have := HG13.out; omega)
  have nx17 := Lib.hid (SL.out.ne_new (by decide) HG13)
  have ne18 := Lib.hid (Fg3.out.ne_new HG13)
  have C0' := Lib.hid (show Ch [] w w12 from C0.out.trans' C15 (fun x hx => absurd hx (by simp)))
  have SL' := Lib.hid (show SrcIs w12 (.slice (some a) L.length z) (L.length) ((L).flatMap opC) 28 from SL.out.chx C15 xnin_nil)
  have Fg3' := Lib.hid (show Blk w12 g3 (#[.int .i64 now, .slice (some a) L.length z, u]) 53 from C15.blk Fg3.out nin_nil)
  clear C0 SL Fg3
  have C0 := C0'; clear C0'
  have SL := SL'; clear SL'
  have Fg3 := Fg3'; clear Fg3'
  have Fg11 := Lib.hid (show Blk w12 g11 (#[.int .i64 0, .slice none 0 0, .slice none 0 0]) 53 from B14); clear B14 C15
  refine hK10 _ _ ?_; clear hK10 K10
  (try simp only [zP, zN, zA, zB, zC])
  refine pu_ (v := .int .i64 0) (y_assign rfl (by rfl) (by rfl)) ?_
  (try simp only [zP, zN, zA, zB, zC])
  refine nl_ (hK1 _ _ ?_); clear hK1 K1
  refine s_ (fun K19 hK19 => ?_)
  refine ld_ (v := .agg (#[.int .i64 now, .slice (some a) L.length z, u])) rfl (by rfl) (by rfl) (run_loadVar_row _ _ 53 53 (#[.int .i64 now, .slice (some a) L.length z, u]) (0, 0) _ Fg3.out Try.underlying53 rfl (by kernel_rfl)) ?_
  (try simp only [zP, zN, zA, zB, zC])
  refine pu_ (v := .int .i64 c) (y_move rfl (by rfl) (by rfl)) ?_
  (try simp only [zP, zN, zA, zB, zC])
  refine pu_ (v := .int .i64 n) (y_move rfl (by rfl) (by rfl)) ?_
  (try simp only [zP, zN, zA, zB, zC])
  refine ef_ (fun K20 hK20 => ?_)
  refine e_call Try.func25 (by kernel_rfl) rfl #[.agg (#[.int .i64 now, .slice (some a) L.length z, u]), .int .i64 c, .int .i64 n] (by rfl) rfl rfl (by first | rfl | (simp only [List.map_toArray, List.map_cons, List.map_nil]; first | done | rfl)) ((rix_some HN HU HJ SL)) ?_
  rintro en w22 ⟨rfl, cc21⟩
  refine ⟨_, rfl, ?_⟩
  have C0' := Lib.hid (show Ch [] w w22 from C0.out.trans' cc21 (fun x hx => absurd hx (by simp)))
  have SL' := Lib.hid (show SrcIs w22 (.slice (some a) L.length z) (L.length) ((L).flatMap opC) 28 from SL.out.chx cc21 xnin_nil)
  have Fg3' := Lib.hid (show Blk w22 g3 (#[.int .i64 now, .slice (some a) L.length z, u]) 53 from cc21.blk Fg3.out nin_nil)
  have Fg11' := Lib.hid (show Blk w22 g11 (#[.int .i64 0, .slice none 0 0, .slice none 0 0]) 53 from cc21.blk Fg11.out nin_nil)
  clear C0 SL Fg3 Fg11
  have C0 := C0'; clear C0'
  have SL := SL'; clear SL'
  have Fg3 := Fg3'; clear Fg3'
  have Fg11 := Fg11'; clear Fg11'
  clear cc21
  refine hK20 _ _ ?_; clear hK20 K20
  (try simp only [zP, zN, zA, zB, zC])
  refine pu_ (v := .int .i64 j) (y_assign rfl (by rfl) (by rfl)) ?_
  (try simp only [zP, zN, zA, zB, zC])
  refine nl_ (hK19 _ _ ?_); clear hK19 K19
  refine sq_ (fun K23 hK23 => ?_)
  refine s_ (fun K24 hK24 => ?_)
  refine pu_ (v := .int .i64 j) (y_move rfl (by rfl) (by rfl)) ?_
  (try simp only [zP, zN, zA, zB, zC])
  refine pu_ (v := .bool false) (y_run (by rfl) (fun W => by have d := DZ.out; go_simp)) ?_
  (try simp only [zP, zN, zA, zB, zC])
  refine nl_ (hK24 _ _ ?_); clear hK24 K24
  refine wp_cond_false rfl ?_
  refine wp_skip ?_
  refine th_norm (hK23 _ _ ?_); try clear hK23 K23
  refine sq_ (fun K25 hK25 => ?_)
  refine s_ (fun K26 hK26 => ?_)
  refine pu_ (v := .pointer (some ⟨g3, 1, none⟩)) (y_run (by rfl) (fun W => by go_simp)) ?_
  (try simp only [zP, zN, zA, zB, zC])
  refine ld_ (v := .slice (some a) L.length z) rfl (by rfl) (by rfl) (run_load_one ((Fg3.out.cell 1).trans rfl) Try.underlying51 rfl) ?_
  (try simp only [zP, zN, zA, zB, zC])
  refine pu_ (v := .int .i64 j) (y_move rfl (by rfl) (by rfl)) ?_
  (try simp only [zP, zN, zA, zB, zC])
  refine pu_ (v := .pointer (some (a.add (j * 28)))) (y_run (by rfl) (fun W => by have d := DJ.out; go_simp)) ?_
  (try simp only [zP, zN, zA, zB, zC])
  refine pu_ (v := .pointer (some ((a.add (j * 28)).add 3))) (y_run (by rfl) (fun W => by go_simp)) ?_
  (try simp only [zP, zN, zA, zB, zC])
  refine ld_ (v := .int .i64 o.d) rfl (by rfl) (by rfl) (run_load_one (src_elem SL.out HO.out 3 _ (by simp [opC])) Try.underlying3 rfl) ?_
  (try simp only [zP, zN, zA, zB, zC])
  refine pu_ (v := .bool false) (y_run (by rfl) (fun W => by have d := HD.out; go_simp)) ?_
  (try simp only [zP, zN, zA, zB, zC])
  refine pu_ (v := .bool false) (y_move rfl (by rfl) (by rfl)) ?_
  (try simp only [zP, zN, zA, zB, zC])
  refine pu_ (v := .pointer (some ⟨g3, 1, none⟩)) (y_run (by rfl) (fun W => by go_simp)) ?_
  (try simp only [zP, zN, zA, zB, zC])
  refine ld_ (v := .slice (some a) L.length z) rfl (by rfl) (by rfl) (run_load_one ((Fg3.out.cell 1).trans rfl) Try.underlying51 rfl) ?_
  (try simp only [zP, zN, zA, zB, zC])
  refine pu_ (v := .int .i64 j) (y_move rfl (by rfl) (by rfl)) ?_
  (try simp only [zP, zN, zA, zB, zC])
  refine pu_ (v := .pointer (some (a.add (j * 28)))) (y_run (by rfl) (fun W => by have d := DJ.out; go_simp)) ?_
  (try simp only [zP, zN, zA, zB, zC])
  refine pu_ (v := .pointer (some ((a.add (j * 28)).add 4))) (y_run (by rfl) (fun W => by go_simp)) ?_
  (try simp only [zP, zN, zA, zB, zC])
  refine ld_ (v := .int .i64 o.t) rfl (by rfl) (by rfl) (run_load_one (src_elem SL.out HO.out 4 _ (by simp [opC])) Try.underlying3 rfl) ?_
  (try simp only [zP, zN, zA, zB, zC])
  refine pu_ (v := .bool false) (y_run (by rfl) (fun W => by have d := HT.out; go_simp)) ?_
  (try simp only [zP, zN, zA, zB, zC])
  refine pu_ (v := .bool false) (y_pick (t := false) (by rfl) rfl (by rfl) (by rfl)) ?_
  (try simp only [zP, zN, zA, zB, zC])
  refine nl_ (hK26 _ _ ?_); clear hK26 K26
  refine wp_cond_false rfl ?_
  refine wp_skip ?_
  refine th_norm (hK25 _ _ ?_); try clear hK25 K25
  refine s_ (fun K27 hK27 => ?_)
  refine pu_ (v := .pointer (some ⟨g3, 0, none⟩)) (y_run (by rfl) (fun W => by go_simp)) ?_
  (try simp only [zP, zN, zA, zB, zC])
  refine ld_ (v := .int .i64 now) rfl (by rfl) (by rfl) (run_load_one ((Fg3.out.cell 0).trans rfl) Try.underlying3 rfl) ?_
  (try simp only [zP, zN, zA, zB, zC])
  refine pu_ (v := .int .i64 (now + 1 : Nat)) (y_run (by rfl) (fun W => by have d := WA.out; go_simp)) ?_
  (try simp only [zP, zN, zA, zB, zC])
  refine pu_ (v := .pointer (some ⟨g3, 0, none⟩)) (y_run (by rfl) (fun W => by go_simp)) ?_
  (try simp only [zP, zN, zA, zB, zC])
  refine ef_ (fun K28 hK28 => ?_)
  refine e_store1 (b := g3) (j := 0) (v := .int .i64 (now + 1 : Nat)) (by rfl) rfl rfl (by rfl) (by rfl) Fg3.out (show 0 < 3 by omega) (by kernel_rfl) rfl ?_
  rintro w29 B30 C31
  have C0' := Lib.hid (show Ch [] w w29 from C0.out.trans' C31 (inw_cons (.inr nw8.out) inw_nil))
  have SL' := Lib.hid (show SrcIs w29 (.slice (some a) L.length z) (L.length) ((L).flatMap opC) 28 from SL.out.chx C31 (xnin_cons nx9.out xnin_nil))
  have Fg11' := Lib.hid (show Blk w29 g11 (#[.int .i64 0, .slice none 0 0, .slice none 0 0]) 53 from C31.blk Fg11.out (nin_cons (Ne.symm ne18.out) nin_nil))
  clear C0 SL Fg11
  have C0 := C0'; clear C0'
  have SL := SL'; clear SL'
  have Fg11 := Fg11'; clear Fg11'
  clear Fg3; have Fg3 := Lib.hid (show Blk w29 g3 (#[.int .i64 (now + 1 : Nat), .slice (some a) L.length z, u]) 53 from B30); clear B30 C31
  refine hK28 _ _ ?_; clear hK28 K28
  (try simp only [zP, zN, zA, zB, zC])
  refine nl_ (hK27 _ _ ?_); clear hK27 K27
  refine s_ (fun K32 hK32 => ?_)
  refine ef_ (fun K33 hK33 => ?_)
  refine e_buildS0 (by rfl) rfl rfl Try.underlying51 I59.hi ?_
  rintro g34 w35 HG36 C38
  have C0' := Lib.hid (show Ch [] w w35 from C0.out.trans' C38 (fun x hx => absurd hx (by simp)))
  have SL' := Lib.hid (show SrcIs w35 (.slice (some a) L.length z) (L.length) ((L).flatMap opC) 28 from SL.out.chx C38 xnin_nil)
  have Fg3' := Lib.hid (show Blk w35 g3 (#[.int .i64 (now + 1 : Nat), .slice (some a) L.length z, u]) 53 from C38.blk Fg3.out nin_nil)
  have Fg11' := Lib.hid (show Blk w35 g11 (#[.int .i64 0, .slice none 0 0, .slice none 0 0]) 53 from C38.blk Fg11.out nin_nil)
  clear C0 SL Fg3 Fg11
  have C0 := C0'; clear C0'
  have SL := SL'; clear SL'
  have Fg3 := Fg3'; clear Fg3'
  have Fg11 := Fg11'; clear Fg11'
  clear C38
  have Z39 := Lib.hid (show OwnS w35 w.heap.size 59 28 (.slice (some ⟨g34, 0, none⟩) 0 0) (0) ([]) from OwnS.nil _ _ _ _ _)
  refine hK33 _ _ ?_; clear hK33 K33
  (try simp only [zP, zN, zA, zB, zC])
  refine pu_ (v := .pointer (some ⟨g3, 1, none⟩)) (y_run (by rfl) (fun W => by go_simp)) ?_
  (try simp only [zP, zN, zA, zB, zC])
  refine ld_ (v := .slice (some a) L.length z) rfl (by rfl) (by rfl) (run_load_one ((Fg3.out.cell 1).trans rfl) Try.underlying51 rfl) ?_
  (try simp only [zP, zN, zA, zB, zC])
  refine ef_ (fun K40 hK40 => ?_)
  refine e_append (by rfl) rfl rfl (w.heap.size) 59 _ _ 28 344 Try.underlying51 I59.hi I59.hz I59.hs I59.hb rfl (by decide) (.slice (some ⟨g34, 0, none⟩) 0 0) (0) ([]) (by rfl) Z39.out (.slice (some a) L.length z) L.length (L.flatMap opC) (by rfl) SL.out (flat_one opC_one L) (by have := HN.out; unfold maxLen; omega) (by have := HN.out; omega) C0.out.size ?_
  rintro v41 w42 O43 C44 R45 -
  replace C44 : Ch [] _ _ := C44
  replace R45 : ∀ k, k ∈ rl v41 → w35.heap.size ≤ k := fun k hk => (R45 k hk).elim (fun h => absurd h (by simp [rl])) id
  have rw46 := Lib.hid (show ∀ x, x ∈ rl v41 → x ∈ [] ∨ w.heap.size ≤ x from fun x hx => .inr (by have := R45 x hx; have := C0.out.size; omega))
  have xr47 := Lib.hid (show ∀ k, k ∈ xb (.slice (some a) L.length z) → k ∉ rl v41 from fun k hk hm => by have := R45 k hm; have := SL.out.lt (by decide) k hk; omega)
  have C0' := Lib.hid (show Ch [] w w42 from C0.out.trans' C44 (fun x hx => absurd hx (by simp)))
  have SL' := Lib.hid (show SrcIs w42 (.slice (some a) L.length z) (L.length) ((L).flatMap opC) 28 from SL.out.chx C44 xnin_nil)
  have Fg3' := Lib.hid (show Blk w42 g3 (#[.int .i64 (now + 1 : Nat), .slice (some a) L.length z, u]) 53 from C44.blk Fg3.out nin_nil)
  have Fg11' := Lib.hid (show Blk w42 g11 (#[.int .i64 0, .slice none 0 0, .slice none 0 0]) 53 from C44.blk Fg11.out nin_nil)
  clear C0 SL Fg3 Fg11
  have C0 := C0'; clear C0'
  have SL := SL'; clear SL'
  have Fg3 := Fg3'; clear Fg3'
  have Fg11 := Fg11'; clear Fg11'
  clear Z39
  have Z39 := Lib.hid (show OwnS w42 w.heap.size 59 28 (v41) (L.length) (L.flatMap opC) from (by simpa using O43)); clear O43 C44
  refine hK40 _ _ ?_; clear hK40 K40
  (try simp only [zP, zN, zA, zB, zC])
  refine pu_ (v := .pointer (some ⟨g3, 1, none⟩)) (y_run (by rfl) (fun W => by go_simp)) ?_
  (try simp only [zP, zN, zA, zB, zC])
  refine ef_ (fun K48 hK48 => ?_)
  refine e_store1 (b := g3) (j := 1) (v := v41) (by rfl) rfl rfl (by rfl) (by rfl) Fg3.out (show 1 < 3 by omega) (by kernel_rfl) Z39.out.one ?_
  rintro w49 B50 C51
  have C0' := Lib.hid (show Ch [] w w49 from C0.out.trans' C51 (inw_cons (.inr nw8.out) inw_nil))
  have SL' := Lib.hid (show SrcIs w49 (.slice (some a) L.length z) (L.length) ((L).flatMap opC) 28 from SL.out.chx C51 (xnin_cons nx9.out xnin_nil))
  have Fg11' := Lib.hid (show Blk w49 g11 (#[.int .i64 0, .slice none 0 0, .slice none 0 0]) 53 from C51.blk Fg11.out (nin_cons (Ne.symm ne18.out) nin_nil))
  have Z39' := Lib.hid (show OwnS w49 w.heap.size 59 28 (v41) (L.length) (L.flatMap opC) from Z39.out.ch C51 (rnin_cons (Z39.out.ne Fg3.out (by decide)) rnin_nil))
  clear C0 SL Fg11 Z39
  have C0 := C0'; clear C0'
  have SL := SL'; clear SL'
  have Fg11 := Fg11'; clear Fg11'
  have Z39 := Z39'; clear Z39'
  clear Fg3; have Fg3 := Lib.hid (show Blk w49 g3 (#[.int .i64 (now + 1 : Nat), v41, u]) 53 from B50); clear B50 C51
  refine hK48 _ _ ?_; clear hK48 K48
  (try simp only [zP, zN, zA, zB, zC])
  refine nl_ (hK32 _ _ ?_); clear hK32 K32
  skip
  · obtain ⟨gv, cv, hv, hcv, -, -, -, -⟩ := Z39.out.some_ (Nat.lt_of_le_of_lt (Nat.zero_le j) HL.out)
    subst hv
    have HCAP := Lib.hid (show 0 < cv by have := HL.out; omega)
    clear hcv
    refine s_ (fun K52 hK52 => ?_)
    refine pu_ (v := .pointer (some ⟨g3, 1, none⟩)) (y_run (by rfl) (fun W => by go_simp)) ?_
    (try simp only [zP, zN, zA, zB, zC])
    refine ld_ (v := .slice (some ⟨gv, 0, none⟩) L.length cv) rfl (by rfl) (by rfl) (run_load_one ((Fg3.out.cell 1).trans rfl) Try.underlying51 rfl) ?_
    (try simp only [zP, zN, zA, zB, zC])
    refine pu_ (v := .int .i64 j) (y_move rfl (by rfl) (by rfl)) ?_
    (try simp only [zP, zN, zA, zB, zC])
    refine pu_ (v := .pointer (some ⟨g3, 0, none⟩)) (y_run (by rfl) (fun W => by go_simp)) ?_
    (try simp only [zP, zN, zA, zB, zC])
    refine ld_ (v := .int .i64 (now + 1 : Nat)) rfl (by rfl) (by rfl) (run_load_one ((Fg3.out.cell 0).trans rfl) Try.underlying3 rfl) ?_
    (try simp only [zP, zN, zA, zB, zC])
    refine pu_ (v := .pointer (some ⟨gv, j * 28, none⟩)) (y_run (by rfl) (fun W => by have d := DJ.out; go_simp)) ?_
    (try simp only [zP, zN, zA, zB, zC])
    refine pu_ (v := .pointer (some ⟨gv, j * 28 + 4, none⟩)) (y_run (by rfl) (fun W => by go_simp)) ?_
    (try simp only [zP, zN, zA, zB, zC])
    refine ef_ (fun K53 hK53 => ?_)
    refine e_storeS1 (by rfl) rfl rfl Z39.out (j * 28 + 4) (.int .i64 (now + 1 : Nat)) (by rfl) (by rfl) (by kernel_rfl) (by have := HL.out; omega) rfl ?_
    rintro w54 O55 C56
    have RC56 := Lib.hid (show Ch (rl (.slice (some ⟨gv, 0, none⟩) L.length cv)) w49 w54 from by rw [rl_some _ _ _ HCAP.out]; exact C56)
    have C0' := Lib.hid (show Ch [] w w54 from C0.out.trans' RC56.out (fun x hx => .inr (Z39.out.lt x hx).1))
    have SL' := Lib.hid (show SrcIs w54 (.slice (some a) L.length z) (L.length) ((L).flatMap opC) 28 from SL.out.chx RC56.out xr47.out)
    have Fg3' := Lib.hid (show Blk w54 g3 (#[.int .i64 (now + 1 : Nat), .slice (some ⟨gv, 0, none⟩) L.length cv, u]) 53 from RC56.out.blk Fg3.out (Z39.out.ne Fg3.out (by decide)))
    have Fg11' := Lib.hid (show Blk w54 g11 (#[.int .i64 0, .slice none 0 0, .slice none 0 0]) 53 from RC56.out.blk Fg11.out (Z39.out.ne Fg11.out (by decide)))
    clear C0 SL Fg3 Fg11
    have C0 := C0'; clear C0'
    have SL := SL'; clear SL'
    have Fg3 := Fg3'; clear Fg3'
    have Fg11 := Fg11'; clear Fg11'
    clear Z39
    have Z39 := Lib.hid (show OwnS w54 w.heap.size 59 28 (.slice (some ⟨gv, 0, none⟩) L.length cv) (L.length) ((L.set j { o with t := ((now + 1 : Nat) : Int) }).flatMap opC) from by have h := O55; rw [put_t HO.out] at h; exact h); clear O55 C56 RC56
    refine hK53 _ _ ?_; clear hK53 K53
    (try simp only [zP, zN, zA, zB, zC])
    refine nl_ (hK52 _ _ ?_); clear hK52 K52
    refine s_ (fun K57 hK57 => ?_)
    refine ld_ (v := .agg (#[.int .i64 (now + 1 : Nat), .slice (some ⟨gv, 0, none⟩) L.length cv, u])) rfl (by rfl) (by rfl) (run_loadVar_row _ _ 53 53 (#[.int .i64 (now + 1 : Nat), .slice (some ⟨gv, 0, none⟩) L.length cv, u]) (0, 0) _ Fg3.out Try.underlying53 rfl (by kernel_rfl)) ?_
    (try simp only [zP, zN, zA, zB, zC])
    refine ef_ (fun K58 hK58 => ?_)
    refine e_storeN (cells := (#[.int .i64 (now + 1 : Nat), .slice (some ⟨gv, 0, none⟩) L.length cv, u])) (by rfl) rfl rfl (by rfl) (by rfl) Fg11.out (by kernel_rfl) (by rfl) (ones_cons rfl (ones_cons rfl (ones_cons HU ones_nil))) ?_
    rintro w59 B60 C61
    have C0' := Lib.hid (show Ch [] w w59 from C0.out.trans' C61 (inw_cons (.inr nw16.out) inw_nil))
    have SL' := Lib.hid (show SrcIs w59 (.slice (some a) L.length z) (L.length) ((L).flatMap opC) 28 from SL.out.chx C61 (xnin_cons nx17.out xnin_nil))
    have Fg3' := Lib.hid (show Blk w59 g3 (#[.int .i64 (now + 1 : Nat), .slice (some ⟨gv, 0, none⟩) L.length cv, u]) 53 from C61.blk Fg3.out (nin_cons ne18.out nin_nil))
    have Z39' := Lib.hid (show OwnS w59 w.heap.size 59 28 (.slice (some ⟨gv, 0, none⟩) L.length cv) (L.length) ((L.set j { o with t := ((now + 1 : Nat) : Int) }).flatMap opC) from Z39.out.ch C61 (rnin_cons (Z39.out.ne Fg11.out (by decide)) rnin_nil))
    clear C0 SL Fg3 Z39
    have C0 := C0'; clear C0'
    have SL := SL'; clear SL'
    have Fg3 := Fg3'; clear Fg3'
    have Z39 := Z39'; clear Z39'
    clear Fg11; have Fg11 := Lib.hid (show Blk w59 g11 ((#[.int .i64 (now + 1 : Nat), .slice (some ⟨gv, 0, none⟩) L.length cv, u])) 53 from B60); clear B60 C61
    refine hK58 _ _ ?_; clear hK58 K58
    (try simp only [zP, zN, zA, zB, zC])
    refine pu_ (v := .int .i64 0) (y_assign rfl (by rfl) (by rfl)) ?_
    (try simp only [zP, zN, zA, zB, zC])
    refine nl_ (hK57 _ _ ?_); clear hK57 K57
    refine wp_ret ?_
    refine hQ _ _ _ ?_
    refine bodyPost_ret (res2 rfl (rdv_cell (by rfl) (run_loadVar_row _ _ 53 53 ((#[.int .i64 (now + 1 : Nat), .slice (some ⟨gv, 0, none⟩) L.length cv, u])) (0, 0) _ Fg11.out Try.underlying53 rfl (by kernel_rfl))) (rdv_tmp (v := .int .i64 0) (by rfl))) rfl ?_
    exact ⟨_, rfl, Z39.out, C0.out⟩
theorem rdo_none {A : Option Addr} {z : Nat} {L : List HOp} {now : Nat} {u : Value} {c n : Int} (HN : Hid (L.length ≤ 1000)) (HU : u.oneCell' = true) {CA : Cs 16} {RA : Cs 7} (HJ : Hid (idx c n 0 L = none)) (SL : Hid (SrcIs w (.slice A L.length z) (L.length) ((L).flatMap opC) 28)) :
    Calls Try.prog 19 #[.agg #[.int .i64 now, .slice A L.length z, u], .int .i64 c, .int .i64 n, .agg CA.1.toArray, .agg RA.1.toArray] w fun en w' => en = .returned (.tuple #[.agg #[.int .i64 now, .slice A L.length z, u], .int .i64 6]) ∧ Ch [] w w' := by
  have C0 := Lib.hid (Ch.refl [] w)
  go_enter Try.func19, Try.ntmps19
  refine q_ (fun Q hQ hP => ?_)
  refine s_ (fun K1 hK1 => ?_)
  refine ef_ (fun K2 hK2 => ?_)
  refine e_boxN (by rfl) rfl rfl (cs := #[.int .i64 now, .slice A L.length z, u]) (v := .agg #[.int .i64 now, .slice A L.length z, u]) (by rfl) rfl ?_
  rintro g3 w4 HG5 B6 C7
  have nw8 := Lib.hid (show w.heap.size ≤ g3 by have := C0.out.size; have := HG5.out; omega)
  have nx9 := Lib.hid (SL.out.ne_new (by decide) HG5)
  have C0' := Lib.hid (show Ch [] w w4 from C0.out.trans' C7 (fun x hx => absurd hx (by simp)))
  have SL' := Lib.hid (show SrcIs w4 (.slice A L.length z) (L.length) ((L).flatMap opC) 28 from SL.out.chx C7 xnin_nil)
  clear C0 SL
  have C0 := C0'; clear C0'
  have SL := SL'; clear SL'
  have Fg3 := Lib.hid (show Blk w4 g3 (#[.int .i64 now, .slice A L.length z, u]) 53 from B6); clear B6 C7
  refine hK2 _ _ ?_; clear hK2 K2
  (try simp only [zP, zN, zA, zB, zC])
  refine ef_ (fun K10 hK10 => ?_)
  refine e_boxN (by rfl) rfl rfl (cs := CA.1.toArray) (v := .agg CA.1.toArray) (by rfl) rfl ?_
  rintro g11 w12 HG13 B14 C15
  have nw16 := Lib.hid (show w.heap.size ≤ g11 by have := C0.out.size; have := HG13.out; omega)
  have nx17 := Lib.hid (SL.out.ne_new (by decide) HG13)
  have C0' := Lib.hid (show Ch [] w w12 from C0.out.trans' C15 (fun x hx => absurd hx (by simp)))
  have SL' := Lib.hid (show SrcIs w12 (.slice A L.length z) (L.length) ((L).flatMap opC) 28 from SL.out.chx C15 xnin_nil)
  have Fg3' := Lib.hid (show Blk w12 g3 (#[.int .i64 now, .slice A L.length z, u]) 53 from C15.blk Fg3.out nin_nil)
  clear C0 SL Fg3
  have C0 := C0'; clear C0'
  have SL := SL'; clear SL'
  have Fg3 := Fg3'; clear Fg3'
  have Fg11 := Lib.hid (show Blk w12 g11 (CA.1.toArray) 32 from B14); clear B14 C15
  refine hK10 _ _ ?_; clear hK10 K10
  (try simp only [zP, zN, zA, zB, zC])
  refine ef_ (fun K18 hK18 => ?_)
  refine e_boxN (by rfl) rfl rfl (cs := RA.1.toArray) (v := .agg RA.1.toArray) (by rfl) rfl ?_
  rintro g19 w20 HG21 B22 C23
  have nw24 := Lib.hid (show w.heap.size ≤ g19 by have := C0.out.size; have := HG21.out; omega)
  have nx25 := Lib.hid (SL.out.ne_new (by decide) HG21)
  have C0' := Lib.hid (show Ch [] w w20 from C0.out.trans' C23 (fun x hx => absurd hx (by simp)))
  have SL' := Lib.hid (show SrcIs w20 (.slice A L.length z) (L.length) ((L).flatMap opC) 28 from SL.out.chx C23 xnin_nil)
  have Fg3' := Lib.hid (show Blk w20 g3 (#[.int .i64 now, .slice A L.length z, u]) 53 from C23.blk Fg3.out nin_nil)
  have Fg11' := Lib.hid (show Blk w20 g11 (CA.1.toArray) 32 from C23.blk Fg11.out nin_nil)
  clear C0 SL Fg3 Fg11
  have C0 := C0'; clear C0'
  have SL := SL'; clear SL'
  have Fg3 := Fg3'; clear Fg3'
  have Fg11 := Fg11'; clear Fg11'
  have Fg19 := Lib.hid (show Blk w20 g19 (RA.1.toArray) 42 from B22); clear B22 C23
  refine hK18 _ _ ?_; clear hK18 K18
  (try simp only [zP, zN, zA, zB, zC])
  refine ef_ (fun K26 hK26 => ?_)
  refine e_alloc (by rfl) rfl rfl (cs := #[.int .i64 0, .slice none 0 0, .slice none 0 0]) (by kernel_rfl) ?_
  rintro g27 w28 HG29 B30 C31
  have nw32 := Lib.hid (show w.heap.size ≤ g27 by have := C0.out.size; have := HG29.out; omega)
  have nx33 := Lib.hid (SL.out.ne_new (by decide) HG29)
  have ne34 := Lib.hid (Fg3.out.ne_new HG29)
  have C0' := Lib.hid (show Ch [] w w28 from C0.out.trans' C31 (fun x hx => absurd hx (by simp)))
  have SL' := Lib.hid (show SrcIs w28 (.slice A L.length z) (L.length) ((L).flatMap opC) 28 from SL.out.chx C31 xnin_nil)
  have Fg3' := Lib.hid (show Blk w28 g3 (#[.int .i64 now, .slice A L.length z, u]) 53 from C31.blk Fg3.out nin_nil)
  have Fg11' := Lib.hid (show Blk w28 g11 (CA.1.toArray) 32 from C31.blk Fg11.out nin_nil)
  have Fg19' := Lib.hid (show Blk w28 g19 (RA.1.toArray) 42 from C31.blk Fg19.out nin_nil)
  clear C0 SL Fg3 Fg11 Fg19
  have C0 := C0'; clear C0'
  have SL := SL'; clear SL'
  have Fg3 := Fg3'; clear Fg3'
  have Fg11 := Fg11'; clear Fg11'
  have Fg19 := Fg19'; clear Fg19'
  have Fg27 := Lib.hid (show Blk w28 g27 (#[.int .i64 0, .slice none 0 0, .slice none 0 0]) 53 from B30); clear B30 C31
  refine hK26 _ _ ?_; clear hK26 K26
  (try simp only [zP, zN, zA, zB, zC])
  refine pu_ (v := .int .i64 0) (y_assign rfl (by rfl) (by rfl)) ?_
  (try simp only [zP, zN, zA, zB, zC])
  refine nl_ (hK1 _ _ ?_); clear hK1 K1
  refine s_ (fun K35 hK35 => ?_)
  refine ld_ (v := .agg (#[.int .i64 now, .slice A L.length z, u])) rfl (by rfl) (by rfl) (run_loadVar_row _ _ 53 53 (#[.int .i64 now, .slice A L.length z, u]) (0, 0) _ Fg3.out Try.underlying53 rfl (by kernel_rfl)) ?_
  (try simp only [zP, zN, zA, zB, zC])
  refine pu_ (v := .int .i64 c) (y_move rfl (by rfl) (by rfl)) ?_
  (try simp only [zP, zN, zA, zB, zC])
  refine pu_ (v := .int .i64 n) (y_move rfl (by rfl) (by rfl)) ?_
  (try simp only [zP, zN, zA, zB, zC])
  refine ef_ (fun K36 hK36 => ?_)
  refine e_call Try.func25 (by kernel_rfl) rfl #[.agg (#[.int .i64 now, .slice A L.length z, u]), .int .i64 c, .int .i64 n] (by rfl) rfl rfl (by first | rfl | (simp only [List.map_toArray, List.map_cons, List.map_nil]; first | done | rfl)) ((rix_none HN HU HJ SL)) ?_
  rintro en w38 ⟨rfl, cc37⟩
  refine ⟨_, rfl, ?_⟩
  have C0' := Lib.hid (show Ch [] w w38 from C0.out.trans' cc37 (fun x hx => absurd hx (by simp)))
  have SL' := Lib.hid (show SrcIs w38 (.slice A L.length z) (L.length) ((L).flatMap opC) 28 from SL.out.chx cc37 xnin_nil)
  have Fg3' := Lib.hid (show Blk w38 g3 (#[.int .i64 now, .slice A L.length z, u]) 53 from cc37.blk Fg3.out nin_nil)
  have Fg11' := Lib.hid (show Blk w38 g11 (CA.1.toArray) 32 from cc37.blk Fg11.out nin_nil)
  have Fg19' := Lib.hid (show Blk w38 g19 (RA.1.toArray) 42 from cc37.blk Fg19.out nin_nil)
  have Fg27' := Lib.hid (show Blk w38 g27 (#[.int .i64 0, .slice none 0 0, .slice none 0 0]) 53 from cc37.blk Fg27.out nin_nil)
  clear C0 SL Fg3 Fg11 Fg19 Fg27
  have C0 := C0'; clear C0'
  have SL := SL'; clear SL'
  have Fg3 := Fg3'; clear Fg3'
  have Fg11 := Fg11'; clear Fg11'
  have Fg19 := Fg19'; clear Fg19'
  have Fg27 := Fg27'; clear Fg27'
  clear cc37
  refine hK36 _ _ ?_; clear hK36 K36
  (try simp only [zP, zN, zA, zB, zC])
  refine pu_ (v := .int .i64 (-1)) (y_assign rfl (by rfl) (by rfl)) ?_
  (try simp only [zP, zN, zA, zB, zC])
  refine nl_ (hK35 _ _ ?_); clear hK35 K35
  refine sq_ (fun K39 hK39 => ?_)
  refine s_ (fun K40 hK40 => ?_)
  refine pu_ (v := .int .i64 (-1)) (y_move rfl (by rfl) (by rfl)) ?_
  (try simp only [zP, zN, zA, zB, zC])
  refine pu_ (v := .bool true) (y_run (by rfl) (fun W => by go_simp)) ?_
  (try simp only [zP, zN, zA, zB, zC])
  refine nl_ (hK40 _ _ ?_); clear hK40 K40
  refine wp_cond_true rfl ?_
  refine s_ (fun K41 hK41 => ?_)
  refine ld_ (v := .agg (#[.int .i64 now, .slice A L.length z, u])) rfl (by rfl) (by rfl) (run_loadVar_row _ _ 53 53 (#[.int .i64 now, .slice A L.length z, u]) (0, 0) _ Fg3.out Try.underlying53 rfl (by kernel_rfl)) ?_
  (try simp only [zP, zN, zA, zB, zC])
  refine ef_ (fun K42 hK42 => ?_)
  refine e_storeN (cells := (#[.int .i64 now, .slice A L.length z, u])) (by rfl) rfl rfl (by rfl) (by rfl) Fg27.out (by kernel_rfl) (by rfl) (ones_cons rfl (ones_cons rfl (ones_cons HU ones_nil))) ?_
  rintro w43 B44 C45
  have C0' := Lib.hid (show Ch [] w w43 from C0.out.trans' C45 (inw_cons (.inr nw32.out) inw_nil))
  have SL' := Lib.hid (show SrcIs w43 (.slice A L.length z) (L.length) ((L).flatMap opC) 28 from SL.out.chx C45 (xnin_cons nx33.out xnin_nil))
  have Fg3' := Lib.hid (show Blk w43 g3 (#[.int .i64 now, .slice A L.length z, u]) 53 from C45.blk Fg3.out (nin_cons ne34.out nin_nil))
  have Fg11' := Lib.hid (show Blk w43 g11 (CA.1.toArray) 32 from C45.blk Fg11.out (nin_cons (Blk.ne_type Fg11.out Fg27.out (by decide)) nin_nil))
  have Fg19' := Lib.hid (show Blk w43 g19 (RA.1.toArray) 42 from C45.blk Fg19.out (nin_cons (Blk.ne_type Fg19.out Fg27.out (by decide)) nin_nil))
  clear C0 SL Fg3 Fg11 Fg19
  have C0 := C0'; clear C0'
  have SL := SL'; clear SL'
  have Fg3 := Fg3'; clear Fg3'
  have Fg11 := Fg11'; clear Fg11'
  have Fg19 := Fg19'; clear Fg19'
  clear Fg27; have Fg27 := Lib.hid (show Blk w43 g27 ((#[.int .i64 now, .slice A L.length z, u])) 53 from B44); clear B44 C45
  refine hK42 _ _ ?_; clear hK42 K42
  (try simp only [zP, zN, zA, zB, zC])
  refine pu_ (v := .int .i64 6) (y_assign rfl (by rfl) (by rfl)) ?_
  (try simp only [zP, zN, zA, zB, zC])
  refine nl_ (hK41 _ _ ?_); clear hK41 K41
  refine wp_ret ?_
  refine th_ret ?_
  refine hQ _ _ _ ?_
  refine bodyPost_ret (res2 rfl (rdv_cell (by rfl) (run_loadVar_row _ _ 53 53 ((#[.int .i64 now, .slice A L.length z, u])) (0, 0) _ Fg27.out Try.underlying53 rfl (by kernel_rfl))) (rdv_tmp (v := .int .i64 6) (by rfl))) rfl ?_
  exact ⟨rfl, C0.out⟩
theorem rdo_done {a : Addr} {z : Nat} {L : List HOp} {now j : Nat} {u : Value} {c n : Int} {o : HOp} (HN : Hid (L.length ≤ 1000)) (HU : u.oneCell' = true) (HJ : Hid (idx c n 0 L = some j)) (HO : Hid (L[j]? = some o)) {CA : Cs 16} {RA : Cs 7} (HD : Hid (decide (o.d > 0) = true)) (SL : Hid (SrcIs w (.slice (some a) L.length z) (L.length) ((L).flatMap opC) 28)) :
    Calls Try.prog 19 #[.agg #[.int .i64 now, .slice (some a) L.length z, u], .int .i64 c, .int .i64 n, .agg CA.1.toArray, .agg RA.1.toArray] w fun en w' => en = .returned (.tuple #[.agg #[.int .i64 now, .slice (some a) L.length z, u], .int .i64 5]) ∧ Ch [] w w' := by
  have C0 := Lib.hid (Ch.refl [] w)
  have HL := Lib.hid (show j < L.length from (List.getElem?_eq_some_iff.1 HO.out).1)
  have DJ := Lib.hid (show (j : Int) < (L.length : Int) by have := HL.out; omega)
  have DZ := Lib.hid (show ¬ (j : Int) < 0 by omega)
  go_enter Try.func19, Try.ntmps19
  refine q_ (fun Q hQ hP => ?_)
  refine s_ (fun K1 hK1 => ?_)
  refine ef_ (fun K2 hK2 => ?_)
  refine e_boxN (by rfl) rfl rfl (cs := #[.int .i64 now, .slice (some a) L.length z, u]) (v := .agg #[.int .i64 now, .slice (some a) L.length z, u]) (by rfl) rfl ?_
  rintro g3 w4 HG5 B6 C7
  have nw8 := Lib.hid (show w.heap.size ≤ g3 by have := C0.out.size; have := HG5.out; omega)
  have nx9 := Lib.hid (SL.out.ne_new (by decide) HG5)
  have C0' := Lib.hid (show Ch [] w w4 from C0.out.trans' C7 (fun x hx => absurd hx (by simp)))
  have SL' := Lib.hid (show SrcIs w4 (.slice (some a) L.length z) (L.length) ((L).flatMap opC) 28 from SL.out.chx C7 xnin_nil)
  clear C0 SL
  have C0 := C0'; clear C0'
  have SL := SL'; clear SL'
  have Fg3 := Lib.hid (show Blk w4 g3 (#[.int .i64 now, .slice (some a) L.length z, u]) 53 from B6); clear B6 C7
  refine hK2 _ _ ?_; clear hK2 K2
  (try simp only [zP, zN, zA, zB, zC])
  refine ef_ (fun K10 hK10 => ?_)
  refine e_boxN (by rfl) rfl rfl (cs := CA.1.toArray) (v := .agg CA.1.toArray) (by rfl) rfl ?_
  rintro g11 w12 HG13 B14 C15
  have nw16 := Lib.hid (show w.heap.size ≤ g11 by have := C0.out.size; have := HG13.out; omega)
  have nx17 := Lib.hid (SL.out.ne_new (by decide) HG13)
  have C0' := Lib.hid (show Ch [] w w12 from C0.out.trans' C15 (fun x hx => absurd hx (by simp)))
  have SL' := Lib.hid (show SrcIs w12 (.slice (some a) L.length z) (L.length) ((L).flatMap opC) 28 from SL.out.chx C15 xnin_nil)
  have Fg3' := Lib.hid (show Blk w12 g3 (#[.int .i64 now, .slice (some a) L.length z, u]) 53 from C15.blk Fg3.out nin_nil)
  clear C0 SL Fg3
  have C0 := C0'; clear C0'
  have SL := SL'; clear SL'
  have Fg3 := Fg3'; clear Fg3'
  have Fg11 := Lib.hid (show Blk w12 g11 (CA.1.toArray) 32 from B14); clear B14 C15
  refine hK10 _ _ ?_; clear hK10 K10
  (try simp only [zP, zN, zA, zB, zC])
  refine ef_ (fun K18 hK18 => ?_)
  refine e_boxN (by rfl) rfl rfl (cs := RA.1.toArray) (v := .agg RA.1.toArray) (by rfl) rfl ?_
  rintro g19 w20 HG21 B22 C23
  have nw24 := Lib.hid (show w.heap.size ≤ g19 by have := C0.out.size; have := HG21.out; omega)
  have nx25 := Lib.hid (SL.out.ne_new (by decide) HG21)
  have C0' := Lib.hid (show Ch [] w w20 from C0.out.trans' C23 (fun x hx => absurd hx (by simp)))
  have SL' := Lib.hid (show SrcIs w20 (.slice (some a) L.length z) (L.length) ((L).flatMap opC) 28 from SL.out.chx C23 xnin_nil)
  have Fg3' := Lib.hid (show Blk w20 g3 (#[.int .i64 now, .slice (some a) L.length z, u]) 53 from C23.blk Fg3.out nin_nil)
  have Fg11' := Lib.hid (show Blk w20 g11 (CA.1.toArray) 32 from C23.blk Fg11.out nin_nil)
  clear C0 SL Fg3 Fg11
  have C0 := C0'; clear C0'
  have SL := SL'; clear SL'
  have Fg3 := Fg3'; clear Fg3'
  have Fg11 := Fg11'; clear Fg11'
  have Fg19 := Lib.hid (show Blk w20 g19 (RA.1.toArray) 42 from B22); clear B22 C23
  refine hK18 _ _ ?_; clear hK18 K18
  (try simp only [zP, zN, zA, zB, zC])
  refine ef_ (fun K26 hK26 => ?_)
  refine e_alloc (by rfl) rfl rfl (cs := #[.int .i64 0, .slice none 0 0, .slice none 0 0]) (by kernel_rfl) ?_
  rintro g27 w28 HG29 B30 C31
  have nw32 := Lib.hid (show w.heap.size ≤ g27 by have := C0.out.size; have := HG29.out; omega)
  have nx33 := Lib.hid (SL.out.ne_new (by decide) HG29)
  have ne34 := Lib.hid (Fg3.out.ne_new HG29)
  have C0' := Lib.hid (show Ch [] w w28 from C0.out.trans' C31 (fun x hx => absurd hx (by simp)))
  have SL' := Lib.hid (show SrcIs w28 (.slice (some a) L.length z) (L.length) ((L).flatMap opC) 28 from SL.out.chx C31 xnin_nil)
  have Fg3' := Lib.hid (show Blk w28 g3 (#[.int .i64 now, .slice (some a) L.length z, u]) 53 from C31.blk Fg3.out nin_nil)
  have Fg11' := Lib.hid (show Blk w28 g11 (CA.1.toArray) 32 from C31.blk Fg11.out nin_nil)
  have Fg19' := Lib.hid (show Blk w28 g19 (RA.1.toArray) 42 from C31.blk Fg19.out nin_nil)
  clear C0 SL Fg3 Fg11 Fg19
  have C0 := C0'; clear C0'
  have SL := SL'; clear SL'
  have Fg3 := Fg3'; clear Fg3'
  have Fg11 := Fg11'; clear Fg11'
  have Fg19 := Fg19'; clear Fg19'
  have Fg27 := Lib.hid (show Blk w28 g27 (#[.int .i64 0, .slice none 0 0, .slice none 0 0]) 53 from B30); clear B30 C31
  refine hK26 _ _ ?_; clear hK26 K26
  (try simp only [zP, zN, zA, zB, zC])
  refine pu_ (v := .int .i64 0) (y_assign rfl (by rfl) (by rfl)) ?_
  (try simp only [zP, zN, zA, zB, zC])
  refine nl_ (hK1 _ _ ?_); clear hK1 K1
  refine s_ (fun K35 hK35 => ?_)
  refine ld_ (v := .agg (#[.int .i64 now, .slice (some a) L.length z, u])) rfl (by rfl) (by rfl) (run_loadVar_row _ _ 53 53 (#[.int .i64 now, .slice (some a) L.length z, u]) (0, 0) _ Fg3.out Try.underlying53 rfl (by kernel_rfl)) ?_
  (try simp only [zP, zN, zA, zB, zC])
  refine pu_ (v := .int .i64 c) (y_move rfl (by rfl) (by rfl)) ?_
  (try simp only [zP, zN, zA, zB, zC])
  refine pu_ (v := .int .i64 n) (y_move rfl (by rfl) (by rfl)) ?_
  (try simp only [zP, zN, zA, zB, zC])
  refine ef_ (fun K36 hK36 => ?_)
  refine e_call Try.func25 (by kernel_rfl) rfl #[.agg (#[.int .i64 now, .slice (some a) L.length z, u]), .int .i64 c, .int .i64 n] (by rfl) rfl rfl (by first | rfl | (simp only [List.map_toArray, List.map_cons, List.map_nil]; first | done | rfl)) ((rix_some HN HU HJ SL)) ?_
  rintro en w38 ⟨rfl, cc37⟩
  refine ⟨_, rfl, ?_⟩
  have C0' := Lib.hid (show Ch [] w w38 from C0.out.trans' cc37 (fun x hx => absurd hx (by simp)))
  have SL' := Lib.hid (show SrcIs w38 (.slice (some a) L.length z) (L.length) ((L).flatMap opC) 28 from SL.out.chx cc37 xnin_nil)
  have Fg3' := Lib.hid (show Blk w38 g3 (#[.int .i64 now, .slice (some a) L.length z, u]) 53 from cc37.blk Fg3.out nin_nil)
  have Fg11' := Lib.hid (show Blk w38 g11 (CA.1.toArray) 32 from cc37.blk Fg11.out nin_nil)
  have Fg19' := Lib.hid (show Blk w38 g19 (RA.1.toArray) 42 from cc37.blk Fg19.out nin_nil)
  have Fg27' := Lib.hid (show Blk w38 g27 (#[.int .i64 0, .slice none 0 0, .slice none 0 0]) 53 from cc37.blk Fg27.out nin_nil)
  clear C0 SL Fg3 Fg11 Fg19 Fg27
  have C0 := C0'; clear C0'
  have SL := SL'; clear SL'
  have Fg3 := Fg3'; clear Fg3'
  have Fg11 := Fg11'; clear Fg11'
  have Fg19 := Fg19'; clear Fg19'
  have Fg27 := Fg27'; clear Fg27'
  clear cc37
  refine hK36 _ _ ?_; clear hK36 K36
  (try simp only [zP, zN, zA, zB, zC])
  refine pu_ (v := .int .i64 j) (y_assign rfl (by rfl) (by rfl)) ?_
  (try simp only [zP, zN, zA, zB, zC])
  refine nl_ (hK35 _ _ ?_); clear hK35 K35
  refine sq_ (fun K39 hK39 => ?_)
  refine s_ (fun K40 hK40 => ?_)
  refine pu_ (v := .int .i64 j) (y_move rfl (by rfl) (by rfl)) ?_
  (try simp only [zP, zN, zA, zB, zC])
  refine pu_ (v := .bool false) (y_run (by rfl) (fun W => by have d := DZ.out; go_simp)) ?_
  (try simp only [zP, zN, zA, zB, zC])
  refine nl_ (hK40 _ _ ?_); clear hK40 K40
  refine wp_cond_false rfl ?_
  refine wp_skip ?_
  refine th_norm (hK39 _ _ ?_); try clear hK39 K39
  refine sq_ (fun K41 hK41 => ?_)
  refine s_ (fun K42 hK42 => ?_)
  refine pu_ (v := .pointer (some ⟨g3, 1, none⟩)) (y_run (by rfl) (fun W => by go_simp)) ?_
  (try simp only [zP, zN, zA, zB, zC])
  refine ld_ (v := .slice (some a) L.length z) rfl (by rfl) (by rfl) (run_load_one ((Fg3.out.cell 1).trans rfl) Try.underlying51 rfl) ?_
  (try simp only [zP, zN, zA, zB, zC])
  refine pu_ (v := .int .i64 j) (y_move rfl (by rfl) (by rfl)) ?_
  (try simp only [zP, zN, zA, zB, zC])
  refine pu_ (v := .pointer (some (a.add (j * 28)))) (y_run (by rfl) (fun W => by have d := DJ.out; go_simp)) ?_
  (try simp only [zP, zN, zA, zB, zC])
  refine pu_ (v := .pointer (some ((a.add (j * 28)).add 3))) (y_run (by rfl) (fun W => by go_simp)) ?_
  (try simp only [zP, zN, zA, zB, zC])
  refine ld_ (v := .int .i64 o.d) rfl (by rfl) (by rfl) (run_load_one (src_elem SL.out HO.out 3 _ (by simp [opC])) Try.underlying3 rfl) ?_
  (try simp only [zP, zN, zA, zB, zC])
  refine pu_ (v := .bool true) (y_run (by rfl) (fun W => by have d := HD.out; go_simp)) ?_
  (try simp only [zP, zN, zA, zB, zC])
  refine nl_ (hK42 _ _ ?_); clear hK42 K42
  refine wp_cond_true rfl ?_
  refine s_ (fun K43 hK43 => ?_)
  refine ld_ (v := .agg (#[.int .i64 now, .slice (some a) L.length z, u])) rfl (by rfl) (by rfl) (run_loadVar_row _ _ 53 53 (#[.int .i64 now, .slice (some a) L.length z, u]) (0, 0) _ Fg3.out Try.underlying53 rfl (by kernel_rfl)) ?_
  (try simp only [zP, zN, zA, zB, zC])
  refine ef_ (fun K44 hK44 => ?_)
  refine e_storeN (cells := (#[.int .i64 now, .slice (some a) L.length z, u])) (by rfl) rfl rfl (by rfl) (by rfl) Fg27.out (by kernel_rfl) (by rfl) (ones_cons rfl (ones_cons rfl (ones_cons HU ones_nil))) ?_
  rintro w45 B46 C47
  have C0' := Lib.hid (show Ch [] w w45 from C0.out.trans' C47 (inw_cons (.inr nw32.out) inw_nil))
  have SL' := Lib.hid (show SrcIs w45 (.slice (some a) L.length z) (L.length) ((L).flatMap opC) 28 from SL.out.chx C47 (xnin_cons nx33.out xnin_nil))
  have Fg3' := Lib.hid (show Blk w45 g3 (#[.int .i64 now, .slice (some a) L.length z, u]) 53 from C47.blk Fg3.out (nin_cons ne34.out nin_nil))
  have Fg11' := Lib.hid (show Blk w45 g11 (CA.1.toArray) 32 from C47.blk Fg11.out (nin_cons (Blk.ne_type Fg11.out Fg27.out (by decide)) nin_nil))
  have Fg19' := Lib.hid (show Blk w45 g19 (RA.1.toArray) 42 from C47.blk Fg19.out (nin_cons (Blk.ne_type Fg19.out Fg27.out (by decide)) nin_nil))
  clear C0 SL Fg3 Fg11 Fg19
  have C0 := C0'; clear C0'
  have SL := SL'; clear SL'
  have Fg3 := Fg3'; clear Fg3'
  have Fg11 := Fg11'; clear Fg11'
  have Fg19 := Fg19'; clear Fg19'
  clear Fg27; have Fg27 := Lib.hid (show Blk w45 g27 ((#[.int .i64 now, .slice (some a) L.length z, u])) 53 from B46); clear B46 C47
  refine hK44 _ _ ?_; clear hK44 K44
  (try simp only [zP, zN, zA, zB, zC])
  refine pu_ (v := .int .i64 5) (y_assign rfl (by rfl) (by rfl)) ?_
  (try simp only [zP, zN, zA, zB, zC])
  refine nl_ (hK43 _ _ ?_); clear hK43 K43
  refine wp_ret ?_
  refine th_ret ?_
  refine hQ _ _ _ ?_
  refine bodyPost_ret (res2 rfl (rdv_cell (by rfl) (run_loadVar_row _ _ 53 53 ((#[.int .i64 now, .slice (some a) L.length z, u])) (0, 0) _ Fg27.out Try.underlying53 rfl (by kernel_rfl))) (rdv_tmp (v := .int .i64 5) (by rfl))) rfl ?_
  exact ⟨rfl, C0.out⟩
theorem rdo_ok {a : Addr} {z : Nat} {L : List HOp} {now j : Nat} {u : Value} {c n : Int} {o : HOp} (HN : Hid (L.length ≤ 1000)) (HU : u.oneCell' = true) (HJ : Hid (idx c n 0 L = some j)) (HO : Hid (L[j]? = some o)) {CA : Cs 16} {RA : Cs 7} (HD : Hid (decide (o.d > 0) = false)) (HW : Hid (now ≤ 1000)) (SL : Hid (SrcIs w (.slice (some a) L.length z) (L.length) ((L).flatMap opC) 28)) :
    Calls Try.prog 19 #[.agg #[.int .i64 now, .slice (some a) L.length z, u], .int .i64 c, .int .i64 n, .agg CA.1.toArray, .agg RA.1.toArray] w fun en w' => ∃ v', en = .returned (.tuple #[.agg #[.int .i64 (now + 1 : Nat), v', u], .int .i64 0]) ∧ OwnS w' w.heap.size 59 28 v' L.length ((L.set j { o with d := ((now + 1 : Nat) : Int), cl := CA, rp := RA }).flatMap opC) ∧ Ch [] w w' := by
  have C0 := Lib.hid (Ch.refl [] w)
  obtain ⟨i59, I59⟩ := Info.of info59
  have WA := Lib.hid (show IntKind.i64.wrap ((now : Int) + 1) = ((now + 1 : Nat) : Int) by rw [wr64 (by have := HW.out; omega)]; omega)
  have HL := Lib.hid (show j < L.length from (List.getElem?_eq_some_iff.1 HO.out).1)
  have DJ := Lib.hid (show (j : Int) < (L.length : Int) by have := HL.out; omega)
  have DZ := Lib.hid (show ¬ (j : Int) < 0 by omega)
  have HO1 := Lib.hid (show (L.set j { o with d := ((now + 1 : Nat) : Int) })[j]? = some _ from List.getElem?_set_self HL.out)
  have HO2 := Lib.hid (show (L.set j { o with d := ((now + 1 : Nat) : Int), cl := CA })[j]? = some _ from List.getElem?_set_self HL.out)
  go_enter Try.func19, Try.ntmps19
  refine q_ (fun Q hQ hP => ?_)
  refine s_ (fun K1 hK1 => ?_)
  refine ef_ (fun K2 hK2 => ?_)
  refine e_boxN (by rfl) rfl rfl (cs := #[.int .i64 now, .slice (some a) L.length z, u]) (v := .agg #[.int .i64 now, .slice (some a) L.length z, u]) (by rfl) rfl ?_
  rintro g3 w4 HG5 B6 C7
  have nw8 := Lib.hid (show w.heap.size ≤ g3 by have := C0.out.size; have := HG5.out; omega)
  have nx9 := Lib.hid (SL.out.ne_new (by decide) HG5)
  have C0' := Lib.hid (show Ch [] w w4 from C0.out.trans' C7 (fun x hx => absurd hx (by simp)))
  have SL' := Lib.hid (show SrcIs w4 (.slice (some a) L.length z) (L.length) ((L).flatMap opC) 28 from SL.out.chx C7 xnin_nil)
  clear C0 SL
  have C0 := C0'; clear C0'
  have SL := SL'; clear SL'
  have Fg3 := Lib.hid (show Blk w4 g3 (#[.int .i64 now, .slice (some a) L.length z, u]) 53 from B6); clear B6 C7
  refine hK2 _ _ ?_; clear hK2 K2
  (try simp only [zP, zN, zA, zB, zC])
  refine ef_ (fun K10 hK10 => ?_)
  refine e_boxN (by rfl) rfl rfl (cs := CA.1.toArray) (v := .agg CA.1.toArray) (by rfl) rfl ?_
  rintro g11 w12 HG13 B14 C15
  have nw16 := Lib.hid (show w.heap.size ≤ g11 by have := C0.out.size; have := HG13.out; omega)
  have nx17 := Lib.hid (SL.out.ne_new (by decide) HG13)
  have C0' := Lib.hid (show Ch [] w w12 from C0.out.trans' C15 (fun x hx => absurd hx (by simp)))
  have SL' := Lib.hid (show SrcIs w12 (.slice (some a) L.length z) (L.length) ((L).flatMap opC) 28 from SL.out.chx C15 xnin_nil)
  have Fg3' := Lib.hid (show Blk w12 g3 (#[.int .i64 now, .slice (some a) L.length z, u]) 53 from C15.blk Fg3.out nin_nil)
  clear C0 SL Fg3
  have C0 := C0'; clear C0'
  have SL := SL'; clear SL'
  have Fg3 := Fg3'; clear Fg3'
  have Fg11 := Lib.hid (show Blk w12 g11 (CA.1.toArray) 32 from B14); clear B14 C15
  refine hK10 _ _ ?_; clear hK10 K10
  (try simp only [zP, zN, zA, zB, zC])
  refine ef_ (fun K18 hK18 => ?_)
  refine e_boxN (by rfl) rfl rfl (cs := RA.1.toArray) (v := .agg RA.1.toArray) (by rfl) rfl ?_
  rintro g19 w20 HG21 B22 C23
  have nw24 := Lib.hid (show w.heap.size ≤ g19 by have := C0.out.size; have := HG21.out; omega)
  have nx25 := Lib.hid (SL.out.ne_new (by decide) HG21)
  have C0' := Lib.hid (show Ch [] w w20 from C0.out.trans' C23 (fun x hx => absurd hx (by simp)))
  have SL' := Lib.hid (show SrcIs w20 (.slice (some a) L.length z) (L.length) ((L).flatMap opC) 28 from SL.out.chx C23 xnin_nil)
  have Fg3' := Lib.hid (show Blk w20 g3 (#[.int .i64 now, .slice (some a) L.length z, u]) 53 from C23.blk Fg3.out nin_nil)
  have Fg11' := Lib.hid (show Blk w20 g11 (CA.1.toArray) 32 from C23.blk Fg11.out nin_nil)
  clear C0 SL Fg3 Fg11
  have C0 := C0'; clear C0'
  have SL := SL'; clear SL'
  have Fg3 := Fg3'; clear Fg3'
  have Fg11 := Fg11'; clear Fg11'
  have Fg19 := Lib.hid (show Blk w20 g19 (RA.1.toArray) 42 from B22); clear B22 C23
  refine hK18 _ _ ?_; clear hK18 K18
  (try simp only [zP, zN, zA, zB, zC])
  refine ef_ (fun K26 hK26 => ?_)
  refine e_alloc (by rfl) rfl rfl (cs := #[.int .i64 0, .slice none 0 0, .slice none 0 0]) (by kernel_rfl) ?_
  rintro g27 w28 HG29 B30 C31
  have nw32 := Lib.hid (show w.heap.size ≤ g27 by have := C0.out.size; have := HG29.out; omega)
  have nx33 := Lib.hid (SL.out.ne_new (by decide) HG29)
  have ne34 := Lib.hid (Fg3.out.ne_new HG29)
  have C0' := Lib.hid (show Ch [] w w28 from C0.out.trans' C31 (fun x hx => absurd hx (by simp)))
  have SL' := Lib.hid (show SrcIs w28 (.slice (some a) L.length z) (L.length) ((L).flatMap opC) 28 from SL.out.chx C31 xnin_nil)
  have Fg3' := Lib.hid (show Blk w28 g3 (#[.int .i64 now, .slice (some a) L.length z, u]) 53 from C31.blk Fg3.out nin_nil)
  have Fg11' := Lib.hid (show Blk w28 g11 (CA.1.toArray) 32 from C31.blk Fg11.out nin_nil)
  have Fg19' := Lib.hid (show Blk w28 g19 (RA.1.toArray) 42 from C31.blk Fg19.out nin_nil)
  clear C0 SL Fg3 Fg11 Fg19
  have C0 := C0'; clear C0'
  have SL := SL'; clear SL'
  have Fg3 := Fg3'; clear Fg3'
  have Fg11 := Fg11'; clear Fg11'
  have Fg19 := Fg19'; clear Fg19'
  have Fg27 := Lib.hid (show Blk w28 g27 (#[.int .i64 0, .slice none 0 0, .slice none 0 0]) 53 from B30); clear B30 C31
  refine hK26 _ _ ?_; clear hK26 K26
  (try simp only [zP, zN, zA, zB, zC])
  refine pu_ (v := .int .i64 0) (y_assign rfl (by rfl) (by rfl)) ?_
  (try simp only [zP, zN, zA, zB, zC])
  refine nl_ (hK1 _ _ ?_); clear hK1 K1
  refine s_ (fun K35 hK35 => ?_)
  refine ld_ (v := .agg (#[.int .i64 now, .slice (some a) L.length z, u])) rfl (by rfl) (by rfl) (run_loadVar_row _ _ 53 53 (#[.int .i64 now, .slice (some a) L.length z, u]) (0, 0) _ Fg3.out Try.underlying53 rfl (by kernel_rfl)) ?_
  (try simp only [zP, zN, zA, zB, zC])
  refine pu_ (v := .int .i64 c) (y_move rfl (by rfl) (by rfl)) ?_
  (try simp only [zP, zN, zA, zB, zC])
  refine pu_ (v := .int .i64 n) (y_move rfl (by rfl) (by rfl)) ?_
  (try simp only [zP, zN, zA, zB, zC])
  refine ef_ (fun K36 hK36 => ?_)
  refine e_call Try.func25 (by kernel_rfl) rfl #[.agg (#[.int .i64 now, .slice (some a) L.length z, u]), .int .i64 c, .int .i64 n] (by rfl) rfl rfl (by first | rfl | (simp only [List.map_toArray, List.map_cons, List.map_nil]; first | done | rfl)) ((rix_some HN HU HJ SL)) ?_
  rintro en w38 ⟨rfl, cc37⟩
  refine ⟨_, rfl, ?_⟩
  have C0' := Lib.hid (show Ch [] w w38 from C0.out.trans' cc37 (fun x hx => absurd hx (by simp)))
  have SL' := Lib.hid (show SrcIs w38 (.slice (some a) L.length z) (L.length) ((L).flatMap opC) 28 from SL.out.chx cc37 xnin_nil)
  have Fg3' := Lib.hid (show Blk w38 g3 (#[.int .i64 now, .slice (some a) L.length z, u]) 53 from cc37.blk Fg3.out nin_nil)
  have Fg11' := Lib.hid (show Blk w38 g11 (CA.1.toArray) 32 from cc37.blk Fg11.out nin_nil)
  have Fg19' := Lib.hid (show Blk w38 g19 (RA.1.toArray) 42 from cc37.blk Fg19.out nin_nil)
  have Fg27' := Lib.hid (show Blk w38 g27 (#[.int .i64 0, .slice none 0 0, .slice none 0 0]) 53 from cc37.blk Fg27.out nin_nil)
  clear C0 SL Fg3 Fg11 Fg19 Fg27
  have C0 := C0'; clear C0'
  have SL := SL'; clear SL'
  have Fg3 := Fg3'; clear Fg3'
  have Fg11 := Fg11'; clear Fg11'
  have Fg19 := Fg19'; clear Fg19'
  have Fg27 := Fg27'; clear Fg27'
  clear cc37
  refine hK36 _ _ ?_; clear hK36 K36
  (try simp only [zP, zN, zA, zB, zC])
  refine pu_ (v := .int .i64 j) (y_assign rfl (by rfl) (by rfl)) ?_
  (try simp only [zP, zN, zA, zB, zC])
  refine nl_ (hK35 _ _ ?_); clear hK35 K35
  refine sq_ (fun K39 hK39 => ?_)
  refine s_ (fun K40 hK40 => ?_)
  refine pu_ (v := .int .i64 j) (y_move rfl (by rfl) (by rfl)) ?_
  (try simp only [zP, zN, zA, zB, zC])
  refine pu_ (v := .bool false) (y_run (by rfl) (fun W => by have d := DZ.out; go_simp)) ?_
  (try simp only [zP, zN, zA, zB, zC])
  refine nl_ (hK40 _ _ ?_); clear hK40 K40
  refine wp_cond_false rfl ?_
  refine wp_skip ?_
  refine th_norm (hK39 _ _ ?_); try clear hK39 K39
  refine sq_ (fun K41 hK41 => ?_)
  refine s_ (fun K42 hK42 => ?_)
  refine pu_ (v := .pointer (some ⟨g3, 1, none⟩)) (y_run (by rfl) (fun W => by go_simp)) ?_
  (try simp only [zP, zN, zA, zB, zC])
  refine ld_ (v := .slice (some a) L.length z) rfl (by rfl) (by rfl) (run_load_one ((Fg3.out.cell 1).trans rfl) Try.underlying51 rfl) ?_
  (try simp only [zP, zN, zA, zB, zC])
  refine pu_ (v := .int .i64 j) (y_move rfl (by rfl) (by rfl)) ?_
  (try simp only [zP, zN, zA, zB, zC])
  refine pu_ (v := .pointer (some (a.add (j * 28)))) (y_run (by rfl) (fun W => by have d := DJ.out; go_simp)) ?_
  (try simp only [zP, zN, zA, zB, zC])
  refine pu_ (v := .pointer (some ((a.add (j * 28)).add 3))) (y_run (by rfl) (fun W => by go_simp)) ?_
  (try simp only [zP, zN, zA, zB, zC])
  refine ld_ (v := .int .i64 o.d) rfl (by rfl) (by rfl) (run_load_one (src_elem SL.out HO.out 3 _ (by simp [opC])) Try.underlying3 rfl) ?_
  (try simp only [zP, zN, zA, zB, zC])
  refine pu_ (v := .bool false) (y_run (by rfl) (fun W => by have d := HD.out; go_simp)) ?_
  (try simp only [zP, zN, zA, zB, zC])
  refine nl_ (hK42 _ _ ?_); clear hK42 K42
  refine wp_cond_false rfl ?_
  refine wp_skip ?_
  refine th_norm (hK41 _ _ ?_); try clear hK41 K41
  refine s_ (fun K43 hK43 => ?_)
  refine pu_ (v := .pointer (some ⟨g3, 0, none⟩)) (y_run (by rfl) (fun W => by go_simp)) ?_
  (try simp only [zP, zN, zA, zB, zC])
  refine ld_ (v := .int .i64 now) rfl (by rfl) (by rfl) (run_load_one ((Fg3.out.cell 0).trans rfl) Try.underlying3 rfl) ?_
  (try simp only [zP, zN, zA, zB, zC])
  refine pu_ (v := .int .i64 (now + 1 : Nat)) (y_run (by rfl) (fun W => by have d := WA.out; go_simp)) ?_
  (try simp only [zP, zN, zA, zB, zC])
  refine pu_ (v := .pointer (some ⟨g3, 0, none⟩)) (y_run (by rfl) (fun W => by go_simp)) ?_
  (try simp only [zP, zN, zA, zB, zC])
  refine ef_ (fun K44 hK44 => ?_)
  refine e_store1 (b := g3) (j := 0) (v := .int .i64 (now + 1 : Nat)) (by rfl) rfl rfl (by rfl) (by rfl) Fg3.out (show 0 < 3 by omega) (by kernel_rfl) rfl ?_
  rintro w45 B46 C47
  have C0' := Lib.hid (show Ch [] w w45 from C0.out.trans' C47 (inw_cons (.inr nw8.out) inw_nil))
  have SL' := Lib.hid (show SrcIs w45 (.slice (some a) L.length z) (L.length) ((L).flatMap opC) 28 from SL.out.chx C47 (xnin_cons nx9.out xnin_nil))
  have Fg11' := Lib.hid (show Blk w45 g11 (CA.1.toArray) 32 from C47.blk Fg11.out (nin_cons (Blk.ne_type Fg11.out Fg3.out (by decide)) nin_nil))
  have Fg19' := Lib.hid (show Blk w45 g19 (RA.1.toArray) 42 from C47.blk Fg19.out (nin_cons (Blk.ne_type Fg19.out Fg3.out (by decide)) nin_nil))
  have Fg27' := Lib.hid (show Blk w45 g27 (#[.int .i64 0, .slice none 0 0, .slice none 0 0]) 53 from C47.blk Fg27.out (nin_cons (Ne.symm ne34.out) nin_nil))
  clear C0 SL Fg11 Fg19 Fg27
  have C0 := C0'; clear C0'
  have SL := SL'; clear SL'
  have Fg11 := Fg11'; clear Fg11'
  have Fg19 := Fg19'; clear Fg19'
  have Fg27 := Fg27'; clear Fg27'
  clear Fg3; have Fg3 := Lib.hid (show Blk w45 g3 (#[.int .i64 (now + 1 : Nat), .slice (some a) L.length z, u]) 53 from B46); clear B46 C47
  refine hK44 _ _ ?_; clear hK44 K44
  (try simp only [zP, zN, zA, zB, zC])
  refine nl_ (hK43 _ _ ?_); clear hK43 K43
  refine s_ (fun K48 hK48 => ?_)
  refine ef_ (fun K49 hK49 => ?_)
  refine e_buildS0 (by rfl) rfl rfl Try.underlying51 I59.hi ?_
  rintro g50 w51 HG52 C54
  have C0' := Lib.hid (show Ch [] w w51 from C0.out.trans' C54 (fun x hx => absurd hx (by simp)))
  have SL' := Lib.hid (show SrcIs w51 (.slice (some a) L.length z) (L.length) ((L).flatMap opC) 28 from SL.out.chx C54 xnin_nil)
  have Fg3' := Lib.hid (show Blk w51 g3 (#[.int .i64 (now + 1 : Nat), .slice (some a) L.length z, u]) 53 from C54.blk Fg3.out nin_nil)
  have Fg11' := Lib.hid (show Blk w51 g11 (CA.1.toArray) 32 from C54.blk Fg11.out nin_nil)
  have Fg19' := Lib.hid (show Blk w51 g19 (RA.1.toArray) 42 from C54.blk Fg19.out nin_nil)
  have Fg27' := Lib.hid (show Blk w51 g27 (#[.int .i64 0, .slice none 0 0, .slice none 0 0]) 53 from C54.blk Fg27.out nin_nil)
  clear C0 SL Fg3 Fg11 Fg19 Fg27
  have C0 := C0'; clear C0'
  have SL := SL'; clear SL'
  have Fg3 := Fg3'; clear Fg3'
  have Fg11 := Fg11'; clear Fg11'
  have Fg19 := Fg19'; clear Fg19'
  have Fg27 := Fg27'; clear Fg27'
  clear C54
  have Z55 := Lib.hid (show OwnS w51 w.heap.size 59 28 (.slice (some ⟨g50, 0, none⟩) 0 0) (0) ([]) from OwnS.nil _ _ _ _ _)
  refine hK49 _ _ ?_; clear hK49 K49
  (try simp only [zP, zN, zA, zB, zC])
  refine pu_ (v := .pointer (some ⟨g3, 1, none⟩)) (y_run (by rfl) (fun W => by go_simp)) ?_
  (try simp only [zP, zN, zA, zB, zC])
  refine ld_ (v := .slice (some a) L.length z) rfl (by rfl) (by rfl) (run_load_one ((Fg3.out.cell 1).trans rfl) Try.underlying51 rfl) ?_
  (try simp only [zP, zN, zA, zB, zC])
  refine ef_ (fun K56 hK56 => ?_)
  refine e_append (by rfl) rfl rfl (w.heap.size) 59 _ _ 28 344 Try.underlying51 I59.hi I59.hz I59.hs I59.hb rfl (by decide) (.slice (some ⟨g50, 0, none⟩) 0 0) (0) ([]) (by rfl) Z55.out (.slice (some a) L.length z) L.length (L.flatMap opC) (by rfl) SL.out (flat_one opC_one L) (by have := HN.out; unfold maxLen; omega) (by have := HN.out; omega) C0.out.size ?_
  rintro v57 w58 O59 C60 R61 -
  replace C60 : Ch [] _ _ := C60
  replace R61 : ∀ k, k ∈ rl v57 → w51.heap.size ≤ k := fun k hk => (R61 k hk).elim (fun h => absurd h (by simp [rl])) id
  have rw62 := Lib.hid (show ∀ x, x ∈ rl v57 → x ∈ [] ∨ w.heap.size ≤ x from fun x hx => .inr (by have := R61 x hx; have := C0.out.size; omega))
  have xr63 := Lib.hid (show ∀ k, k ∈ xb (.slice (some a) L.length z) → k ∉ rl v57 from fun k hk hm => by have := R61 k hm; have := SL.out.lt (by decide) k hk; omega)
  have C0' := Lib.hid (show Ch [] w w58 from C0.out.trans' C60 (fun x hx => absurd hx (by simp)))
  have SL' := Lib.hid (show SrcIs w58 (.slice (some a) L.length z) (L.length) ((L).flatMap opC) 28 from SL.out.chx C60 xnin_nil)
  have Fg3' := Lib.hid (show Blk w58 g3 (#[.int .i64 (now + 1 : Nat), .slice (some a) L.length z, u]) 53 from C60.blk Fg3.out nin_nil)
  have Fg11' := Lib.hid (show Blk w58 g11 (CA.1.toArray) 32 from C60.blk Fg11.out nin_nil)
  have Fg19' := Lib.hid (show Blk w58 g19 (RA.1.toArray) 42 from C60.blk Fg19.out nin_nil)
  have Fg27' := Lib.hid (show Blk w58 g27 (#[.int .i64 0, .slice none 0 0, .slice none 0 0]) 53 from C60.blk Fg27.out nin_nil)
  clear C0 SL Fg3 Fg11 Fg19 Fg27
  have C0 := C0'; clear C0'
  have SL := SL'; clear SL'
  have Fg3 := Fg3'; clear Fg3'
  have Fg11 := Fg11'; clear Fg11'
  have Fg19 := Fg19'; clear Fg19'
  have Fg27 := Fg27'; clear Fg27'
  clear Z55
  have Z55 := Lib.hid (show OwnS w58 w.heap.size 59 28 (v57) (L.length) (L.flatMap opC) from (by simpa using O59)); clear O59 C60
  refine hK56 _ _ ?_; clear hK56 K56
  (try simp only [zP, zN, zA, zB, zC])
  refine pu_ (v := .pointer (some ⟨g3, 1, none⟩)) (y_run (by rfl) (fun W => by go_simp)) ?_
  (try simp only [zP, zN, zA, zB, zC])
  refine ef_ (fun K64 hK64 => ?_)
  refine e_store1 (b := g3) (j := 1) (v := v57) (by rfl) rfl rfl (by rfl) (by rfl) Fg3.out (show 1 < 3 by omega) (by kernel_rfl) Z55.out.one ?_
  rintro w65 B66 C67
  have C0' := Lib.hid (show Ch [] w w65 from C0.out.trans' C67 (inw_cons (.inr nw8.out) inw_nil))
  have SL' := Lib.hid (show SrcIs w65 (.slice (some a) L.length z) (L.length) ((L).flatMap opC) 28 from SL.out.chx C67 (xnin_cons nx9.out xnin_nil))
  have Fg11' := Lib.hid (show Blk w65 g11 (CA.1.toArray) 32 from C67.blk Fg11.out (nin_cons (Blk.ne_type Fg11.out Fg3.out (by decide)) nin_nil))
  have Fg19' := Lib.hid (show Blk w65 g19 (RA.1.toArray) 42 from C67.blk Fg19.out (nin_cons (Blk.ne_type Fg19.out Fg3.out (by decide)) nin_nil))
  have Fg27' := Lib.hid (show Blk w65 g27 (#[.int .i64 0, .slice none 0 0, .slice none 0 0]) 53 from C67.blk Fg27.out (nin_cons (Ne.symm ne34.out) nin_nil))
  have Z55' := Lib.hid (show OwnS w65 w.heap.size 59 28 (v57) (L.length) (L.flatMap opC) from Z55.out.ch C67 (rnin_cons (Z55.out.ne Fg3.out (by decide)) rnin_nil))
  clear C0 SL Fg11 Fg19 Fg27 Z55
  have C0 := C0'; clear C0'
  have SL := SL'; clear SL'
  have Fg11 := Fg11'; clear Fg11'
  have Fg19 := Fg19'; clear Fg19'
  have Fg27 := Fg27'; clear Fg27'
  have Z55 := Z55'; clear Z55'
  clear Fg3; have Fg3 := Lib.hid (show Blk w65 g3 (#[.int .i64 (now + 1 : Nat), v57, u]) 53 from B66); clear B66 C67
  refine hK64 _ _ ?_; clear hK64 K64
  (try simp only [zP, zN, zA, zB, zC])
  refine nl_ (hK48 _ _ ?_); clear hK48 K48
  skip
  · obtain ⟨gv, cv, hv, hcv, -, -, -, -⟩ := Z55.out.some_ (Nat.lt_of_le_of_lt (Nat.zero_le j) HL.out)
    subst hv
    have HCAP := Lib.hid (show 0 < cv by have := HL.out; omega)
    clear hcv
    refine s_ (fun K68 hK68 => ?_)
    refine pu_ (v := .pointer (some ⟨g3, 1, none⟩)) (y_run (by rfl) (fun W => by go_simp)) ?_
    (try simp only [zP, zN, zA, zB, zC])
    refine ld_ (v := .slice (some ⟨gv, 0, none⟩) L.length cv) rfl (by rfl) (by rfl) (run_load_one ((Fg3.out.cell 1).trans rfl) Try.underlying51 rfl) ?_
    (try simp only [zP, zN, zA, zB, zC])
    refine pu_ (v := .int .i64 j) (y_move rfl (by rfl) (by rfl)) ?_
    (try simp only [zP, zN, zA, zB, zC])
    refine pu_ (v := .pointer (some ⟨g3, 0, none⟩)) (y_run (by rfl) (fun W => by go_simp)) ?_
    (try simp only [zP, zN, zA, zB, zC])
    refine ld_ (v := .int .i64 (now + 1 : Nat)) rfl (by rfl) (by rfl) (run_load_one ((Fg3.out.cell 0).trans rfl) Try.underlying3 rfl) ?_
    (try simp only [zP, zN, zA, zB, zC])
    refine pu_ (v := .pointer (some ⟨gv, j * 28, none⟩)) (y_run (by rfl) (fun W => by have d := DJ.out; go_simp)) ?_
    (try simp only [zP, zN, zA, zB, zC])
    refine pu_ (v := .pointer (some ⟨gv, j * 28 + 3, none⟩)) (y_run (by rfl) (fun W => by go_simp)) ?_
    (try simp only [zP, zN, zA, zB, zC])
    refine ef_ (fun K69 hK69 => ?_)
    refine e_storeS1 (by rfl) rfl rfl Z55.out (j * 28 + 3) (.int .i64 (now + 1 : Nat)) (by rfl) (by rfl) (by kernel_rfl) (by have := HL.out; omega) rfl ?_
    rintro w70 O71 C72
    have RC72 := Lib.hid (show Ch (rl (.slice (some ⟨gv, 0, none⟩) L.length cv)) w65 w70 from by rw [rl_some _ _ _ HCAP.out]; exact C72)
    have C0' := Lib.hid (show Ch [] w w70 from C0.out.trans' RC72.out (fun x hx => .inr (Z55.out.lt x hx).1))
    have SL' := Lib.hid (show SrcIs w70 (.slice (some a) L.length z) (L.length) ((L).flatMap opC) 28 from SL.out.chx RC72.out xr63.out)
    have Fg3' := Lib.hid (show Blk w70 g3 (#[.int .i64 (now + 1 : Nat), .slice (some ⟨gv, 0, none⟩) L.length cv, u]) 53 from RC72.out.blk Fg3.out (Z55.out.ne Fg3.out (by decide)))
    have Fg11' := Lib.hid (show Blk w70 g11 (CA.1.toArray) 32 from RC72.out.blk Fg11.out (Z55.out.ne Fg11.out (by decide)))
    have Fg19' := Lib.hid (show Blk w70 g19 (RA.1.toArray) 42 from RC72.out.blk Fg19.out (Z55.out.ne Fg19.out (by decide)))
    have Fg27' := Lib.hid (show Blk w70 g27 (#[.int .i64 0, .slice none 0 0, .slice none 0 0]) 53 from RC72.out.blk Fg27.out (Z55.out.ne Fg27.out (by decide)))
    clear C0 SL Fg3 Fg11 Fg19 Fg27
    have C0 := C0'; clear C0'
    have SL := SL'; clear SL'
    have Fg3 := Fg3'; clear Fg3'
    have Fg11 := Fg11'; clear Fg11'
    have Fg19 := Fg19'; clear Fg19'
    have Fg27 := Fg27'; clear Fg27'
    clear Z55
    have Z55 := Lib.hid (show OwnS w70 w.heap.size 59 28 (.slice (some ⟨gv, 0, none⟩) L.length cv) (L.length) ((L.set j { o with d := ((now + 1 : Nat) : Int) }).flatMap opC) from by have h := O71; rw [put_d HO.out] at h; exact h); clear O71 C72 RC72
    refine hK69 _ _ ?_; clear hK69 K69
    (try simp only [zP, zN, zA, zB, zC])
    refine nl_ (hK68 _ _ ?_); clear hK68 K68
    refine s_ (fun K73 hK73 => ?_)
    refine pu_ (v := .pointer (some ⟨g3, 1, none⟩)) (y_run (by rfl) (fun W => by go_simp)) ?_
    (try simp only [zP, zN, zA, zB, zC])
    refine ld_ (v := .slice (some ⟨gv, 0, none⟩) L.length cv) rfl (by rfl) (by rfl) (run_load_one ((Fg3.out.cell 1).trans rfl) Try.underlying51 rfl) ?_
    (try simp only [zP, zN, zA, zB, zC])
    refine pu_ (v := .int .i64 j) (y_move rfl (by rfl) (by rfl)) ?_
    (try simp only [zP, zN, zA, zB, zC])
    refine ld_ (v := .agg CA.1.toArray) rfl (by rfl) (by rfl) (run_loadVar_row _ _ 32 32 (CA.1.toArray) (0, 0) _ Fg11.out Try.underlying32 rfl (szC CA)) ?_
    (try simp only [zP, zN, zA, zB, zC])
    refine pu_ (v := .pointer (some ⟨gv, j * 28, none⟩)) (y_run (by rfl) (fun W => by have d := DJ.out; go_simp)) ?_
    (try simp only [zP, zN, zA, zB, zC])
    refine pu_ (v := .pointer (some ⟨gv, j * 28 + 5, none⟩)) (y_run (by rfl) (fun W => by go_simp)) ?_
    (try simp only [zP, zN, zA, zB, zC])
    refine ef_ (fun K74 hK74 => ?_)
    refine e_storeSN (by rfl) rfl rfl Z55.out (j * 28 + 5) CA.1.toArray (by rfl) (by rfl) (szC CA) (by rw [List.size_toArray, CA.2.1]; have := HL.out; omega) (by simpa using CA.2.2) HCAP.out ?_
    rintro w75 O76 C77
    have RC77 := Lib.hid (show Ch (rl (.slice (some ⟨gv, 0, none⟩) L.length cv)) w70 w75 from by rw [rl_some _ _ _ HCAP.out]; exact C77)
    have C0' := Lib.hid (show Ch [] w w75 from C0.out.trans' RC77.out (fun x hx => .inr (Z55.out.lt x hx).1))
    have SL' := Lib.hid (show SrcIs w75 (.slice (some a) L.length z) (L.length) ((L).flatMap opC) 28 from SL.out.chx RC77.out xr63.out)
    have Fg3' := Lib.hid (show Blk w75 g3 (#[.int .i64 (now + 1 : Nat), .slice (some ⟨gv, 0, none⟩) L.length cv, u]) 53 from RC77.out.blk Fg3.out (Z55.out.ne Fg3.out (by decide)))
    have Fg11' := Lib.hid (show Blk w75 g11 (CA.1.toArray) 32 from RC77.out.blk Fg11.out (Z55.out.ne Fg11.out (by decide)))
    have Fg19' := Lib.hid (show Blk w75 g19 (RA.1.toArray) 42 from RC77.out.blk Fg19.out (Z55.out.ne Fg19.out (by decide)))
    have Fg27' := Lib.hid (show Blk w75 g27 (#[.int .i64 0, .slice none 0 0, .slice none 0 0]) 53 from RC77.out.blk Fg27.out (Z55.out.ne Fg27.out (by decide)))
    clear C0 SL Fg3 Fg11 Fg19 Fg27
    have C0 := C0'; clear C0'
    have SL := SL'; clear SL'
    have Fg3 := Fg3'; clear Fg3'
    have Fg11 := Fg11'; clear Fg11'
    have Fg19 := Fg19'; clear Fg19'
    have Fg27 := Fg27'; clear Fg27'
    clear Z55
    have Z55 := Lib.hid (show OwnS w75 w.heap.size 59 28 (.slice (some ⟨gv, 0, none⟩) L.length cv) (L.length) ((L.set j { o with d := ((now + 1 : Nat) : Int), cl := CA }).flatMap opC) from by have h := O76; rw [show CA.1.toArray.size = 16 by rw [List.size_toArray, CA.2.1], put_c HO1.out, List.set_set] at h; exact h); clear O76 C77 RC77
    refine hK74 _ _ ?_; clear hK74 K74
    (try simp only [zP, zN, zA, zB, zC])
    refine nl_ (hK73 _ _ ?_); clear hK73 K73
    refine s_ (fun K78 hK78 => ?_)
    refine pu_ (v := .pointer (some ⟨g3, 1, none⟩)) (y_run (by rfl) (fun W => by go_simp)) ?_
    (try simp only [zP, zN, zA, zB, zC])
    refine ld_ (v := .slice (some ⟨gv, 0, none⟩) L.length cv) rfl (by rfl) (by rfl) (run_load_one ((Fg3.out.cell 1).trans rfl) Try.underlying51 rfl) ?_
    (try simp only [zP, zN, zA, zB, zC])
    refine pu_ (v := .int .i64 j) (y_move rfl (by rfl) (by rfl)) ?_
    (try simp only [zP, zN, zA, zB, zC])
    refine ld_ (v := .agg RA.1.toArray) rfl (by rfl) (by rfl) (run_loadVar_row _ _ 42 42 (RA.1.toArray) (0, 0) _ Fg19.out Try.underlying42 rfl (szR RA)) ?_
    (try simp only [zP, zN, zA, zB, zC])
    refine pu_ (v := .pointer (some ⟨gv, j * 28, none⟩)) (y_run (by rfl) (fun W => by have d := DJ.out; go_simp)) ?_
    (try simp only [zP, zN, zA, zB, zC])
    refine pu_ (v := .pointer (some ⟨gv, j * 28 + 21, none⟩)) (y_run (by rfl) (fun W => by go_simp)) ?_
    (try simp only [zP, zN, zA, zB, zC])
    refine ef_ (fun K79 hK79 => ?_)
    refine e_storeSN (by rfl) rfl rfl Z55.out (j * 28 + 21) RA.1.toArray (by rfl) (by rfl) (szR RA) (by rw [List.size_toArray, RA.2.1]; have := HL.out; omega) (by simpa using RA.2.2) HCAP.out ?_
    rintro w80 O81 C82
    have RC82 := Lib.hid (show Ch (rl (.slice (some ⟨gv, 0, none⟩) L.length cv)) w75 w80 from by rw [rl_some _ _ _ HCAP.out]; exact C82)
    have C0' := Lib.hid (show Ch [] w w80 from C0.out.trans' RC82.out (fun x hx => .inr (Z55.out.lt x hx).1))
    have SL' := Lib.hid (show SrcIs w80 (.slice (some a) L.length z) (L.length) ((L).flatMap opC) 28 from SL.out.chx RC82.out xr63.out)
    have Fg3' := Lib.hid (show Blk w80 g3 (#[.int .i64 (now + 1 : Nat), .slice (some ⟨gv, 0, none⟩) L.length cv, u]) 53 from RC82.out.blk Fg3.out (Z55.out.ne Fg3.out (by decide)))
    have Fg11' := Lib.hid (show Blk w80 g11 (CA.1.toArray) 32 from RC82.out.blk Fg11.out (Z55.out.ne Fg11.out (by decide)))
    have Fg19' := Lib.hid (show Blk w80 g19 (RA.1.toArray) 42 from RC82.out.blk Fg19.out (Z55.out.ne Fg19.out (by decide)))
    have Fg27' := Lib.hid (show Blk w80 g27 (#[.int .i64 0, .slice none 0 0, .slice none 0 0]) 53 from RC82.out.blk Fg27.out (Z55.out.ne Fg27.out (by decide)))
    clear C0 SL Fg3 Fg11 Fg19 Fg27
    have C0 := C0'; clear C0'
    have SL := SL'; clear SL'
    have Fg3 := Fg3'; clear Fg3'
    have Fg11 := Fg11'; clear Fg11'
    have Fg19 := Fg19'; clear Fg19'
    have Fg27 := Fg27'; clear Fg27'
    clear Z55
    have Z55 := Lib.hid (show OwnS w80 w.heap.size 59 28 (.slice (some ⟨gv, 0, none⟩) L.length cv) (L.length) ((L.set j { o with d := ((now + 1 : Nat) : Int), cl := CA, rp := RA }).flatMap opC) from by have h := O81; rw [show RA.1.toArray.size = 7 by rw [List.size_toArray, RA.2.1], put_r HO2.out, List.set_set] at h; exact h); clear O81 C82 RC82
    refine hK79 _ _ ?_; clear hK79 K79
    (try simp only [zP, zN, zA, zB, zC])
    refine nl_ (hK78 _ _ ?_); clear hK78 K78
    refine s_ (fun K83 hK83 => ?_)
    refine ld_ (v := .agg (#[.int .i64 (now + 1 : Nat), .slice (some ⟨gv, 0, none⟩) L.length cv, u])) rfl (by rfl) (by rfl) (run_loadVar_row _ _ 53 53 (#[.int .i64 (now + 1 : Nat), .slice (some ⟨gv, 0, none⟩) L.length cv, u]) (0, 0) _ Fg3.out Try.underlying53 rfl (by kernel_rfl)) ?_
    (try simp only [zP, zN, zA, zB, zC])
    refine ef_ (fun K84 hK84 => ?_)
    refine e_storeN (cells := (#[.int .i64 (now + 1 : Nat), .slice (some ⟨gv, 0, none⟩) L.length cv, u])) (by rfl) rfl rfl (by rfl) (by rfl) Fg27.out (by kernel_rfl) (by rfl) (ones_cons rfl (ones_cons rfl (ones_cons HU ones_nil))) ?_
    rintro w85 B86 C87
    have C0' := Lib.hid (show Ch [] w w85 from C0.out.trans' C87 (inw_cons (.inr nw32.out) inw_nil))
    have SL' := Lib.hid (show SrcIs w85 (.slice (some a) L.length z) (L.length) ((L).flatMap opC) 28 from SL.out.chx C87 (xnin_cons nx33.out xnin_nil))
    have Fg3' := Lib.hid (show Blk w85 g3 (#[.int .i64 (now + 1 : Nat), .slice (some ⟨gv, 0, none⟩) L.length cv, u]) 53 from C87.blk Fg3.out (nin_cons ne34.out nin_nil))
    have Fg11' := Lib.hid (show Blk w85 g11 (CA.1.toArray) 32 from C87.blk Fg11.out (nin_cons (Blk.ne_type Fg11.out Fg27.out (by decide)) nin_nil))
    have Fg19' := Lib.hid (show Blk w85 g19 (RA.1.toArray) 42 from C87.blk Fg19.out (nin_cons (Blk.ne_type Fg19.out Fg27.out (by decide)) nin_nil))
    have Z55' := Lib.hid (show OwnS w85 w.heap.size 59 28 (.slice (some ⟨gv, 0, none⟩) L.length cv) (L.length) ((L.set j { o with d := ((now + 1 : Nat) : Int), cl := CA, rp := RA }).flatMap opC) from Z55.out.ch C87 (rnin_cons (Z55.out.ne Fg27.out (by decide)) rnin_nil))
    clear C0 SL Fg3 Fg11 Fg19 Z55
    have C0 := C0'; clear C0'
    have SL := SL'; clear SL'
    have Fg3 := Fg3'; clear Fg3'
    have Fg11 := Fg11'; clear Fg11'
    have Fg19 := Fg19'; clear Fg19'
    have Z55 := Z55'; clear Z55'
    clear Fg27; have Fg27 := Lib.hid (show Blk w85 g27 ((#[.int .i64 (now + 1 : Nat), .slice (some ⟨gv, 0, none⟩) L.length cv, u])) 53 from B86); clear B86 C87
    refine hK84 _ _ ?_; clear hK84 K84
    (try simp only [zP, zN, zA, zB, zC])
    refine pu_ (v := .int .i64 0) (y_assign rfl (by rfl) (by rfl)) ?_
    (try simp only [zP, zN, zA, zB, zC])
    refine nl_ (hK83 _ _ ?_); clear hK83 K83
    refine wp_ret ?_
    refine hQ _ _ _ ?_
    refine bodyPost_ret (res2 rfl (rdv_cell (by rfl) (run_loadVar_row _ _ 53 53 ((#[.int .i64 (now + 1 : Nat), .slice (some ⟨gv, 0, none⟩) L.length cv, u])) (0, 0) _ Fg27.out Try.underlying53 rfl (by kernel_rfl))) (rdv_tmp (v := .int .i64 0) (by rfl))) rfl ?_
    exact ⟨_, rfl, Z55.out, C0.out⟩
end
end Go.Proofs.Ytggcpbnlblbpjaa.L
