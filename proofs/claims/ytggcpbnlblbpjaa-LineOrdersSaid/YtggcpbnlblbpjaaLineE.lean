/- The walks of what a law asks of operations that come in, and of cuts. -/
import Derived.Test.YtggcpbnlblbpjaaLineQ
import Derived.Test.YtggcpbnlblbpjaaLineD
namespace Go.Proofs.Ytggcpbnlblbpjaa.L
open Go Go.RowKit Go.Proofs.Ytggcpbnlblbpjaa.K Go.Proofs.Ytggcpbnlblbpjaa.H Go.Proofs.YtggcpbnlblbpjaaW.PrintLast
set_option linter.unusedVariables false
set_option linter.unusedSimpArgs false
set_option maxRecDepth 100000
set_option maxHeartbeats 1600000
section
variable {w : World}
theorem op_lit (c n a d t : Int) (x0 x1 x2 x3 x4 x5 x6 x7 x8 x9 x10 x11 x12 x13 x14 x15 x16 x17 x18 x19 x20 x21 x22 : Value) (H0 : x0.oneCell' = true) (H1 : x1.oneCell' = true) (H2 : x2.oneCell' = true) (H3 : x3.oneCell' = true) (H4 : x4.oneCell' = true) (H5 : x5.oneCell' = true) (H6 : x6.oneCell' = true) (H7 : x7.oneCell' = true) (H8 : x8.oneCell' = true) (H9 : x9.oneCell' = true) (H10 : x10.oneCell' = true) (H11 : x11.oneCell' = true) (H12 : x12.oneCell' = true) (H13 : x13.oneCell' = true) (H14 : x14.oneCell' = true) (H15 : x15.oneCell' = true) (H16 : x16.oneCell' = true) (H17 : x17.oneCell' = true) (H18 : x18.oneCell' = true) (H19 : x19.oneCell' = true) (H20 : x20.oneCell' = true) (H21 : x21.oneCell' = true) (H22 : x22.oneCell' = true)  :
    Calls Try.prog 34 #[.agg #[.int .i64 c, .int .i64 n, .int .i64 a, .int .i64 d, .int .i64 t, x0, x1, x2, x3, x4, x5, x6, x7, x8, x9, x10, x11, x12, x13, x14, x15, x16, x17, x18, x19, x20, x21, x22]] w fun en w' => en = .returned (.agg #[.int .i64 c, .int .i64 n, .int .i64 a, .int .i64 d, .int .i64 t, x0, x1, x2, x3, x4, x5, x6, x7, x8, x9, x10, x11, x12, x13, x14, x15, x16, x17, x18, x19, x20, x21, x22]) ∧ Ch [] w w' := by
  have C0 := Lib.hid (Ch.refl [] w)
  go_enter Try.func34, Try.ntmps34
  refine q_ (fun Q hQ hP => ?_)
  refine s_ (fun K1 hK1 => ?_)
  refine ef_ (fun K2 hK2 => ?_)
  refine e_boxN (by rfl) rfl rfl (cs := #[.int .i64 c, .int .i64 n, .int .i64 a, .int .i64 d, .int .i64 t, x0, x1, x2, x3, x4, x5, x6, x7, x8, x9, x10, x11, x12, x13, x14, x15, x16, x17, x18, x19, x20, x21, x22]) (v := .agg #[.int .i64 c, .int .i64 n, .int .i64 a, .int .i64 d, .int .i64 t, x0, x1, x2, x3, x4, x5, x6, x7, x8, x9, x10, x11, x12, x13, x14, x15, x16, x17, x18, x19, x20, x21, x22]) (by rfl) rfl ?_
  rintro g3 w4 HG5 B6 C7
  have nw8 := Lib.hid (show w.heap.size ≤ g3 by have := C0.out.size; have := HG5.out; omega)
  have C0' := Lib.hid (show Ch [] w w4 from C0.out.trans' C7 (fun x hx => absurd hx (by simp)))
  clear C0
  have C0 := C0'; clear C0'
  have Fg3 := Lib.hid (show Blk w4 g3 (#[.int .i64 c, .int .i64 n, .int .i64 a, .int .i64 d, .int .i64 t, x0, x1, x2, x3, x4, x5, x6, x7, x8, x9, x10, x11, x12, x13, x14, x15, x16, x17, x18, x19, x20, x21, x22]) 59 from B6); clear B6 C7
  refine hK2 _ _ ?_; clear hK2 K2
  (try simp only [zP, zN, zA, zB, zC])
  refine ef_ (fun K9 hK9 => ?_)
  refine e_alloc (by rfl) rfl rfl (cs := #[.int .i64 0, .int .i64 0, .int .i64 0, .int .i64 0, .int .i64 0, .int .i64 0, .int .i64 0, .int .u64 0, .string ⟨#[]⟩, .slice none 0 0, .slice none 0 0, .slice none 0 0, .int .i64 0, .int .i64 0, .int .i64 0, .int .i64 0, .int .i64 0, .int .i64 0, .int .i64 0, .string ⟨#[]⟩, .slice none 0 0, .int .i64 0, .int .i64 0, .int .i64 0, .int .u64 0, .string ⟨#[]⟩, .slice none 0 0, .slice none 0 0]) (by kernel_rfl) ?_
  rintro g10 w11 HG12 B13 C14
  have nw15 := Lib.hid (show w.heap.size ≤ g10 by have := C0.out.size; have := HG12.out; omega)
  have C0' := Lib.hid (show Ch [] w w11 from C0.out.trans' C14 (fun x hx => absurd hx (by simp)))
  have Fg3' := Lib.hid (show Blk w11 g3 (#[.int .i64 c, .int .i64 n, .int .i64 a, .int .i64 d, .int .i64 t, x0, x1, x2, x3, x4, x5, x6, x7, x8, x9, x10, x11, x12, x13, x14, x15, x16, x17, x18, x19, x20, x21, x22]) 59 from C14.blk Fg3.out nin_nil)
  clear C0 Fg3
  have C0 := C0'; clear C0'
  have Fg3 := Fg3'; clear Fg3'
  have Fg10 := Lib.hid (show Blk w11 g10 (#[.int .i64 0, .int .i64 0, .int .i64 0, .int .i64 0, .int .i64 0, .int .i64 0, .int .i64 0, .int .u64 0, .string ⟨#[]⟩, .slice none 0 0, .slice none 0 0, .slice none 0 0, .int .i64 0, .int .i64 0, .int .i64 0, .int .i64 0, .int .i64 0, .int .i64 0, .int .i64 0, .string ⟨#[]⟩, .slice none 0 0, .int .i64 0, .int .i64 0, .int .i64 0, .int .u64 0, .string ⟨#[]⟩, .slice none 0 0, .slice none 0 0]) 49 from B13); clear B13 C14
  refine hK9 _ _ ?_; clear hK9 K9
  (try simp only [zP, zN, zA, zB, zC])
  refine nl_ (hK1 _ _ ?_); clear hK1 K1
  refine s_ (fun K16 hK16 => ?_)
  refine pu_ (v := .pointer (some ⟨g3, 0, none⟩)) (y_run (by rfl) (fun W => by go_simp)) ?_
  (try simp only [zP, zN, zA, zB, zC])
  refine ld_ (v := .int .i64 c) rfl (by rfl) (by rfl) (run_load_one ((Fg3.out.cell 0).trans rfl) Try.underlying3 rfl) ?_
  (try simp only [zP, zN, zA, zB, zC])
  refine pu_ (v := .pointer (some ⟨g3, 1, none⟩)) (y_run (by rfl) (fun W => by go_simp)) ?_
  (try simp only [zP, zN, zA, zB, zC])
  refine ld_ (v := .int .i64 n) rfl (by rfl) (by rfl) (run_load_one ((Fg3.out.cell 1).trans rfl) Try.underlying3 rfl) ?_
  (try simp only [zP, zN, zA, zB, zC])
  refine pu_ (v := .pointer (some ⟨g3, 2, none⟩)) (y_run (by rfl) (fun W => by go_simp)) ?_
  (try simp only [zP, zN, zA, zB, zC])
  refine ld_ (v := .int .i64 a) rfl (by rfl) (by rfl) (run_load_one ((Fg3.out.cell 2).trans rfl) Try.underlying3 rfl) ?_
  (try simp only [zP, zN, zA, zB, zC])
  refine pu_ (v := .pointer (some ⟨g3, 3, none⟩)) (y_run (by rfl) (fun W => by go_simp)) ?_
  (try simp only [zP, zN, zA, zB, zC])
  refine ld_ (v := .int .i64 d) rfl (by rfl) (by rfl) (run_load_one ((Fg3.out.cell 3).trans rfl) Try.underlying3 rfl) ?_
  (try simp only [zP, zN, zA, zB, zC])
  refine pu_ (v := .pointer (some ⟨g3, 4, none⟩)) (y_run (by rfl) (fun W => by go_simp)) ?_
  (try simp only [zP, zN, zA, zB, zC])
  refine ld_ (v := .int .i64 t) rfl (by rfl) (by rfl) (run_load_one ((Fg3.out.cell 4).trans rfl) Try.underlying3 rfl) ?_
  (try simp only [zP, zN, zA, zB, zC])
  refine pu_ (v := .pointer (some ⟨g3, 5, none⟩)) (y_run (by rfl) (fun W => by go_simp)) ?_
  (try simp only [zP, zN, zA, zB, zC])
  refine ld_ (v := .agg #[x0, x1, x2, x3, x4, x5, x6, x7, x8, x9, x10, x11, x12, x13, x14, x15]) rfl (by rfl) (by rfl) (run_loadVar_at (cs := [x0, x1, x2, x3, x4, x5, x6, x7, x8, x9, x10, x11, x12, x13, x14, x15]) (cells_part Fg3.out 5 (by rfl)) Try.underlying32 rfl (by kernel_rfl)) ?_
  (try simp only [zP, zN, zA, zB, zC])
  refine pu_ (v := .pointer (some ⟨g3, 21, none⟩)) (y_run (by rfl) (fun W => by go_simp)) ?_
  (try simp only [zP, zN, zA, zB, zC])
  refine ld_ (v := .agg #[x16, x17, x18, x19, x20, x21, x22]) rfl (by rfl) (by rfl) (run_loadVar_at (cs := [x16, x17, x18, x19, x20, x21, x22]) (cells_part Fg3.out 21 (by rfl)) Try.underlying42 rfl (by kernel_rfl)) ?_
  (try simp only [zP, zN, zA, zB, zC])
  refine pu_ (v := .agg #[.int .i64 c, .int .i64 n, .int .i64 a, .int .i64 d, .int .i64 t, x0, x1, x2, x3, x4, x5, x6, x7, x8, x9, x10, x11, x12, x13, x14, x15, x16, x17, x18, x19, x20, x21, x22]) (y_build (vs := #[(0, .int .i64 c), (1, .int .i64 n), (2, .int .i64 a), (3, .int .i64 d), (4, .int .i64 t), (5, .agg #[x0, x1, x2, x3, x4, x5, x6, x7, x8, x9, x10, x11, x12, x13, x14, x15]), (6, .agg #[x16, x17, x18, x19, x20, x21, x22])]) (by rfl) rfl (by first | rfl | (simp only [List.map_toArray, List.map_cons, List.map_nil]; first | done | rfl)) (by kernel_rfl)) ?_
  (try simp only [zP, zN, zA, zB, zC])
  refine ef_ (fun K17 hK17 => ?_)
  refine e_storeN (cells := #[.int .i64 c, .int .i64 n, .int .i64 a, .int .i64 d, .int .i64 t, x0, x1, x2, x3, x4, x5, x6, x7, x8, x9, x10, x11, x12, x13, x14, x15, x16, x17, x18, x19, x20, x21, x22]) (by rfl) rfl rfl (by rfl) (by rfl) Fg10.out (by kernel_rfl) (by rfl) (ones_cons rfl (ones_cons rfl (ones_cons rfl (ones_cons rfl (ones_cons rfl (ones_cons H0 (ones_cons H1 (ones_cons H2 (ones_cons H3 (ones_cons H4 (ones_cons H5 (ones_cons H6 (ones_cons H7 (ones_cons H8 (ones_cons H9 (ones_cons H10 (ones_cons H11 (ones_cons H12 (ones_cons H13 (ones_cons H14 (ones_cons H15 (ones_cons H16 (ones_cons H17 (ones_cons H18 (ones_cons H19 (ones_cons H20 (ones_cons H21 (ones_cons H22 ones_nil)))))))))))))))))))))))))))) ?_
  rintro w18 B19 C20
  have C0' := Lib.hid (show Ch [] w w18 from C0.out.trans' C20 (inw_cons (.inr nw15.out) inw_nil))
  have Fg3' := Lib.hid (show Blk w18 g3 (#[.int .i64 c, .int .i64 n, .int .i64 a, .int .i64 d, .int .i64 t, x0, x1, x2, x3, x4, x5, x6, x7, x8, x9, x10, x11, x12, x13, x14, x15, x16, x17, x18, x19, x20, x21, x22]) 59 from C20.blk Fg3.out (nin_cons (Blk.ne_type Fg3.out Fg10.out (by decide)) nin_nil))
  clear C0 Fg3
  have C0 := C0'; clear C0'
  have Fg3 := Fg3'; clear Fg3'
  clear Fg10; have Fg10 := Lib.hid (show Blk w18 g10 (#[.int .i64 c, .int .i64 n, .int .i64 a, .int .i64 d, .int .i64 t, x0, x1, x2, x3, x4, x5, x6, x7, x8, x9, x10, x11, x12, x13, x14, x15, x16, x17, x18, x19, x20, x21, x22]) 49 from B19); clear B19 C20
  refine hK17 _ _ ?_; clear hK17 K17
  (try simp only [zP, zN, zA, zB, zC])
  refine nl_ (hK16 _ _ ?_); clear hK16 K16
  refine wp_ret ?_
  refine hQ _ _ _ ?_
  refine bodyPost_ret (res1 rfl (rdv_cell (by rfl) (run_loadVar_row _ _ 49 49 (#[.int .i64 c, .int .i64 n, .int .i64 a, .int .i64 d, .int .i64 t, x0, x1, x2, x3, x4, x5, x6, x7, x8, x9, x10, x11, x12, x13, x14, x15, x16, x17, x18, x19, x20, x21, x22]) (0, 0) _ Fg10.out Try.underlying49 rfl (by kernel_rfl)))) rfl ?_
  exact ⟨rfl, C0.out⟩
theorem to_ {A : Option Addr} {c : Nat} {L : List HOp} (HM : Hid (L.length ≤ maxLen)) (HB : Hid (L.length * 344 ≤ 140737488351232)) (SL : Hid (SrcIs w (.slice A L.length c) (L.length) ((L).flatMap opC) 28)) :
    Calls Try.prog 37 #[.slice A L.length c] w fun en w' => ∃ v', en = .returned v' ∧ OwnS w' w.heap.size 49 28 v' L.length (L.flatMap opC) ∧ Ch [] w w' := by
  have C0 := Lib.hid (Ch.refl [] w)
  obtain ⟨i49, I49⟩ := Info.of info49
  go_enter Try.func37, Try.ntmps37
  refine q_ (fun Q hQ hP => ?_)
  refine s_ (fun K1 hK1 => ?_)
  refine pu_ (v := .slice none 0 0) (y_assign rfl (by rfl) (by rfl)) ?_
  (try simp only [zP, zN, zA, zB, zC])
  refine nl_ (hK1 _ _ ?_); clear hK1 K1
  refine s_ (fun K2 hK2 => ?_)
  refine pu_ (v := .slice none 0 0) (y_assign rfl (by rfl) (by rfl)) ?_
  (try simp only [zP, zN, zA, zB, zC])
  refine nl_ (hK2 _ _ ?_); clear hK2 K2
  refine sq_ (fun K3 hK3 => ?_)
  refine s_ (fun K4 hK4 => ?_)
  refine pu_ (v := .int .i64 0) (y_assign rfl (by rfl) (by rfl)) ?_
  (try simp only [zP, zN, zA, zB, zC])
  refine nl_ (hK4 _ _ ?_); clear hK4 K4
  refine wp_block ?_
  have OT0 := Lib.hid (show OwnS w w.heap.size 49 28 (.slice none 0 0) 0 ((L.take 0).flatMap opC) from OwnS.nil _ _ _ _ _)
  refine loopk_ (fun (kq : Nat) (a' : Act) (w' : World) => ∃ (k : Nat), ∃ (vt : Value), ∃ (us : Nat → Value), a' = ⟨#[.slice A L.length c, us 1, .slice none 0 0, vt, .int .i64 k, us 5, us 6, us 7, us 8, us 9, us 10, us 11, us 12, us 13, us 14, us 15, us 16, us 17, us 18, us 19], []⟩ ∧ Hid (Ch [] w w') ∧ Hid (SrcIs w' (.slice A L.length c) (L.length) ((L).flatMap opC) 28) ∧ Hid (OwnS w' w.heap.size 49 28 (vt) (k) ((L.take k).flatMap opC)) ∧ Hid (k ≤ L.length ∧ kq + k = L.length) ∧ Hid (∀ k, k ∈ xb (.slice A L.length c) → k ∉ rl vt)) (L.length) (⟨0, _, fun us_ => (#[.slice A L.length c, undef, .slice none 0 0, .slice none 0 0, .int .i64 0, undef, undef, undef, undef, undef, undef, undef, undef, undef, undef, undef, undef, undef, undef, undef] : Array Value).getD us_ undef, rfl, C0, SL, OT0, Lib.hid ⟨by omega, by omega⟩, Lib.hid (fun k _ hm => absurd hm (by simp [rl]))⟩) ?_
  rintro kq _ w5 ⟨k, vt, us, rfl, C0, SL, OT, hk, hxr⟩ K6 hK6
  refine sq_ (fun K7 hK7 => ?_)
  rcases at_ways hk.out.1 with ⟨o, hlt0, ho0⟩ | h
  · have hlt := Lib.hid hlt0
    have ho := Lib.hid ho0
    clear hlt0 ho0
    obtain ⟨a, hsm_a⟩ := src_some SL.out (by have := hlt.out; omega)
    subst hsm_a
    have D8 := Lib.hid (show (k : Int) < (L.length : Int) by have := hlt.out; omega)
    have Wk := Lib.hid (show IntKind.i64.wrap ((k : Int) + 1) = ((k + 1 : Nat) : Int) by rw [wr64 (by have := hlt.out; have h7 := HM.out; unfold maxLen at h7; omega)]; omega)
    obtain ⟨x0, x1, x2, x3, x4, x5, x6, x7, x8, x9, x10, x11, x12, x13, x14, x15, hcl0⟩ := lits16 o.cl
    obtain ⟨x16, x17, x18, x19, x20, x21, x22, hrp0⟩ := lits7 o.rp
    have HOL := Lib.hid (show opC o = [.int .i64 o.c, .int .i64 o.n, .int .i64 o.a, .int .i64 o.d, .int .i64 o.t, x0, x1, x2, x3, x4, x5, x6, x7, x8, x9, x10, x11, x12, x13, x14, x15, x16, x17, x18, x19, x20, x21, x22] by simp [opC, hcl0, hrp0])
    have HON := Lib.hid (show ∀ u ∈ [.int .i64 o.c, .int .i64 o.n, .int .i64 o.a, .int .i64 o.d, .int .i64 o.t, x0, x1, x2, x3, x4, x5, x6, x7, x8, x9, x10, x11, x12, x13, x14, x15, x16, x17, x18, x19, x20, x21, x22], u.oneCell' = true from by rw [← HOL.out]; exact opC_one o)
    have HCL := Lib.hid hcl0; have HRP := Lib.hid hrp0; clear hcl0 hrp0
    refine s_ (fun K8 hK8 => ?_)
    refine pu_ (v := .int .i64 k) (y_move rfl (by rfl) (by rfl)) ?_
    (try simp only [zP, zN, zA, zB, zC])
    refine pu_ (v := .slice (some a) L.length c) (y_move rfl (by rfl) (by rfl)) ?_
    (try simp only [zP, zN, zA, zB, zC])
    refine pu_ (v := .int .i64 L.length) (y_run (by rfl) (fun W => by go_simp)) ?_
    (try simp only [zP, zN, zA, zB, zC])
    refine pu_ (v := .bool true) (y_run (by rfl) (fun W => by have d := D8.out; go_simp)) ?_
    (try simp only [zP, zN, zA, zB, zC])
    refine nl_ (hK8 _ _ ?_); clear hK8 K8
    refine wp_cond_true rfl ?_
    refine wp_skip ?_
    refine th_norm (hK7 _ _ ?_); try clear hK7 K7
    refine sq_ (fun K9 hK9 => ?_)
    refine wp_block ?_
    refine r_ ?_
    refine pu_ (v := vt) (y_move rfl (by rfl) (by rfl)) ?_
    (try simp only [zP, zN, zA, zB, zC])
    refine pu_ (v := .slice (some a) L.length c) (y_move rfl (by rfl) (by rfl)) ?_
    (try simp only [zP, zN, zA, zB, zC])
    refine pu_ (v := .int .i64 k) (y_move rfl (by rfl) (by rfl)) ?_
    (try simp only [zP, zN, zA, zB, zC])
    refine pu_ (v := .pointer (some (a.add (k * 28)))) (y_run (by rfl) (fun W => by have d := D8.out; go_simp)) ?_
    (try simp only [zP, zN, zA, zB, zC])
    refine ld_ (v := .agg #[.int .i64 o.c, .int .i64 o.n, .int .i64 o.a, .int .i64 o.d, .int .i64 o.t, x0, x1, x2, x3, x4, x5, x6, x7, x8, x9, x10, x11, x12, x13, x14, x15, x16, x17, x18, x19, x20, x21, x22]) rfl (by rfl) (by rfl) (run_loadVar_at (by have h := src_elem SL.out ho.out; rw [HOL.out] at h; exact h) Try.underlying59 rfl (by kernel_rfl)) ?_
    (try simp only [zP, zN, zA, zB, zC])
    refine ef_ (fun K10 hK10 => ?_)
    refine e_call Try.func34 (by kernel_rfl) rfl #[.agg #[.int .i64 o.c, .int .i64 o.n, .int .i64 o.a, .int .i64 o.d, .int .i64 o.t, x0, x1, x2, x3, x4, x5, x6, x7, x8, x9, x10, x11, x12, x13, x14, x15, x16, x17, x18, x19, x20, x21, x22]] (by rfl) rfl rfl (by first | rfl | (simp only [List.map_toArray, List.map_cons, List.map_nil]; first | done | rfl)) ((op_lit o.c o.n o.a o.d o.t x0 x1 x2 x3 x4 x5 x6 x7 x8 x9 x10 x11 x12 x13 x14 x15 x16 x17 x18 x19 x20 x21 x22 (HON.out x0 (by simp)) (HON.out x1 (by simp)) (HON.out x2 (by simp)) (HON.out x3 (by simp)) (HON.out x4 (by simp)) (HON.out x5 (by simp)) (HON.out x6 (by simp)) (HON.out x7 (by simp)) (HON.out x8 (by simp)) (HON.out x9 (by simp)) (HON.out x10 (by simp)) (HON.out x11 (by simp)) (HON.out x12 (by simp)) (HON.out x13 (by simp)) (HON.out x14 (by simp)) (HON.out x15 (by simp)) (HON.out x16 (by simp)) (HON.out x17 (by simp)) (HON.out x18 (by simp)) (HON.out x19 (by simp)) (HON.out x20 (by simp)) (HON.out x21 (by simp)) (HON.out x22 (by simp)))) ?_
    rintro en w12 ⟨rfl, cc11⟩
    refine ⟨_, rfl, ?_⟩
    have C0' := Lib.hid (show Ch [] w w12 from C0.out.trans' cc11 (fun x hx => absurd hx (by simp)))
    have SL' := Lib.hid (show SrcIs w12 (.slice (some a) L.length c) (L.length) ((L).flatMap opC) 28 from SL.out.chx cc11 xnin_nil)
    have OT' := Lib.hid (show OwnS w12 w.heap.size 49 28 (vt) (k) ((L.take k).flatMap opC) from OT.out.ch cc11 rnin_nil)
    clear C0 SL OT
    have C0 := C0'; clear C0'
    have SL := SL'; clear SL'
    have OT := OT'; clear OT'
    clear cc11
    refine hK10 _ _ ?_; clear hK10 K10
    (try simp only [zP, zN, zA, zB, zC])
    refine ef_ (fun K13 hK13 => ?_)
    refine e_buildS (parts := #[(0, .agg #[.int .i64 o.c, .int .i64 o.n, .int .i64 o.a, .int .i64 o.d, .int .i64 o.t, x0, x1, x2, x3, x4, x5, x6, x7, x8, x9, x10, x11, x12, x13, x14, x15, x16, x17, x18, x19, x20, x21, x22])]) (cells := #[.int .i64 o.c, .int .i64 o.n, .int .i64 o.a, .int .i64 o.d, .int .i64 o.t, x0, x1, x2, x3, x4, x5, x6, x7, x8, x9, x10, x11, x12, x13, x14, x15, x16, x17, x18, x19, x20, x21, x22]) (by rfl) rfl rfl (by first | rfl | (simp only [List.map_toArray, List.map_cons, List.map_nil]; first | done | rfl)) Try.underlying45 I49.hi I49.hz I49.hs (by decide) (by decide) (by kernel_rfl) ?_
    rintro g14 w15 HG16 B17 C18
    have nw19 := Lib.hid (show w.heap.size ≤ g14 by have := C0.out.size; have := HG16.out; omega)
    have nx20 := Lib.hid (SL.out.ne_new (by decide) HG16)
    have nr21 := Lib.hid (OT.out.ne_new HG16)
    have C0' := Lib.hid (show Ch [] w w15 from C0.out.trans' C18 (fun x hx => absurd hx (by simp)))
    have SL' := Lib.hid (show SrcIs w15 (.slice (some a) L.length c) (L.length) ((L).flatMap opC) 28 from SL.out.chx C18 xnin_nil)
    have OT' := Lib.hid (show OwnS w15 w.heap.size 49 28 (vt) (k) ((L.take k).flatMap opC) from OT.out.ch C18 rnin_nil)
    clear C0 SL OT
    have C0 := C0'; clear C0'
    have SL := SL'; clear SL'
    have OT := OT'; clear OT'
    have Fg14 := Lib.hid (show Blk w15 g14 (#[.int .i64 o.c, .int .i64 o.n, .int .i64 o.a, .int .i64 o.d, .int .i64 o.t, x0, x1, x2, x3, x4, x5, x6, x7, x8, x9, x10, x11, x12, x13, x14, x15, x16, x17, x18, x19, x20, x21, x22]) 49 from B17); clear B17 C18
    refine hK13 _ _ ?_; clear hK13 K13
    (try simp only [zP, zN, zA, zB, zC])
    refine ef_ (fun K22 hK22 => ?_)
    refine e_append (by rfl) rfl rfl (w.heap.size) 49 _ _ 28 344 Try.underlying45 I49.hi I49.hz I49.hs I49.hb rfl (by decide) (vt) (k) ((L.take k).flatMap opC) (by rfl) OT.out (.slice (some ⟨g14, 0, none⟩) 1 1) 1 ([.int .i64 o.c, .int .i64 o.n, .int .i64 o.a, .int .i64 o.d, .int .i64 o.t, x0, x1, x2, x3, x4, x5, x6, x7, x8, x9, x10, x11, x12, x13, x14, x15, x16, x17, x18, x19, x20, x21, x22]) (by rfl) ⟨rfl, .inr ⟨_, _, rfl, CellsAt.blk Fg14.out 0⟩⟩ HON.out (by have := hlt.out; have := HM.out; omega) (by have := hlt.out; have := HB.out; omega) C0.out.size ?_
    rintro v23 w24 O25 C26 R27 -
    have xr29 := Lib.hid (show ∀ k, k ∈ xb (.slice (some a) L.length c) → k ∉ rl v23 from fun k hk hm => (R27 k hm).elim (fun h => hxr.out k hk h) (fun h => by have := SL.out.lt (by decide) k hk; omega))
    have nr30 := Lib.hid (show g14 ∉ rl v23 from fun hk => (R27 _ hk).elim nr21.out (fun h => by have := Fg14.out.lt; omega))
    have C0' := Lib.hid (show Ch [] w w24 from C0.out.trans' C26 (fun x hx => .inr (OT.out.lt x hx).1))
    have SL' := Lib.hid (show SrcIs w24 (.slice (some a) L.length c) (L.length) ((L).flatMap opC) 28 from SL.out.chx C26 hxr.out)
    have Fg14' := Lib.hid (show Blk w24 g14 (#[.int .i64 o.c, .int .i64 o.n, .int .i64 o.a, .int .i64 o.d, .int .i64 o.t, x0, x1, x2, x3, x4, x5, x6, x7, x8, x9, x10, x11, x12, x13, x14, x15, x16, x17, x18, x19, x20, x21, x22]) 49 from C26.blk Fg14.out nr21.out)
    clear C0 SL Fg14
    have C0 := C0'; clear C0'
    have SL := SL'; clear SL'
    have Fg14 := Fg14'; clear Fg14'
    clear OT
    have OT := Lib.hid (show OwnS w24 w.heap.size 49 28 (v23) (k + 1) ((L.take k).flatMap opC ++ [.int .i64 o.c, .int .i64 o.n, .int .i64 o.a, .int .i64 o.d, .int .i64 o.t, x0, x1, x2, x3, x4, x5, x6, x7, x8, x9, x10, x11, x12, x13, x14, x15, x16, x17, x18, x19, x20, x21, x22]) from O25); clear O25 C26
    refine hK22 _ _ ?_; clear hK22 K22
    (try simp only [zP, zN, zA, zB, zC])
    refine pu_ (v := v23) (y_assign rfl (by rfl) (by rfl)) ?_
    (try simp only [zP, zN, zA, zB, zC])
    refine nl_ ?_
    refine ib_norm ?_
    refine th_norm (hK9 _ _ ?_); try clear hK9 K9
    refine r_ ?_
    refine pu_ (v := .int .i64 k) (y_move rfl (by rfl) (by rfl)) ?_
    (try simp only [zP, zN, zA, zB, zC])
    refine pu_ (v := .int .i64 (k + 1 : Nat)) (y_run (by rfl) (fun W => by have d := Wk.out; go_simp)) ?_
    (try simp only [zP, zN, zA, zB, zC])
    refine pu_ (v := .int .i64 (k + 1 : Nat)) (y_assign rfl (by rfl) (by rfl)) ?_
    (try simp only [zP, zN, zA, zB, zC])
    refine nl_ ?_
    exact th_norm (hK6 (kq - 1) _ _ (by have := hlt.out; have := hk.out; omega) ⟨k + 1, _, fun us_ => (#[.slice (some a) L.length c, us 1, .slice none 0 0, v23, .int .i64 (k + 1 : Nat), .int .i64 k, .slice (some a) L.length c, .int .i64 L.length, .bool true, .int .i64 k, .int .i64 (k + 1 : Nat), vt, .slice (some a) L.length c, .int .i64 k, .pointer (some (a.add (k * 28))), .agg #[.int .i64 o.c, .int .i64 o.n, .int .i64 o.a, .int .i64 o.d, .int .i64 o.t, x0, x1, x2, x3, x4, x5, x6, x7, x8, x9, x10, x11, x12, x13, x14, x15, x16, x17, x18, x19, x20, x21, x22], .agg #[.int .i64 o.c, .int .i64 o.n, .int .i64 o.a, .int .i64 o.d, .int .i64 o.t, x0, x1, x2, x3, x4, x5, x6, x7, x8, x9, x10, x11, x12, x13, x14, x15, x16, x17, x18, x19, x20, x21, x22], .slice (some ⟨g14, 0, none⟩) 1 1, v23, us 19] : Array Value).getD us_ undef, rfl, C0, SL, Lib.hid (by have h := OT.out; rw [← HOL.out] at h; rw [take_snoc ho.out, List.flatMap_append, List.flatMap_cons, List.flatMap_nil, List.append_nil]; exact h), Lib.hid ⟨by have := hlt.out; omega, by have := hlt.out; have := hk.out; omega⟩, Lib.hid (xr29.out)⟩)
  · have D8 := Lib.hid (show ¬ k < L.length by have := hk.out; omega)
    have HE := Lib.hid h
    clear h
    refine s_ (fun K31 hK31 => ?_)
    refine pu_ (v := .int .i64 k) (y_move rfl (by rfl) (by rfl)) ?_
    (try simp only [zP, zN, zA, zB, zC])
    refine pu_ (v := .slice A L.length c) (y_move rfl (by rfl) (by rfl)) ?_
    (try simp only [zP, zN, zA, zB, zC])
    refine pu_ (v := .int .i64 L.length) (y_run (by rfl) (fun W => by go_simp)) ?_
    (try simp only [zP, zN, zA, zB, zC])
    refine pu_ (v := .bool false) (y_run (by rfl) (fun W => by have d := D8.out; go_simp)) ?_
    (try simp only [zP, zN, zA, zB, zC])
    refine nl_ (hK31 _ _ ?_); clear hK31 K31
    refine wp_cond_false rfl ?_
    refine wp_exit ?_
    refine th_exit ?_
    refine th_exit ?_
    refine ib_exit ?_
    refine th_norm (hK3 _ _ ?_); try clear hK3 K3
    refine s_ (fun K32 hK32 => ?_)
    refine pu_ (v := vt) (y_move rfl (by rfl) (by rfl)) ?_
    (try simp only [zP, zN, zA, zB, zC])
    refine pu_ (v := vt) (y_assign rfl (by rfl) (by rfl)) ?_
    (try simp only [zP, zN, zA, zB, zC])
    refine nl_ (hK32 _ _ ?_); clear hK32 K32
    refine wp_ret ?_
    refine hQ _ _ _ ?_
    refine bodyPost_ret (res1 rfl (rdv_tmp (v := vt) (by rfl))) rfl ?_
    exact ⟨_, rfl, by have h := OT.out; rw [HE.out, List.take_length] at h; exact h, C0.out⟩
theorem real_ {A : Option Addr} {c : Nat} {L : List HOp} (HN : Hid (L.length ≤ 30)) (SL : Hid (SrcIs w (.slice A L.length c) (L.length) ((L).flatMap opC) 28)) :
    Calls Try.prog 42 #[.slice A L.length c] w fun en w' => ∃ b, en = .returned (.bool b) ∧ (b = true ↔ ∀ o ∈ L, realO o) ∧ Ch [] w w' := by
  have C0 := Lib.hid (Ch.refl [] w)
  go_enter Try.func42, Try.ntmps42
  refine q_ (fun Q hQ hP => ?_)
  refine s_ (fun K1 hK1 => ?_)
  refine pu_ (v := .bool false) (y_assign rfl (by rfl) (by rfl)) ?_
  (try simp only [zP, zN, zA, zB, zC])
  refine nl_ (hK1 _ _ ?_); clear hK1 K1
  refine sq_ (fun K2 hK2 => ?_)
  refine s_ (fun K3 hK3 => ?_)
  refine pu_ (v := .int .i64 0) (y_assign rfl (by rfl) (by rfl)) ?_
  (try simp only [zP, zN, zA, zB, zC])
  refine nl_ (hK3 _ _ ?_); clear hK3 K3
  refine wp_block ?_
  refine loopk_ (fun (kq : Nat) (a' : Act) (w' : World) => ∃ (k : Nat), ∃ (us : Nat → Value), a' = ⟨#[.slice A L.length c, us 1, .bool false, .int .i64 k, us 4, us 5, us 6, us 7, us 8, us 9, us 10, us 11, us 12, us 13, us 14, us 15, us 16, us 17, us 18, us 19, us 20, us 21, us 22, us 23, us 24, us 25, us 26, us 27, us 28, us 29, us 30, us 31, us 32, us 33, us 34, us 35, us 36, us 37, us 38, us 39, us 40, us 41, us 42, us 43, us 44, us 45, us 46, us 47, us 48, us 49, us 50], []⟩ ∧ Hid (Ch [] w w') ∧ Hid (SrcIs w' (.slice A L.length c) (L.length) ((L).flatMap opC) 28) ∧ Hid (k ≤ L.length ∧ kq + k = L.length) ∧ Hid (∀ o ∈ L.take k, realO o)) (L.length) (⟨0, fun us_ => (#[.slice A L.length c, undef, .bool false, .int .i64 0, undef, undef, undef, undef, undef, undef, undef, undef, undef, undef, undef, undef, undef, undef, undef, undef, undef, undef, undef, undef, undef, undef, undef, undef, undef, undef, undef, undef, undef, undef, undef, undef, undef, undef, undef, undef, undef, undef, undef, undef, undef, undef, undef, undef, undef, undef, undef] : Array Value).getD us_ undef, rfl, C0, SL, Lib.hid ⟨by omega, by omega⟩, Lib.hid (by simp)⟩) ?_
  rintro kq _ w4 ⟨k, us, rfl, C0, SL, hk, hr⟩ K5 hK5
  refine sq_ (fun K6 hK6 => ?_)
  rcases at_ways hk.out.1 with ⟨o, hlt0, ho0⟩ | h; rcases real_ways o with h | h | h | h | h | h | h | h
  · have hlt := Lib.hid hlt0
    have ho := Lib.hid ho0
    have hc := Lib.hid h
    clear hlt0 ho0 h
    obtain ⟨a, hsm_a⟩ := src_some SL.out (by have := hlt.out; omega)
    subst hsm_a
    have D8 := Lib.hid (show (k : Int) < (L.length : Int) by have := hlt.out; omega)
    have Wk := Lib.hid (show IntKind.i64.wrap ((k : Int) + 1) = ((k + 1 : Nat) : Int) by rw [wr64 (by have := hlt.out; have := HN.out; omega)]; omega)
    have D11 := Lib.hid (show decide ((k : Int) < 30) = true from decide_eq_true (by have := hlt.out; have := HN.out; omega))
    have D21 := Lib.hid (show decide (o.a < 1) = true from decide_eq_true (by have := hc.out; omega))
    have HG := Lib.hid (show ¬ realO o by unfold realO; have := hc.out; omega)
    refine s_ (fun K7 hK7 => ?_)
    refine pu_ (v := .int .i64 k) (y_move rfl (by rfl) (by rfl)) ?_
    (try simp only [zP, zN, zA, zB, zC])
    refine pu_ (v := .slice (some a) L.length c) (y_move rfl (by rfl) (by rfl)) ?_
    (try simp only [zP, zN, zA, zB, zC])
    refine pu_ (v := .int .i64 L.length) (y_run (by rfl) (fun W => by go_simp)) ?_
    (try simp only [zP, zN, zA, zB, zC])
    refine pu_ (v := .bool true) (y_run (by rfl) (fun W => by have d := D8.out; go_simp)) ?_
    (try simp only [zP, zN, zA, zB, zC])
    refine pu_ (v := .bool true) (y_move rfl (by rfl) (by rfl)) ?_
    (try simp only [zP, zN, zA, zB, zC])
    refine pu_ (v := .int .i64 k) (y_move rfl (by rfl) (by rfl)) ?_
    (try simp only [zP, zN, zA, zB, zC])
    refine pu_ (v := .bool true) (y_run (by rfl) (fun W => by have d := D11.out; go_simp)) ?_
    (try simp only [zP, zN, zA, zB, zC])
    refine pu_ (v := .bool true) (y_pick (t := true) (by rfl) rfl (by rfl) (by rfl)) ?_
    (try simp only [zP, zN, zA, zB, zC])
    refine nl_ (hK7 _ _ ?_); clear hK7 K7
    refine wp_cond_true rfl ?_
    refine wp_skip ?_
    refine th_norm (hK6 _ _ ?_); try clear hK6 K6
    refine sq_ (fun K8 hK8 => ?_)
    refine wp_block ?_
    refine s_ (fun K9 hK9 => ?_)
    refine pu_ (v := .slice (some a) L.length c) (y_move rfl (by rfl) (by rfl)) ?_
    (try simp only [zP, zN, zA, zB, zC])
    refine pu_ (v := .int .i64 k) (y_move rfl (by rfl) (by rfl)) ?_
    (try simp only [zP, zN, zA, zB, zC])
    refine pu_ (v := .pointer (some (a.add (k * 28)))) (y_run (by rfl) (fun W => by have d := D8.out; go_simp)) ?_
    (try simp only [zP, zN, zA, zB, zC])
    refine ld_ (v := .agg (opC o).toArray) rfl (by rfl) (by rfl) (run_loadVar_at (src_elem SL.out ho.out) Try.underlying49 rfl (by rw [opC_len]; kernel_rfl)) ?_
    (try simp only [zP, zN, zA, zB, zC])
    refine ef_ (fun K10 hK10 => ?_)
    refine e_alloc (by rfl) rfl rfl (cs := #[.int .i64 0, .int .i64 0, .int .i64 0, .int .i64 0, .int .i64 0, .int .i64 0, .int .i64 0, .int .u64 0, .string ⟨#[]⟩, .slice none 0 0, .slice none 0 0, .slice none 0 0, .int .i64 0, .int .i64 0, .int .i64 0, .int .i64 0, .int .i64 0, .int .i64 0, .int .i64 0, .string ⟨#[]⟩, .slice none 0 0, .int .i64 0, .int .i64 0, .int .i64 0, .int .u64 0, .string ⟨#[]⟩, .slice none 0 0, .slice none 0 0]) (by kernel_rfl) ?_
    rintro g11 w12 HG13 B14 C15
    have nw16 := Lib.hid (show w.heap.size ≤ g11 by have := C0.out.size; have := HG13.out; omega)
    have nx17 := Lib.hid (SL.out.ne_new (by decide) HG13)
    have C0' := Lib.hid (show Ch [] w w12 from C0.out.trans' C15 (fun x hx => absurd hx (by simp)))
    have SL' := Lib.hid (show SrcIs w12 (.slice (some a) L.length c) (L.length) ((L).flatMap opC) 28 from SL.out.chx C15 xnin_nil)
    clear C0 SL
    have C0 := C0'; clear C0'
    have SL := SL'; clear SL'
    have Fg11 := Lib.hid (show Blk w12 g11 (#[.int .i64 0, .int .i64 0, .int .i64 0, .int .i64 0, .int .i64 0, .int .i64 0, .int .i64 0, .int .u64 0, .string ⟨#[]⟩, .slice none 0 0, .slice none 0 0, .slice none 0 0, .int .i64 0, .int .i64 0, .int .i64 0, .int .i64 0, .int .i64 0, .int .i64 0, .int .i64 0, .string ⟨#[]⟩, .slice none 0 0, .int .i64 0, .int .i64 0, .int .i64 0, .int .u64 0, .string ⟨#[]⟩, .slice none 0 0, .slice none 0 0]) 49 from B14); clear B14 C15
    refine hK10 _ _ ?_; clear hK10 K10
    (try simp only [zP, zN, zA, zB, zC])
    refine ef_ (fun K18 hK18 => ?_)
    refine e_storeN (cells := (opC o).toArray) (by rfl) rfl rfl (by rfl) (by rfl) Fg11.out (sz49 o) (by rw [show (opC o).toArray.size = 28 by rw [List.size_toArray, opC_len]]; rfl) (by simpa using opC_one o) ?_
    rintro w19 B20 C21
    have C0' := Lib.hid (show Ch [] w w19 from C0.out.trans' C21 (inw_cons (.inr nw16.out) inw_nil))
    have SL' := Lib.hid (show SrcIs w19 (.slice (some a) L.length c) (L.length) ((L).flatMap opC) 28 from SL.out.chx C21 (xnin_cons nx17.out xnin_nil))
    clear C0 SL
    have C0 := C0'; clear C0'
    have SL := SL'; clear SL'
    clear Fg11; have Fg11 := Lib.hid (show Blk w19 g11 ((opC o).toArray) 49 from B20); clear B20 C21
    refine hK18 _ _ ?_; clear hK18 K18
    (try simp only [zP, zN, zA, zB, zC])
    refine nl_ (hK9 _ _ ?_); clear hK9 K9
    refine s_ (fun K22 hK22 => ?_)
    refine pu_ (v := .pointer (some ⟨g11, 2, none⟩)) (y_run (by rfl) (fun W => by go_simp)) ?_
    (try simp only [zP, zN, zA, zB, zC])
    refine ld_ (v := .int .i64 o.a) rfl (by rfl) (by rfl) (run_load_one ((Fg11.out.cell 2).trans (by simp [opC])) Try.underlying3 rfl) ?_
    (try simp only [zP, zN, zA, zB, zC])
    refine pu_ (v := .bool true) (y_run (by rfl) (fun W => by have d := D21.out; go_simp)) ?_
    (try simp only [zP, zN, zA, zB, zC])
    refine pu_ (v := .bool true) (y_move rfl (by rfl) (by rfl)) ?_
    (try simp only [zP, zN, zA, zB, zC])
    refine pu_ (y_off (by rfl)) ?_
    (try simp only [zP, zN, zA, zB, zC])
    refine pu_ (y_off (by rfl)) ?_
    (try simp only [zP, zN, zA, zB, zC])
    refine pu_ (y_off (by rfl)) ?_
    (try simp only [zP, zN, zA, zB, zC])
    refine pu_ (y_off (by rfl)) ?_
    (try simp only [zP, zN, zA, zB, zC])
    refine pu_ (y_off (by rfl)) ?_
    (try simp only [zP, zN, zA, zB, zC])
    refine pu_ (y_off (by rfl)) ?_
    (try simp only [zP, zN, zA, zB, zC])
    refine pu_ (y_off (by rfl)) ?_
    (try simp only [zP, zN, zA, zB, zC])
    refine pu_ (y_off (by rfl)) ?_
    (try simp only [zP, zN, zA, zB, zC])
    refine pu_ (y_off (by rfl)) ?_
    (try simp only [zP, zN, zA, zB, zC])
    refine pu_ (y_off (by rfl)) ?_
    (try simp only [zP, zN, zA, zB, zC])
    refine pu_ (v := .bool true) (y_pick (t := true) (by rfl) rfl (by rfl) (by rfl)) ?_
    (try simp only [zP, zN, zA, zB, zC])
    refine pu_ (v := .bool true) (y_move rfl (by rfl) (by rfl)) ?_
    (try simp only [zP, zN, zA, zB, zC])
    refine pu_ (y_off (by rfl)) ?_
    (try simp only [zP, zN, zA, zB, zC])
    refine pu_ (y_off (by rfl)) ?_
    (try simp only [zP, zN, zA, zB, zC])
    refine pu_ (y_off (by rfl)) ?_
    (try simp only [zP, zN, zA, zB, zC])
    refine pu_ (y_off (by rfl)) ?_
    (try simp only [zP, zN, zA, zB, zC])
    refine pu_ (y_off (by rfl)) ?_
    (try simp only [zP, zN, zA, zB, zC])
    refine pu_ (y_off (by rfl)) ?_
    (try simp only [zP, zN, zA, zB, zC])
    refine pu_ (y_off (by rfl)) ?_
    (try simp only [zP, zN, zA, zB, zC])
    refine pu_ (y_off (by rfl)) ?_
    (try simp only [zP, zN, zA, zB, zC])
    refine pu_ (y_off (by rfl)) ?_
    (try simp only [zP, zN, zA, zB, zC])
    refine pu_ (y_off (by rfl)) ?_
    (try simp only [zP, zN, zA, zB, zC])
    refine pu_ (y_off (by rfl)) ?_
    (try simp only [zP, zN, zA, zB, zC])
    refine pu_ (y_off (by rfl)) ?_
    (try simp only [zP, zN, zA, zB, zC])
    refine pu_ (y_off (by rfl)) ?_
    (try simp only [zP, zN, zA, zB, zC])
    refine pu_ (y_off (by rfl)) ?_
    (try simp only [zP, zN, zA, zB, zC])
    refine pu_ (y_off (by rfl)) ?_
    (try simp only [zP, zN, zA, zB, zC])
    refine pu_ (v := .bool true) (y_pick (t := true) (by rfl) rfl (by rfl) (by rfl)) ?_
    (try simp only [zP, zN, zA, zB, zC])
    refine nl_ (hK22 _ _ ?_); clear hK22 K22
    refine wp_cond_true rfl ?_
    refine s_ (fun K23 hK23 => ?_)
    refine pu_ (v := .bool false) (y_assign rfl (by rfl) (by rfl)) ?_
    (try simp only [zP, zN, zA, zB, zC])
    refine nl_ (hK23 _ _ ?_); clear hK23 K23
    refine wp_ret ?_
    refine ib_ret ?_
    refine th_ret ?_
    refine th_ret ?_
    refine ib_ret ?_
    refine th_ret ?_
    refine hQ _ _ _ ?_
    refine bodyPost_ret (res1 rfl (rdv_tmp (v := .bool false) (by rfl))) rfl ?_
    exact ⟨_, rfl, ⟨fun h9 => absurd h9 (by decide), fun h9 => absurd (h9 o (List.mem_of_getElem? ho.out)) HG.out⟩, C0.out⟩
  · have hlt := Lib.hid hlt0
    have ho := Lib.hid ho0
    have hc := Lib.hid h
    clear hlt0 ho0 h
    obtain ⟨a, hsm_a⟩ := src_some SL.out (by have := hlt.out; omega)
    subst hsm_a
    have D8 := Lib.hid (show (k : Int) < (L.length : Int) by have := hlt.out; omega)
    have Wk := Lib.hid (show IntKind.i64.wrap ((k : Int) + 1) = ((k + 1 : Nat) : Int) by rw [wr64 (by have := hlt.out; have := HN.out; omega)]; omega)
    have D11 := Lib.hid (show decide ((k : Int) < 30) = true from decide_eq_true (by have := hlt.out; have := HN.out; omega))
    have D21 := Lib.hid (show decide (o.a < 1) = false from decide_eq_false (by have := hc.out; omega))
    have D25 := Lib.hid (show decide (o.d > 0) = true from decide_eq_true (by have := hc.out; omega))
    have D31 := Lib.hid (show decide (o.d ≤ o.a) = true from decide_eq_true (by have := hc.out; omega))
    have HG := Lib.hid (show ¬ realO o by unfold realO; have := hc.out; omega)
    refine s_ (fun K24 hK24 => ?_)
    refine pu_ (v := .int .i64 k) (y_move rfl (by rfl) (by rfl)) ?_
    (try simp only [zP, zN, zA, zB, zC])
    refine pu_ (v := .slice (some a) L.length c) (y_move rfl (by rfl) (by rfl)) ?_
    (try simp only [zP, zN, zA, zB, zC])
    refine pu_ (v := .int .i64 L.length) (y_run (by rfl) (fun W => by go_simp)) ?_
    (try simp only [zP, zN, zA, zB, zC])
    refine pu_ (v := .bool true) (y_run (by rfl) (fun W => by have d := D8.out; go_simp)) ?_
    (try simp only [zP, zN, zA, zB, zC])
    refine pu_ (v := .bool true) (y_move rfl (by rfl) (by rfl)) ?_
    (try simp only [zP, zN, zA, zB, zC])
    refine pu_ (v := .int .i64 k) (y_move rfl (by rfl) (by rfl)) ?_
    (try simp only [zP, zN, zA, zB, zC])
    refine pu_ (v := .bool true) (y_run (by rfl) (fun W => by have d := D11.out; go_simp)) ?_
    (try simp only [zP, zN, zA, zB, zC])
    refine pu_ (v := .bool true) (y_pick (t := true) (by rfl) rfl (by rfl) (by rfl)) ?_
    (try simp only [zP, zN, zA, zB, zC])
    refine nl_ (hK24 _ _ ?_); clear hK24 K24
    refine wp_cond_true rfl ?_
    refine wp_skip ?_
    refine th_norm (hK6 _ _ ?_); try clear hK6 K6
    refine sq_ (fun K25 hK25 => ?_)
    refine wp_block ?_
    refine s_ (fun K26 hK26 => ?_)
    refine pu_ (v := .slice (some a) L.length c) (y_move rfl (by rfl) (by rfl)) ?_
    (try simp only [zP, zN, zA, zB, zC])
    refine pu_ (v := .int .i64 k) (y_move rfl (by rfl) (by rfl)) ?_
    (try simp only [zP, zN, zA, zB, zC])
    refine pu_ (v := .pointer (some (a.add (k * 28)))) (y_run (by rfl) (fun W => by have d := D8.out; go_simp)) ?_
    (try simp only [zP, zN, zA, zB, zC])
    refine ld_ (v := .agg (opC o).toArray) rfl (by rfl) (by rfl) (run_loadVar_at (src_elem SL.out ho.out) Try.underlying49 rfl (by rw [opC_len]; kernel_rfl)) ?_
    (try simp only [zP, zN, zA, zB, zC])
    refine ef_ (fun K27 hK27 => ?_)
    refine e_alloc (by rfl) rfl rfl (cs := #[.int .i64 0, .int .i64 0, .int .i64 0, .int .i64 0, .int .i64 0, .int .i64 0, .int .i64 0, .int .u64 0, .string ⟨#[]⟩, .slice none 0 0, .slice none 0 0, .slice none 0 0, .int .i64 0, .int .i64 0, .int .i64 0, .int .i64 0, .int .i64 0, .int .i64 0, .int .i64 0, .string ⟨#[]⟩, .slice none 0 0, .int .i64 0, .int .i64 0, .int .i64 0, .int .u64 0, .string ⟨#[]⟩, .slice none 0 0, .slice none 0 0]) (by kernel_rfl) ?_
    rintro g28 w29 HG30 B31 C32
    have nw33 := Lib.hid (show w.heap.size ≤ g28 by have := C0.out.size; have := HG30.out; omega)
    have nx34 := Lib.hid (SL.out.ne_new (by decide) HG30)
    have C0' := Lib.hid (show Ch [] w w29 from C0.out.trans' C32 (fun x hx => absurd hx (by simp)))
    have SL' := Lib.hid (show SrcIs w29 (.slice (some a) L.length c) (L.length) ((L).flatMap opC) 28 from SL.out.chx C32 xnin_nil)
    clear C0 SL
    have C0 := C0'; clear C0'
    have SL := SL'; clear SL'
    have Fg28 := Lib.hid (show Blk w29 g28 (#[.int .i64 0, .int .i64 0, .int .i64 0, .int .i64 0, .int .i64 0, .int .i64 0, .int .i64 0, .int .u64 0, .string ⟨#[]⟩, .slice none 0 0, .slice none 0 0, .slice none 0 0, .int .i64 0, .int .i64 0, .int .i64 0, .int .i64 0, .int .i64 0, .int .i64 0, .int .i64 0, .string ⟨#[]⟩, .slice none 0 0, .int .i64 0, .int .i64 0, .int .i64 0, .int .u64 0, .string ⟨#[]⟩, .slice none 0 0, .slice none 0 0]) 49 from B31); clear B31 C32
    refine hK27 _ _ ?_; clear hK27 K27
    (try simp only [zP, zN, zA, zB, zC])
    refine ef_ (fun K35 hK35 => ?_)
    refine e_storeN (cells := (opC o).toArray) (by rfl) rfl rfl (by rfl) (by rfl) Fg28.out (sz49 o) (by rw [show (opC o).toArray.size = 28 by rw [List.size_toArray, opC_len]]; rfl) (by simpa using opC_one o) ?_
    rintro w36 B37 C38
    have C0' := Lib.hid (show Ch [] w w36 from C0.out.trans' C38 (inw_cons (.inr nw33.out) inw_nil))
    have SL' := Lib.hid (show SrcIs w36 (.slice (some a) L.length c) (L.length) ((L).flatMap opC) 28 from SL.out.chx C38 (xnin_cons nx34.out xnin_nil))
    clear C0 SL
    have C0 := C0'; clear C0'
    have SL := SL'; clear SL'
    clear Fg28; have Fg28 := Lib.hid (show Blk w36 g28 ((opC o).toArray) 49 from B37); clear B37 C38
    refine hK35 _ _ ?_; clear hK35 K35
    (try simp only [zP, zN, zA, zB, zC])
    refine nl_ (hK26 _ _ ?_); clear hK26 K26
    refine s_ (fun K39 hK39 => ?_)
    refine pu_ (v := .pointer (some ⟨g28, 2, none⟩)) (y_run (by rfl) (fun W => by go_simp)) ?_
    (try simp only [zP, zN, zA, zB, zC])
    refine ld_ (v := .int .i64 o.a) rfl (by rfl) (by rfl) (run_load_one ((Fg28.out.cell 2).trans (by simp [opC])) Try.underlying3 rfl) ?_
    (try simp only [zP, zN, zA, zB, zC])
    refine pu_ (v := .bool false) (y_run (by rfl) (fun W => by have d := D21.out; go_simp)) ?_
    (try simp only [zP, zN, zA, zB, zC])
    refine pu_ (v := .bool false) (y_move rfl (by rfl) (by rfl)) ?_
    (try simp only [zP, zN, zA, zB, zC])
    refine pu_ (v := .pointer (some ⟨g28, 3, none⟩)) (y_run (by rfl) (fun W => by go_simp)) ?_
    (try simp only [zP, zN, zA, zB, zC])
    refine ld_ (v := .int .i64 o.d) rfl (by rfl) (by rfl) (run_load_one ((Fg28.out.cell 3).trans (by simp [opC])) Try.underlying3 rfl) ?_
    (try simp only [zP, zN, zA, zB, zC])
    refine pu_ (v := .bool true) (y_run (by rfl) (fun W => by have d := D25.out; go_simp)) ?_
    (try simp only [zP, zN, zA, zB, zC])
    refine pu_ (v := .bool true) (y_move rfl (by rfl) (by rfl)) ?_
    (try simp only [zP, zN, zA, zB, zC])
    refine pu_ (v := .pointer (some ⟨g28, 3, none⟩)) (y_run (by rfl) (fun W => by go_simp)) ?_
    (try simp only [zP, zN, zA, zB, zC])
    refine ld_ (v := .int .i64 o.d) rfl (by rfl) (by rfl) (run_load_one ((Fg28.out.cell 3).trans (by simp [opC])) Try.underlying3 rfl) ?_
    (try simp only [zP, zN, zA, zB, zC])
    refine pu_ (v := .pointer (some ⟨g28, 2, none⟩)) (y_run (by rfl) (fun W => by go_simp)) ?_
    (try simp only [zP, zN, zA, zB, zC])
    refine ld_ (v := .int .i64 o.a) rfl (by rfl) (by rfl) (run_load_one ((Fg28.out.cell 2).trans (by simp [opC])) Try.underlying3 rfl) ?_
    (try simp only [zP, zN, zA, zB, zC])
    refine pu_ (v := .bool true) (y_run (by rfl) (fun W => by have d := D31.out; go_simp)) ?_
    (try simp only [zP, zN, zA, zB, zC])
    refine pu_ (v := .bool true) (y_pick (t := true) (by rfl) rfl (by rfl) (by rfl)) ?_
    (try simp only [zP, zN, zA, zB, zC])
    refine pu_ (v := .bool true) (y_pick (t := false) (by rfl) rfl (by rfl) (by rfl)) ?_
    (try simp only [zP, zN, zA, zB, zC])
    refine pu_ (v := .bool true) (y_move rfl (by rfl) (by rfl)) ?_
    (try simp only [zP, zN, zA, zB, zC])
    refine pu_ (y_off (by rfl)) ?_
    (try simp only [zP, zN, zA, zB, zC])
    refine pu_ (y_off (by rfl)) ?_
    (try simp only [zP, zN, zA, zB, zC])
    refine pu_ (y_off (by rfl)) ?_
    (try simp only [zP, zN, zA, zB, zC])
    refine pu_ (y_off (by rfl)) ?_
    (try simp only [zP, zN, zA, zB, zC])
    refine pu_ (y_off (by rfl)) ?_
    (try simp only [zP, zN, zA, zB, zC])
    refine pu_ (y_off (by rfl)) ?_
    (try simp only [zP, zN, zA, zB, zC])
    refine pu_ (y_off (by rfl)) ?_
    (try simp only [zP, zN, zA, zB, zC])
    refine pu_ (y_off (by rfl)) ?_
    (try simp only [zP, zN, zA, zB, zC])
    refine pu_ (y_off (by rfl)) ?_
    (try simp only [zP, zN, zA, zB, zC])
    refine pu_ (y_off (by rfl)) ?_
    (try simp only [zP, zN, zA, zB, zC])
    refine pu_ (y_off (by rfl)) ?_
    (try simp only [zP, zN, zA, zB, zC])
    refine pu_ (y_off (by rfl)) ?_
    (try simp only [zP, zN, zA, zB, zC])
    refine pu_ (y_off (by rfl)) ?_
    (try simp only [zP, zN, zA, zB, zC])
    refine pu_ (y_off (by rfl)) ?_
    (try simp only [zP, zN, zA, zB, zC])
    refine pu_ (y_off (by rfl)) ?_
    (try simp only [zP, zN, zA, zB, zC])
    refine pu_ (v := .bool true) (y_pick (t := true) (by rfl) rfl (by rfl) (by rfl)) ?_
    (try simp only [zP, zN, zA, zB, zC])
    refine nl_ (hK39 _ _ ?_); clear hK39 K39
    refine wp_cond_true rfl ?_
    refine s_ (fun K40 hK40 => ?_)
    refine pu_ (v := .bool false) (y_assign rfl (by rfl) (by rfl)) ?_
    (try simp only [zP, zN, zA, zB, zC])
    refine nl_ (hK40 _ _ ?_); clear hK40 K40
    refine wp_ret ?_
    refine ib_ret ?_
    refine th_ret ?_
    refine th_ret ?_
    refine ib_ret ?_
    refine th_ret ?_
    refine hQ _ _ _ ?_
    refine bodyPost_ret (res1 rfl (rdv_tmp (v := .bool false) (by rfl))) rfl ?_
    exact ⟨_, rfl, ⟨fun h9 => absurd h9 (by decide), fun h9 => absurd (h9 o (List.mem_of_getElem? ho.out)) HG.out⟩, C0.out⟩
  · have hlt := Lib.hid hlt0
    have ho := Lib.hid ho0
    have hc := Lib.hid h
    clear hlt0 ho0 h
    obtain ⟨a, hsm_a⟩ := src_some SL.out (by have := hlt.out; omega)
    subst hsm_a
    have D8 := Lib.hid (show (k : Int) < (L.length : Int) by have := hlt.out; omega)
    have Wk := Lib.hid (show IntKind.i64.wrap ((k : Int) + 1) = ((k + 1 : Nat) : Int) by rw [wr64 (by have := hlt.out; have := HN.out; omega)]; omega)
    have D11 := Lib.hid (show decide ((k : Int) < 30) = true from decide_eq_true (by have := hlt.out; have := HN.out; omega))
    have D21 := Lib.hid (show decide (o.a < 1) = false from decide_eq_false (by have := hc.out; omega))
    have D25 := Lib.hid (show decide (o.d > 0) = false from decide_eq_false (by have := hc.out; omega))
    have D37 := Lib.hid (show decide (o.t > 0) = false from decide_eq_false (by have := hc.out; omega))
    have HG := Lib.hid (show realO o by unfold realO; have := hc.out; omega)
    refine s_ (fun K41 hK41 => ?_)
    refine pu_ (v := .int .i64 k) (y_move rfl (by rfl) (by rfl)) ?_
    (try simp only [zP, zN, zA, zB, zC])
    refine pu_ (v := .slice (some a) L.length c) (y_move rfl (by rfl) (by rfl)) ?_
    (try simp only [zP, zN, zA, zB, zC])
    refine pu_ (v := .int .i64 L.length) (y_run (by rfl) (fun W => by go_simp)) ?_
    (try simp only [zP, zN, zA, zB, zC])
    refine pu_ (v := .bool true) (y_run (by rfl) (fun W => by have d := D8.out; go_simp)) ?_
    (try simp only [zP, zN, zA, zB, zC])
    refine pu_ (v := .bool true) (y_move rfl (by rfl) (by rfl)) ?_
    (try simp only [zP, zN, zA, zB, zC])
    refine pu_ (v := .int .i64 k) (y_move rfl (by rfl) (by rfl)) ?_
    (try simp only [zP, zN, zA, zB, zC])
    refine pu_ (v := .bool true) (y_run (by rfl) (fun W => by have d := D11.out; go_simp)) ?_
    (try simp only [zP, zN, zA, zB, zC])
    refine pu_ (v := .bool true) (y_pick (t := true) (by rfl) rfl (by rfl) (by rfl)) ?_
    (try simp only [zP, zN, zA, zB, zC])
    refine nl_ (hK41 _ _ ?_); clear hK41 K41
    refine wp_cond_true rfl ?_
    refine wp_skip ?_
    refine th_norm (hK6 _ _ ?_); try clear hK6 K6
    refine sq_ (fun K42 hK42 => ?_)
    refine wp_block ?_
    refine s_ (fun K43 hK43 => ?_)
    refine pu_ (v := .slice (some a) L.length c) (y_move rfl (by rfl) (by rfl)) ?_
    (try simp only [zP, zN, zA, zB, zC])
    refine pu_ (v := .int .i64 k) (y_move rfl (by rfl) (by rfl)) ?_
    (try simp only [zP, zN, zA, zB, zC])
    refine pu_ (v := .pointer (some (a.add (k * 28)))) (y_run (by rfl) (fun W => by have d := D8.out; go_simp)) ?_
    (try simp only [zP, zN, zA, zB, zC])
    refine ld_ (v := .agg (opC o).toArray) rfl (by rfl) (by rfl) (run_loadVar_at (src_elem SL.out ho.out) Try.underlying49 rfl (by rw [opC_len]; kernel_rfl)) ?_
    (try simp only [zP, zN, zA, zB, zC])
    refine ef_ (fun K44 hK44 => ?_)
    refine e_alloc (by rfl) rfl rfl (cs := #[.int .i64 0, .int .i64 0, .int .i64 0, .int .i64 0, .int .i64 0, .int .i64 0, .int .i64 0, .int .u64 0, .string ⟨#[]⟩, .slice none 0 0, .slice none 0 0, .slice none 0 0, .int .i64 0, .int .i64 0, .int .i64 0, .int .i64 0, .int .i64 0, .int .i64 0, .int .i64 0, .string ⟨#[]⟩, .slice none 0 0, .int .i64 0, .int .i64 0, .int .i64 0, .int .u64 0, .string ⟨#[]⟩, .slice none 0 0, .slice none 0 0]) (by kernel_rfl) ?_
    rintro g45 w46 HG47 B48 C49
    have nw50 := Lib.hid (show w.heap.size ≤ g45 by have := C0.out.size; have := HG47.out; omega)
    have nx51 := Lib.hid (SL.out.ne_new (by decide) HG47)
    have C0' := Lib.hid (show Ch [] w w46 from C0.out.trans' C49 (fun x hx => absurd hx (by simp)))
    have SL' := Lib.hid (show SrcIs w46 (.slice (some a) L.length c) (L.length) ((L).flatMap opC) 28 from SL.out.chx C49 xnin_nil)
    clear C0 SL
    have C0 := C0'; clear C0'
    have SL := SL'; clear SL'
    have Fg45 := Lib.hid (show Blk w46 g45 (#[.int .i64 0, .int .i64 0, .int .i64 0, .int .i64 0, .int .i64 0, .int .i64 0, .int .i64 0, .int .u64 0, .string ⟨#[]⟩, .slice none 0 0, .slice none 0 0, .slice none 0 0, .int .i64 0, .int .i64 0, .int .i64 0, .int .i64 0, .int .i64 0, .int .i64 0, .int .i64 0, .string ⟨#[]⟩, .slice none 0 0, .int .i64 0, .int .i64 0, .int .i64 0, .int .u64 0, .string ⟨#[]⟩, .slice none 0 0, .slice none 0 0]) 49 from B48); clear B48 C49
    refine hK44 _ _ ?_; clear hK44 K44
    (try simp only [zP, zN, zA, zB, zC])
    refine ef_ (fun K52 hK52 => ?_)
    refine e_storeN (cells := (opC o).toArray) (by rfl) rfl rfl (by rfl) (by rfl) Fg45.out (sz49 o) (by rw [show (opC o).toArray.size = 28 by rw [List.size_toArray, opC_len]]; rfl) (by simpa using opC_one o) ?_
    rintro w53 B54 C55
    have C0' := Lib.hid (show Ch [] w w53 from C0.out.trans' C55 (inw_cons (.inr nw50.out) inw_nil))
    have SL' := Lib.hid (show SrcIs w53 (.slice (some a) L.length c) (L.length) ((L).flatMap opC) 28 from SL.out.chx C55 (xnin_cons nx51.out xnin_nil))
    clear C0 SL
    have C0 := C0'; clear C0'
    have SL := SL'; clear SL'
    clear Fg45; have Fg45 := Lib.hid (show Blk w53 g45 ((opC o).toArray) 49 from B54); clear B54 C55
    refine hK52 _ _ ?_; clear hK52 K52
    (try simp only [zP, zN, zA, zB, zC])
    refine nl_ (hK43 _ _ ?_); clear hK43 K43
    refine s_ (fun K56 hK56 => ?_)
    refine pu_ (v := .pointer (some ⟨g45, 2, none⟩)) (y_run (by rfl) (fun W => by go_simp)) ?_
    (try simp only [zP, zN, zA, zB, zC])
    refine ld_ (v := .int .i64 o.a) rfl (by rfl) (by rfl) (run_load_one ((Fg45.out.cell 2).trans (by simp [opC])) Try.underlying3 rfl) ?_
    (try simp only [zP, zN, zA, zB, zC])
    refine pu_ (v := .bool false) (y_run (by rfl) (fun W => by have d := D21.out; go_simp)) ?_
    (try simp only [zP, zN, zA, zB, zC])
    refine pu_ (v := .bool false) (y_move rfl (by rfl) (by rfl)) ?_
    (try simp only [zP, zN, zA, zB, zC])
    refine pu_ (v := .pointer (some ⟨g45, 3, none⟩)) (y_run (by rfl) (fun W => by go_simp)) ?_
    (try simp only [zP, zN, zA, zB, zC])
    refine ld_ (v := .int .i64 o.d) rfl (by rfl) (by rfl) (run_load_one ((Fg45.out.cell 3).trans (by simp [opC])) Try.underlying3 rfl) ?_
    (try simp only [zP, zN, zA, zB, zC])
    refine pu_ (v := .bool false) (y_run (by rfl) (fun W => by have d := D25.out; go_simp)) ?_
    (try simp only [zP, zN, zA, zB, zC])
    refine pu_ (v := .bool false) (y_move rfl (by rfl) (by rfl)) ?_
    (try simp only [zP, zN, zA, zB, zC])
    refine pu_ (y_off (by rfl)) ?_
    (try simp only [zP, zN, zA, zB, zC])
    refine pu_ (y_off (by rfl)) ?_
    (try simp only [zP, zN, zA, zB, zC])
    refine pu_ (y_off (by rfl)) ?_
    (try simp only [zP, zN, zA, zB, zC])
    refine pu_ (y_off (by rfl)) ?_
    (try simp only [zP, zN, zA, zB, zC])
    refine pu_ (y_off (by rfl)) ?_
    (try simp only [zP, zN, zA, zB, zC])
    refine pu_ (v := .bool false) (y_pick (t := false) (by rfl) rfl (by rfl) (by rfl)) ?_
    (try simp only [zP, zN, zA, zB, zC])
    refine pu_ (v := .bool false) (y_pick (t := false) (by rfl) rfl (by rfl) (by rfl)) ?_
    (try simp only [zP, zN, zA, zB, zC])
    refine pu_ (v := .bool false) (y_move rfl (by rfl) (by rfl)) ?_
    (try simp only [zP, zN, zA, zB, zC])
    refine pu_ (v := .pointer (some ⟨g45, 4, none⟩)) (y_run (by rfl) (fun W => by go_simp)) ?_
    (try simp only [zP, zN, zA, zB, zC])
    refine ld_ (v := .int .i64 o.t) rfl (by rfl) (by rfl) (run_load_one ((Fg45.out.cell 4).trans (by simp [opC])) Try.underlying3 rfl) ?_
    (try simp only [zP, zN, zA, zB, zC])
    refine pu_ (v := .bool false) (y_run (by rfl) (fun W => by have d := D37.out; go_simp)) ?_
    (try simp only [zP, zN, zA, zB, zC])
    refine pu_ (v := .bool false) (y_move rfl (by rfl) (by rfl)) ?_
    (try simp only [zP, zN, zA, zB, zC])
    refine pu_ (y_off (by rfl)) ?_
    (try simp only [zP, zN, zA, zB, zC])
    refine pu_ (y_off (by rfl)) ?_
    (try simp only [zP, zN, zA, zB, zC])
    refine pu_ (y_off (by rfl)) ?_
    (try simp only [zP, zN, zA, zB, zC])
    refine pu_ (y_off (by rfl)) ?_
    (try simp only [zP, zN, zA, zB, zC])
    refine pu_ (y_off (by rfl)) ?_
    (try simp only [zP, zN, zA, zB, zC])
    refine pu_ (y_off (by rfl)) ?_
    (try simp only [zP, zN, zA, zB, zC])
    refine pu_ (y_off (by rfl)) ?_
    (try simp only [zP, zN, zA, zB, zC])
    refine pu_ (y_off (by rfl)) ?_
    (try simp only [zP, zN, zA, zB, zC])
    refine pu_ (y_off (by rfl)) ?_
    (try simp only [zP, zN, zA, zB, zC])
    refine pu_ (y_off (by rfl)) ?_
    (try simp only [zP, zN, zA, zB, zC])
    refine pu_ (v := .bool false) (y_pick (t := false) (by rfl) rfl (by rfl) (by rfl)) ?_
    (try simp only [zP, zN, zA, zB, zC])
    refine pu_ (v := .bool false) (y_pick (t := false) (by rfl) rfl (by rfl) (by rfl)) ?_
    (try simp only [zP, zN, zA, zB, zC])
    refine nl_ (hK56 _ _ ?_); clear hK56 K56
    refine wp_cond_false rfl ?_
    refine wp_skip ?_
    refine ib_norm ?_
    refine th_norm (hK42 _ _ ?_); try clear hK42 K42
    refine r_ ?_
    refine pu_ (v := .int .i64 k) (y_move rfl (by rfl) (by rfl)) ?_
    (try simp only [zP, zN, zA, zB, zC])
    refine pu_ (v := .int .i64 (k + 1 : Nat)) (y_run (by rfl) (fun W => by have d := Wk.out; go_simp)) ?_
    (try simp only [zP, zN, zA, zB, zC])
    refine pu_ (v := .int .i64 (k + 1 : Nat)) (y_assign rfl (by rfl) (by rfl)) ?_
    (try simp only [zP, zN, zA, zB, zC])
    refine nl_ ?_
    exact th_norm (hK5 (kq - 1) _ _ (by have := hlt.out; have := hk.out; omega) ⟨k + 1, fun us_ => (#[.slice (some a) L.length c, us 1, .bool false, .int .i64 (k + 1 : Nat), .pointer (some ⟨g45, 0, none⟩), .int .i64 k, .slice (some a) L.length c, .int .i64 L.length, .bool true, .bool true, .int .i64 k, .bool true, .bool true, .int .i64 k, .int .i64 (k + 1 : Nat), .slice (some a) L.length c, .int .i64 k, .pointer (some (a.add (k * 28))), .agg (opC o).toArray, .pointer (some ⟨g45, 2, none⟩), .int .i64 o.a, .bool false, .bool false, .pointer (some ⟨g45, 3, none⟩), .int .i64 o.d, .bool false, .bool false, undef, undef, undef, undef, undef, .bool false, .bool false, .bool false, .pointer (some ⟨g45, 4, none⟩), .int .i64 o.t, .bool false, .bool false, undef, undef, undef, undef, undef, undef, undef, undef, undef, undef, .bool false, .bool false] : Array Value).getD us_ undef, rfl, C0, SL, Lib.hid ⟨by have := hlt.out; omega, by have := hlt.out; have := hk.out; omega⟩, Lib.hid (by rw [take_snoc ho.out]; exact fun p hp => (List.mem_append.1 hp).elim (hr.out p) (fun h9 => by rw [List.mem_singleton.1 h9]; exact HG.out))⟩)
  · have hlt := Lib.hid hlt0
    have ho := Lib.hid ho0
    have hc := Lib.hid h
    clear hlt0 ho0 h
    obtain ⟨a, hsm_a⟩ := src_some SL.out (by have := hlt.out; omega)
    subst hsm_a
    have D8 := Lib.hid (show (k : Int) < (L.length : Int) by have := hlt.out; omega)
    have Wk := Lib.hid (show IntKind.i64.wrap ((k : Int) + 1) = ((k + 1 : Nat) : Int) by rw [wr64 (by have := hlt.out; have := HN.out; omega)]; omega)
    have D11 := Lib.hid (show decide ((k : Int) < 30) = true from decide_eq_true (by have := hlt.out; have := HN.out; omega))
    have D21 := Lib.hid (show decide (o.a < 1) = false from decide_eq_false (by have := hc.out; omega))
    have D25 := Lib.hid (show decide (o.d > 0) = false from decide_eq_false (by have := hc.out; omega))
    have D37 := Lib.hid (show decide (o.t > 0) = true from decide_eq_true (by have := hc.out; omega))
    have D41 := Lib.hid (show (o.d == 0) = true from beq_iff_eq.2 (by have := hc.out; omega))
    have HG := Lib.hid (show ¬ realO o by unfold realO; have := hc.out; omega)
    refine s_ (fun K57 hK57 => ?_)
    refine pu_ (v := .int .i64 k) (y_move rfl (by rfl) (by rfl)) ?_
    (try simp only [zP, zN, zA, zB, zC])
    refine pu_ (v := .slice (some a) L.length c) (y_move rfl (by rfl) (by rfl)) ?_
    (try simp only [zP, zN, zA, zB, zC])
    refine pu_ (v := .int .i64 L.length) (y_run (by rfl) (fun W => by go_simp)) ?_
    (try simp only [zP, zN, zA, zB, zC])
    refine pu_ (v := .bool true) (y_run (by rfl) (fun W => by have d := D8.out; go_simp)) ?_
    (try simp only [zP, zN, zA, zB, zC])
    refine pu_ (v := .bool true) (y_move rfl (by rfl) (by rfl)) ?_
    (try simp only [zP, zN, zA, zB, zC])
    refine pu_ (v := .int .i64 k) (y_move rfl (by rfl) (by rfl)) ?_
    (try simp only [zP, zN, zA, zB, zC])
    refine pu_ (v := .bool true) (y_run (by rfl) (fun W => by have d := D11.out; go_simp)) ?_
    (try simp only [zP, zN, zA, zB, zC])
    refine pu_ (v := .bool true) (y_pick (t := true) (by rfl) rfl (by rfl) (by rfl)) ?_
    (try simp only [zP, zN, zA, zB, zC])
    refine nl_ (hK57 _ _ ?_); clear hK57 K57
    refine wp_cond_true rfl ?_
    refine wp_skip ?_
    refine th_norm (hK6 _ _ ?_); try clear hK6 K6
    refine sq_ (fun K58 hK58 => ?_)
    refine wp_block ?_
    refine s_ (fun K59 hK59 => ?_)
    refine pu_ (v := .slice (some a) L.length c) (y_move rfl (by rfl) (by rfl)) ?_
    (try simp only [zP, zN, zA, zB, zC])
    refine pu_ (v := .int .i64 k) (y_move rfl (by rfl) (by rfl)) ?_
    (try simp only [zP, zN, zA, zB, zC])
    refine pu_ (v := .pointer (some (a.add (k * 28)))) (y_run (by rfl) (fun W => by have d := D8.out; go_simp)) ?_
    (try simp only [zP, zN, zA, zB, zC])
    refine ld_ (v := .agg (opC o).toArray) rfl (by rfl) (by rfl) (run_loadVar_at (src_elem SL.out ho.out) Try.underlying49 rfl (by rw [opC_len]; kernel_rfl)) ?_
    (try simp only [zP, zN, zA, zB, zC])
    refine ef_ (fun K60 hK60 => ?_)
    refine e_alloc (by rfl) rfl rfl (cs := #[.int .i64 0, .int .i64 0, .int .i64 0, .int .i64 0, .int .i64 0, .int .i64 0, .int .i64 0, .int .u64 0, .string ⟨#[]⟩, .slice none 0 0, .slice none 0 0, .slice none 0 0, .int .i64 0, .int .i64 0, .int .i64 0, .int .i64 0, .int .i64 0, .int .i64 0, .int .i64 0, .string ⟨#[]⟩, .slice none 0 0, .int .i64 0, .int .i64 0, .int .i64 0, .int .u64 0, .string ⟨#[]⟩, .slice none 0 0, .slice none 0 0]) (by kernel_rfl) ?_
    rintro g61 w62 HG63 B64 C65
    have nw66 := Lib.hid (show w.heap.size ≤ g61 by have := C0.out.size; have := HG63.out; omega)
    have nx67 := Lib.hid (SL.out.ne_new (by decide) HG63)
    have C0' := Lib.hid (show Ch [] w w62 from C0.out.trans' C65 (fun x hx => absurd hx (by simp)))
    have SL' := Lib.hid (show SrcIs w62 (.slice (some a) L.length c) (L.length) ((L).flatMap opC) 28 from SL.out.chx C65 xnin_nil)
    clear C0 SL
    have C0 := C0'; clear C0'
    have SL := SL'; clear SL'
    have Fg61 := Lib.hid (show Blk w62 g61 (#[.int .i64 0, .int .i64 0, .int .i64 0, .int .i64 0, .int .i64 0, .int .i64 0, .int .i64 0, .int .u64 0, .string ⟨#[]⟩, .slice none 0 0, .slice none 0 0, .slice none 0 0, .int .i64 0, .int .i64 0, .int .i64 0, .int .i64 0, .int .i64 0, .int .i64 0, .int .i64 0, .string ⟨#[]⟩, .slice none 0 0, .int .i64 0, .int .i64 0, .int .i64 0, .int .u64 0, .string ⟨#[]⟩, .slice none 0 0, .slice none 0 0]) 49 from B64); clear B64 C65
    refine hK60 _ _ ?_; clear hK60 K60
    (try simp only [zP, zN, zA, zB, zC])
    refine ef_ (fun K68 hK68 => ?_)
    refine e_storeN (cells := (opC o).toArray) (by rfl) rfl rfl (by rfl) (by rfl) Fg61.out (sz49 o) (by rw [show (opC o).toArray.size = 28 by rw [List.size_toArray, opC_len]]; rfl) (by simpa using opC_one o) ?_
    rintro w69 B70 C71
    have C0' := Lib.hid (show Ch [] w w69 from C0.out.trans' C71 (inw_cons (.inr nw66.out) inw_nil))
    have SL' := Lib.hid (show SrcIs w69 (.slice (some a) L.length c) (L.length) ((L).flatMap opC) 28 from SL.out.chx C71 (xnin_cons nx67.out xnin_nil))
    clear C0 SL
    have C0 := C0'; clear C0'
    have SL := SL'; clear SL'
    clear Fg61; have Fg61 := Lib.hid (show Blk w69 g61 ((opC o).toArray) 49 from B70); clear B70 C71
    refine hK68 _ _ ?_; clear hK68 K68
    (try simp only [zP, zN, zA, zB, zC])
    refine nl_ (hK59 _ _ ?_); clear hK59 K59
    refine s_ (fun K72 hK72 => ?_)
    refine pu_ (v := .pointer (some ⟨g61, 2, none⟩)) (y_run (by rfl) (fun W => by go_simp)) ?_
    (try simp only [zP, zN, zA, zB, zC])
    refine ld_ (v := .int .i64 o.a) rfl (by rfl) (by rfl) (run_load_one ((Fg61.out.cell 2).trans (by simp [opC])) Try.underlying3 rfl) ?_
    (try simp only [zP, zN, zA, zB, zC])
    refine pu_ (v := .bool false) (y_run (by rfl) (fun W => by have d := D21.out; go_simp)) ?_
    (try simp only [zP, zN, zA, zB, zC])
    refine pu_ (v := .bool false) (y_move rfl (by rfl) (by rfl)) ?_
    (try simp only [zP, zN, zA, zB, zC])
    refine pu_ (v := .pointer (some ⟨g61, 3, none⟩)) (y_run (by rfl) (fun W => by go_simp)) ?_
    (try simp only [zP, zN, zA, zB, zC])
    refine ld_ (v := .int .i64 o.d) rfl (by rfl) (by rfl) (run_load_one ((Fg61.out.cell 3).trans (by simp [opC])) Try.underlying3 rfl) ?_
    (try simp only [zP, zN, zA, zB, zC])
    refine pu_ (v := .bool false) (y_run (by rfl) (fun W => by have d := D25.out; go_simp)) ?_
    (try simp only [zP, zN, zA, zB, zC])
    refine pu_ (v := .bool false) (y_move rfl (by rfl) (by rfl)) ?_
    (try simp only [zP, zN, zA, zB, zC])
    refine pu_ (y_off (by rfl)) ?_
    (try simp only [zP, zN, zA, zB, zC])
    refine pu_ (y_off (by rfl)) ?_
    (try simp only [zP, zN, zA, zB, zC])
    refine pu_ (y_off (by rfl)) ?_
    (try simp only [zP, zN, zA, zB, zC])
    refine pu_ (y_off (by rfl)) ?_
    (try simp only [zP, zN, zA, zB, zC])
    refine pu_ (y_off (by rfl)) ?_
    (try simp only [zP, zN, zA, zB, zC])
    refine pu_ (v := .bool false) (y_pick (t := false) (by rfl) rfl (by rfl) (by rfl)) ?_
    (try simp only [zP, zN, zA, zB, zC])
    refine pu_ (v := .bool false) (y_pick (t := false) (by rfl) rfl (by rfl) (by rfl)) ?_
    (try simp only [zP, zN, zA, zB, zC])
    refine pu_ (v := .bool false) (y_move rfl (by rfl) (by rfl)) ?_
    (try simp only [zP, zN, zA, zB, zC])
    refine pu_ (v := .pointer (some ⟨g61, 4, none⟩)) (y_run (by rfl) (fun W => by go_simp)) ?_
    (try simp only [zP, zN, zA, zB, zC])
    refine ld_ (v := .int .i64 o.t) rfl (by rfl) (by rfl) (run_load_one ((Fg61.out.cell 4).trans (by simp [opC])) Try.underlying3 rfl) ?_
    (try simp only [zP, zN, zA, zB, zC])
    refine pu_ (v := .bool true) (y_run (by rfl) (fun W => by have d := D37.out; go_simp)) ?_
    (try simp only [zP, zN, zA, zB, zC])
    refine pu_ (v := .bool true) (y_move rfl (by rfl) (by rfl)) ?_
    (try simp only [zP, zN, zA, zB, zC])
    refine pu_ (v := .pointer (some ⟨g61, 3, none⟩)) (y_run (by rfl) (fun W => by go_simp)) ?_
    (try simp only [zP, zN, zA, zB, zC])
    refine ld_ (v := .int .i64 o.d) rfl (by rfl) (by rfl) (run_load_one ((Fg61.out.cell 3).trans (by simp [opC])) Try.underlying3 rfl) ?_
    (try simp only [zP, zN, zA, zB, zC])
    refine pu_ (v := .bool true) (y_run (by rfl) (fun W => by have d := D41.out; go_simp)) ?_
    (try simp only [zP, zN, zA, zB, zC])
    refine pu_ (v := .bool true) (y_move rfl (by rfl) (by rfl)) ?_
    (try simp only [zP, zN, zA, zB, zC])
    refine pu_ (y_off (by rfl)) ?_
    (try simp only [zP, zN, zA, zB, zC])
    refine pu_ (y_off (by rfl)) ?_
    (try simp only [zP, zN, zA, zB, zC])
    refine pu_ (y_off (by rfl)) ?_
    (try simp only [zP, zN, zA, zB, zC])
    refine pu_ (y_off (by rfl)) ?_
    (try simp only [zP, zN, zA, zB, zC])
    refine pu_ (y_off (by rfl)) ?_
    (try simp only [zP, zN, zA, zB, zC])
    refine pu_ (v := .bool true) (y_pick (t := true) (by rfl) rfl (by rfl) (by rfl)) ?_
    (try simp only [zP, zN, zA, zB, zC])
    refine pu_ (v := .bool true) (y_pick (t := true) (by rfl) rfl (by rfl) (by rfl)) ?_
    (try simp only [zP, zN, zA, zB, zC])
    refine pu_ (v := .bool true) (y_pick (t := false) (by rfl) rfl (by rfl) (by rfl)) ?_
    (try simp only [zP, zN, zA, zB, zC])
    refine nl_ (hK72 _ _ ?_); clear hK72 K72
    refine wp_cond_true rfl ?_
    refine s_ (fun K73 hK73 => ?_)
    refine pu_ (v := .bool false) (y_assign rfl (by rfl) (by rfl)) ?_
    (try simp only [zP, zN, zA, zB, zC])
    refine nl_ (hK73 _ _ ?_); clear hK73 K73
    refine wp_ret ?_
    refine ib_ret ?_
    refine th_ret ?_
    refine th_ret ?_
    refine ib_ret ?_
    refine th_ret ?_
    refine hQ _ _ _ ?_
    refine bodyPost_ret (res1 rfl (rdv_tmp (v := .bool false) (by rfl))) rfl ?_
    exact ⟨_, rfl, ⟨fun h9 => absurd h9 (by decide), fun h9 => absurd (h9 o (List.mem_of_getElem? ho.out)) HG.out⟩, C0.out⟩
  · have hlt := Lib.hid hlt0
    have ho := Lib.hid ho0
    have hc := Lib.hid h
    clear hlt0 ho0 h
    obtain ⟨a, hsm_a⟩ := src_some SL.out (by have := hlt.out; omega)
    subst hsm_a
    have D8 := Lib.hid (show (k : Int) < (L.length : Int) by have := hlt.out; omega)
    have Wk := Lib.hid (show IntKind.i64.wrap ((k : Int) + 1) = ((k + 1 : Nat) : Int) by rw [wr64 (by have := hlt.out; have := HN.out; omega)]; omega)
    have D11 := Lib.hid (show decide ((k : Int) < 30) = true from decide_eq_true (by have := hlt.out; have := HN.out; omega))
    have D21 := Lib.hid (show decide (o.a < 1) = false from decide_eq_false (by have := hc.out; omega))
    have D25 := Lib.hid (show decide (o.d > 0) = false from decide_eq_false (by have := hc.out; omega))
    have D37 := Lib.hid (show decide (o.t > 0) = true from decide_eq_true (by have := hc.out; omega))
    have D41 := Lib.hid (show (o.d == 0) = false from beq_eq_false_iff_ne.2 (by have := hc.out; omega))
    have D47 := Lib.hid (show decide (o.t ≤ o.d) = false from decide_eq_false (by have := hc.out; omega))
    have HG := Lib.hid (show realO o by unfold realO; have := hc.out; omega)
    refine s_ (fun K74 hK74 => ?_)
    refine pu_ (v := .int .i64 k) (y_move rfl (by rfl) (by rfl)) ?_
    (try simp only [zP, zN, zA, zB, zC])
    refine pu_ (v := .slice (some a) L.length c) (y_move rfl (by rfl) (by rfl)) ?_
    (try simp only [zP, zN, zA, zB, zC])
    refine pu_ (v := .int .i64 L.length) (y_run (by rfl) (fun W => by go_simp)) ?_
    (try simp only [zP, zN, zA, zB, zC])
    refine pu_ (v := .bool true) (y_run (by rfl) (fun W => by have d := D8.out; go_simp)) ?_
    (try simp only [zP, zN, zA, zB, zC])
    refine pu_ (v := .bool true) (y_move rfl (by rfl) (by rfl)) ?_
    (try simp only [zP, zN, zA, zB, zC])
    refine pu_ (v := .int .i64 k) (y_move rfl (by rfl) (by rfl)) ?_
    (try simp only [zP, zN, zA, zB, zC])
    refine pu_ (v := .bool true) (y_run (by rfl) (fun W => by have d := D11.out; go_simp)) ?_
    (try simp only [zP, zN, zA, zB, zC])
    refine pu_ (v := .bool true) (y_pick (t := true) (by rfl) rfl (by rfl) (by rfl)) ?_
    (try simp only [zP, zN, zA, zB, zC])
    refine nl_ (hK74 _ _ ?_); clear hK74 K74
    refine wp_cond_true rfl ?_
    refine wp_skip ?_
    refine th_norm (hK6 _ _ ?_); try clear hK6 K6
    refine sq_ (fun K75 hK75 => ?_)
    refine wp_block ?_
    refine s_ (fun K76 hK76 => ?_)
    refine pu_ (v := .slice (some a) L.length c) (y_move rfl (by rfl) (by rfl)) ?_
    (try simp only [zP, zN, zA, zB, zC])
    refine pu_ (v := .int .i64 k) (y_move rfl (by rfl) (by rfl)) ?_
    (try simp only [zP, zN, zA, zB, zC])
    refine pu_ (v := .pointer (some (a.add (k * 28)))) (y_run (by rfl) (fun W => by have d := D8.out; go_simp)) ?_
    (try simp only [zP, zN, zA, zB, zC])
    refine ld_ (v := .agg (opC o).toArray) rfl (by rfl) (by rfl) (run_loadVar_at (src_elem SL.out ho.out) Try.underlying49 rfl (by rw [opC_len]; kernel_rfl)) ?_
    (try simp only [zP, zN, zA, zB, zC])
    refine ef_ (fun K77 hK77 => ?_)
    refine e_alloc (by rfl) rfl rfl (cs := #[.int .i64 0, .int .i64 0, .int .i64 0, .int .i64 0, .int .i64 0, .int .i64 0, .int .i64 0, .int .u64 0, .string ⟨#[]⟩, .slice none 0 0, .slice none 0 0, .slice none 0 0, .int .i64 0, .int .i64 0, .int .i64 0, .int .i64 0, .int .i64 0, .int .i64 0, .int .i64 0, .string ⟨#[]⟩, .slice none 0 0, .int .i64 0, .int .i64 0, .int .i64 0, .int .u64 0, .string ⟨#[]⟩, .slice none 0 0, .slice none 0 0]) (by kernel_rfl) ?_
    rintro g78 w79 HG80 B81 C82
    have nw83 := Lib.hid (show w.heap.size ≤ g78 by have := C0.out.size; have := HG80.out; omega)
    have nx84 := Lib.hid (SL.out.ne_new (by decide) HG80)
    have C0' := Lib.hid (show Ch [] w w79 from C0.out.trans' C82 (fun x hx => absurd hx (by simp)))
    have SL' := Lib.hid (show SrcIs w79 (.slice (some a) L.length c) (L.length) ((L).flatMap opC) 28 from SL.out.chx C82 xnin_nil)
    clear C0 SL
    have C0 := C0'; clear C0'
    have SL := SL'; clear SL'
    have Fg78 := Lib.hid (show Blk w79 g78 (#[.int .i64 0, .int .i64 0, .int .i64 0, .int .i64 0, .int .i64 0, .int .i64 0, .int .i64 0, .int .u64 0, .string ⟨#[]⟩, .slice none 0 0, .slice none 0 0, .slice none 0 0, .int .i64 0, .int .i64 0, .int .i64 0, .int .i64 0, .int .i64 0, .int .i64 0, .int .i64 0, .string ⟨#[]⟩, .slice none 0 0, .int .i64 0, .int .i64 0, .int .i64 0, .int .u64 0, .string ⟨#[]⟩, .slice none 0 0, .slice none 0 0]) 49 from B81); clear B81 C82
    refine hK77 _ _ ?_; clear hK77 K77
    (try simp only [zP, zN, zA, zB, zC])
    refine ef_ (fun K85 hK85 => ?_)
    refine e_storeN (cells := (opC o).toArray) (by rfl) rfl rfl (by rfl) (by rfl) Fg78.out (sz49 o) (by rw [show (opC o).toArray.size = 28 by rw [List.size_toArray, opC_len]]; rfl) (by simpa using opC_one o) ?_
    rintro w86 B87 C88
    have C0' := Lib.hid (show Ch [] w w86 from C0.out.trans' C88 (inw_cons (.inr nw83.out) inw_nil))
    have SL' := Lib.hid (show SrcIs w86 (.slice (some a) L.length c) (L.length) ((L).flatMap opC) 28 from SL.out.chx C88 (xnin_cons nx84.out xnin_nil))
    clear C0 SL
    have C0 := C0'; clear C0'
    have SL := SL'; clear SL'
    clear Fg78; have Fg78 := Lib.hid (show Blk w86 g78 ((opC o).toArray) 49 from B87); clear B87 C88
    refine hK85 _ _ ?_; clear hK85 K85
    (try simp only [zP, zN, zA, zB, zC])
    refine nl_ (hK76 _ _ ?_); clear hK76 K76
    refine s_ (fun K89 hK89 => ?_)
    refine pu_ (v := .pointer (some ⟨g78, 2, none⟩)) (y_run (by rfl) (fun W => by go_simp)) ?_
    (try simp only [zP, zN, zA, zB, zC])
    refine ld_ (v := .int .i64 o.a) rfl (by rfl) (by rfl) (run_load_one ((Fg78.out.cell 2).trans (by simp [opC])) Try.underlying3 rfl) ?_
    (try simp only [zP, zN, zA, zB, zC])
    refine pu_ (v := .bool false) (y_run (by rfl) (fun W => by have d := D21.out; go_simp)) ?_
    (try simp only [zP, zN, zA, zB, zC])
    refine pu_ (v := .bool false) (y_move rfl (by rfl) (by rfl)) ?_
    (try simp only [zP, zN, zA, zB, zC])
    refine pu_ (v := .pointer (some ⟨g78, 3, none⟩)) (y_run (by rfl) (fun W => by go_simp)) ?_
    (try simp only [zP, zN, zA, zB, zC])
    refine ld_ (v := .int .i64 o.d) rfl (by rfl) (by rfl) (run_load_one ((Fg78.out.cell 3).trans (by simp [opC])) Try.underlying3 rfl) ?_
    (try simp only [zP, zN, zA, zB, zC])
    refine pu_ (v := .bool false) (y_run (by rfl) (fun W => by have d := D25.out; go_simp)) ?_
    (try simp only [zP, zN, zA, zB, zC])
    refine pu_ (v := .bool false) (y_move rfl (by rfl) (by rfl)) ?_
    (try simp only [zP, zN, zA, zB, zC])
    refine pu_ (y_off (by rfl)) ?_
    (try simp only [zP, zN, zA, zB, zC])
    refine pu_ (y_off (by rfl)) ?_
    (try simp only [zP, zN, zA, zB, zC])
    refine pu_ (y_off (by rfl)) ?_
    (try simp only [zP, zN, zA, zB, zC])
    refine pu_ (y_off (by rfl)) ?_
    (try simp only [zP, zN, zA, zB, zC])
    refine pu_ (y_off (by rfl)) ?_
    (try simp only [zP, zN, zA, zB, zC])
    refine pu_ (v := .bool false) (y_pick (t := false) (by rfl) rfl (by rfl) (by rfl)) ?_
    (try simp only [zP, zN, zA, zB, zC])
    refine pu_ (v := .bool false) (y_pick (t := false) (by rfl) rfl (by rfl) (by rfl)) ?_
    (try simp only [zP, zN, zA, zB, zC])
    refine pu_ (v := .bool false) (y_move rfl (by rfl) (by rfl)) ?_
    (try simp only [zP, zN, zA, zB, zC])
    refine pu_ (v := .pointer (some ⟨g78, 4, none⟩)) (y_run (by rfl) (fun W => by go_simp)) ?_
    (try simp only [zP, zN, zA, zB, zC])
    refine ld_ (v := .int .i64 o.t) rfl (by rfl) (by rfl) (run_load_one ((Fg78.out.cell 4).trans (by simp [opC])) Try.underlying3 rfl) ?_
    (try simp only [zP, zN, zA, zB, zC])
    refine pu_ (v := .bool true) (y_run (by rfl) (fun W => by have d := D37.out; go_simp)) ?_
    (try simp only [zP, zN, zA, zB, zC])
    refine pu_ (v := .bool true) (y_move rfl (by rfl) (by rfl)) ?_
    (try simp only [zP, zN, zA, zB, zC])
    refine pu_ (v := .pointer (some ⟨g78, 3, none⟩)) (y_run (by rfl) (fun W => by go_simp)) ?_
    (try simp only [zP, zN, zA, zB, zC])
    refine ld_ (v := .int .i64 o.d) rfl (by rfl) (by rfl) (run_load_one ((Fg78.out.cell 3).trans (by simp [opC])) Try.underlying3 rfl) ?_
    (try simp only [zP, zN, zA, zB, zC])
    refine pu_ (v := .bool false) (y_run (by rfl) (fun W => by have d := D41.out; go_simp)) ?_
    (try simp only [zP, zN, zA, zB, zC])
    refine pu_ (v := .bool false) (y_move rfl (by rfl) (by rfl)) ?_
    (try simp only [zP, zN, zA, zB, zC])
    refine pu_ (v := .pointer (some ⟨g78, 4, none⟩)) (y_run (by rfl) (fun W => by go_simp)) ?_
    (try simp only [zP, zN, zA, zB, zC])
    refine ld_ (v := .int .i64 o.t) rfl (by rfl) (by rfl) (run_load_one ((Fg78.out.cell 4).trans (by simp [opC])) Try.underlying3 rfl) ?_
    (try simp only [zP, zN, zA, zB, zC])
    refine pu_ (v := .pointer (some ⟨g78, 3, none⟩)) (y_run (by rfl) (fun W => by go_simp)) ?_
    (try simp only [zP, zN, zA, zB, zC])
    refine ld_ (v := .int .i64 o.d) rfl (by rfl) (by rfl) (run_load_one ((Fg78.out.cell 3).trans (by simp [opC])) Try.underlying3 rfl) ?_
    (try simp only [zP, zN, zA, zB, zC])
    refine pu_ (v := .bool false) (y_run (by rfl) (fun W => by have d := D47.out; go_simp)) ?_
    (try simp only [zP, zN, zA, zB, zC])
    refine pu_ (v := .bool false) (y_pick (t := false) (by rfl) rfl (by rfl) (by rfl)) ?_
    (try simp only [zP, zN, zA, zB, zC])
    refine pu_ (v := .bool false) (y_pick (t := true) (by rfl) rfl (by rfl) (by rfl)) ?_
    (try simp only [zP, zN, zA, zB, zC])
    refine pu_ (v := .bool false) (y_pick (t := false) (by rfl) rfl (by rfl) (by rfl)) ?_
    (try simp only [zP, zN, zA, zB, zC])
    refine nl_ (hK89 _ _ ?_); clear hK89 K89
    refine wp_cond_false rfl ?_
    refine wp_skip ?_
    refine ib_norm ?_
    refine th_norm (hK75 _ _ ?_); try clear hK75 K75
    refine r_ ?_
    refine pu_ (v := .int .i64 k) (y_move rfl (by rfl) (by rfl)) ?_
    (try simp only [zP, zN, zA, zB, zC])
    refine pu_ (v := .int .i64 (k + 1 : Nat)) (y_run (by rfl) (fun W => by have d := Wk.out; go_simp)) ?_
    (try simp only [zP, zN, zA, zB, zC])
    refine pu_ (v := .int .i64 (k + 1 : Nat)) (y_assign rfl (by rfl) (by rfl)) ?_
    (try simp only [zP, zN, zA, zB, zC])
    refine nl_ ?_
    exact th_norm (hK5 (kq - 1) _ _ (by have := hlt.out; have := hk.out; omega) ⟨k + 1, fun us_ => (#[.slice (some a) L.length c, us 1, .bool false, .int .i64 (k + 1 : Nat), .pointer (some ⟨g78, 0, none⟩), .int .i64 k, .slice (some a) L.length c, .int .i64 L.length, .bool true, .bool true, .int .i64 k, .bool true, .bool true, .int .i64 k, .int .i64 (k + 1 : Nat), .slice (some a) L.length c, .int .i64 k, .pointer (some (a.add (k * 28))), .agg (opC o).toArray, .pointer (some ⟨g78, 2, none⟩), .int .i64 o.a, .bool false, .bool false, .pointer (some ⟨g78, 3, none⟩), .int .i64 o.d, .bool false, .bool false, undef, undef, undef, undef, undef, .bool false, .bool false, .bool false, .pointer (some ⟨g78, 4, none⟩), .int .i64 o.t, .bool true, .bool true, .pointer (some ⟨g78, 3, none⟩), .int .i64 o.d, .bool false, .bool false, .pointer (some ⟨g78, 4, none⟩), .int .i64 o.t, .pointer (some ⟨g78, 3, none⟩), .int .i64 o.d, .bool false, .bool false, .bool false, .bool false] : Array Value).getD us_ undef, rfl, C0, SL, Lib.hid ⟨by have := hlt.out; omega, by have := hlt.out; have := hk.out; omega⟩, Lib.hid (by rw [take_snoc ho.out]; exact fun p hp => (List.mem_append.1 hp).elim (hr.out p) (fun h9 => by rw [List.mem_singleton.1 h9]; exact HG.out))⟩)
  · have hlt := Lib.hid hlt0
    have ho := Lib.hid ho0
    have hc := Lib.hid h
    clear hlt0 ho0 h
    obtain ⟨a, hsm_a⟩ := src_some SL.out (by have := hlt.out; omega)
    subst hsm_a
    have D8 := Lib.hid (show (k : Int) < (L.length : Int) by have := hlt.out; omega)
    have Wk := Lib.hid (show IntKind.i64.wrap ((k : Int) + 1) = ((k + 1 : Nat) : Int) by rw [wr64 (by have := hlt.out; have := HN.out; omega)]; omega)
    have D11 := Lib.hid (show decide ((k : Int) < 30) = true from decide_eq_true (by have := hlt.out; have := HN.out; omega))
    have D21 := Lib.hid (show decide (o.a < 1) = false from decide_eq_false (by have := hc.out; omega))
    have D25 := Lib.hid (show decide (o.d > 0) = true from decide_eq_true (by have := hc.out; omega))
    have D31 := Lib.hid (show decide (o.d ≤ o.a) = false from decide_eq_false (by have := hc.out; omega))
    have D37 := Lib.hid (show decide (o.t > 0) = false from decide_eq_false (by have := hc.out; omega))
    have HG := Lib.hid (show realO o by unfold realO; have := hc.out; omega)
    refine s_ (fun K90 hK90 => ?_)
    refine pu_ (v := .int .i64 k) (y_move rfl (by rfl) (by rfl)) ?_
    (try simp only [zP, zN, zA, zB, zC])
    refine pu_ (v := .slice (some a) L.length c) (y_move rfl (by rfl) (by rfl)) ?_
    (try simp only [zP, zN, zA, zB, zC])
    refine pu_ (v := .int .i64 L.length) (y_run (by rfl) (fun W => by go_simp)) ?_
    (try simp only [zP, zN, zA, zB, zC])
    refine pu_ (v := .bool true) (y_run (by rfl) (fun W => by have d := D8.out; go_simp)) ?_
    (try simp only [zP, zN, zA, zB, zC])
    refine pu_ (v := .bool true) (y_move rfl (by rfl) (by rfl)) ?_
    (try simp only [zP, zN, zA, zB, zC])
    refine pu_ (v := .int .i64 k) (y_move rfl (by rfl) (by rfl)) ?_
    (try simp only [zP, zN, zA, zB, zC])
    refine pu_ (v := .bool true) (y_run (by rfl) (fun W => by have d := D11.out; go_simp)) ?_
    (try simp only [zP, zN, zA, zB, zC])
    refine pu_ (v := .bool true) (y_pick (t := true) (by rfl) rfl (by rfl) (by rfl)) ?_
    (try simp only [zP, zN, zA, zB, zC])
    refine nl_ (hK90 _ _ ?_); clear hK90 K90
    refine wp_cond_true rfl ?_
    refine wp_skip ?_
    refine th_norm (hK6 _ _ ?_); try clear hK6 K6
    refine sq_ (fun K91 hK91 => ?_)
    refine wp_block ?_
    refine s_ (fun K92 hK92 => ?_)
    refine pu_ (v := .slice (some a) L.length c) (y_move rfl (by rfl) (by rfl)) ?_
    (try simp only [zP, zN, zA, zB, zC])
    refine pu_ (v := .int .i64 k) (y_move rfl (by rfl) (by rfl)) ?_
    (try simp only [zP, zN, zA, zB, zC])
    refine pu_ (v := .pointer (some (a.add (k * 28)))) (y_run (by rfl) (fun W => by have d := D8.out; go_simp)) ?_
    (try simp only [zP, zN, zA, zB, zC])
    refine ld_ (v := .agg (opC o).toArray) rfl (by rfl) (by rfl) (run_loadVar_at (src_elem SL.out ho.out) Try.underlying49 rfl (by rw [opC_len]; kernel_rfl)) ?_
    (try simp only [zP, zN, zA, zB, zC])
    refine ef_ (fun K93 hK93 => ?_)
    refine e_alloc (by rfl) rfl rfl (cs := #[.int .i64 0, .int .i64 0, .int .i64 0, .int .i64 0, .int .i64 0, .int .i64 0, .int .i64 0, .int .u64 0, .string ⟨#[]⟩, .slice none 0 0, .slice none 0 0, .slice none 0 0, .int .i64 0, .int .i64 0, .int .i64 0, .int .i64 0, .int .i64 0, .int .i64 0, .int .i64 0, .string ⟨#[]⟩, .slice none 0 0, .int .i64 0, .int .i64 0, .int .i64 0, .int .u64 0, .string ⟨#[]⟩, .slice none 0 0, .slice none 0 0]) (by kernel_rfl) ?_
    rintro g94 w95 HG96 B97 C98
    have nw99 := Lib.hid (show w.heap.size ≤ g94 by have := C0.out.size; have := HG96.out; omega)
    have nx100 := Lib.hid (SL.out.ne_new (by decide) HG96)
    have C0' := Lib.hid (show Ch [] w w95 from C0.out.trans' C98 (fun x hx => absurd hx (by simp)))
    have SL' := Lib.hid (show SrcIs w95 (.slice (some a) L.length c) (L.length) ((L).flatMap opC) 28 from SL.out.chx C98 xnin_nil)
    clear C0 SL
    have C0 := C0'; clear C0'
    have SL := SL'; clear SL'
    have Fg94 := Lib.hid (show Blk w95 g94 (#[.int .i64 0, .int .i64 0, .int .i64 0, .int .i64 0, .int .i64 0, .int .i64 0, .int .i64 0, .int .u64 0, .string ⟨#[]⟩, .slice none 0 0, .slice none 0 0, .slice none 0 0, .int .i64 0, .int .i64 0, .int .i64 0, .int .i64 0, .int .i64 0, .int .i64 0, .int .i64 0, .string ⟨#[]⟩, .slice none 0 0, .int .i64 0, .int .i64 0, .int .i64 0, .int .u64 0, .string ⟨#[]⟩, .slice none 0 0, .slice none 0 0]) 49 from B97); clear B97 C98
    refine hK93 _ _ ?_; clear hK93 K93
    (try simp only [zP, zN, zA, zB, zC])
    refine ef_ (fun K101 hK101 => ?_)
    refine e_storeN (cells := (opC o).toArray) (by rfl) rfl rfl (by rfl) (by rfl) Fg94.out (sz49 o) (by rw [show (opC o).toArray.size = 28 by rw [List.size_toArray, opC_len]]; rfl) (by simpa using opC_one o) ?_
    rintro w102 B103 C104
    have C0' := Lib.hid (show Ch [] w w102 from C0.out.trans' C104 (inw_cons (.inr nw99.out) inw_nil))
    have SL' := Lib.hid (show SrcIs w102 (.slice (some a) L.length c) (L.length) ((L).flatMap opC) 28 from SL.out.chx C104 (xnin_cons nx100.out xnin_nil))
    clear C0 SL
    have C0 := C0'; clear C0'
    have SL := SL'; clear SL'
    clear Fg94; have Fg94 := Lib.hid (show Blk w102 g94 ((opC o).toArray) 49 from B103); clear B103 C104
    refine hK101 _ _ ?_; clear hK101 K101
    (try simp only [zP, zN, zA, zB, zC])
    refine nl_ (hK92 _ _ ?_); clear hK92 K92
    refine s_ (fun K105 hK105 => ?_)
    refine pu_ (v := .pointer (some ⟨g94, 2, none⟩)) (y_run (by rfl) (fun W => by go_simp)) ?_
    (try simp only [zP, zN, zA, zB, zC])
    refine ld_ (v := .int .i64 o.a) rfl (by rfl) (by rfl) (run_load_one ((Fg94.out.cell 2).trans (by simp [opC])) Try.underlying3 rfl) ?_
    (try simp only [zP, zN, zA, zB, zC])
    refine pu_ (v := .bool false) (y_run (by rfl) (fun W => by have d := D21.out; go_simp)) ?_
    (try simp only [zP, zN, zA, zB, zC])
    refine pu_ (v := .bool false) (y_move rfl (by rfl) (by rfl)) ?_
    (try simp only [zP, zN, zA, zB, zC])
    refine pu_ (v := .pointer (some ⟨g94, 3, none⟩)) (y_run (by rfl) (fun W => by go_simp)) ?_
    (try simp only [zP, zN, zA, zB, zC])
    refine ld_ (v := .int .i64 o.d) rfl (by rfl) (by rfl) (run_load_one ((Fg94.out.cell 3).trans (by simp [opC])) Try.underlying3 rfl) ?_
    (try simp only [zP, zN, zA, zB, zC])
    refine pu_ (v := .bool true) (y_run (by rfl) (fun W => by have d := D25.out; go_simp)) ?_
    (try simp only [zP, zN, zA, zB, zC])
    refine pu_ (v := .bool true) (y_move rfl (by rfl) (by rfl)) ?_
    (try simp only [zP, zN, zA, zB, zC])
    refine pu_ (v := .pointer (some ⟨g94, 3, none⟩)) (y_run (by rfl) (fun W => by go_simp)) ?_
    (try simp only [zP, zN, zA, zB, zC])
    refine ld_ (v := .int .i64 o.d) rfl (by rfl) (by rfl) (run_load_one ((Fg94.out.cell 3).trans (by simp [opC])) Try.underlying3 rfl) ?_
    (try simp only [zP, zN, zA, zB, zC])
    refine pu_ (v := .pointer (some ⟨g94, 2, none⟩)) (y_run (by rfl) (fun W => by go_simp)) ?_
    (try simp only [zP, zN, zA, zB, zC])
    refine ld_ (v := .int .i64 o.a) rfl (by rfl) (by rfl) (run_load_one ((Fg94.out.cell 2).trans (by simp [opC])) Try.underlying3 rfl) ?_
    (try simp only [zP, zN, zA, zB, zC])
    refine pu_ (v := .bool false) (y_run (by rfl) (fun W => by have d := D31.out; go_simp)) ?_
    (try simp only [zP, zN, zA, zB, zC])
    refine pu_ (v := .bool false) (y_pick (t := true) (by rfl) rfl (by rfl) (by rfl)) ?_
    (try simp only [zP, zN, zA, zB, zC])
    refine pu_ (v := .bool false) (y_pick (t := false) (by rfl) rfl (by rfl) (by rfl)) ?_
    (try simp only [zP, zN, zA, zB, zC])
    refine pu_ (v := .bool false) (y_move rfl (by rfl) (by rfl)) ?_
    (try simp only [zP, zN, zA, zB, zC])
    refine pu_ (v := .pointer (some ⟨g94, 4, none⟩)) (y_run (by rfl) (fun W => by go_simp)) ?_
    (try simp only [zP, zN, zA, zB, zC])
    refine ld_ (v := .int .i64 o.t) rfl (by rfl) (by rfl) (run_load_one ((Fg94.out.cell 4).trans (by simp [opC])) Try.underlying3 rfl) ?_
    (try simp only [zP, zN, zA, zB, zC])
    refine pu_ (v := .bool false) (y_run (by rfl) (fun W => by have d := D37.out; go_simp)) ?_
    (try simp only [zP, zN, zA, zB, zC])
    refine pu_ (v := .bool false) (y_move rfl (by rfl) (by rfl)) ?_
    (try simp only [zP, zN, zA, zB, zC])
    refine pu_ (y_off (by rfl)) ?_
    (try simp only [zP, zN, zA, zB, zC])
    refine pu_ (y_off (by rfl)) ?_
    (try simp only [zP, zN, zA, zB, zC])
    refine pu_ (y_off (by rfl)) ?_
    (try simp only [zP, zN, zA, zB, zC])
    refine pu_ (y_off (by rfl)) ?_
    (try simp only [zP, zN, zA, zB, zC])
    refine pu_ (y_off (by rfl)) ?_
    (try simp only [zP, zN, zA, zB, zC])
    refine pu_ (y_off (by rfl)) ?_
    (try simp only [zP, zN, zA, zB, zC])
    refine pu_ (y_off (by rfl)) ?_
    (try simp only [zP, zN, zA, zB, zC])
    refine pu_ (y_off (by rfl)) ?_
    (try simp only [zP, zN, zA, zB, zC])
    refine pu_ (y_off (by rfl)) ?_
    (try simp only [zP, zN, zA, zB, zC])
    refine pu_ (y_off (by rfl)) ?_
    (try simp only [zP, zN, zA, zB, zC])
    refine pu_ (v := .bool false) (y_pick (t := false) (by rfl) rfl (by rfl) (by rfl)) ?_
    (try simp only [zP, zN, zA, zB, zC])
    refine pu_ (v := .bool false) (y_pick (t := false) (by rfl) rfl (by rfl) (by rfl)) ?_
    (try simp only [zP, zN, zA, zB, zC])
    refine nl_ (hK105 _ _ ?_); clear hK105 K105
    refine wp_cond_false rfl ?_
    refine wp_skip ?_
    refine ib_norm ?_
    refine th_norm (hK91 _ _ ?_); try clear hK91 K91
    refine r_ ?_
    refine pu_ (v := .int .i64 k) (y_move rfl (by rfl) (by rfl)) ?_
    (try simp only [zP, zN, zA, zB, zC])
    refine pu_ (v := .int .i64 (k + 1 : Nat)) (y_run (by rfl) (fun W => by have d := Wk.out; go_simp)) ?_
    (try simp only [zP, zN, zA, zB, zC])
    refine pu_ (v := .int .i64 (k + 1 : Nat)) (y_assign rfl (by rfl) (by rfl)) ?_
    (try simp only [zP, zN, zA, zB, zC])
    refine nl_ ?_
    exact th_norm (hK5 (kq - 1) _ _ (by have := hlt.out; have := hk.out; omega) ⟨k + 1, fun us_ => (#[.slice (some a) L.length c, us 1, .bool false, .int .i64 (k + 1 : Nat), .pointer (some ⟨g94, 0, none⟩), .int .i64 k, .slice (some a) L.length c, .int .i64 L.length, .bool true, .bool true, .int .i64 k, .bool true, .bool true, .int .i64 k, .int .i64 (k + 1 : Nat), .slice (some a) L.length c, .int .i64 k, .pointer (some (a.add (k * 28))), .agg (opC o).toArray, .pointer (some ⟨g94, 2, none⟩), .int .i64 o.a, .bool false, .bool false, .pointer (some ⟨g94, 3, none⟩), .int .i64 o.d, .bool true, .bool true, .pointer (some ⟨g94, 3, none⟩), .int .i64 o.d, .pointer (some ⟨g94, 2, none⟩), .int .i64 o.a, .bool false, .bool false, .bool false, .bool false, .pointer (some ⟨g94, 4, none⟩), .int .i64 o.t, .bool false, .bool false, undef, undef, undef, undef, undef, undef, undef, undef, undef, undef, .bool false, .bool false] : Array Value).getD us_ undef, rfl, C0, SL, Lib.hid ⟨by have := hlt.out; omega, by have := hlt.out; have := hk.out; omega⟩, Lib.hid (by rw [take_snoc ho.out]; exact fun p hp => (List.mem_append.1 hp).elim (hr.out p) (fun h9 => by rw [List.mem_singleton.1 h9]; exact HG.out))⟩)
  · have hlt := Lib.hid hlt0
    have ho := Lib.hid ho0
    have hc := Lib.hid h
    clear hlt0 ho0 h
    obtain ⟨a, hsm_a⟩ := src_some SL.out (by have := hlt.out; omega)
    subst hsm_a
    have D8 := Lib.hid (show (k : Int) < (L.length : Int) by have := hlt.out; omega)
    have Wk := Lib.hid (show IntKind.i64.wrap ((k : Int) + 1) = ((k + 1 : Nat) : Int) by rw [wr64 (by have := hlt.out; have := HN.out; omega)]; omega)
    have D11 := Lib.hid (show decide ((k : Int) < 30) = true from decide_eq_true (by have := hlt.out; have := HN.out; omega))
    have D21 := Lib.hid (show decide (o.a < 1) = false from decide_eq_false (by have := hc.out; omega))
    have D25 := Lib.hid (show decide (o.d > 0) = true from decide_eq_true (by have := hc.out; omega))
    have D31 := Lib.hid (show decide (o.d ≤ o.a) = false from decide_eq_false (by have := hc.out; omega))
    have D37 := Lib.hid (show decide (o.t > 0) = true from decide_eq_true (by have := hc.out; omega))
    have D41 := Lib.hid (show (o.d == 0) = false from beq_eq_false_iff_ne.2 (by have := hc.out; omega))
    have D47 := Lib.hid (show decide (o.t ≤ o.d) = true from decide_eq_true (by have := hc.out; omega))
    have HG := Lib.hid (show ¬ realO o by unfold realO; have := hc.out; omega)
    refine s_ (fun K106 hK106 => ?_)
    refine pu_ (v := .int .i64 k) (y_move rfl (by rfl) (by rfl)) ?_
    (try simp only [zP, zN, zA, zB, zC])
    refine pu_ (v := .slice (some a) L.length c) (y_move rfl (by rfl) (by rfl)) ?_
    (try simp only [zP, zN, zA, zB, zC])
    refine pu_ (v := .int .i64 L.length) (y_run (by rfl) (fun W => by go_simp)) ?_
    (try simp only [zP, zN, zA, zB, zC])
    refine pu_ (v := .bool true) (y_run (by rfl) (fun W => by have d := D8.out; go_simp)) ?_
    (try simp only [zP, zN, zA, zB, zC])
    refine pu_ (v := .bool true) (y_move rfl (by rfl) (by rfl)) ?_
    (try simp only [zP, zN, zA, zB, zC])
    refine pu_ (v := .int .i64 k) (y_move rfl (by rfl) (by rfl)) ?_
    (try simp only [zP, zN, zA, zB, zC])
    refine pu_ (v := .bool true) (y_run (by rfl) (fun W => by have d := D11.out; go_simp)) ?_
    (try simp only [zP, zN, zA, zB, zC])
    refine pu_ (v := .bool true) (y_pick (t := true) (by rfl) rfl (by rfl) (by rfl)) ?_
    (try simp only [zP, zN, zA, zB, zC])
    refine nl_ (hK106 _ _ ?_); clear hK106 K106
    refine wp_cond_true rfl ?_
    refine wp_skip ?_
    refine th_norm (hK6 _ _ ?_); try clear hK6 K6
    refine sq_ (fun K107 hK107 => ?_)
    refine wp_block ?_
    refine s_ (fun K108 hK108 => ?_)
    refine pu_ (v := .slice (some a) L.length c) (y_move rfl (by rfl) (by rfl)) ?_
    (try simp only [zP, zN, zA, zB, zC])
    refine pu_ (v := .int .i64 k) (y_move rfl (by rfl) (by rfl)) ?_
    (try simp only [zP, zN, zA, zB, zC])
    refine pu_ (v := .pointer (some (a.add (k * 28)))) (y_run (by rfl) (fun W => by have d := D8.out; go_simp)) ?_
    (try simp only [zP, zN, zA, zB, zC])
    refine ld_ (v := .agg (opC o).toArray) rfl (by rfl) (by rfl) (run_loadVar_at (src_elem SL.out ho.out) Try.underlying49 rfl (by rw [opC_len]; kernel_rfl)) ?_
    (try simp only [zP, zN, zA, zB, zC])
    refine ef_ (fun K109 hK109 => ?_)
    refine e_alloc (by rfl) rfl rfl (cs := #[.int .i64 0, .int .i64 0, .int .i64 0, .int .i64 0, .int .i64 0, .int .i64 0, .int .i64 0, .int .u64 0, .string ⟨#[]⟩, .slice none 0 0, .slice none 0 0, .slice none 0 0, .int .i64 0, .int .i64 0, .int .i64 0, .int .i64 0, .int .i64 0, .int .i64 0, .int .i64 0, .string ⟨#[]⟩, .slice none 0 0, .int .i64 0, .int .i64 0, .int .i64 0, .int .u64 0, .string ⟨#[]⟩, .slice none 0 0, .slice none 0 0]) (by kernel_rfl) ?_
    rintro g110 w111 HG112 B113 C114
    have nw115 := Lib.hid (show w.heap.size ≤ g110 by have := C0.out.size; have := HG112.out; omega)
    have nx116 := Lib.hid (SL.out.ne_new (by decide) HG112)
    have C0' := Lib.hid (show Ch [] w w111 from C0.out.trans' C114 (fun x hx => absurd hx (by simp)))
    have SL' := Lib.hid (show SrcIs w111 (.slice (some a) L.length c) (L.length) ((L).flatMap opC) 28 from SL.out.chx C114 xnin_nil)
    clear C0 SL
    have C0 := C0'; clear C0'
    have SL := SL'; clear SL'
    have Fg110 := Lib.hid (show Blk w111 g110 (#[.int .i64 0, .int .i64 0, .int .i64 0, .int .i64 0, .int .i64 0, .int .i64 0, .int .i64 0, .int .u64 0, .string ⟨#[]⟩, .slice none 0 0, .slice none 0 0, .slice none 0 0, .int .i64 0, .int .i64 0, .int .i64 0, .int .i64 0, .int .i64 0, .int .i64 0, .int .i64 0, .string ⟨#[]⟩, .slice none 0 0, .int .i64 0, .int .i64 0, .int .i64 0, .int .u64 0, .string ⟨#[]⟩, .slice none 0 0, .slice none 0 0]) 49 from B113); clear B113 C114
    refine hK109 _ _ ?_; clear hK109 K109
    (try simp only [zP, zN, zA, zB, zC])
    refine ef_ (fun K117 hK117 => ?_)
    refine e_storeN (cells := (opC o).toArray) (by rfl) rfl rfl (by rfl) (by rfl) Fg110.out (sz49 o) (by rw [show (opC o).toArray.size = 28 by rw [List.size_toArray, opC_len]]; rfl) (by simpa using opC_one o) ?_
    rintro w118 B119 C120
    have C0' := Lib.hid (show Ch [] w w118 from C0.out.trans' C120 (inw_cons (.inr nw115.out) inw_nil))
    have SL' := Lib.hid (show SrcIs w118 (.slice (some a) L.length c) (L.length) ((L).flatMap opC) 28 from SL.out.chx C120 (xnin_cons nx116.out xnin_nil))
    clear C0 SL
    have C0 := C0'; clear C0'
    have SL := SL'; clear SL'
    clear Fg110; have Fg110 := Lib.hid (show Blk w118 g110 ((opC o).toArray) 49 from B119); clear B119 C120
    refine hK117 _ _ ?_; clear hK117 K117
    (try simp only [zP, zN, zA, zB, zC])
    refine nl_ (hK108 _ _ ?_); clear hK108 K108
    refine s_ (fun K121 hK121 => ?_)
    refine pu_ (v := .pointer (some ⟨g110, 2, none⟩)) (y_run (by rfl) (fun W => by go_simp)) ?_
    (try simp only [zP, zN, zA, zB, zC])
    refine ld_ (v := .int .i64 o.a) rfl (by rfl) (by rfl) (run_load_one ((Fg110.out.cell 2).trans (by simp [opC])) Try.underlying3 rfl) ?_
    (try simp only [zP, zN, zA, zB, zC])
    refine pu_ (v := .bool false) (y_run (by rfl) (fun W => by have d := D21.out; go_simp)) ?_
    (try simp only [zP, zN, zA, zB, zC])
    refine pu_ (v := .bool false) (y_move rfl (by rfl) (by rfl)) ?_
    (try simp only [zP, zN, zA, zB, zC])
    refine pu_ (v := .pointer (some ⟨g110, 3, none⟩)) (y_run (by rfl) (fun W => by go_simp)) ?_
    (try simp only [zP, zN, zA, zB, zC])
    refine ld_ (v := .int .i64 o.d) rfl (by rfl) (by rfl) (run_load_one ((Fg110.out.cell 3).trans (by simp [opC])) Try.underlying3 rfl) ?_
    (try simp only [zP, zN, zA, zB, zC])
    refine pu_ (v := .bool true) (y_run (by rfl) (fun W => by have d := D25.out; go_simp)) ?_
    (try simp only [zP, zN, zA, zB, zC])
    refine pu_ (v := .bool true) (y_move rfl (by rfl) (by rfl)) ?_
    (try simp only [zP, zN, zA, zB, zC])
    refine pu_ (v := .pointer (some ⟨g110, 3, none⟩)) (y_run (by rfl) (fun W => by go_simp)) ?_
    (try simp only [zP, zN, zA, zB, zC])
    refine ld_ (v := .int .i64 o.d) rfl (by rfl) (by rfl) (run_load_one ((Fg110.out.cell 3).trans (by simp [opC])) Try.underlying3 rfl) ?_
    (try simp only [zP, zN, zA, zB, zC])
    refine pu_ (v := .pointer (some ⟨g110, 2, none⟩)) (y_run (by rfl) (fun W => by go_simp)) ?_
    (try simp only [zP, zN, zA, zB, zC])
    refine ld_ (v := .int .i64 o.a) rfl (by rfl) (by rfl) (run_load_one ((Fg110.out.cell 2).trans (by simp [opC])) Try.underlying3 rfl) ?_
    (try simp only [zP, zN, zA, zB, zC])
    refine pu_ (v := .bool false) (y_run (by rfl) (fun W => by have d := D31.out; go_simp)) ?_
    (try simp only [zP, zN, zA, zB, zC])
    refine pu_ (v := .bool false) (y_pick (t := true) (by rfl) rfl (by rfl) (by rfl)) ?_
    (try simp only [zP, zN, zA, zB, zC])
    refine pu_ (v := .bool false) (y_pick (t := false) (by rfl) rfl (by rfl) (by rfl)) ?_
    (try simp only [zP, zN, zA, zB, zC])
    refine pu_ (v := .bool false) (y_move rfl (by rfl) (by rfl)) ?_
    (try simp only [zP, zN, zA, zB, zC])
    refine pu_ (v := .pointer (some ⟨g110, 4, none⟩)) (y_run (by rfl) (fun W => by go_simp)) ?_
    (try simp only [zP, zN, zA, zB, zC])
    refine ld_ (v := .int .i64 o.t) rfl (by rfl) (by rfl) (run_load_one ((Fg110.out.cell 4).trans (by simp [opC])) Try.underlying3 rfl) ?_
    (try simp only [zP, zN, zA, zB, zC])
    refine pu_ (v := .bool true) (y_run (by rfl) (fun W => by have d := D37.out; go_simp)) ?_
    (try simp only [zP, zN, zA, zB, zC])
    refine pu_ (v := .bool true) (y_move rfl (by rfl) (by rfl)) ?_
    (try simp only [zP, zN, zA, zB, zC])
    refine pu_ (v := .pointer (some ⟨g110, 3, none⟩)) (y_run (by rfl) (fun W => by go_simp)) ?_
    (try simp only [zP, zN, zA, zB, zC])
    refine ld_ (v := .int .i64 o.d) rfl (by rfl) (by rfl) (run_load_one ((Fg110.out.cell 3).trans (by simp [opC])) Try.underlying3 rfl) ?_
    (try simp only [zP, zN, zA, zB, zC])
    refine pu_ (v := .bool false) (y_run (by rfl) (fun W => by have d := D41.out; go_simp)) ?_
    (try simp only [zP, zN, zA, zB, zC])
    refine pu_ (v := .bool false) (y_move rfl (by rfl) (by rfl)) ?_
    (try simp only [zP, zN, zA, zB, zC])
    refine pu_ (v := .pointer (some ⟨g110, 4, none⟩)) (y_run (by rfl) (fun W => by go_simp)) ?_
    (try simp only [zP, zN, zA, zB, zC])
    refine ld_ (v := .int .i64 o.t) rfl (by rfl) (by rfl) (run_load_one ((Fg110.out.cell 4).trans (by simp [opC])) Try.underlying3 rfl) ?_
    (try simp only [zP, zN, zA, zB, zC])
    refine pu_ (v := .pointer (some ⟨g110, 3, none⟩)) (y_run (by rfl) (fun W => by go_simp)) ?_
    (try simp only [zP, zN, zA, zB, zC])
    refine ld_ (v := .int .i64 o.d) rfl (by rfl) (by rfl) (run_load_one ((Fg110.out.cell 3).trans (by simp [opC])) Try.underlying3 rfl) ?_
    (try simp only [zP, zN, zA, zB, zC])
    refine pu_ (v := .bool true) (y_run (by rfl) (fun W => by have d := D47.out; go_simp)) ?_
    (try simp only [zP, zN, zA, zB, zC])
    refine pu_ (v := .bool true) (y_pick (t := false) (by rfl) rfl (by rfl) (by rfl)) ?_
    (try simp only [zP, zN, zA, zB, zC])
    refine pu_ (v := .bool true) (y_pick (t := true) (by rfl) rfl (by rfl) (by rfl)) ?_
    (try simp only [zP, zN, zA, zB, zC])
    refine pu_ (v := .bool true) (y_pick (t := false) (by rfl) rfl (by rfl) (by rfl)) ?_
    (try simp only [zP, zN, zA, zB, zC])
    refine nl_ (hK121 _ _ ?_); clear hK121 K121
    refine wp_cond_true rfl ?_
    refine s_ (fun K122 hK122 => ?_)
    refine pu_ (v := .bool false) (y_assign rfl (by rfl) (by rfl)) ?_
    (try simp only [zP, zN, zA, zB, zC])
    refine nl_ (hK122 _ _ ?_); clear hK122 K122
    refine wp_ret ?_
    refine ib_ret ?_
    refine th_ret ?_
    refine th_ret ?_
    refine ib_ret ?_
    refine th_ret ?_
    refine hQ _ _ _ ?_
    refine bodyPost_ret (res1 rfl (rdv_tmp (v := .bool false) (by rfl))) rfl ?_
    exact ⟨_, rfl, ⟨fun h9 => absurd h9 (by decide), fun h9 => absurd (h9 o (List.mem_of_getElem? ho.out)) HG.out⟩, C0.out⟩
  · have hlt := Lib.hid hlt0
    have ho := Lib.hid ho0
    have hc := Lib.hid h
    clear hlt0 ho0 h
    obtain ⟨a, hsm_a⟩ := src_some SL.out (by have := hlt.out; omega)
    subst hsm_a
    have D8 := Lib.hid (show (k : Int) < (L.length : Int) by have := hlt.out; omega)
    have Wk := Lib.hid (show IntKind.i64.wrap ((k : Int) + 1) = ((k + 1 : Nat) : Int) by rw [wr64 (by have := hlt.out; have := HN.out; omega)]; omega)
    have D11 := Lib.hid (show decide ((k : Int) < 30) = true from decide_eq_true (by have := hlt.out; have := HN.out; omega))
    have D21 := Lib.hid (show decide (o.a < 1) = false from decide_eq_false (by have := hc.out; omega))
    have D25 := Lib.hid (show decide (o.d > 0) = true from decide_eq_true (by have := hc.out; omega))
    have D31 := Lib.hid (show decide (o.d ≤ o.a) = false from decide_eq_false (by have := hc.out; omega))
    have D37 := Lib.hid (show decide (o.t > 0) = true from decide_eq_true (by have := hc.out; omega))
    have D41 := Lib.hid (show (o.d == 0) = false from beq_eq_false_iff_ne.2 (by have := hc.out; omega))
    have D47 := Lib.hid (show decide (o.t ≤ o.d) = false from decide_eq_false (by have := hc.out; omega))
    have HG := Lib.hid (show realO o by unfold realO; have := hc.out; omega)
    refine s_ (fun K123 hK123 => ?_)
    refine pu_ (v := .int .i64 k) (y_move rfl (by rfl) (by rfl)) ?_
    (try simp only [zP, zN, zA, zB, zC])
    refine pu_ (v := .slice (some a) L.length c) (y_move rfl (by rfl) (by rfl)) ?_
    (try simp only [zP, zN, zA, zB, zC])
    refine pu_ (v := .int .i64 L.length) (y_run (by rfl) (fun W => by go_simp)) ?_
    (try simp only [zP, zN, zA, zB, zC])
    refine pu_ (v := .bool true) (y_run (by rfl) (fun W => by have d := D8.out; go_simp)) ?_
    (try simp only [zP, zN, zA, zB, zC])
    refine pu_ (v := .bool true) (y_move rfl (by rfl) (by rfl)) ?_
    (try simp only [zP, zN, zA, zB, zC])
    refine pu_ (v := .int .i64 k) (y_move rfl (by rfl) (by rfl)) ?_
    (try simp only [zP, zN, zA, zB, zC])
    refine pu_ (v := .bool true) (y_run (by rfl) (fun W => by have d := D11.out; go_simp)) ?_
    (try simp only [zP, zN, zA, zB, zC])
    refine pu_ (v := .bool true) (y_pick (t := true) (by rfl) rfl (by rfl) (by rfl)) ?_
    (try simp only [zP, zN, zA, zB, zC])
    refine nl_ (hK123 _ _ ?_); clear hK123 K123
    refine wp_cond_true rfl ?_
    refine wp_skip ?_
    refine th_norm (hK6 _ _ ?_); try clear hK6 K6
    refine sq_ (fun K124 hK124 => ?_)
    refine wp_block ?_
    refine s_ (fun K125 hK125 => ?_)
    refine pu_ (v := .slice (some a) L.length c) (y_move rfl (by rfl) (by rfl)) ?_
    (try simp only [zP, zN, zA, zB, zC])
    refine pu_ (v := .int .i64 k) (y_move rfl (by rfl) (by rfl)) ?_
    (try simp only [zP, zN, zA, zB, zC])
    refine pu_ (v := .pointer (some (a.add (k * 28)))) (y_run (by rfl) (fun W => by have d := D8.out; go_simp)) ?_
    (try simp only [zP, zN, zA, zB, zC])
    refine ld_ (v := .agg (opC o).toArray) rfl (by rfl) (by rfl) (run_loadVar_at (src_elem SL.out ho.out) Try.underlying49 rfl (by rw [opC_len]; kernel_rfl)) ?_
    (try simp only [zP, zN, zA, zB, zC])
    refine ef_ (fun K126 hK126 => ?_)
    refine e_alloc (by rfl) rfl rfl (cs := #[.int .i64 0, .int .i64 0, .int .i64 0, .int .i64 0, .int .i64 0, .int .i64 0, .int .i64 0, .int .u64 0, .string ⟨#[]⟩, .slice none 0 0, .slice none 0 0, .slice none 0 0, .int .i64 0, .int .i64 0, .int .i64 0, .int .i64 0, .int .i64 0, .int .i64 0, .int .i64 0, .string ⟨#[]⟩, .slice none 0 0, .int .i64 0, .int .i64 0, .int .i64 0, .int .u64 0, .string ⟨#[]⟩, .slice none 0 0, .slice none 0 0]) (by kernel_rfl) ?_
    rintro g127 w128 HG129 B130 C131
    have nw132 := Lib.hid (show w.heap.size ≤ g127 by have := C0.out.size; have := HG129.out; omega)
    have nx133 := Lib.hid (SL.out.ne_new (by decide) HG129)
    have C0' := Lib.hid (show Ch [] w w128 from C0.out.trans' C131 (fun x hx => absurd hx (by simp)))
    have SL' := Lib.hid (show SrcIs w128 (.slice (some a) L.length c) (L.length) ((L).flatMap opC) 28 from SL.out.chx C131 xnin_nil)
    clear C0 SL
    have C0 := C0'; clear C0'
    have SL := SL'; clear SL'
    have Fg127 := Lib.hid (show Blk w128 g127 (#[.int .i64 0, .int .i64 0, .int .i64 0, .int .i64 0, .int .i64 0, .int .i64 0, .int .i64 0, .int .u64 0, .string ⟨#[]⟩, .slice none 0 0, .slice none 0 0, .slice none 0 0, .int .i64 0, .int .i64 0, .int .i64 0, .int .i64 0, .int .i64 0, .int .i64 0, .int .i64 0, .string ⟨#[]⟩, .slice none 0 0, .int .i64 0, .int .i64 0, .int .i64 0, .int .u64 0, .string ⟨#[]⟩, .slice none 0 0, .slice none 0 0]) 49 from B130); clear B130 C131
    refine hK126 _ _ ?_; clear hK126 K126
    (try simp only [zP, zN, zA, zB, zC])
    refine ef_ (fun K134 hK134 => ?_)
    refine e_storeN (cells := (opC o).toArray) (by rfl) rfl rfl (by rfl) (by rfl) Fg127.out (sz49 o) (by rw [show (opC o).toArray.size = 28 by rw [List.size_toArray, opC_len]]; rfl) (by simpa using opC_one o) ?_
    rintro w135 B136 C137
    have C0' := Lib.hid (show Ch [] w w135 from C0.out.trans' C137 (inw_cons (.inr nw132.out) inw_nil))
    have SL' := Lib.hid (show SrcIs w135 (.slice (some a) L.length c) (L.length) ((L).flatMap opC) 28 from SL.out.chx C137 (xnin_cons nx133.out xnin_nil))
    clear C0 SL
    have C0 := C0'; clear C0'
    have SL := SL'; clear SL'
    clear Fg127; have Fg127 := Lib.hid (show Blk w135 g127 ((opC o).toArray) 49 from B136); clear B136 C137
    refine hK134 _ _ ?_; clear hK134 K134
    (try simp only [zP, zN, zA, zB, zC])
    refine nl_ (hK125 _ _ ?_); clear hK125 K125
    refine s_ (fun K138 hK138 => ?_)
    refine pu_ (v := .pointer (some ⟨g127, 2, none⟩)) (y_run (by rfl) (fun W => by go_simp)) ?_
    (try simp only [zP, zN, zA, zB, zC])
    refine ld_ (v := .int .i64 o.a) rfl (by rfl) (by rfl) (run_load_one ((Fg127.out.cell 2).trans (by simp [opC])) Try.underlying3 rfl) ?_
    (try simp only [zP, zN, zA, zB, zC])
    refine pu_ (v := .bool false) (y_run (by rfl) (fun W => by have d := D21.out; go_simp)) ?_
    (try simp only [zP, zN, zA, zB, zC])
    refine pu_ (v := .bool false) (y_move rfl (by rfl) (by rfl)) ?_
    (try simp only [zP, zN, zA, zB, zC])
    refine pu_ (v := .pointer (some ⟨g127, 3, none⟩)) (y_run (by rfl) (fun W => by go_simp)) ?_
    (try simp only [zP, zN, zA, zB, zC])
    refine ld_ (v := .int .i64 o.d) rfl (by rfl) (by rfl) (run_load_one ((Fg127.out.cell 3).trans (by simp [opC])) Try.underlying3 rfl) ?_
    (try simp only [zP, zN, zA, zB, zC])
    refine pu_ (v := .bool true) (y_run (by rfl) (fun W => by have d := D25.out; go_simp)) ?_
    (try simp only [zP, zN, zA, zB, zC])
    refine pu_ (v := .bool true) (y_move rfl (by rfl) (by rfl)) ?_
    (try simp only [zP, zN, zA, zB, zC])
    refine pu_ (v := .pointer (some ⟨g127, 3, none⟩)) (y_run (by rfl) (fun W => by go_simp)) ?_
    (try simp only [zP, zN, zA, zB, zC])
    refine ld_ (v := .int .i64 o.d) rfl (by rfl) (by rfl) (run_load_one ((Fg127.out.cell 3).trans (by simp [opC])) Try.underlying3 rfl) ?_
    (try simp only [zP, zN, zA, zB, zC])
    refine pu_ (v := .pointer (some ⟨g127, 2, none⟩)) (y_run (by rfl) (fun W => by go_simp)) ?_
    (try simp only [zP, zN, zA, zB, zC])
    refine ld_ (v := .int .i64 o.a) rfl (by rfl) (by rfl) (run_load_one ((Fg127.out.cell 2).trans (by simp [opC])) Try.underlying3 rfl) ?_
    (try simp only [zP, zN, zA, zB, zC])
    refine pu_ (v := .bool false) (y_run (by rfl) (fun W => by have d := D31.out; go_simp)) ?_
    (try simp only [zP, zN, zA, zB, zC])
    refine pu_ (v := .bool false) (y_pick (t := true) (by rfl) rfl (by rfl) (by rfl)) ?_
    (try simp only [zP, zN, zA, zB, zC])
    refine pu_ (v := .bool false) (y_pick (t := false) (by rfl) rfl (by rfl) (by rfl)) ?_
    (try simp only [zP, zN, zA, zB, zC])
    refine pu_ (v := .bool false) (y_move rfl (by rfl) (by rfl)) ?_
    (try simp only [zP, zN, zA, zB, zC])
    refine pu_ (v := .pointer (some ⟨g127, 4, none⟩)) (y_run (by rfl) (fun W => by go_simp)) ?_
    (try simp only [zP, zN, zA, zB, zC])
    refine ld_ (v := .int .i64 o.t) rfl (by rfl) (by rfl) (run_load_one ((Fg127.out.cell 4).trans (by simp [opC])) Try.underlying3 rfl) ?_
    (try simp only [zP, zN, zA, zB, zC])
    refine pu_ (v := .bool true) (y_run (by rfl) (fun W => by have d := D37.out; go_simp)) ?_
    (try simp only [zP, zN, zA, zB, zC])
    refine pu_ (v := .bool true) (y_move rfl (by rfl) (by rfl)) ?_
    (try simp only [zP, zN, zA, zB, zC])
    refine pu_ (v := .pointer (some ⟨g127, 3, none⟩)) (y_run (by rfl) (fun W => by go_simp)) ?_
    (try simp only [zP, zN, zA, zB, zC])
    refine ld_ (v := .int .i64 o.d) rfl (by rfl) (by rfl) (run_load_one ((Fg127.out.cell 3).trans (by simp [opC])) Try.underlying3 rfl) ?_
    (try simp only [zP, zN, zA, zB, zC])
    refine pu_ (v := .bool false) (y_run (by rfl) (fun W => by have d := D41.out; go_simp)) ?_
    (try simp only [zP, zN, zA, zB, zC])
    refine pu_ (v := .bool false) (y_move rfl (by rfl) (by rfl)) ?_
    (try simp only [zP, zN, zA, zB, zC])
    refine pu_ (v := .pointer (some ⟨g127, 4, none⟩)) (y_run (by rfl) (fun W => by go_simp)) ?_
    (try simp only [zP, zN, zA, zB, zC])
    refine ld_ (v := .int .i64 o.t) rfl (by rfl) (by rfl) (run_load_one ((Fg127.out.cell 4).trans (by simp [opC])) Try.underlying3 rfl) ?_
    (try simp only [zP, zN, zA, zB, zC])
    refine pu_ (v := .pointer (some ⟨g127, 3, none⟩)) (y_run (by rfl) (fun W => by go_simp)) ?_
    (try simp only [zP, zN, zA, zB, zC])
    refine ld_ (v := .int .i64 o.d) rfl (by rfl) (by rfl) (run_load_one ((Fg127.out.cell 3).trans (by simp [opC])) Try.underlying3 rfl) ?_
    (try simp only [zP, zN, zA, zB, zC])
    refine pu_ (v := .bool false) (y_run (by rfl) (fun W => by have d := D47.out; go_simp)) ?_
    (try simp only [zP, zN, zA, zB, zC])
    refine pu_ (v := .bool false) (y_pick (t := false) (by rfl) rfl (by rfl) (by rfl)) ?_
    (try simp only [zP, zN, zA, zB, zC])
    refine pu_ (v := .bool false) (y_pick (t := true) (by rfl) rfl (by rfl) (by rfl)) ?_
    (try simp only [zP, zN, zA, zB, zC])
    refine pu_ (v := .bool false) (y_pick (t := false) (by rfl) rfl (by rfl) (by rfl)) ?_
    (try simp only [zP, zN, zA, zB, zC])
    refine nl_ (hK138 _ _ ?_); clear hK138 K138
    refine wp_cond_false rfl ?_
    refine wp_skip ?_
    refine ib_norm ?_
    refine th_norm (hK124 _ _ ?_); try clear hK124 K124
    refine r_ ?_
    refine pu_ (v := .int .i64 k) (y_move rfl (by rfl) (by rfl)) ?_
    (try simp only [zP, zN, zA, zB, zC])
    refine pu_ (v := .int .i64 (k + 1 : Nat)) (y_run (by rfl) (fun W => by have d := Wk.out; go_simp)) ?_
    (try simp only [zP, zN, zA, zB, zC])
    refine pu_ (v := .int .i64 (k + 1 : Nat)) (y_assign rfl (by rfl) (by rfl)) ?_
    (try simp only [zP, zN, zA, zB, zC])
    refine nl_ ?_
    exact th_norm (hK5 (kq - 1) _ _ (by have := hlt.out; have := hk.out; omega) ⟨k + 1, fun us_ => (#[.slice (some a) L.length c, us 1, .bool false, .int .i64 (k + 1 : Nat), .pointer (some ⟨g127, 0, none⟩), .int .i64 k, .slice (some a) L.length c, .int .i64 L.length, .bool true, .bool true, .int .i64 k, .bool true, .bool true, .int .i64 k, .int .i64 (k + 1 : Nat), .slice (some a) L.length c, .int .i64 k, .pointer (some (a.add (k * 28))), .agg (opC o).toArray, .pointer (some ⟨g127, 2, none⟩), .int .i64 o.a, .bool false, .bool false, .pointer (some ⟨g127, 3, none⟩), .int .i64 o.d, .bool true, .bool true, .pointer (some ⟨g127, 3, none⟩), .int .i64 o.d, .pointer (some ⟨g127, 2, none⟩), .int .i64 o.a, .bool false, .bool false, .bool false, .bool false, .pointer (some ⟨g127, 4, none⟩), .int .i64 o.t, .bool true, .bool true, .pointer (some ⟨g127, 3, none⟩), .int .i64 o.d, .bool false, .bool false, .pointer (some ⟨g127, 4, none⟩), .int .i64 o.t, .pointer (some ⟨g127, 3, none⟩), .int .i64 o.d, .bool false, .bool false, .bool false, .bool false] : Array Value).getD us_ undef, rfl, C0, SL, Lib.hid ⟨by have := hlt.out; omega, by have := hlt.out; have := hk.out; omega⟩, Lib.hid (by rw [take_snoc ho.out]; exact fun p hp => (List.mem_append.1 hp).elim (hr.out p) (fun h9 => by rw [List.mem_singleton.1 h9]; exact HG.out))⟩)
  · have D8 := Lib.hid (show ¬ k < L.length by have := hk.out; omega)
    have HR := Lib.hid (show ∀ o ∈ L, realO o from by have h9 := hr.out; rw [h, List.take_length] at h9; exact h9)
    clear h
    refine s_ (fun K139 hK139 => ?_)
    refine pu_ (v := .int .i64 k) (y_move rfl (by rfl) (by rfl)) ?_
    (try simp only [zP, zN, zA, zB, zC])
    refine pu_ (v := .slice A L.length c) (y_move rfl (by rfl) (by rfl)) ?_
    (try simp only [zP, zN, zA, zB, zC])
    refine pu_ (v := .int .i64 L.length) (y_run (by rfl) (fun W => by go_simp)) ?_
    (try simp only [zP, zN, zA, zB, zC])
    refine pu_ (v := .bool false) (y_run (by rfl) (fun W => by have d := D8.out; go_simp)) ?_
    (try simp only [zP, zN, zA, zB, zC])
    refine pu_ (v := .bool false) (y_move rfl (by rfl) (by rfl)) ?_
    (try simp only [zP, zN, zA, zB, zC])
    refine pu_ (y_off (by rfl)) ?_
    (try simp only [zP, zN, zA, zB, zC])
    refine pu_ (y_off (by rfl)) ?_
    (try simp only [zP, zN, zA, zB, zC])
    refine pu_ (v := .bool false) (y_pick (t := false) (by rfl) rfl (by rfl) (by rfl)) ?_
    (try simp only [zP, zN, zA, zB, zC])
    refine nl_ (hK139 _ _ ?_); clear hK139 K139
    refine wp_cond_false rfl ?_
    refine wp_exit ?_
    refine th_exit ?_
    refine th_exit ?_
    refine ib_exit ?_
    refine th_norm (hK2 _ _ ?_); try clear hK2 K2
    refine s_ (fun K140 hK140 => ?_)
    refine pu_ (v := .bool true) (y_assign rfl (by rfl) (by rfl)) ?_
    (try simp only [zP, zN, zA, zB, zC])
    refine nl_ (hK140 _ _ ?_); clear hK140 K140
    refine wp_ret ?_
    refine hQ _ _ _ ?_
    refine bodyPost_ret (res1 rfl (rdv_tmp (v := .bool true) (by rfl))) rfl ?_
    exact ⟨_, rfl, ⟨fun _ => HR.out, fun _ => rfl⟩, C0.out⟩
end
end Go.Proofs.Ytggcpbnlblbpjaa.L
